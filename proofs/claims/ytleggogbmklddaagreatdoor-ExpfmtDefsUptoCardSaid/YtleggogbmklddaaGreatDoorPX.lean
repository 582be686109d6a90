/-
  Cells as a type asks, taken apart. Conditions: each law's own.
-/
import Derived.IntWalk
import Derived.Test.YtleggogbmklddaaGreatDoorPD
import Derived.Test.YtleggogbmklddaaGreatDoorPE18
namespace Go.PE
open Go Go.RowKit
set_option linter.unusedVariables false
set_option linter.unusedSimpArgs false

def In64 (n : Int) : Prop := -9223372036854775808 ≤ n ∧ n ≤ 9223372036854775807
abbrev Short (n : Nat) : Prop := n ≤ maxLen
def rStr (s : ByteArray) : List PV := [.str s]
def rInt (n : Int) : List PV := [.int .i64 n]
def rByte (b : UInt8) : List PV := [.int .u8 (b.toNat : Int)]
theorem rStr_eq (s : ByteArray) : rStr s = [.str s] := rfl
theorem rInt_eq (n : Int) : rInt n = [.int .i64 n] := rfl
theorem rByte_eq (b : UInt8) : rByte b = [.int .u8 (b.toNat : Int)] := rfl
theorem rStr_plain (s : ByteArray) : PlainL (rStr s) := plain_cons (plain_str s) plain_nil
theorem rInt_plain (n : Int) : PlainL (rInt n) := plain_cons (plain_int _ n) plain_nil
theorem rByte_plain (b : UInt8) : PlainL (rByte b) := plain_cons (plain_int _ _) plain_nil

theorem headOk_nil (k : Nat) : headOk k [] = true := rfl
theorem headOk_cons (k : Nat) (r : List PV) (l : List (List PV)) : headOk k (r :: l) = (r.length == k) := rfl
theorem setRow_spec : ∀ (ps cs : List PV) (o : Nat), o + ps.length ≤ cs.length → setRow cs o ps = cs.take o ++ ps ++ cs.drop (o + ps.length)
  | [], cs, o, h => by simp [setRow]
  | p :: ps, cs, o, h => by
    simp only [List.length_cons] at h
    rw [setRow, setRow_spec ps _ (o + 1) (by simp; omega)]
    have h1 : (cs.set o p).take (o + 1) = cs.take o ++ [p] := by
      have hm : min o cs.length = o := by omega
      rw [List.set_eq_take_append_cons_drop, if_pos (by omega), List.take_append]
      simp [hm]
      exact List.take_of_length_le (by simp; omega)
    have h2 : (cs.set o p).drop (o + 1 + ps.length) = cs.drop (o + (ps.length + 1)) := by
      rw [List.drop_set_of_lt (by omega)]
      congr 1; omega
    rw [h1, h2]
    simp
theorem setRow_all {cs ps : List PV} (h : cs.length = ps.length) : setRow cs 0 ps = ps := by
  rw [setRow_spec ps cs 0 (by omega)]
  simp [h, List.drop_eq_nil_of_le]
theorem app_get {α : Type} (l m : List α) (k : Nat) : (l ++ m)[l.length + k]? = m[k]? := by
  rw [List.getElem?_append_right (by omega)]; congr 1; omega
theorem app_get0 {α : Type} (l m : List α) : (l ++ m)[l.length]? = m[0]? := app_get l m 0
theorem app_set {α : Type} (l m : List α) (k : Nat) (x : α) : (l ++ m).set (l.length + k) x = l ++ m.set k x := by
  rw [List.set_append_right _ _ (by omega)]; congr 2; omega
theorem app_set0 {α : Type} (l m : List α) (x : α) : (l ++ m).set l.length x = l ++ m.set 0 x := app_set l m 0 x
theorem rStr_sll (n : Nat) (d : Nat → Nat → Option PV) (l : List ByteArray) : sealLL n d (l.map rStr) = some (l.map rStr) := plainLL_map (fun x _ => rStr_plain x) n d
theorem rInt_sll (n : Nat) (d : Nat → Nat → Option PV) (l : List Int) : sealLL n d (l.map rInt) = some (l.map rInt) := plainLL_map (fun x _ => rInt_plain x) n d
theorem rByte_sll (n : Nat) (d : Nat → Nat → Option PV) (l : List UInt8) : sealLL n d (l.map rByte) = some (l.map rByte) := plainLL_map (fun x _ => rByte_plain x) n d
theorem rStr_ok (l : List ByteArray) : headOk 1 (l.map rStr) = true := headOk_map (f := rStr) (fun _ => rfl) l
theorem rInt_ok (l : List Int) : headOk 1 (l.map rInt) = true := headOk_map (f := rInt) (fun _ => rfl) l
theorem rByte_ok (l : List UInt8) : headOk 1 (l.map rByte) = true := headOk_map (f := rByte) (fun _ => rfl) l
theorem plain_append : ∀ {a b : List PV}, PlainL a → PlainL b → PlainL (a ++ b)
  | [], b, _, h => h
  | p :: a, b, h, k => fun n d => by
    have h1 := h n d
    simp only [sealL, Option.bind_eq_some_iff, Option.map_eq_some_iff] at h1
    obtain ⟨q, hq, l, hl, e⟩ := h1
    injection e with e1 e2; subst e1 e2
    have hp : PlainL l := fun n d => by
      have h1 := h n d
      simp only [sealL, Option.bind_eq_some_iff, Option.map_eq_some_iff] at h1
      obtain ⟨q', hq', l', hl', e⟩ := h1
      injection e with e1 e2; subst e1 e2
      exact hl'
    simp [sealL, hq, plain_append hp k n d]
section
variable {P : Program} {t e : TypeId} {cs : List PV}
theorem fit_int {k : IntKind} (hu : P.underlying t = some (.int k)) (h : Fit P t cs) : ∃ n, cs = [.int k n] ∧ (Lit.int k n).wf = true := by
  cases h <;> simp_all
theorem fit_int64 (hu : P.underlying t = some (.int .i64)) (h : Fit P t cs) : ∃ n, cs = [.int .i64 n] ∧ In64 n := by
  obtain ⟨n, h1, h2⟩ := fit_int hu h
  exact ⟨n, h1, bounds_i64 h2⟩
theorem fit_str (hu : P.underlying t = some .string) (h : Fit P t cs) : ∃ s, cs = [.str s] ∧ Short s.size := by
  cases h <;> simp_all
theorem fit_bool (hu : P.underlying t = some .bool) (h : Fit P t cs) : ∃ b, cs = [.bool b] := by
  cases h <;> simp_all
theorem fit_sl (hu : P.underlying t = some (.slice e)) (h : Fit P t cs) : ∃ xs, cs = [.sl .ro xs] ∧ Short xs.length ∧ ∀ (j : Nat) r, xs[j]? = some r → Fit P e r := by
  cases h with
  | sl t e' xs h hl hr => rw [hu] at h; injection h with h; injection h with h; subst h; exact ⟨xs, rfl, hl, hr⟩
  | _ => simp_all
theorem fit_struct {fs : Array Field} (hu : P.underlying t = some (.struct fs)) (h : Fit P t cs) : cs.length = P.cellsOf t ∧ ∀ (i : Nat) (f : Field), fs[i]? = some f → Fit P f.type ((cs.drop f.offset).take (P.cellsOf f.type)) := by
  cases h with
  | struct t fs' cs h hl hf => rw [hu] at h; injection h with h; injection h with h; subst h; exact ⟨hl, hf⟩
  | _ => simp_all
theorem rows_of {α : Type} {row : α → List PV} {ok : α → Prop} : ∀ {xs : List (List PV)}, (∀ (j : Nat) r, xs[j]? = some r → ∃ a, r = row a ∧ ok a) → ∃ l : List α, xs = l.map row ∧ ∀ a ∈ l, ok a
  | [], _ => ⟨[], rfl, by simp⟩
  | r :: xs, h => by
    obtain ⟨a, rfl, ha⟩ := h 0 r rfl
    obtain ⟨l, rfl, hl⟩ := rows_of (xs := xs) fun j r hj => h (j + 1) r (by simpa using hj)
    exact ⟨a :: l, rfl, fun b hb => (List.mem_cons.1 hb).elim (fun e => e ▸ ha) (hl b)⟩
theorem fit_list {α : Type} {row : α → List PV} {ok : α → Prop} (hu : P.underlying t = some (.slice e)) (hd : ∀ r, Fit P e r → ∃ a, r = row a ∧ ok a) (h : Fit P t cs) : ∃ l : List α, cs = [.sl .ro (l.map row)] ∧ Short l.length ∧ ∀ a ∈ l, ok a := by
  obtain ⟨xs, rfl, h1, h2⟩ := fit_sl hu h
  obtain ⟨l, rfl, h3⟩ := rows_of fun j r hj => hd r (h2 j r hj)
  exact ⟨l, rfl, by simpa using h1, h3⟩
theorem fit_strs (hu : P.underlying t = some (.slice e)) (he : P.underlying e = some .string) (h : Fit P t cs) : ∃ l : List ByteArray, cs = [.sl .ro (l.map rStr)] ∧ Short l.length ∧ ∀ s ∈ l, Short s.size :=
  fit_list hu (fun r hr => fit_str he hr) h
theorem cut1 (cs : List PV) (o s o' : Nat) (h : o' = o + s) : cs.drop o = (cs.drop o).take s ++ cs.drop o' := by
  subst h
  rw [← List.drop_drop]
  exact (List.take_append_drop s _).symm
end
end Go.PE
namespace Go.PE
open Go Go.RowKit
set_option linter.unusedVariables false
set_option linter.unusedSimpArgs false

theorem drop_cons {α : Type} {l : List α} {i : Nat} {c : α} {r : List α} (h : l.drop i = c :: r) : l[i]? = some c ∧ l.drop (i + 1) = r ∧ i < l.length := by
  have hi : i < l.length := by
    by_cases hi : i < l.length
    · exact hi
    · rw [List.drop_eq_nil_of_le (by omega)] at h; cases h
  rw [List.drop_eq_getElem_cons hi] at h
  injection h with h1 h2
  exact ⟨by rw [List.getElem?_eq_getElem hi, h1], h2, hi⟩
theorem drop_nil {α : Type} {l : List α} {i : Nat} (h : l.drop i = []) : l.length ≤ i := List.drop_eq_nil_iff.1 h
theorem wrap64 {n : Int} (h : -9223372036854775808 ≤ n) (h' : n ≤ 9223372036854775807) : IntKind.i64.wrap n = n := IntWalk.i64_in n ⟨h, h'⟩
theorem wrap_succ {i n : Nat} (h : i < n) (hn : n ≤ 9223372036854775807) : IntKind.i64.wrap ((i : Int) + 1) = ((i + 1 : Nat) : Int) := by
  rw [wrap64 (by omega) (by omega)]; omega
theorem wrap_nat {n : Nat} (hn : n ≤ 9223372036854775807) : IntKind.i64.wrap (n : Int) = (n : Int) := wrap64 (by omega) (by omega)
theorem lt_no {i n : Nat} (h : n ≤ i) : decide ((i : Int) < (n : Int)) = false := by simp; omega

def txt (l : List UInt8) : ByteArray := ⟨l.toArray⟩
theorem txt_toList (s : ByteArray) : txt s.data.toList = s := by simp [txt]
theorem txt_append (a b : List UInt8) : txt a ++ txt b = txt (a ++ b) := by
  apply ByteArray.ext
  rw [ByteArray.data_append]
  simp [txt]
theorem txt_size (l : List UInt8) : (txt l).size = l.length := by simp [txt, ByteArray.size]
theorem size_data (s : ByteArray) : s.data.toList.length = s.size := Array.length_toList
theorem rowsOfBytes_eq (l : List UInt8) : rowsOfBytes l = l.map rByte := rfl
theorem u8_of (b : UInt8) : UInt8.ofNat ((b.toNat : Int)).toNat = b := by simp
theorem bytesOf_map : ∀ l : List UInt8, bytesOf (l.map rByte) = some l
  | [] => rfl
  | b :: l => by
    have h : (0 : Int) ≤ (b.toNat : Int) ∧ (b.toNat : Int) < 256 := ⟨by omega, by have := b.toNat_lt; omega⟩
    simp only [List.map_cons, rByte, bytesOf, h, and_self, if_true, bytesOf_map l, Option.map_some, u8_of]
theorem seal_str (n : Nat) (d : Nat → Nat → Option PV) (s : ByteArray) : sealW n d (.str s) = some (.str s) := by simp [sealW]

theorem wrap_0 : IntKind.i64.wrap 0 = 0 := by decide
theorem wrap_1 : IntKind.i64.wrap 1 = 1 := by decide
theorem wrap_2 : IntKind.i64.wrap 2 = 2 := by decide
theorem wrap_3 : IntKind.i64.wrap 3 = 3 := by decide
theorem wrap_4 : IntKind.i64.wrap 4 = 4 := by decide
theorem wrap_5 : IntKind.i64.wrap 5 = 5 := by decide
theorem wrap_6 : IntKind.i64.wrap 6 = 6 := by decide
theorem wrap_7 : IntKind.i64.wrap 7 = 7 := by decide
theorem wrap_8 : IntKind.i64.wrap 8 = 8 := by decide
theorem wrap_9 : IntKind.i64.wrap 9 = 9 := by decide
theorem wrap_10 : IntKind.i64.wrap 10 = 10 := by decide
theorem wrap_11 : IntKind.i64.wrap 11 = 11 := by decide
theorem wrap_m1 : IntKind.i64.wrap (-1) = -1 := by decide
theorem cast_1 : ((1 : Nat) : Int) = 1 := rfl
theorem setRow_succ (c : PV) : ∀ (vs cs : List PV) (k : Nat), setRow (c :: cs) (k + 1) vs = c :: setRow cs k vs
  | [], cs, k => rfl
  | v :: vs, cs, k => by
    show setRow ((c :: cs).set (k + 1) v) (k + 1 + 1) vs = c :: setRow (cs.set k v) (k + 1) vs
    rw [List.set_cons_succ, setRow_succ c vs]
theorem app_size (a b : ByteArray) : (a ++ b).size = a.size + b.size := by simp [ByteArray.size_append]
theorem addS {a b : ByteArray} (h : a.size + b.size ≤ 9223372036854775807) : binP .add (.str a) (.str b) = some (.str (a ++ b)) := by
  simp only [binP]
  rw [if_neg (by omega)]

theorem addB {a : List UInt8} {s : ByteArray} (h : a.length + s.size ≤ 9223372036854775807) : binP .add (.str (txt a)) (.str s) = some (.str (txt (a ++ s.data.toList))) := by
  rw [addS (by rw [txt_size]; exact h)]
  have : txt a ++ s = txt (a ++ s.data.toList) := by rw [← txt_append, txt_toList]
  rw [this]

/-! ### lists that grow -/
def accG (g0 : Tag) (S : St) (e : TypeId) (new : List (List PV)) : Tag := if new.isEmpty then g0 else .own S.own.length e
def accS (S : St) (sz : Nat) (base new : List (List PV)) : St := if new.isEmpty then S else ⟨S.obs, S.own ++ [(base.length + new.length) * sz]⟩
theorem accG_nil (g0 : Tag) (S : St) (e : TypeId) : accG g0 S e [] = g0 := rfl
theorem accS_nil (S : St) (sz : Nat) (base : List (List PV)) : accS S sz base [] = S := rfl
theorem acc_app {g0 : Tag} (hg : g0 = .null ∨ g0 = .exact) (S : St) (e : TypeId) (sz bytes : Nat) (base new ys : List (List PV)) (hy : ys ≠ []) (hz : 0 < sz) (hb : (base.length + new.length + ys.length) * bytes ≤ 140737488355328) (hb' : base.length + new.length + ys.length ≤ 9223372036854775807)
    (h1 : headOk sz (base ++ new) = true) (h2 : headOk sz ys = true) : appP (accS S sz base new) e sz bytes (accG g0 S e new) (base ++ new) ys = some (.sl (accG g0 S e (new ++ ys)) (base ++ (new ++ ys)), accS S sz base (new ++ ys)) := by
  have hye : ys.isEmpty = false := by cases ys <;> simp_all
  have hne : (new ++ ys).isEmpty = false := by cases new <;> cases ys <;> simp_all
  unfold appP
  simp only [hye, Bool.false_eq_true, if_false, List.length_append, hb, hb', hz, h1, h2, and_self, if_true]
  cases hn : new with
  | nil =>
    subst hn
    rcases hg with rfl | rfl
    · simp [accG, accS, hye]
    · simp [accG, accS, hye]
  | cons a l =>
    have : new.isEmpty = false := by rw [hn]; rfl
    rw [hn] at this hne
    simp only [accG, accS, this, hne, Bool.false_eq_true, if_false, app_get0, List.getElem?_cons_zero, and_self, if_true, app_set0, List.set_cons_zero, List.append_assoc, List.length_append]
    simp only [List.cons_append, Nat.add_assoc]
theorem close_acc (S : St) (sz : Nat) (base new : List (List PV)) {v v' : PV} (hv : ∀ n d, sealW n d v = some v') : close S (accS S sz base new) v = (v', S) := by
  unfold accS
  split
  · rw [close_same, hv]
  · have := close_junk2 S [(base.length + new.length) * sz] v
    rw [this, hv]

theorem mem_of_get {α : Type} {l : List α} {i : Nat} {a : α} (h : l[i]? = some a) : a ∈ l := List.mem_of_getElem? h
theorem call_plain {E : Env} {f : FuncId} {fn : EFn} {args : List PV} {S : St} {n : Nat} (h : E.known f = none) (ht : E.tab f = some fn) (ha : askD args = some args) (hl : args.length = fn.np) (hn : fn.np ≤ fn.ntmps) (hd : fn.dfr = none := by rfl) :
    (lvl E (n + 1)).call f args S = (lvl E n).ev fn.body (frameOf 0 args) S (kont E (endF S fn.res) []) := call_tab h ht ha hl hn hd
end Go.PE
