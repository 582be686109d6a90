/-
  Small laws for proofs about evaluated code: lists from a place on, numbers, texts. Conditions: each law's own.
-/
import Derived.Test.YtleggogbmklddaaPF
import Derived.IntWalk
namespace Go.PE
open Go Go.RowKit
set_option linter.unusedVariables false
set_option linter.unusedSimpArgs false

theorem drop_cons {α : Type} {l : List α} {i : Nat} {c : α} {r : List α} (h : l.drop i = c :: r) : l[i]? = some c ∧ l.drop (i + 1) = r ∧ i < l.length := by
  have hi : i < l.length := by
    by_cases hi : i < l.length
    · exact hi
    · rw [List.drop_eq_nil_of_le (by omega)] at h; cases h
  rw [List.drop_eq_getElem_cons hi] at h
  injection h with h1 h2
  exact ⟨by rw [List.getElem?_eq_getElem hi, h1], h2, hi⟩
theorem drop_nil {α : Type} {l : List α} {i : Nat} (h : l.drop i = []) : l.length ≤ i := List.drop_eq_nil_iff.1 h
theorem wrap64 {n : Int} (h : -9223372036854775808 ≤ n) (h' : n ≤ 9223372036854775807) : IntKind.i64.wrap n = n := IntWalk.i64_in n ⟨h, h'⟩
theorem wrap_succ {i n : Nat} (h : i < n) (hn : n ≤ 9223372036854775807) : IntKind.i64.wrap ((i : Int) + 1) = ((i + 1 : Nat) : Int) := by
  rw [wrap64 (by omega) (by omega)]; omega
theorem lt_no {i n : Nat} (h : n ≤ i) : decide ((i : Int) < (n : Int)) = false := by simp; omega

/-- A text. -/
def txt (l : List UInt8) : ByteArray := ⟨l.toArray⟩
theorem txt_data (l : List UInt8) : (txt l).data.toList = l := by simp [txt]
theorem size_data (s : ByteArray) : s.data.toList.length = s.size := Array.length_toList
theorem wrap_0 : IntKind.i64.wrap 0 = 0 := by decide
theorem wrap_1 : IntKind.i64.wrap 1 = 1 := by decide
theorem wrap_2 : IntKind.i64.wrap 2 = 2 := by decide
theorem wrap_3 : IntKind.i64.wrap 3 = 3 := by decide
theorem wrap_4 : IntKind.i64.wrap 4 = 4 := by decide
theorem wrap_5 : IntKind.i64.wrap 5 = 5 := by decide
theorem wrap_6 : IntKind.i64.wrap 6 = 6 := by decide
theorem wrap_7 : IntKind.i64.wrap 7 = 7 := by decide
theorem wrap_8 : IntKind.i64.wrap 8 = 8 := by decide
theorem wrap_9 : IntKind.i64.wrap 9 = 9 := by decide
theorem wrap_10 : IntKind.i64.wrap 10 = 10 := by decide
theorem wrap_11 : IntKind.i64.wrap 11 = 11 := by decide
theorem wrap_m1 : IntKind.i64.wrap (-1) = -1 := by decide
theorem cast_1 : ((1 : Nat) : Int) = 1 := rfl
theorem setRow_succ (c : PV) : ∀ (vs cs : List PV) (k : Nat), setRow (c :: cs) (k + 1) vs = c :: setRow cs k vs
  | [], cs, k => rfl
  | v :: vs, cs, k => by
    show setRow ((c :: cs).set (k + 1) v) (k + 1 + 1) vs = c :: setRow (cs.set k v) (k + 1) vs
    rw [List.set_cons_succ, setRow_succ c vs]
/-! ### lists that grow -/
/-- How a list that began as 'base' is tagged. -/
def accG (g0 : Tag) (S : St) (e : TypeId) (new : List (List PV)) : Tag := if new.isEmpty then g0 else .own S.own.length e
def accS (S : St) (sz : Nat) (base new : List (List PV)) : St := if new.isEmpty then S else ⟨S.obs, S.own ++ [(base.length + new.length) * sz]⟩
theorem acc_app {g0 : Tag} (hg : g0 = .null ∨ g0 = .exact) (S : St) (e : TypeId) (sz bytes : Nat) (base new ys : List (List PV)) (hy : ys ≠ []) (hz : 0 < sz) (hb : (base.length + new.length + ys.length) * bytes ≤ 140737488355328) (hb' : base.length + new.length + ys.length ≤ 9223372036854775807)
    (h1 : headOk sz (base ++ new) = true) (h2 : headOk sz ys = true) : appP (accS S sz base new) e sz bytes (accG g0 S e new) (base ++ new) ys = some (.sl (accG g0 S e (new ++ ys)) (base ++ (new ++ ys)), accS S sz base (new ++ ys)) := by
  have hye : ys.isEmpty = false := by cases ys <;> simp_all
  have hne : (new ++ ys).isEmpty = false := by cases new <;> cases ys <;> simp_all
  unfold appP
  simp only [hye, Bool.false_eq_true, if_false, List.length_append, hb, hb', hz, h1, h2, and_self, if_true]
  cases hn : new with
  | nil =>
    subst hn
    rcases hg with rfl | rfl
    · simp [accG, accS, hye]
    · simp [accG, accS, hye]
  | cons a l =>
    have : new.isEmpty = false := by rw [hn]; rfl
    rw [hn] at this hne
    simp only [accG, accS, this, hne, Bool.false_eq_true, if_false, app_get0, List.getElem?_cons_zero, and_self, if_true, app_set0, List.set_cons_zero, List.append_assoc, List.length_append]
    simp only [List.cons_append, Nat.add_assoc]
theorem close_acc (S : St) (sz : Nat) (base new : List (List PV)) {v v' : PV} (hv : ∀ n d, sealW n d v = some v') : close S (accS S sz base new) v = (v', S) := by
  unfold accS
  split
  · rw [close_same, hv]
  · have := close_junk2 S [(base.length + new.length) * sz] v
    rw [this, hv]

/-- A sum that is bounded. -/
theorem mem_of_get {α : Type} {l : List α} {i : Nat} {a : α} (h : l[i]? = some a) : a ∈ l := List.mem_of_getElem? h
theorem call_plain {E : Env} {f : FuncId} {fn : EFn} {args : List PV} {S : St} {n : Nat} (h : E.known f = none) (ht : E.tab f = some fn) (ha : askD args = some args) (hl : args.length = fn.np) (hn : fn.np ≤ fn.ntmps) (hd : fn.dfr = none := by rfl) :
    (lvl E (n + 1)).call f args S = (lvl E n).ev fn.body (frameOf 0 args) S (kont E (endF S fn.res) []) := call_tab h ht ha hl hn hd
end Go.PE
