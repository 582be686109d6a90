/-
  Rows of texts that may be written: made longer, sorted, compacted, handed back. Conditions: each law's own.
-/
import Derived.Test.YtleggogbmklddaaPR
import Derived.Test.YtleggogbmklddaaPLO
namespace Go.PE
open Go Go.RowKit Go.Proofs
set_option linter.unusedVariables false
set_option linter.unusedSimpArgs false
set_option maxRecDepth 100000
def tl (s : ByteArray) : List UInt8 := s.data.toList
/-- A list of texts, in order, each once. -/
def setS (xs : List ByteArray) : List ByteArray := (cpL (srtL (xs.map tl))).map txt
/-- A list of texts, in order. -/
def sortS (xs : List ByteArray) : List ByteArray := (srtL (xs.map tl)).map txt
theorem tl_txt (l : List UInt8) : tl (txt l) = l := txt_data l
theorem strsOf_map : ∀ xs : List ByteArray, strsOf (xs.map .str) = some (xs.map tl)
  | [] => rfl
  | s :: xs => by
    rw [List.map_cons, strsOf, strsOf_map xs]; rfl
theorem strP_map (l : List (List UInt8)) : l.map strP = (l.map txt).map .str := by rw [List.map_map]; rfl
theorem map_tl_txt (l : List (List UInt8)) : (l.map txt).map tl = l := by
  rw [List.map_map]
  have : (tl ∘ txt) = id := funext fun s => tl_txt s
  rw [this]; simp
theorem sortS_len (xs : List ByteArray) : (sortS xs).length = xs.length := by simp [sortS, srtL_len]
theorem setS_len (xs : List ByteArray) : (setS xs).length ≤ xs.length := by
  have := cpL_len (srtL (xs.map tl))
  simp only [setS, List.length_map] at *
  rw [srtL_len, List.length_map] at this; exact this
theorem chunk_str : ∀ (xs : List ByteArray) (r : List PV), chunk 1 xs.length (xs.map .str ++ r) = xs.map rStr
  | [], r => rfl
  | s :: xs, r => by
    rw [List.map_cons, List.cons_append, List.length_cons, chunk, List.map_cons]
    have := chunk_str xs r
    simp only [List.take_succ_cons, List.take_zero, List.drop_succ_cons, List.drop_zero, this]; rfl
theorem sealL_strs (n : Nat) (d : Nat → Nat → Option PV) : ∀ xs : List ByteArray, sealL n d (xs.map .str) = some (xs.map .str)
  | [] => rfl
  | s :: xs => by simp only [List.map_cons, sealL, sealW, sealL_strs n d xs, Option.map_some, Option.bind_some]
/-- A row of the call's own, handed back. -/
theorem close_msl (S : St) (os : List Ob) (k : Nat) (t : TypeId) (xs ys : List ByteArray) (h : os[k]? = some (.row t ((xs ++ ys).map .str))) : close S ⟨S.obs ++ os, S.own⟩ (.msl (S.obs.length + k) 0 xs.length 1) = (.sl .ro (xs.map rStr), S) := by
  unfold close
  have h1 : beqO ((S.obs ++ os).take S.obs.length) S.obs = true := by simp [beqO_refl]
  simp only [h1, List.take_length, beq_self_eq_true, Bool.and_self, if_true]
  have h2 : ¬ S.obs.length + k < S.obs.length := by omega
  have h3 : (⟨S.obs ++ os, S.own⟩ : St).cells (S.obs.length + k) = some ((xs ++ ys).map .str) := by
    simp only [St.cells, app_get, h]
  simp only [sealW, h2, if_false, drD, h3, List.drop_zero, Nat.zero_le, if_true, sealL_strs, Option.map_some, List.length_map, List.length_append]
  have h4 : xs.length * 1 ≤ xs.length + ys.length := by omega
  simp only [h4, if_true, List.map_append, chunk_str]
theorem close_set (T : St) {l : Nat} (hl : l < T.obs.length) (ob : Ob) (a b c : Nat) : close T { T with obs := T.obs.set l ob } (.msl l a b c) = (.msl l a b c, { T with obs := T.obs.set l ob }) := by
  by_cases h : (beqO ((T.obs.set l ob).take T.obs.length) T.obs && T.own.take T.own.length == T.own) = true
  · have e := beqO_sound (by simp only [Bool.and_eq_true] at h; exact h.1)
    rw [List.take_of_length_le (by simp)] at e
    simp only [e]
    show close T T _ = _
    unfold close
    simp only [beqO_refl, List.take_length, beq_self_eq_true, Bool.and_self, if_true, sealW, hl]
  · unfold close
    simp only [h, Bool.false_eq_true, if_false]
theorem cal_known {E : Env} {f : FuncId} {F : List PV → St → Option (PV × St)} {args args' : List PV} {S : St} (h : E.known f = some F) (ha : askD args = some args') : cal E f args S = F args' S := by
  apply Option.ext
  intro x
  unfold cal
  rw [lim_some (cal_mono f args)]
  constructor
  · rintro ⟨n, hn⟩
    cases n with
    | zero => simp [lvl] at hn
    | succ n => rw [call_known h ha] at hn; exact hn
  · intro hx; exact ⟨1, by rw [call_known h ha]; exact hx⟩
section
variable {ot : TypeId} {oz : EP}
theorem sort_null (g : Tag) (T : St) : cal (env ot oz) 29 [.sl g []] T = some (.un, T) := by
  rw [cal_known (F := srF) rfl (args' := [.sl .ro []]) (by simp only [askD, sealL, sealW, sealLL, Option.map_some, Option.bind_some])]
  rfl
theorem setRow_str (xs ys : List ByteArray) (h : xs.length = ys.length) : setRow (xs.map .str) 0 (ys.map .str) = ys.map .str := setRow_all (by simp [h])
theorem sort_w (T : St) (l : Nat) (xs : List ByteArray) (t : TypeId) (hT : T.obs[l]? = some (.row t (xs.map .str))) (hn : xs ≠ []) (hs : xs.length < 4611686018427387904) :
    cal (env ot oz) 29 [.msl l 0 xs.length 1] T = some (.un, { T with obs := T.obs.set l (.row t ((sortS xs).map .str)) }) := by
  rw [cal_known (F := srF) rfl (args' := [.msl l 0 xs.length 1]) (by simp only [askD, sealL, sealW, Nat.not_lt_zero, if_false, and_self, if_true, Option.map_some, Option.bind_some])]
  have h0 : ¬ xs.length = 0 := by intro e; exact hn (List.eq_nil_of_length_eq_zero e)
  have h1 : (1 = 1 ∧ xs.length < 4611686018427387904) := ⟨rfl, hs⟩
  have h2 : 0 + xs.length ≤ (xs.map PV.str).length := by simp
  have h3 : ((xs.map PV.str).drop 0).take xs.length = xs.map .str := by
    rw [List.drop_zero]; exact List.take_of_length_le (by simp)
  simp only [srF, h0, if_false, h1, if_true, hT, h2, h3, strsOf_map]
  rw [strP_map, setRow_str _ _ (by simp [srtL_len])]
  rfl
theorem compact_null (g : Tag) (T : St) : cal (env ot oz) 30 [.sl g []] T = some (.sl .ro [], T) := by
  rw [cal_known (F := cpF) rfl (args' := [.sl .ro []]) (by simp only [askD, sealL, sealW, sealLL, Option.map_some, Option.bind_some])]
  rfl
theorem compact_w (T : St) (l : Nat) (xs : List ByteArray) (t : TypeId) (hT : T.obs[l]? = some (.row t (xs.map .str))) (hn : xs ≠ []) (hs : xs.length < 4611686018427387904) :
    ∃ zs, cal (env ot oz) 30 [.msl l 0 xs.length 1] T = some (.msl l 0 ((cpL (xs.map tl)).map txt).length 1, { T with obs := T.obs.set l (.row t (((cpL (xs.map tl)).map txt ++ zs).map .str)) }) := by
  refine ⟨(List.replicate (xs.length - (cpL (xs.map tl)).length) []).map txt, ?_⟩
  rw [cal_known (F := cpF) rfl (args' := [.msl l 0 xs.length 1]) (by simp only [askD, sealL, sealW, Nat.not_lt_zero, if_false, and_self, if_true, Option.map_some, Option.bind_some])]
  have h0 : ¬ xs.length = 0 := by intro e; exact hn (List.eq_nil_of_length_eq_zero e)
  have h1 : (1 = 1 ∧ xs.length < 4611686018427387904) := ⟨rfl, hs⟩
  have h2 : 0 + xs.length ≤ (xs.map PV.str).length := by simp
  have h3 : ((xs.map PV.str).drop 0).take xs.length = xs.map .str := by
    rw [List.drop_zero]; exact List.take_of_length_le (by simp)
  have hc := cpL_len (xs.map tl)
  rw [List.length_map] at hc
  simp only [cpF, h0, if_false, h1, if_true, hT, h2, h3, strsOf_map, List.length_map]
  rw [strP_map, setRow_str _ _ (by simp; omega), List.map_append]
  have h5 : 0 + xs.length ≤ xs.length := by omega
  simp only [and_self, if_true, h5]
end
/-- A list of texts that grows: nothing yet, or a row that is the call's own. -/
def MRow (T : St) (t : TypeId) (n0 : Nat) (v : PV) (xs : List ByteArray) : Prop := (xs = [] ∧ v = .sl .null []) ∨ (xs ≠ [] ∧ ∃ k, v = .msl (n0 + k) 0 xs.length 1 ∧ T.obs[n0 + k]? = some (.row t (xs.map .str)))
theorem appM_first (T : St) (t : TypeId) (s : ByteArray) : appM T t 1 16 (.sl .null []) [[.str s]] = some (.msl T.obs.length 0 1 1, { T with obs := T.obs ++ [.row t [.str s]] }) := by
  simp [appM, headOk]
theorem appM_next (T : St) (t : TypeId) (l : Nat) (xs : List ByteArray) (s : ByteArray) (hT : T.obs[l]? = some (.row t (xs.map .str))) (hn : xs ≠ []) (hb : xs.length ≤ 8000000000000) : appM T t 1 16 (.msl l 0 xs.length 1) [[.str s]] = some (.msl T.obs.length 0 (xs ++ [s]).length 1, { T with obs := T.obs.set l .dead ++ [.row t ((xs ++ [s]).map .str)] }) := by
  have h0 : 0 < xs.length := by cases xs; exact absurd rfl hn; simp
  have h1 : (xs.length + 1) * 16 ≤ 140737488355328 := by omega
  have h2 : xs.length + 1 ≤ 9223372036854775807 := by omega
  simp [appM, headOk, hT, h0, h1, h2]
end Go.PE
