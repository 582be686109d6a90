/-
  Package slices, at this seat's types. Conditions: each law's own.
-/
import Derived.Test.YtleggogbmklddaaPR
namespace Go.PE
open Go Go.RowKit Go.Proofs
set_option linter.unusedVariables false
set_option linter.unusedSimpArgs false
set_option maxRecDepth 100000
section
variable {ot : TypeId} {oz : EP}
theorem indexF_l0Str (l : List ByteArray) (p : ByteArray → Bool) (hl : Short l.length) (f : FuncId) (first caps : List PV) (S : St) (hp : ∀ a ∈ l, cal (env ot oz) f (first ++ [.str a] ++ caps) S = some (.bool (p a), S)) (fin : Kont (PV × St)) (st : List Fw) : ∀ (rest : List ByteArray) (i : Nat), l.drop i = rest →
    run (env ot oz) fin st c73_l0 [(0, some (.sl .ro (l.map rStr))), (1, some (.fn f first caps)), (7, some (.int .i64 (l.length : Int))), (8, some (.int .i64 (i : Int)))] S =
      if rest.any p then aft (env ot oz) fin st .ret [(4, some (.int .i64 ((i + rest.findIdx p : Nat) : Int)))] S else aft (env ot oz) fin st (.exit 0) [(0, some (.sl .ro (l.map rStr))), (1, some (.fn f first caps)), (7, some (.int .i64 (l.length : Int))), (8, some (.int .i64 ((i + rest.length : Nat) : Int))), (9, some (.bool false))] S
  | [], i, h => by
    have hlt := lt_no (drop_nil h)
    (rw [c73_l0_w]; simp only [c73_l0_b, c73_l0_a, go_sem, hlt, List.any_nil])
  | a :: r, i, h => by
    obtain ⟨h1, h2, h3⟩ := drop_cons h
    unfold Short maxLen at hl
    have e : i + (a :: r).length = i + 1 + r.length := by simp only [List.length_cons]; omega
    have w := wrap_succ (i := i) (n := l.length) h3 (by omega)
    have hlt : (i : Int) < (l.length : Int) := by omega
    have ih := indexF_l0Str l p (by unfold Short maxLen; omega) f first caps S hp fin st r (i + 1) h2
    have ca := hp a (mem_of_get h1)
    simp only [List.append_assoc, List.cons_append, List.nil_append, rStr_eq] at ca
    rw [e]
    cases q : p a with
    | true =>
      have e2 : (a :: r).findIdx p = 0 := by simp [List.findIdx_cons, q]
      rw [e2]
      (rw [c73_l0_w]; simp only [c73_l0_b, c73_l0_a, go_sem, hlt, h1, w, ca, q, List.any_cons])
    | false =>
      have e2 : i + (a :: r).findIdx p = i + 1 + r.findIdx p := by simp [List.findIdx_cons, q]; omega
      rw [e2]
      (rw [c73_l0_w]; simp only [c73_l0_b, c73_l0_a, go_sem, hlt, h1, w, ca, q, ih, List.any_cons])
theorem indexFStr (l : List ByteArray) (p : ByteArray → Bool) (hl : Short l.length) (f : FuncId) (first caps : List PV) (S : St) (hf : ∀ n d, sealL n d first = some first) (hc : ∀ n d, sealL n d caps = some caps) (hp : ∀ a ∈ l, cal (env ot oz) f (first ++ [.str a] ++ caps) S = some (.bool (p a), S)) :
    cal (env ot oz) 73 [.sl .ro (l.map rStr), .fn f first caps] S = some (.int .i64 (if l.any p then (l.findIdx p : Int) else -1), S) := by
  have h := fun fin st => indexF_l0Str (ot := ot) (oz := oz) l p hl f first caps S hp fin st l 0 rfl
  simp only [Int.cast_ofNat_Int, Nat.zero_add] at h
  cases q : l.any p <;> simp only [q, if_true, if_false, Bool.false_eq_true] at h <;> (rw [w_plain (fn := c73) rfl rfl (by simp only [go_sem, hf, hc, h, q]) rfl (by decide)]; simp only [c73, c73_b, go_sem, hf, hc, h, q])
theorem indexF_l0Def (l : List GDef) (p : GDef → Bool) (hl : Short l.length) (f : FuncId) (first caps : List PV) (S : St) (hp : ∀ a ∈ l, cal (env ot oz) f (first ++ [.agg (rDef a)] ++ caps) S = some (.bool (p a), S)) (fin : Kont (PV × St)) (st : List Fw) : ∀ (rest : List GDef) (i : Nat), l.drop i = rest →
    run (env ot oz) fin st c56_l0 [(0, some (.sl .ro (l.map rDef))), (1, some (.fn f first caps)), (7, some (.int .i64 (l.length : Int))), (8, some (.int .i64 (i : Int)))] S =
      if rest.any p then aft (env ot oz) fin st .ret [(4, some (.int .i64 ((i + rest.findIdx p : Nat) : Int)))] S else aft (env ot oz) fin st (.exit 0) [(0, some (.sl .ro (l.map rDef))), (1, some (.fn f first caps)), (7, some (.int .i64 (l.length : Int))), (8, some (.int .i64 ((i + rest.length : Nat) : Int))), (9, some (.bool false))] S
  | [], i, h => by
    have hlt := lt_no (drop_nil h)
    (rw [c56_l0_w]; simp only [c56_l0_b, c56_l0_a, go_sem, hlt, List.any_nil])
  | a :: r, i, h => by
    obtain ⟨h1, h2, h3⟩ := drop_cons h
    unfold Short maxLen at hl
    have e : i + (a :: r).length = i + 1 + r.length := by simp only [List.length_cons]; omega
    have w := wrap_succ (i := i) (n := l.length) h3 (by omega)
    have hlt : (i : Int) < (l.length : Int) := by omega
    have ih := indexF_l0Def l p (by unfold Short maxLen; omega) f first caps S hp fin st r (i + 1) h2
    have ca := hp a (mem_of_get h1)
    simp only [List.append_assoc, List.cons_append, List.nil_append, rStr_eq] at ca
    rw [e]
    cases q : p a with
    | true =>
      have e2 : (a :: r).findIdx p = 0 := by simp [List.findIdx_cons, q]
      rw [e2]
      (rw [c56_l0_w]; simp only [c56_l0_b, c56_l0_a, go_sem, hlt, h1, w, ca, q, List.any_cons])
    | false =>
      have e2 : i + (a :: r).findIdx p = i + 1 + r.findIdx p := by simp [List.findIdx_cons, q]; omega
      rw [e2]
      (rw [c56_l0_w]; simp only [c56_l0_b, c56_l0_a, go_sem, hlt, h1, w, ca, q, ih, List.any_cons])
theorem indexFDef (l : List GDef) (p : GDef → Bool) (hl : Short l.length) (f : FuncId) (first caps : List PV) (S : St) (hf : ∀ n d, sealL n d first = some first) (hc : ∀ n d, sealL n d caps = some caps) (hp : ∀ a ∈ l, cal (env ot oz) f (first ++ [.agg (rDef a)] ++ caps) S = some (.bool (p a), S)) :
    cal (env ot oz) 56 [.sl .ro (l.map rDef), .fn f first caps] S = some (.int .i64 (if l.any p then (l.findIdx p : Int) else -1), S) := by
  have h := fun fin st => indexF_l0Def (ot := ot) (oz := oz) l p hl f first caps S hp fin st l 0 rfl
  simp only [Int.cast_ofNat_Int, Nat.zero_add] at h
  cases q : l.any p <;> simp only [q, if_true, if_false, Bool.false_eq_true] at h <;> (rw [w_plain (fn := c56) rfl rfl (by simp only [go_sem, hf, hc, h, q]) rfl (by decide)]; simp only [c56, c56_b, go_sem, hf, hc, h, q])
theorem containsFStr (l : List ByteArray) (p : ByteArray → Bool) (hl : Short l.length) (f : FuncId) (first caps : List PV) (S : St) (hf : ∀ n d, sealL n d first = some first) (hc : ∀ n d, sealL n d caps = some caps) (hp : ∀ a ∈ l, cal (env ot oz) f (first ++ [.str a] ++ caps) S = some (.bool (p a), S)) :
    cal (env ot oz) 48 [.sl .ro (l.map rStr), .fn f first caps] S = some (.bool (l.any p), S) := by
  have h := indexFStr (ot := ot) (oz := oz) l p hl f first caps S hf hc hp
  cases q : l.any p <;> simp only [q, if_true, if_false, Bool.false_eq_true] at h <;> (rw [w_plain (fn := c48) rfl rfl (by simp only [go_sem, hf, hc, h, q]) rfl (by decide)]; simp only [c48, c48_b, go_sem, hf, hc, h, q])
end
end Go.PE
