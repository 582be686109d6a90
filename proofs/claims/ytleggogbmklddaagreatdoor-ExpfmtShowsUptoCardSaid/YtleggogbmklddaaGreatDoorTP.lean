/-
  Package slices, at this seat's types. Conditions: each law's own.
-/
import Derived.Test.YtleggogbmklddaaGreatDoorMuch
import Derived.Test.YtleggogbmklddaaGreatDoorNP
import Derived.Test.YtleggogbmklddaaGreatDoorT04
namespace Go.PE
open Go Go.RowKit Go.Proofs
set_option linter.unusedVariables false
set_option linter.unusedSimpArgs false
set_option maxRecDepth 100000
section
variable {ot : TypeId} {oz : EP}
theorem indexF_l0Ty (l : List GTy) (p : GTy → Bool) (hl : Short l.length) (f : FuncId) (first caps : List PV) (S : St) (hp : ∀ a ∈ l, cal (env ot oz) f (first ++ [.agg (rTy a)] ++ caps) S = some (.bool (p a), S)) (fin : Kont (PV × St)) (st : List Fw) : ∀ (rest : List GTy) (i : Nat), l.drop i = rest →
    run (env ot oz) fin st c114_l0 [(0, some (.sl .ro (l.map rTy))), (1, some (.fn f first caps)), (7, some (.int .i64 (l.length : Int))), (8, some (.int .i64 (i : Int)))] S =
      if rest.any p then aft (env ot oz) fin st .ret [(4, some (.int .i64 ((i + rest.findIdx p : Nat) : Int)))] S else aft (env ot oz) fin st (.exit 0) [(0, some (.sl .ro (l.map rTy))), (1, some (.fn f first caps)), (7, some (.int .i64 (l.length : Int))), (8, some (.int .i64 ((i + rest.length : Nat) : Int))), (9, some (.bool false))] S
  | [], i, h => by
    have hlt := lt_no (drop_nil h)
    (rw [c114_l0_w]; simp only [c114_l0_b, c114_l0_a, go_sem, hlt, List.any_nil])
  | a :: r, i, h => by
    obtain ⟨h1, h2, h3⟩ := drop_cons h
    unfold Short maxLen at hl
    have e : i + (a :: r).length = i + 1 + r.length := by simp only [List.length_cons]; omega
    have w := wrap_succ (i := i) (n := l.length) h3 (by omega)
    have hlt : (i : Int) < (l.length : Int) := by omega
    have ih := indexF_l0Ty l p (by unfold Short maxLen; omega) f first caps S hp fin st r (i + 1) h2
    have ca := hp a (mem_of_get h1)
    simp only [List.append_assoc, List.cons_append, List.nil_append, rStr_eq] at ca
    rw [e]
    cases q : p a with
    | true =>
      have e2 : (a :: r).findIdx p = 0 := by simp [List.findIdx_cons, q]
      rw [e2]
      (rw [c114_l0_w]; simp only [c114_l0_b, c114_l0_a, go_sem, hlt, h1, w, ca, q, List.any_cons])
    | false =>
      have e2 : i + (a :: r).findIdx p = i + 1 + r.findIdx p := by simp [List.findIdx_cons, q]; omega
      rw [e2]
      (rw [c114_l0_w]; simp only [c114_l0_b, c114_l0_a, go_sem, hlt, h1, w, ca, q, ih, List.any_cons])
theorem indexFTy (l : List GTy) (p : GTy → Bool) (hl : Short l.length) (f : FuncId) (first caps : List PV) (S : St) (hf : ∀ n d, sealL n d first = some first) (hc : ∀ n d, sealL n d caps = some caps) (hp : ∀ a ∈ l, cal (env ot oz) f (first ++ [.agg (rTy a)] ++ caps) S = some (.bool (p a), S)) :
    cal (env ot oz) 114 [.sl .ro (l.map rTy), .fn f first caps] S = some (.int .i64 (if l.any p then (l.findIdx p : Int) else -1), S) := by
  have h := fun fin st => indexF_l0Ty (ot := ot) (oz := oz) l p hl f first caps S hp fin st l 0 rfl
  simp only [Int.cast_ofNat_Int, Nat.zero_add] at h
  cases q : l.any p <;> simp only [q, if_true, if_false, Bool.false_eq_true] at h <;> (rw [w_plain (fn := c114) rfl rfl (by simp only [go_sem, hf, hc, h, q]) rfl (by decide)]; simp only [c114, c114_b, go_sem, hf, hc, h, q])
theorem indexF_l0Exp (l : List GExp) (p : GExp → Bool) (hl : Short l.length) (f : FuncId) (first caps : List PV) (S : St) (hp : ∀ a ∈ l, cal (env ot oz) f (first ++ [.agg (rExp a)] ++ caps) S = some (.bool (p a), S)) (fin : Kont (PV × St)) (st : List Fw) : ∀ (rest : List GExp) (i : Nat), l.drop i = rest →
    run (env ot oz) fin st c116_l0 [(0, some (.sl .ro (l.map rExp))), (1, some (.fn f first caps)), (7, some (.int .i64 (l.length : Int))), (8, some (.int .i64 (i : Int)))] S =
      if rest.any p then aft (env ot oz) fin st .ret [(4, some (.int .i64 ((i + rest.findIdx p : Nat) : Int)))] S else aft (env ot oz) fin st (.exit 0) [(0, some (.sl .ro (l.map rExp))), (1, some (.fn f first caps)), (7, some (.int .i64 (l.length : Int))), (8, some (.int .i64 ((i + rest.length : Nat) : Int))), (9, some (.bool false))] S
  | [], i, h => by
    have hlt := lt_no (drop_nil h)
    (rw [c116_l0_w]; simp only [c116_l0_b, c116_l0_a, go_sem, hlt, List.any_nil])
  | a :: r, i, h => by
    obtain ⟨h1, h2, h3⟩ := drop_cons h
    unfold Short maxLen at hl
    have e : i + (a :: r).length = i + 1 + r.length := by simp only [List.length_cons]; omega
    have w := wrap_succ (i := i) (n := l.length) h3 (by omega)
    have hlt : (i : Int) < (l.length : Int) := by omega
    have ih := indexF_l0Exp l p (by unfold Short maxLen; omega) f first caps S hp fin st r (i + 1) h2
    have ca := hp a (mem_of_get h1)
    simp only [List.append_assoc, List.cons_append, List.nil_append, rStr_eq] at ca
    rw [e]
    cases q : p a with
    | true =>
      have e2 : (a :: r).findIdx p = 0 := by simp [List.findIdx_cons, q]
      rw [e2]
      (rw [c116_l0_w]; simp only [c116_l0_b, c116_l0_a, go_sem, hlt, h1, w, ca, q, List.any_cons])
    | false =>
      have e2 : i + (a :: r).findIdx p = i + 1 + r.findIdx p := by simp [List.findIdx_cons, q]; omega
      rw [e2]
      (rw [c116_l0_w]; simp only [c116_l0_b, c116_l0_a, go_sem, hlt, h1, w, ca, q, ih, List.any_cons])
theorem indexFExp (l : List GExp) (p : GExp → Bool) (hl : Short l.length) (f : FuncId) (first caps : List PV) (S : St) (hf : ∀ n d, sealL n d first = some first) (hc : ∀ n d, sealL n d caps = some caps) (hp : ∀ a ∈ l, cal (env ot oz) f (first ++ [.agg (rExp a)] ++ caps) S = some (.bool (p a), S)) :
    cal (env ot oz) 116 [.sl .ro (l.map rExp), .fn f first caps] S = some (.int .i64 (if l.any p then (l.findIdx p : Int) else -1), S) := by
  have h := fun fin st => indexF_l0Exp (ot := ot) (oz := oz) l p hl f first caps S hp fin st l 0 rfl
  simp only [Int.cast_ofNat_Int, Nat.zero_add] at h
  cases q : l.any p <;> simp only [q, if_true, if_false, Bool.false_eq_true] at h <;> (rw [w_plain (fn := c116) rfl rfl (by simp only [go_sem, hf, hc, h, q]) rfl (by decide)]; simp only [c116, c116_b, go_sem, hf, hc, h, q])
theorem containsFTy (l : List GTy) (p : GTy → Bool) (hl : Short l.length) (f : FuncId) (first caps : List PV) (S : St) (hf : ∀ n d, sealL n d first = some first) (hc : ∀ n d, sealL n d caps = some caps) (hp : ∀ a ∈ l, cal (env ot oz) f (first ++ [.agg (rTy a)] ++ caps) S = some (.bool (p a), S)) :
    cal (env ot oz) 84 [.sl .ro (l.map rTy), .fn f first caps] S = some (.bool (l.any p), S) := by
  have h := indexFTy (ot := ot) (oz := oz) l p hl f first caps S hf hc hp
  cases q : l.any p <;> simp only [q, if_true, if_false, Bool.false_eq_true] at h <;> (rw [w_plain (fn := c84) rfl rfl (by simp only [go_sem, hf, hc, h, q]) rfl (by decide)]; simp only [c84, c84_b, go_sem, hf, hc, h, q])
theorem containsFExp (l : List GExp) (p : GExp → Bool) (hl : Short l.length) (f : FuncId) (first caps : List PV) (S : St) (hf : ∀ n d, sealL n d first = some first) (hc : ∀ n d, sealL n d caps = some caps) (hp : ∀ a ∈ l, cal (env ot oz) f (first ++ [.agg (rExp a)] ++ caps) S = some (.bool (p a), S)) :
    cal (env ot oz) 87 [.sl .ro (l.map rExp), .fn f first caps] S = some (.bool (l.any p), S) := by
  have h := indexFExp (ot := ot) (oz := oz) l p hl f first caps S hf hc hp
  cases q : l.any p <;> simp only [q, if_true, if_false, Bool.false_eq_true] at h <;> (rw [w_plain (fn := c87) rfl rfl (by simp only [go_sem, hf, hc, h, q]) rfl (by decide)]; simp only [c87, c87_b, go_sem, hf, hc, h, q])
end
end Go.PE
namespace Go.PE
open Go Go.RowKit Go.Proofs
set_option linter.unusedVariables false
set_option linter.unusedSimpArgs false
set_option maxRecDepth 100000
section
variable {ot : TypeId} {oz : EP}
theorem len0 {α : Type} (l : List α) : ((l.length : Int) == 0) = !decide (0 < l.length) := by
  cases l <;> simp <;> omega
theorem bare_eq (t : GTy) (S : St) : cal (env ot oz) 106 [.agg (rTy t)] S = some (.bool (!(badT t)), S) := by
  (rw [w_plain (fn := c106) rfl rfl (by simp only [go_sem]) rfl (by decide)]; simp only [c106, c106_b, c106_r1, go_sem]; repeat' (first | (rw [guardO_t]; split <;> rename_i h <;> (try rw [Bool.not_eq_true] at h) <;> (try simp only [go_sem, c106_r1, *])) | (rw [guardO_f]; split <;> rename_i h <;> (try rw [Bool.not_eq_true] at h) <;> (try simp only [go_sem, c106_r1, *])) | (rw [cw_bool]; split <;> rename_i h <;> (try rw [Bool.not_eq_true] at h) <;> (try simp only [go_sem, c106_r1, *])))) <;> (try simp_all [badT, len0]) <;> (try omega)
theorem rightTs_any : ∀ l : List GTy, rightTs l = !(l.any fun a => !(rightT a))
  | [] => rfl
  | a :: r => by rw [rightTs, rightTs_any r, List.any_cons]; cases rightT a <;> simp
theorem right_eq : ∀ (t : GTy), OkTy t → ∀ S, cal (env ot oz) 65 [.agg (rTy t)] S = some (.bool (rightT t), S) := by
  refine GTy.ind fun t ih ok S => ?_
  have hA : Short t.Args.length ∧ (∀ x ∈ t.Args, OkTy x) ∧ Short t.Labels.length := by cases ok; exact ⟨by assumption, by assumption, (by assumption : _ ∧ _).1⟩
  have b := bare_eq (ot := ot) (oz := oz) t
  have h1 : ∀ a ∈ t.Args, cal (env ot oz) 107 [.agg (rTy a)] S = some (.bool (!(rightT a)), S) := fun a ha => by
    have c := ih a ha (hA.2.1 a ha)
    (rw [w_plain (fn := c107) rfl rfl (by simp only [go_sem, c]) rfl (by decide)]; simp only [c107, c107_b, go_sem, c]; repeat' (first | (rw [guardO_t]; split <;> rename_i h <;> (try rw [Bool.not_eq_true] at h) <;> (try simp only [go_sem, c, *])) | (rw [guardO_f]; split <;> rename_i h <;> (try rw [Bool.not_eq_true] at h) <;> (try simp only [go_sem, c, *])) | (rw [cw_bool]; split <;> rename_i h <;> (try rw [Bool.not_eq_true] at h) <;> (try simp only [go_sem, c, *]))))
  have c := containsFTy (ot := ot) (oz := oz) t.Args (fun a => !(rightT a)) hA.1 107 [] [] S (fun _ _ => rfl) (fun _ _ => rfl) h1
  have v := nvar (ot := ot) (oz := oz) t.Name
  have rs := nrising (ot := ot) (oz := oz) t.Labels hA.2.2
  have e : rightT t = (rightTs t.Args && headT t) := rightT_eq t
  rw [rightTs_any] at e
  (rw [w_plain (fn := c65) rfl rfl (by simp only [go_sem, b, c, v, rs]) rfl (by decide)]; simp only [c65, c65_b, c65_r1, c65_r11, c65_r13, c65_r17, go_sem, b, c, v, rs]; repeat' (first | (rw [guardO_t]; split <;> rename_i h <;> (try rw [Bool.not_eq_true] at h) <;> (try simp only [go_sem, c65_r1, c65_r11, c65_r13, c65_r17, b, c, v, rs, *])) | (rw [guardO_f]; split <;> rename_i h <;> (try rw [Bool.not_eq_true] at h) <;> (try simp only [go_sem, c65_r1, c65_r11, c65_r13, c65_r17, b, c, v, rs, *])) | (rw [cw_bool]; split <;> rename_i h <;> (try rw [Bool.not_eq_true] at h) <;> (try simp only [go_sem, c65_r1, c65_r11, c65_r13, c65_r17, b, c, v, rs, *])))) <;> (try simp_all [e, headT]) <;> (try omega)
end
end Go.PE
