/-
  The law TyfmtOne, at the evaluator's level. Conditions: what comes in is of bulk at most 1048576.
-/
import Derived.Test.YtedgebnmllinlaaDoorF5e
import Derived.Test.YtedgebnmllinlaaDoorS4
namespace Go.PE
open Go Go.RowKit Go.Proofs
set_option linter.unusedVariables false
set_option linter.unusedSimpArgs false
set_option maxRecDepth 100000
section
variable {ot : TypeId} {oz : Nat × Nat}
theorem tyfmtOne (a b : GTy) (oa : OkTy a) (ob : OkTy b) (ha : bulkL (rTy a) ≤ 1048576) (hb : bulkL (rTy b) ≤ 1048576) : Ev (env ot oz) 9 [.agg (rTy a), .agg (rTy b)] .none (.bool true) .none := by
  refine cal_ev ?_
  have m1 := fun S => cal_ans (muchT_ok (ot := ot) (oz := oz) a oa) (S := S)
  have m2 := fun S => cal_ans (muchT_ok (ot := ot) (oz := oz) b ob) (S := S)
  have r1 := fun S => cal_ans (right04_ok (ot := ot) (oz := oz) a oa) (S := S)
  have r2 := fun S => cal_ans (right04_ok (ot := ot) (oz := oz) b ob) (S := S)
  have c1 := tshow (ot := ot) (oz := oz) a oa ha
  have c2 := tshow (ot := ot) (oz := oz) b ob hb
  have s := same04 (ot := ot) (oz := oz) a oa b ob
  have aw := aw05 (ot := ot) (oz := oz)
  have key : rightT a = true → rightT b = true → strEq (showT a) (showT b) = sameT a b := fun h1 h2 => by
    apply Bool.eq_iff_iff.2
    rw [strEq_iff, sameT_iff]
    unfold showT
    rw [if_pos h1, if_pos h2]
    exact ⟨shown_one h1 h2, fun h => by rw [h]⟩
  cases q1 : rightT a <;> cases q2 : rightT b <;> simp only [q1, q2] at r1 r2 <;> (try have k := key q1 q2) <;> (rw [w_plain (fn := c9) rfl rfl (by simp only [go_sem, reduceIte, Nat.reduceEqDiff, Nat.reduceAdd, Nat.reduceSub, Nat.reduceMul, Nat.reduceLeDiff, Nat.reduceLT, Int.reduceNeg, Int.reduceEq, Int.reduceLT, Int.reduceLE, Int.reduceNe, Int.reduceToNat, Int.reduceAdd, Int.reduceMul, Int.reduceSub, Int.reduceBEq, m1, m2, r1, r2, c1, c2, s, aw]) rfl (by decide)]; simp only [c9, c9_b, c9_r1, go_sem, reduceIte, Nat.reduceEqDiff, Nat.reduceAdd, Nat.reduceSub, Nat.reduceMul, Nat.reduceLeDiff, Nat.reduceLT, Int.reduceNeg, Int.reduceEq, Int.reduceLT, Int.reduceLE, Int.reduceNe, Int.reduceToNat, Int.reduceAdd, Int.reduceMul, Int.reduceSub, Int.reduceBEq, m1, m2, r1, r2, c1, c2, s, aw]; repeat' (first | (rw [guardO_t]; split <;> rename_i h <;> (try rw [Bool.not_eq_true] at h) <;> (try simp only [go_sem, reduceIte, Nat.reduceEqDiff, Nat.reduceAdd, Nat.reduceSub, Nat.reduceMul, Nat.reduceLeDiff, Nat.reduceLT, Int.reduceNeg, Int.reduceEq, Int.reduceLT, Int.reduceLE, Int.reduceNe, Int.reduceToNat, Int.reduceAdd, Int.reduceMul, Int.reduceSub, Int.reduceBEq, c9_r1, m1, m2, r1, r2, c1, c2, s, aw, *])) | (rw [guardO_f]; split <;> rename_i h <;> (try rw [Bool.not_eq_true] at h) <;> (try simp only [go_sem, reduceIte, Nat.reduceEqDiff, Nat.reduceAdd, Nat.reduceSub, Nat.reduceMul, Nat.reduceLeDiff, Nat.reduceLT, Int.reduceNeg, Int.reduceEq, Int.reduceLT, Int.reduceLE, Int.reduceNe, Int.reduceToNat, Int.reduceAdd, Int.reduceMul, Int.reduceSub, Int.reduceBEq, c9_r1, m1, m2, r1, r2, c1, c2, s, aw, *])) | (rw [cw_bool]; split <;> rename_i h <;> (try rw [Bool.not_eq_true] at h) <;> (try simp only [go_sem, reduceIte, Nat.reduceEqDiff, Nat.reduceAdd, Nat.reduceSub, Nat.reduceMul, Nat.reduceLeDiff, Nat.reduceLT, Int.reduceNeg, Int.reduceEq, Int.reduceLT, Int.reduceLE, Int.reduceNe, Int.reduceToNat, Int.reduceAdd, Int.reduceMul, Int.reduceSub, Int.reduceBEq, c9_r1, m1, m2, r1, r2, c1, c2, s, aw, *])))) <;> simp_all
end
end Go.PE
