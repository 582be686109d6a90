/-
  The laws about what is seen. Conditions: each law's own.
-/
import Derived.Test.YtedgebnmllinlaaDoorOb4
import Derived.Test.YtedgebnmllinlaaDoorMuchV
namespace Go.PE
open Go Go.RowKit Go.Proofs
set_option linter.unusedVariables false
set_option linter.unusedSimpArgs false
set_option maxRecDepth 100000
section
variable {ot : TypeId} {oz : Nat × Nat}
theorem awake33 : (lvl (env ot oz) 30).call 24 [] .none = some (.bool true, .none) := callIs_eq (by kernel_rfl)

theorem obsTells (v : GVal) (o : GObs) (r : GOut) (hv : OkVal v) (ho : OkObs o) (hr : OkOut r) : Ev (env ot oz) 6 [.agg (rVal v), .agg (rObs o), .agg (rOut r)] .none (.bool true) .none := by
  obtain ⟨A, a⟩ := (muchV_ok (ot := ot) (oz := oz) v hv).le
  have main : ∃ N, (lvl (env ot oz) N).call 6 [.agg (rVal v), .agg (rObs o), .agg (rOut r)] .none = some (.bool true, .none) := by
    have aw : ∀ n, 30 ≤ n → (lvl (env ot oz) n).call 24 [] .none = some (.bool true, .none) := fun n hn => call_mono hn awake33
    by_cases g1 : 300 < muchV v
    · refine ⟨A + 32, ?_⟩
      have a := a (A + 30) (by omega)
      have aw := aw (A + 30) (by omega)
      (rw [call_plain (fn := c6) rfl rfl (by simp only [go_sem, reduceIte, Nat.reduceEqDiff, Nat.reduceAdd, Nat.reduceSub, Nat.reduceMul, Nat.reduceLeDiff, Nat.reduceLT, Int.reduceNeg, Int.reduceEq, Int.reduceLT, Int.reduceLE, Int.reduceNe, Int.reduceToNat, Int.reduceAdd, Int.reduceMul, Int.reduceSub, Int.reduceBEq, a, g1, aw]) rfl (by decide)]; simp only [c6, c6_b, c6_r1, c6_r3, go_sem, reduceIte, Nat.reduceEqDiff, Nat.reduceAdd, Nat.reduceSub, Nat.reduceMul, Nat.reduceLeDiff, Nat.reduceLT, Int.reduceNeg, Int.reduceEq, Int.reduceLT, Int.reduceLE, Int.reduceNe, Int.reduceToNat, Int.reduceAdd, Int.reduceMul, Int.reduceSub, Int.reduceBEq, a, g1, aw])
    · by_cases g2 : (300 : Int) < (o.S.size : Int)
      · refine ⟨A + 32, ?_⟩
        have a := a (A + 30) (by omega)
        have aw := aw (A + 30) (by omega)
        (rw [call_plain (fn := c6) rfl rfl (by simp only [go_sem, reduceIte, Nat.reduceEqDiff, Nat.reduceAdd, Nat.reduceSub, Nat.reduceMul, Nat.reduceLeDiff, Nat.reduceLT, Int.reduceNeg, Int.reduceEq, Int.reduceLT, Int.reduceLE, Int.reduceNe, Int.reduceToNat, Int.reduceAdd, Int.reduceMul, Int.reduceSub, Int.reduceBEq, a, g1, g2, aw]) rfl (by decide)]; simp only [c6, c6_b, c6_r1, c6_r3, go_sem, reduceIte, Nat.reduceEqDiff, Nat.reduceAdd, Nat.reduceSub, Nat.reduceMul, Nat.reduceLeDiff, Nat.reduceLT, Int.reduceNeg, Int.reduceEq, Int.reduceLT, Int.reduceLE, Int.reduceNe, Int.reduceToNat, Int.reduceAdd, Int.reduceMul, Int.reduceSub, Int.reduceBEq, a, g1, g2, aw])
      · by_cases g3 : (300 : Int) < (r.Obs.S.size : Int)
        · refine ⟨A + 32, ?_⟩
          have a := a (A + 30) (by omega)
          have aw := aw (A + 30) (by omega)
          (rw [call_plain (fn := c6) rfl rfl (by simp only [go_sem, reduceIte, Nat.reduceEqDiff, Nat.reduceAdd, Nat.reduceSub, Nat.reduceMul, Nat.reduceLeDiff, Nat.reduceLT, Int.reduceNeg, Int.reduceEq, Int.reduceLT, Int.reduceLE, Int.reduceNe, Int.reduceToNat, Int.reduceAdd, Int.reduceMul, Int.reduceSub, Int.reduceBEq, a, g1, g2, g3, aw]) rfl (by decide)]; simp only [c6, c6_b, c6_r1, c6_r3, go_sem, reduceIte, Nat.reduceEqDiff, Nat.reduceAdd, Nat.reduceSub, Nat.reduceMul, Nat.reduceLeDiff, Nat.reduceLT, Int.reduceNeg, Int.reduceEq, Int.reduceLT, Int.reduceLE, Int.reduceNe, Int.reduceToNat, Int.reduceAdd, Int.reduceMul, Int.reduceSub, Int.reduceBEq, a, g1, g2, g3, aw])
        · by_cases g4 : (300 : Int) < (r.At.Def.size : Int)
          · refine ⟨A + 32, ?_⟩
            have a := a (A + 30) (by omega)
            have aw := aw (A + 30) (by omega)
            (rw [call_plain (fn := c6) rfl rfl (by simp only [go_sem, reduceIte, Nat.reduceEqDiff, Nat.reduceAdd, Nat.reduceSub, Nat.reduceMul, Nat.reduceLeDiff, Nat.reduceLT, Int.reduceNeg, Int.reduceEq, Int.reduceLT, Int.reduceLE, Int.reduceNe, Int.reduceToNat, Int.reduceAdd, Int.reduceMul, Int.reduceSub, Int.reduceBEq, a, g1, g2, g3, g4, aw]) rfl (by decide)]; simp only [c6, c6_b, c6_r1, c6_r3, go_sem, reduceIte, Nat.reduceEqDiff, Nat.reduceAdd, Nat.reduceSub, Nat.reduceMul, Nat.reduceLeDiff, Nat.reduceLT, Int.reduceNeg, Int.reduceEq, Int.reduceLT, Int.reduceLE, Int.reduceNe, Int.reduceToNat, Int.reduceAdd, Int.reduceMul, Int.reduceSub, Int.reduceBEq, a, g1, g2, g3, g4, aw])
          · obtain ⟨N1, h1⟩ := (obs_ok (ot := ot) (oz := oz) v).le
            obtain ⟨N2, h2⟩ := (obs2_ok (ot := ot) (oz := oz) v).le
            obtain ⟨N3, h3⟩ := (show_ok (ot := ot) (oz := oz) o ho.N (by omega)).le
            obtain ⟨N4, h4⟩ := (show2_ok (ot := ot) (oz := oz) o ho.N (by omega)).le
            obtain ⟨N5, h5⟩ := (kind_ok (ot := ot) (oz := oz) o).le
            obtain ⟨N6, h6⟩ := (kind2_ok (ot := ot) (oz := oz) o).le
            obtain ⟨N7, h7⟩ := (tell_ok (ot := ot) (oz := oz) r hr.Obs.N (by omega) (by omega) hr.At.Node hr.Steps).le
            obtain ⟨N8, h8⟩ := (tell2_ok (ot := ot) (oz := oz) r hr.Obs.N (by omega) (by omega) hr.At.Node hr.Steps).le
            have hm : ∃ M, A + 30 ≤ M ∧ N1 ≤ M ∧ N2 ≤ M ∧ N3 ≤ M ∧ N4 ≤ M ∧ N5 ≤ M ∧ N6 ≤ M ∧ N7 ≤ M ∧ N8 ≤ M := ⟨A + 30 + N1 + N2 + N3 + N4 + N5 + N6 + N7 + N8, by omega⟩
            obtain ⟨M, m0, m1, m2, m3, m4, m5, m6, m7, m8⟩ := hm
            refine ⟨M + 2, ?_⟩
            have a := a M (by omega)
            have aw := aw M (by omega)
            have h1 := h1 M m1
            have h2 := h2 M m2
            have h3 := h3 M m3
            have h4 := h4 M m4
            have h5 := h5 M m5
            have h6 := h6 M m6
            have h7 := h7 M m7
            have h8 := h8 M m8
            simp only [rObs_eq, rOut_eq] at h1 h2 h3 h4 h5 h6 h7 h8
            (rw [call_plain (fn := c6) rfl rfl (by simp only [go_sem, reduceIte, Nat.reduceEqDiff, Nat.reduceAdd, Nat.reduceSub, Nat.reduceMul, Nat.reduceLeDiff, Nat.reduceLT, Int.reduceNeg, Int.reduceEq, Int.reduceLT, Int.reduceLE, Int.reduceNe, Int.reduceToNat, Int.reduceAdd, Int.reduceMul, Int.reduceSub, Int.reduceBEq, a, g1, g2, g3, g4, aw, h1, h2, h3, h4, h5, h6, h7, h8]) rfl (by decide)]; simp only [c6, c6_b, c6_r1, c6_r3, go_sem, reduceIte, Nat.reduceEqDiff, Nat.reduceAdd, Nat.reduceSub, Nat.reduceMul, Nat.reduceLeDiff, Nat.reduceLT, Int.reduceNeg, Int.reduceEq, Int.reduceLT, Int.reduceLE, Int.reduceNe, Int.reduceToNat, Int.reduceAdd, Int.reduceMul, Int.reduceSub, Int.reduceBEq, a, g1, g2, g3, g4, aw, h1, h2, h3, h4, h5, h6, h7, h8])
  obtain ⟨N, h⟩ := main
  exact ⟨N, fun n hn => call_mono hn h⟩
end
end Go.PE
