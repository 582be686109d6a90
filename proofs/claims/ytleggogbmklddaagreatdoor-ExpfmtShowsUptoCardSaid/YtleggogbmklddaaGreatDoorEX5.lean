/-
  Expressions that are right, by the program. Conditions: each law's own.
-/
import Derived.Test.YtleggogbmklddaaGreatDoorEX4
namespace Go.PE
open Go Go.RowKit Go.Proofs
set_option linter.unusedVariables false
set_option linter.unusedSimpArgs false
set_option maxRecDepth 100000
def wordE (e : GExp) : Bool := if (e.K == 4) || (e.K == 5) || (e.K == 7) || (e.K == 10) || (e.K == 13) then fineS e.Name else if e.K == 3 then decide ((e.Name.size : Int) ≤ 40) else strEq e.Name ⟨#[]⟩
def numE (e : GExp) : Bool := if e.K == 1 then decide (0 ≤ e.N) else if e.K == 2 then (e.N == 0) || (e.N == 1) else if e.K == 11 then decide (1 ≤ e.N) && decide (e.N ≤ 7) else e.N == 0
def typE (e : GExp) : Bool := if (e.K == 5) || (e.K == 7) then decide ((e.Types.length : Int) ≤ 1) else if e.K == 12 then ((e.Types.length : Int) == 1) else if e.K == 13 then (if e.Has then decide (1 ≤ (e.Types.length : Int)) && decide ((e.Types.length : Int) ≤ 3) else ((e.Types.length : Int) == 0)) else ((e.Types.length : Int) == 0)
def beaE (e : GExp) : Bool :=
  if (e.K == 1) || (e.K == 2) || (e.K == 3) || (e.K == 4) then ((e.Kids.length : Int) == 0) else if (e.K == 7) || (e.K == 10) || (e.K == 12) then ((e.Kids.length : Int) == 1)
  else if (e.K == 5) || (e.K == 8) || (e.K == 11) then ((e.Kids.length : Int) == 2) else if e.K == 6 then ((e.Kids.length : Int) == 3)
  else if e.K == 9 then ((e.Kids.length : Int) == (e.Labels.length : Int)) && (decide ((e.Kids.length : Int) ≤ 6) && risingS e.Labels) else if e.K == 13 then decide ((e.Kids.length : Int) ≤ 4) else false
section
variable {ot : TypeId} {oz : EP}
theorem wordP (e : GExp) (S : St) : cal (env ot oz) 37 [.agg (rExp e)] S = some (.bool (wordE e), S) := by
  have f := nfine (ot := ot) (oz := oz) e.Name
  (rw [w_plain (fn := c37) rfl rfl (by simp only [go_sem, f]) rfl (by decide)]; simp only [c37, c37_b, go_sem, f]; repeat' (first | (rw [guardO_t]; split <;> rename_i h <;> (try rw [Bool.not_eq_true] at h) <;> (try simp only [go_sem, f, *])) | (rw [guardO_f]; split <;> rename_i h <;> (try rw [Bool.not_eq_true] at h) <;> (try simp only [go_sem, f, *])) | (rw [cw_bool]; split <;> rename_i h <;> (try rw [Bool.not_eq_true] at h) <;> (try simp only [go_sem, f, *])))) <;> (try simp_all [wordE]) <;> (try omega)
theorem numP (e : GExp) (S : St) : cal (env ot oz) 38 [.agg (rExp e)] S = some (.bool (numE e), S) := by
  (rw [w_plain (fn := c38) rfl rfl (by simp only [go_sem]) rfl (by decide)]; simp only [c38, c38_b, c38_r5, c38_r7, go_sem]; repeat' (first | (rw [guardO_t]; split <;> rename_i h <;> (try rw [Bool.not_eq_true] at h) <;> (try simp only [go_sem, c38_r5, c38_r7, *])) | (rw [guardO_f]; split <;> rename_i h <;> (try rw [Bool.not_eq_true] at h) <;> (try simp only [go_sem, c38_r5, c38_r7, *])) | (rw [cw_bool]; split <;> rename_i h <;> (try rw [Bool.not_eq_true] at h) <;> (try simp only [go_sem, c38_r5, c38_r7, *])))) <;> (try simp_all [numE]) <;> (try omega)
theorem typP (e : GExp) (S : St) : cal (env ot oz) 39 [.agg (rExp e)] S = some (.bool (typE e), S) := by
  cases q : e.Has <;> (rw [w_plain (fn := c39) rfl rfl (by simp only [go_sem, q]) rfl (by decide)]; simp only [c39, c39_b, c39_r9, go_sem, q]; repeat' (first | (rw [guardO_t]; split <;> rename_i h <;> (try rw [Bool.not_eq_true] at h) <;> (try simp only [go_sem, c39_r9, q, *])) | (rw [guardO_f]; split <;> rename_i h <;> (try rw [Bool.not_eq_true] at h) <;> (try simp only [go_sem, c39_r9, q, *])) | (rw [cw_bool]; split <;> rename_i h <;> (try rw [Bool.not_eq_true] at h) <;> (try simp only [go_sem, c39_r9, q, *])))) <;> (try simp_all [typE]) <;> (try omega)
theorem beaP (e : GExp) (hl : Short e.Labels.length) (S : St) : cal (env ot oz) 40 [.agg (rExp e)] S = some (.bool (beaE e), S) := by
  have f := nrising (ot := ot) (oz := oz) e.Labels hl
  (rw [w_plain (fn := c40) rfl rfl (by simp only [go_sem, f]) rfl (by decide)]; simp only [c40, c40_b, c40_r19, go_sem, f]; repeat' (first | (rw [guardO_t]; split <;> rename_i h <;> (try rw [Bool.not_eq_true] at h) <;> (try simp only [go_sem, c40_r19, f, *])) | (rw [guardO_f]; split <;> rename_i h <;> (try rw [Bool.not_eq_true] at h) <;> (try simp only [go_sem, c40_r19, f, *])) | (rw [cw_bool]; split <;> rename_i h <;> (try rw [Bool.not_eq_true] at h) <;> (try simp only [go_sem, c40_r19, f, *])))) <;> (try simp_all [beaE]) <;> (try omega)
end
theorem own_eq (e : GExp) : ownE e = (!((!(e.K == 9) && decide (0 < e.Labels.length)) || (!(e.K == 13) && e.Has)) && (wordE e && (numE e && (typE e && (beaE e && typesOk e.Types))))) := by
  have hr : risingS [] = true := rfl
  have hL : decide (0 < e.Labels.length) = false → risingS e.Labels = true := fun h => by
    have h' : e.Labels = [] := List.eq_nil_of_length_eq_zero (by simpa using h)
    rw [h']; rfl
  have ht : (0 : Int) ≤ (e.Types.length : Int) := by omega
  have hk : (0 : Int) ≤ (e.Kids.length : Int) := by omega
  simp only [ownE, wordE, numE, typE, beaE, shpE, l0E, labE]
  generalize strEq e.Name ⟨#[]⟩ = sn
  generalize fineS e.Name = fn
  generalize (e.Name.size : Int) = sz
  generalize typesOk e.Types = ty
  generalize risingS e.Labels = ri at *
  generalize (e.Types.length : Int) = t at *
  generalize (e.Kids.length : Int) = k at *
  generalize e.Labels.length = n at *
  generalize e.K = K at *
  generalize e.N = N at *
  generalize e.Has = H at *
  by_cases h1 : K = 1
  · subst h1; grind
  by_cases h2 : K = 2
  · subst h2; grind
  by_cases h3 : K = 3
  · subst h3; grind
  by_cases h4 : K = 4
  · subst h4; grind
  by_cases h5 : K = 5
  · subst h5; grind
  by_cases h6 : K = 6
  · subst h6; grind
  by_cases h7 : K = 7
  · subst h7; grind
  by_cases h8 : K = 8
  · subst h8; grind
  by_cases h9 : K = 9
  · subst h9; grind
  by_cases h10 : K = 10
  · subst h10; grind
  by_cases h11 : K = 11
  · subst h11; grind
  by_cases h12 : K = 12
  · subst h12; grind
  by_cases h13 : K = 13
  · subst h13; grind
  have hb : ∀ c : Int, K ≠ c → (K == c) = false := fun c h => by simpa using h
  simp only [h1, h2, h3, h4, h5, h6, h7, h8, h9, h10, h11, h12, h13, if_false, hb _ h1, hb _ h2, hb _ h3, hb _ h4, hb _ h5, hb _ h6, hb _ h7, hb _ h8, hb _ h9, hb _ h10, hb _ h11, hb _ h12, hb _ h13, Bool.false_eq_true, Bool.or_self, Bool.false_and, Bool.and_false]
section
variable {ot : TypeId} {oz : EP}
set_option maxHeartbeats 4000000 in
theorem rightP : ∀ (e : GExp), OkExp e → ∀ S, cal (env ot oz) 22 [.agg (rExp e)] S = some (.bool (rightE e), S) := by
  refine GExp.ind fun e ih ok S => ?_
  obtain ⟨⟨a1, a2⟩, ⟨b1, b2⟩, hl⟩ := okExp_a ok
  have k1 := wordP (ot := ot) (oz := oz) e
  have k2 := numP (ot := ot) (oz := oz) e
  have k3 := typP (ot := ot) (oz := oz) e
  have k4 := beaP (ot := ot) (oz := oz) e hl
  have k5 := allPTy (ot := ot) (oz := oz) e.Types (fun t => rightT t && !(hasT 9 t)) b1 42 S fun t ht => fineP (ot := ot) (oz := oz) t (b2 t ht) S
  have k6 := allPExp (ot := ot) (oz := oz) e.Kids rightE a1 22 S fun k hk => ih k hk (a2 k hk) S
  have e1 : (e.Types.all fun t => rightT t && !(hasT 9 t)) = typesOk e.Types := rfl
  rw [e1] at k5
  rw [← rightEs_all] at k6
  have e0 := rightE_eq e
  rw [own_eq] at e0
  rw [e0]; clear e0
  have n9 : (e.K != 9) = !(e.K == 9) := rfl
  have n13 : (e.K != 13) = !(e.K == 13) := rfl
  clear ih ok a1 a2 b1 b2 hl e1
  have go : ∀ (h9 : (e.K == 9) = true ∨ (e.K == 9) = false ∧ decide (0 < e.Labels.length) = false), cal (env ot oz) 22 [.agg (rExp e)] S = some (.bool (!(!(e.K == 13) && e.Has) && (wordE e && (numE e && (typE e && (beaE e && typesOk e.Types)))) && rightEs e.Kids), S) := by
    intro h9
    cases q4 : (e.K == 13) <;> cases q2 : e.Has <;> rcases h9 with q3 | ⟨q3, q1⟩ <;> cases q5 : wordE e <;> cases q6 : numE e <;> cases q7 : typE e <;>
      first | ((rw [w_plain (fn := c22) rfl rfl (by simp only [go_sem, k1, k2, k3, k4, k5, k6, q2, q3, q4, n9, n13, q5, q6, q7]) rfl (by decide)]; simp only [c22, c22_b, c22_r1, c22_r3, go_sem, k1, k2, k3, k4, k5, k6, q2, q3, q4, n9, n13, q5, q6, q7]; repeat' (first | (rw [guardO_t]; split <;> rename_i h <;> (try rw [Bool.not_eq_true] at h) <;> (try simp only [go_sem, c22_r1, c22_r3, k1, k2, k3, k4, k5, k6, q2, q3, q4, n9, n13, q5, q6, q7, *])) | (rw [guardO_f]; split <;> rename_i h <;> (try rw [Bool.not_eq_true] at h) <;> (try simp only [go_sem, c22_r1, c22_r3, k1, k2, k3, k4, k5, k6, q2, q3, q4, n9, n13, q5, q6, q7, *])) | (rw [cw_bool]; split <;> rename_i h <;> (try rw [Bool.not_eq_true] at h) <;> (try simp only [go_sem, c22_r1, c22_r3, k1, k2, k3, k4, k5, k6, q2, q3, q4, n9, n13, q5, q6, q7, *])))) <;> (try simp_all [Bool.and_assoc]) <;> (try omega); done) | (rw [w_plain (fn := c22) rfl rfl (by simp only [go_sem, k1, k2, k3, k4, k5, k6, q1, q2, q3, q4, n9, n13, q5, q6, q7]) rfl (by decide)]; simp only [c22, c22_b, c22_r1, c22_r3, go_sem, k1, k2, k3, k4, k5, k6, q1, q2, q3, q4, n9, n13, q5, q6, q7]; repeat' (first | (rw [guardO_t]; split <;> rename_i h <;> (try rw [Bool.not_eq_true] at h) <;> (try simp only [go_sem, c22_r1, c22_r3, k1, k2, k3, k4, k5, k6, q1, q2, q3, q4, n9, n13, q5, q6, q7, *])) | (rw [guardO_f]; split <;> rename_i h <;> (try rw [Bool.not_eq_true] at h) <;> (try simp only [go_sem, c22_r1, c22_r3, k1, k2, k3, k4, k5, k6, q1, q2, q3, q4, n9, n13, q5, q6, q7, *])) | (rw [cw_bool]; split <;> rename_i h <;> (try rw [Bool.not_eq_true] at h) <;> (try simp only [go_sem, c22_r1, c22_r3, k1, k2, k3, k4, k5, k6, q1, q2, q3, q4, n9, n13, q5, q6, q7, *])))) <;> (try simp_all [Bool.and_assoc]) <;> (try omega)
  cases q3 : (e.K == 9) with
  | true => rw [go (.inl q3)]; simp
  | false =>
    cases q1 : decide (0 < e.Labels.length) with
    | false => rw [go (.inr ⟨q3, q1⟩)]; simp
    | true => (rw [w_plain (fn := c22) rfl rfl (by simp only [go_sem, q1, q3, n9]) rfl (by decide)]; simp only [c22, c22_b, c22_r1, c22_r3, go_sem, q1, q3, n9]; repeat' (first | (rw [guardO_t]; split <;> rename_i h <;> (try rw [Bool.not_eq_true] at h) <;> (try simp only [go_sem, c22_r1, c22_r3, q1, q3, n9, *])) | (rw [guardO_f]; split <;> rename_i h <;> (try rw [Bool.not_eq_true] at h) <;> (try simp only [go_sem, c22_r1, c22_r3, q1, q3, n9, *])) | (rw [cw_bool]; split <;> rename_i h <;> (try rw [Bool.not_eq_true] at h) <;> (try simp only [go_sem, c22_r1, c22_r3, q1, q3, n9, *]))))
end
end Go.PE
