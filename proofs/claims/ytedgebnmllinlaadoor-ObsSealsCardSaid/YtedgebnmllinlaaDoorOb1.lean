/-
  What is seen of values: the functions of packages val, obs and of the document. Conditions: each law's own.
-/
import Derived.Test.YtedgebnmllinlaaDoorPR
namespace Go.PE
open Go Go.RowKit Go.Proofs
set_option linter.unusedVariables false
set_option linter.unusedSimpArgs false
set_option maxRecDepth 100000
section
variable {ot : TypeId} {oz : Nat × Nat}

def stripS : GVal → GVal
  | .mk K N M In S At Types Labels (k :: ks) => if K = 8 then stripS k else .mk K N M In S At Types Labels (k :: ks)
  | v => v
theorem stripS_no {v : GVal} (h : (v.K == 8) = false) : stripS v = v := by
  obtain ⟨K, N, M, In, S, At, Types, Labels, Kids⟩ := v
  cases Kids with
  | nil => simp [stripS]
  | cons k ks => simp [GVal.K] at h; simp [stripS, h]
theorem stripS_nil {v : GVal} (h : v.Kids = []) : stripS v = v := by
  obtain ⟨K, N, M, In, S, At, Types, Labels, Kids⟩ := v
  simp only [GVal.Kids] at h; subst h; simp [stripS]
theorem stripS_kid {v k : GVal} {ks : List GVal} (h : (v.K == 8) = true) (hk : v.Kids = k :: ks) : stripS v = stripS k := by
  obtain ⟨K, N, M, In, S, At, Types, Labels, Kids⟩ := v
  simp only [GVal.Kids] at hk; subst hk; simp [GVal.K] at h; rw [stripS, if_pos h]

theorem strip_loop (z : List PV) : ∀ (v : GVal), ∃ N, ∀ n, N ≤ n → ∀ (S : St) fin st, (lvl (env ot oz) n).ev c46_l0 [(1, some (.ref S.obs.length 0)), (2, some (.ref (S.obs.length + 1) 0))] ⟨S.obs ++ [.cells 55 (rVal v), .cells 55 z], S.own⟩ (kont (env ot oz) fin st) =
    kont (env ot oz) fin st (.exit 0) [(1, some (.ref S.obs.length 0)), (2, some (.ref (S.obs.length + 1) 0)), (11, some (.bool false))] ⟨S.obs ++ [.cells 55 (rVal (stripS v)), .cells 55 z], S.own⟩ := by
  refine GVal.ind fun v ih => ?_
  cases hk : (v.K == 8) with
  | false =>
    refine ⟨1, fun n hn S fin st => ?_⟩
    obtain ⟨m, rfl⟩ : ∃ m, n = m + 1 := ⟨n - 1, by omega⟩
    (rw [c46_l0_step]; simp only [c46_l0_b, c46_r1, go_sem, reduceIte, Nat.reduceEqDiff, Nat.reduceAdd, Nat.reduceSub, Nat.reduceMul, Nat.reduceLeDiff, Nat.reduceLT, Int.reduceNeg, Int.reduceEq, Int.reduceLT, Int.reduceLE, Int.reduceNe, Int.reduceToNat, Int.reduceAdd, Int.reduceMul, Int.reduceSub, Int.reduceBEq, hk, stripS_no hk])
  | true =>
    cases hs : v.Kids with
    | nil =>
      refine ⟨1, fun n hn S fin st => ?_⟩
      obtain ⟨m, rfl⟩ : ∃ m, n = m + 1 := ⟨n - 1, by omega⟩
      (rw [c46_l0_step]; simp only [c46_l0_b, c46_r1, go_sem, reduceIte, Nat.reduceEqDiff, Nat.reduceAdd, Nat.reduceSub, Nat.reduceMul, Nat.reduceLeDiff, Nat.reduceLT, Int.reduceNeg, Int.reduceEq, Int.reduceLT, Int.reduceLE, Int.reduceNe, Int.reduceToNat, Int.reduceAdd, Int.reduceMul, Int.reduceSub, Int.reduceBEq, hk, hs, stripS_nil hs])
    | cons k ks =>
      obtain ⟨N, ih⟩ := ih k (by simp [hs])
      refine ⟨N + 1, fun n hn S fin st => ?_⟩
      obtain ⟨m, rfl⟩ : ∃ m, n = m + 1 := ⟨n - 1, by omega⟩
      have ih := ih m (by omega) S fin st
      (rw [c46_l0_step]; simp only [c46_l0_b, c46_r1, go_sem, reduceIte, Nat.reduceEqDiff, Nat.reduceAdd, Nat.reduceSub, Nat.reduceMul, Nat.reduceLeDiff, Nat.reduceLT, Int.reduceNeg, Int.reduceEq, Int.reduceLT, Int.reduceLE, Int.reduceNe, Int.reduceToNat, Int.reduceAdd, Int.reduceMul, Int.reduceSub, Int.reduceBEq, hk, hs, stripS_kid hk hs])
      exact ih
theorem strip_ok (v : GVal) : Ans (env ot oz) 46 [.agg (rVal v)] (.agg (rVal (stripS v))) := by
  obtain ⟨N, h⟩ := strip_loop (ot := ot) (oz := oz) [.int .i64 0, .int .i64 0, .int .i64 0, .bool false, .str ⟨#[]⟩, .str ⟨#[]⟩, .int .i64 0, .sl .null [], .sl .null [], .sl .null []] v
  refine ⟨N + 2, fun S => ?_⟩
  have h := h (N + 1) (by omega) S
  (rw [call_plain (fn := c46) rfl rfl (by simp only [go_sem, reduceIte, Nat.reduceEqDiff, Nat.reduceAdd, Nat.reduceSub, Nat.reduceMul, Nat.reduceLeDiff, Nat.reduceLT, Int.reduceNeg, Int.reduceEq, Int.reduceLT, Int.reduceLE, Int.reduceNe, Int.reduceToNat, Int.reduceAdd, Int.reduceMul, Int.reduceSub, Int.reduceBEq, h]) rfl (by decide)]; simp only [c46, c46_b, c46_r1, go_sem, reduceIte, Nat.reduceEqDiff, Nat.reduceAdd, Nat.reduceSub, Nat.reduceMul, Nat.reduceLeDiff, Nat.reduceLT, Int.reduceNeg, Int.reduceEq, Int.reduceLT, Int.reduceLE, Int.reduceNe, Int.reduceToNat, Int.reduceAdd, Int.reduceMul, Int.reduceSub, Int.reduceBEq, h])

theorem strip2_ok : ∀ (v : GVal), Ans (env ot oz) 47 [.agg (rVal v)] (.agg (rVal (stripS v))) := by
  refine GVal.ind fun v ih => ?_
  cases hk : (v.K == 8) with
  | false =>
    refine ⟨2, fun S => ?_⟩
    (rw [call_plain (fn := c47) rfl rfl (by simp only [go_sem, reduceIte, Nat.reduceEqDiff, Nat.reduceAdd, Nat.reduceSub, Nat.reduceMul, Nat.reduceLeDiff, Nat.reduceLT, Int.reduceNeg, Int.reduceEq, Int.reduceLT, Int.reduceLE, Int.reduceNe, Int.reduceToNat, Int.reduceAdd, Int.reduceMul, Int.reduceSub, Int.reduceBEq, hk, stripS_no hk]) rfl (by decide)]; simp only [c47, c47_b, c47_r1, go_sem, reduceIte, Nat.reduceEqDiff, Nat.reduceAdd, Nat.reduceSub, Nat.reduceMul, Nat.reduceLeDiff, Nat.reduceLT, Int.reduceNeg, Int.reduceEq, Int.reduceLT, Int.reduceLE, Int.reduceNe, Int.reduceToNat, Int.reduceAdd, Int.reduceMul, Int.reduceSub, Int.reduceBEq, hk, stripS_no hk])
  | true =>
    cases hs : v.Kids with
    | nil =>
      refine ⟨2, fun S => ?_⟩
      (rw [call_plain (fn := c47) rfl rfl (by simp only [go_sem, reduceIte, Nat.reduceEqDiff, Nat.reduceAdd, Nat.reduceSub, Nat.reduceMul, Nat.reduceLeDiff, Nat.reduceLT, Int.reduceNeg, Int.reduceEq, Int.reduceLT, Int.reduceLE, Int.reduceNe, Int.reduceToNat, Int.reduceAdd, Int.reduceMul, Int.reduceSub, Int.reduceBEq, hk, hs, stripS_nil hs]) rfl (by decide)]; simp only [c47, c47_b, c47_r1, go_sem, reduceIte, Nat.reduceEqDiff, Nat.reduceAdd, Nat.reduceSub, Nat.reduceMul, Nat.reduceLeDiff, Nat.reduceLT, Int.reduceNeg, Int.reduceEq, Int.reduceLT, Int.reduceLE, Int.reduceNe, Int.reduceToNat, Int.reduceAdd, Int.reduceMul, Int.reduceSub, Int.reduceBEq, hk, hs, stripS_nil hs])
    | cons k ks =>
      obtain ⟨N, h⟩ := (ih k (by simp [hs])).le
      refine ⟨N + 2, fun S => ?_⟩
      have h := h N (by omega)
      (rw [call_plain (fn := c47) rfl rfl (by simp only [go_sem, reduceIte, Nat.reduceEqDiff, Nat.reduceAdd, Nat.reduceSub, Nat.reduceMul, Nat.reduceLeDiff, Nat.reduceLT, Int.reduceNeg, Int.reduceEq, Int.reduceLT, Int.reduceLE, Int.reduceNe, Int.reduceToNat, Int.reduceAdd, Int.reduceMul, Int.reduceSub, Int.reduceBEq, hk, hs, stripS_kid hk hs, h]) rfl (by decide)]; simp only [c47, c47_b, c47_r1, go_sem, reduceIte, Nat.reduceEqDiff, Nat.reduceAdd, Nat.reduceSub, Nat.reduceMul, Nat.reduceLeDiff, Nat.reduceLT, Int.reduceNeg, Int.reduceEq, Int.reduceLT, Int.reduceLE, Int.reduceNe, Int.reduceToNat, Int.reduceAdd, Int.reduceMul, Int.reduceSub, Int.reduceBEq, hk, hs, stripS_kid hk hs, h])

def funS (v : GVal) : Bool := v.K == 5 || v.K == 6 || v.K == 7
theorem fun_ok (v : GVal) : Ans (env ot oz) 48 [.agg (rVal v)] (.bool (funS v)) := by
  refine ⟨2, fun S => ?_⟩
  cases h5 : (v.K == 5) <;> cases h6 : (v.K == 6) <;> cases h7 : (v.K == 7) <;> (rw [call_plain (fn := c48) rfl rfl (by simp only [go_sem, reduceIte, Nat.reduceEqDiff, Nat.reduceAdd, Nat.reduceSub, Nat.reduceMul, Nat.reduceLeDiff, Nat.reduceLT, Int.reduceNeg, Int.reduceEq, Int.reduceLT, Int.reduceLE, Int.reduceNe, Int.reduceToNat, Int.reduceAdd, Int.reduceMul, Int.reduceSub, Int.reduceBEq, funS, h5, h6, h7]) rfl (by decide)]; simp only [c48, c48_b, c48_r1, go_sem, reduceIte, Nat.reduceEqDiff, Nat.reduceAdd, Nat.reduceSub, Nat.reduceMul, Nat.reduceLeDiff, Nat.reduceLT, Int.reduceNeg, Int.reduceEq, Int.reduceLT, Int.reduceLE, Int.reduceNe, Int.reduceToNat, Int.reduceAdd, Int.reduceMul, Int.reduceSub, Int.reduceBEq, funS, h5, h6, h7])

def obsW (w : GVal) : GObs :=
  if w.K == 1 then ⟨1, w.N, ⟨#[]⟩⟩ else if w.K == 2 then ⟨2, w.N, ⟨#[]⟩⟩ else if w.K == 3 then ⟨3, 0, w.S⟩ else if funS w then ⟨4, 0, ⟨#[]⟩⟩ else if w.K == 4 then ⟨5, 0, ⟨#[]⟩⟩ else ⟨0, 0, ⟨#[]⟩⟩
def obsS (v : GVal) : GObs := obsW (stripS v)

theorem obs2_ok (v : GVal) : Ans (env ot oz) 26 [.agg (rVal v)] (.agg (rObs (obsS v))) := by
  obtain ⟨N, h⟩ := (strip2_ok (ot := ot) (oz := oz) v).le
  obtain ⟨M, g⟩ := (fun_ok (ot := ot) (oz := oz) (stripS v)).le
  refine ⟨N + M + 2, fun S => ?_⟩
  have h := h (N + M) (by omega)
  have g := g (N + M) (by omega)
  have e : obsS v = obsW (stripS v) := rfl
  generalize stripS v = w at *
  cases h1 : (w.K == 1) <;> cases h2 : (w.K == 2) <;> cases h3 : (w.K == 3) <;> cases h4 : funS w <;> cases h5 : (w.K == 4) <;> simp only [e, obsW, h1, h2, h3, h4, h5, if_true, if_false, Bool.false_eq_true] <;>
    (rw [call_plain (fn := c26) rfl rfl (by simp only [go_sem, reduceIte, Nat.reduceEqDiff, Nat.reduceAdd, Nat.reduceSub, Nat.reduceMul, Nat.reduceLeDiff, Nat.reduceLT, Int.reduceNeg, Int.reduceEq, Int.reduceLT, Int.reduceLE, Int.reduceNe, Int.reduceToNat, Int.reduceAdd, Int.reduceMul, Int.reduceSub, Int.reduceBEq, h, g, h1, h2, h3, h4, h5]) rfl (by decide)]; simp only [c26, c26_b, go_sem, reduceIte, Nat.reduceEqDiff, Nat.reduceAdd, Nat.reduceSub, Nat.reduceMul, Nat.reduceLeDiff, Nat.reduceLT, Int.reduceNeg, Int.reduceEq, Int.reduceLT, Int.reduceLE, Int.reduceNe, Int.reduceToNat, Int.reduceAdd, Int.reduceMul, Int.reduceSub, Int.reduceBEq, h, g, h1, h2, h3, h4, h5])

theorem obs_ok (v : GVal) : Ans (env ot oz) 25 [.agg (rVal v)] (.agg (rObs (obsS v))) := by
  obtain ⟨N, h⟩ := (strip_ok (ot := ot) (oz := oz) v).le
  refine ⟨N + 2, fun S => ?_⟩
  have h := h N (by omega)
  have e : obsS v = obsW (stripS v) := rfl
  have gt : (env ot oz).G.tab 0 = some [.int .i64 0, .int .i64 1, .int .i64 2, .int .i64 3, .int .i64 5, .int .i64 4, .int .i64 4, .int .i64 4, .int .i64 0] := rfl
  generalize stripS v = w at *
  by_cases hl : w.K < 0
  · have hz : obsW w = ⟨0, 0, ⟨#[]⟩⟩ := by
      have h1 : (w.K == 1) = false := by simp; omega
      have h2 : (w.K == 2) = false := by simp; omega
      have h3 : (w.K == 3) = false := by simp; omega
      have h4 : (w.K == 4) = false := by simp; omega
      have h5 : (w.K == 5) = false := by simp; omega
      have h6 : (w.K == 6) = false := by simp; omega
      have h7 : (w.K == 7) = false := by simp; omega
      simp [obsW, funS, h1, h2, h3, h4, h5, h6, h7]
    (rw [call_plain (fn := c25) rfl rfl (by simp only [go_sem, reduceIte, Nat.reduceEqDiff, Nat.reduceAdd, Nat.reduceSub, Nat.reduceMul, Nat.reduceLeDiff, Nat.reduceLT, Int.reduceNeg, Int.reduceEq, Int.reduceLT, Int.reduceLE, Int.reduceNe, Int.reduceToNat, Int.reduceAdd, Int.reduceMul, Int.reduceSub, Int.reduceBEq, h, gt, e, hz, hl]) rfl (by decide)]; simp only [c25, c25_b, c25_r2, go_sem, reduceIte, Nat.reduceEqDiff, Nat.reduceAdd, Nat.reduceSub, Nat.reduceMul, Nat.reduceLeDiff, Nat.reduceLT, Int.reduceNeg, Int.reduceEq, Int.reduceLT, Int.reduceLE, Int.reduceNe, Int.reduceToNat, Int.reduceAdd, Int.reduceMul, Int.reduceSub, Int.reduceBEq, h, gt, e, hz, hl])
  · by_cases hh : 9 ≤ w.K
    · have hz : obsW w = ⟨0, 0, ⟨#[]⟩⟩ := by
        have h1 : (w.K == 1) = false := by simp; omega
        have h2 : (w.K == 2) = false := by simp; omega
        have h3 : (w.K == 3) = false := by simp; omega
        have h4 : (w.K == 4) = false := by simp; omega
        have h5 : (w.K == 5) = false := by simp; omega
        have h6 : (w.K == 6) = false := by simp; omega
        have h7 : (w.K == 7) = false := by simp; omega
        simp [obsW, funS, h1, h2, h3, h4, h5, h6, h7]
      (rw [call_plain (fn := c25) rfl rfl (by simp only [go_sem, reduceIte, Nat.reduceEqDiff, Nat.reduceAdd, Nat.reduceSub, Nat.reduceMul, Nat.reduceLeDiff, Nat.reduceLT, Int.reduceNeg, Int.reduceEq, Int.reduceLT, Int.reduceLE, Int.reduceNe, Int.reduceToNat, Int.reduceAdd, Int.reduceMul, Int.reduceSub, Int.reduceBEq, h, gt, e, hz, hl, hh]) rfl (by decide)]; simp only [c25, c25_b, c25_r2, go_sem, reduceIte, Nat.reduceEqDiff, Nat.reduceAdd, Nat.reduceSub, Nat.reduceMul, Nat.reduceLeDiff, Nat.reduceLT, Int.reduceNeg, Int.reduceEq, Int.reduceLT, Int.reduceLE, Int.reduceNe, Int.reduceToNat, Int.reduceAdd, Int.reduceMul, Int.reduceSub, Int.reduceBEq, h, gt, e, hz, hl, hh])
    · have hc : w.K = 0 ∨ w.K = 1 ∨ w.K = 2 ∨ w.K = 3 ∨ w.K = 4 ∨ w.K = 5 ∨ w.K = 6 ∨ w.K = 7 ∨ w.K = 8 := by omega
      rcases hc with hc | hc | hc | hc | hc | hc | hc | hc | hc <;> (rw [call_plain (fn := c25) rfl rfl (by simp only [go_sem, reduceIte, Nat.reduceEqDiff, Nat.reduceAdd, Nat.reduceSub, Nat.reduceMul, Nat.reduceLeDiff, Nat.reduceLT, Int.reduceNeg, Int.reduceEq, Int.reduceLT, Int.reduceLE, Int.reduceNe, Int.reduceToNat, Int.reduceAdd, Int.reduceMul, Int.reduceSub, Int.reduceBEq, h, gt, e, obsW, funS, hc, Int.reduceBEq]) rfl (by decide)]; simp only [c25, c25_b, c25_r2, go_sem, reduceIte, Nat.reduceEqDiff, Nat.reduceAdd, Nat.reduceSub, Nat.reduceMul, Nat.reduceLeDiff, Nat.reduceLT, Int.reduceNeg, Int.reduceEq, Int.reduceLT, Int.reduceLE, Int.reduceNe, Int.reduceToNat, Int.reduceAdd, Int.reduceMul, Int.reduceSub, Int.reduceBEq, h, gt, e, obsW, funS, hc, Int.reduceBEq])

def kindO (o : GObs) : Int := if o.K == 1 || o.K == 2 || o.K == 3 then 1 else if o.K == 4 || o.K == 5 then 2 else 0
theorem kind_ok (o : GObs) : Ans (env ot oz) 29 [.agg (rObs o)] (.int .i64 (kindO o)) := by
  refine ⟨2, fun S => ?_⟩
  cases h1 : (o.K == 1) <;> cases h2 : (o.K == 2) <;> cases h3 : (o.K == 3) <;> cases h4 : (o.K == 4) <;> cases h5 : (o.K == 5) <;> (rw [call_plain (fn := c29) rfl rfl (by simp only [go_sem, reduceIte, Nat.reduceEqDiff, Nat.reduceAdd, Nat.reduceSub, Nat.reduceMul, Nat.reduceLeDiff, Nat.reduceLT, Int.reduceNeg, Int.reduceEq, Int.reduceLT, Int.reduceLE, Int.reduceNe, Int.reduceToNat, Int.reduceAdd, Int.reduceMul, Int.reduceSub, Int.reduceBEq, kindO, h1, h2, h3, h4, h5]) rfl (by decide)]; simp only [c29, c29_b, go_sem, reduceIte, Nat.reduceEqDiff, Nat.reduceAdd, Nat.reduceSub, Nat.reduceMul, Nat.reduceLeDiff, Nat.reduceLT, Int.reduceNeg, Int.reduceEq, Int.reduceLT, Int.reduceLE, Int.reduceNe, Int.reduceToNat, Int.reduceAdd, Int.reduceMul, Int.reduceSub, Int.reduceBEq, kindO, h1, h2, h3, h4, h5])
theorem kind2_ok (o : GObs) : Ans (env ot oz) 30 [.agg (rObs o)] (.int .i64 (kindO o)) := by
  refine ⟨2, fun S => ?_⟩
  cases h1 : (o.K == 1) <;> cases h2 : (o.K == 2) <;> cases h3 : (o.K == 3) <;> cases h4 : (o.K == 4) <;> cases h5 : (o.K == 5) <;> (rw [call_plain (fn := c30) rfl rfl (by simp only [go_sem, reduceIte, Nat.reduceEqDiff, Nat.reduceAdd, Nat.reduceSub, Nat.reduceMul, Nat.reduceLeDiff, Nat.reduceLT, Int.reduceNeg, Int.reduceEq, Int.reduceLT, Int.reduceLE, Int.reduceNe, Int.reduceToNat, Int.reduceAdd, Int.reduceMul, Int.reduceSub, Int.reduceBEq, kindO, h1, h2, h3, h4, h5]) rfl (by decide)]; simp only [c30, c30_b, c30_r1, c30_r3, go_sem, reduceIte, Nat.reduceEqDiff, Nat.reduceAdd, Nat.reduceSub, Nat.reduceMul, Nat.reduceLeDiff, Nat.reduceLT, Int.reduceNeg, Int.reduceEq, Int.reduceLT, Int.reduceLE, Int.reduceNe, Int.reduceToNat, Int.reduceAdd, Int.reduceMul, Int.reduceSub, Int.reduceBEq, kindO, h1, h2, h3, h4, h5])
end
end Go.PE
