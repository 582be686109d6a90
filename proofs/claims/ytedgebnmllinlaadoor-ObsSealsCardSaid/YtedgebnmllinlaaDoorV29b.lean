/-
  Values that are right: what they are made of, too. Seals are not seen. Conditions: each law's own.
-/
import Derived.Test.YtedgebnmllinlaaDoorV29
import Derived.Test.YtedgebnmllinlaaDoorObL
namespace Go.PE
open Go Go.RowKit Go.Proofs
set_option linter.unusedVariables false
set_option linter.unusedSimpArgs false
set_option maxRecDepth 100000
section
variable {ot : TypeId} {oz : Nat × Nat}
theorem right29_l0 (v : GVal) (ht : Short v.Kids.length) (N : Nat) (S : St) (fin : Kont (PV × St)) (st : List Fr) : ∀ (rest : List GVal) (i : Nat), v.Kids.drop i = rest → (∀ a ∈ rest, ∀ m, N ≤ m → ∀ S, (lvl (env ot oz) m).call 33 [.agg (rVal a)] S = some (.bool (rightV a), S)) → ∀ n, rest.length + N + 2 ≤ n →
    (lvl (env ot oz) n).ev c33_l0 [(1, some (.at_ (rVal v))), (3, some (.int .i64 (i : Int)))] S (kont (env ot oz) fin st) =
      if rightVs rest then kont (env ot oz) fin st (.exit 0) [(1, some (.at_ (rVal v))), (3, some (.int .i64 ((i + rest.length : Nat) : Int))), (11, some (.bool false))] S else kont (env ot oz) fin st .ret [(2, some (.bool false))] S
  | [], i, h, hc, n, hn => by
    obtain ⟨k, rfl⟩ : ∃ k, n = k + 1 := ⟨n - 1, by omega⟩
    have hlt := lt_no (drop_nil h)
    (rw [c33_l0_step]; simp only [c33_l0_b, go_sem, reduceIte, Nat.reduceEqDiff, Nat.reduceAdd, Nat.reduceSub, Nat.reduceMul, Nat.reduceLeDiff, Nat.reduceLT, Int.reduceNeg, Int.reduceEq, Int.reduceLT, Int.reduceLE, Int.reduceNe, Int.reduceToNat, Int.reduceAdd, Int.reduceMul, Int.reduceSub, Int.reduceBEq, hlt, rightVs])
  | a :: r, i, h, hc, n, hn => by
    obtain ⟨k, rfl⟩ : ∃ k, n = k + 1 := ⟨n - 1, by omega⟩
    obtain ⟨h1, h2, h3⟩ := drop_cons h
    unfold Short maxLen at ht
    simp only [List.length_cons] at hn
    have e : i + (a :: r).length = i + 1 + r.length := by simp only [List.length_cons]; omega
    have w := wrap_succ (i := i) (n := v.Kids.length) h3 (by omega)
    have hlt : (i : Int) < (v.Kids.length : Int) := by omega
    have ih := right29_l0 v (by unfold Short maxLen; omega) N S fin st r (i + 1) h2 (fun x hx => hc x (List.mem_cons_of_mem _ hx)) k (by omega)
    have ca := hc a (by simp) k (by omega)
    rw [e]
    cases q : rightV a <;> (rw [c33_l0_step]; simp only [c33_l0_b, go_sem, reduceIte, Nat.reduceEqDiff, Nat.reduceAdd, Nat.reduceSub, Nat.reduceMul, Nat.reduceLeDiff, Nat.reduceLT, Int.reduceNeg, Int.reduceEq, Int.reduceLT, Int.reduceLE, Int.reduceNe, Int.reduceToNat, Int.reduceAdd, Int.reduceMul, Int.reduceSub, Int.reduceBEq, hlt, h1, q, w, ih, ca, rightVs])
theorem right29_ok : ∀ (v : GVal), OkVal v → Ans (env ot oz) 33 [.agg (rVal v)] (.bool (rightV v)) := by
  refine GVal.ind fun v ih ok => ?_
  have hA : Short v.Kids.length ∧ (∀ x ∈ v.Kids, OkVal x) := by
    cases ok with | mk K N M In S At Types Labels Kids h1 h2 h3 h4 h5 hT hL hK hK' => exact ⟨hK, hK'⟩
  obtain ⟨A, hA1⟩ := all_le (p := fun n (a : GVal) => ∀ S, (lvl (env ot oz) n).call 33 [.agg (rVal a)] S = some (.bool (rightV a), S)) (fun n m k hm h S => call_mono hm (h S)) (l := v.Kids) (fun a ha => ih a ha (hA.2 a ha))
  obtain ⟨B, b⟩ := (own_ok (ot := ot) (oz := oz) v ok).le
  refine ⟨v.Kids.length + A + B + 4, fun S => ?_⟩
  have f0 := fun fin st => right29_l0 (ot := ot) (oz := oz) v hA.1 A S fin st v.Kids 0 rfl (fun a ha m hm S => call_mono hm (hA1 a ha S)) (v.Kids.length + A + B + 3) (by omega)
  have b := b (v.Kids.length + A + B + 2) (by omega)
  have e := rightV_eq v
  simp only [Int.cast_ofNat_Int] at f0
  cases q : ownV v <;> cases q2 : rightVs v.Kids <;> simp only [q, q2, if_true, if_false, Bool.false_eq_true, Bool.and_self, Bool.and_false, Bool.false_and] at f0 e <;> (rw [call_plain (fn := c33) rfl rfl (by simp only [go_sem, reduceIte, Nat.reduceEqDiff, Nat.reduceAdd, Nat.reduceSub, Nat.reduceMul, Nat.reduceLeDiff, Nat.reduceLT, Int.reduceNeg, Int.reduceEq, Int.reduceLT, Int.reduceLE, Int.reduceNe, Int.reduceToNat, Int.reduceAdd, Int.reduceMul, Int.reduceSub, Int.reduceBEq, b, q, f0, e]) rfl (by decide)]; simp only [c33, c33_b, go_sem, reduceIte, Nat.reduceEqDiff, Nat.reduceAdd, Nat.reduceSub, Nat.reduceMul, Nat.reduceLeDiff, Nat.reduceLT, Int.reduceNeg, Int.reduceEq, Int.reduceLT, Int.reduceLE, Int.reduceNe, Int.reduceToNat, Int.reduceAdd, Int.reduceMul, Int.reduceSub, Int.reduceBEq, b, q, f0, e])
theorem right_seen : ∀ (v : GVal), rightV v = true → (0 : Int) < kindO (obsS v) := by
  refine GVal.ind fun v ih h => ?_
  rw [rightV_eq, Bool.and_eq_true] at h
  obtain ⟨h1, h2⟩ := h
  by_cases h8 : (v.K == 8) = true
  · have : v.Kids.length = 1 := by
      unfold ownV at h1
      simp only [Bool.and_eq_true] at h1
      have e : v.K = 8 := by simpa using h8
      simp [e] at h1
      omega
    match hk : v.Kids, this with
    | [k], _ =>
      rw [hk] at h2
      simp only [rightVs, Bool.and_true] at h2
      have := ih k (by rw [hk]; simp) h2
      unfold obsS at this ⊢
      rwa [stripS_kid h8 hk]
  · have h8' : (v.K == 8) = false := by simpa using h8
    unfold obsS
    rw [stripS_no h8']
    unfold ownV tailV at h1
    simp only [Bool.and_eq_true] at h1
    have h1 := h1.2
    unfold obsW kindO funS
    cases a1 : (v.K == 1) <;> cases a2 : (v.K == 2) <;> cases a3 : (v.K == 3) <;> cases a4 : (v.K == 4) <;> cases a5 : (v.K == 5) <;> cases a6 : (v.K == 6) <;> cases a7 : (v.K == 7) <;> simp_all
end
end Go.PE
