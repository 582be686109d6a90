/-
  How much a value has. Conditions: each law's own.
-/
import Derived.Test.YtedgebnmllinlaaDoorMuch
namespace Go.PE
open Go Go.RowKit Go.Proofs
set_option linter.unusedVariables false
set_option linter.unusedSimpArgs false
set_option maxRecDepth 100000
section
variable {ot : TypeId} {oz : Nat × Nat}

mutual
def muchV : GVal → Int
  | .mk K N M In S At Types Labels Kids => muchVs (muchTs (w64 (w64 (w64 (1 + w64 ((S.size : Int).tdiv 8)) + (Labels.length : Int)) + w64 ((At.Def.size : Int).tdiv 8))) Types) Kids
def muchVs : Int → List GVal → Int
  | n, [] => n
  | n, a :: r => if n < 3000 then muchVs (w64 (n + muchV a)) r else n
end

theorem muchV_l0 (t : GVal) (ht : Short t.Types.length) (N : Nat) : ∀ (rest : List GTy) (i : Nat) (n : Int), t.Types.drop i = rest → (∀ a ∈ rest, ∀ m, N ≤ m → ∀ S, (lvl (env ot oz) m).call 34 [.agg (rTy a)] S = some (.int .i64 (muchT a), S)) → ∃ i' : Int, ∀ f, rest.length + N + 2 ≤ f → ∀ (S : St) (fin : Kont (PV × St)) (st : List Fr),
    (lvl (env ot oz) f).ev c23_l0 [(1, some (.at_ (rVal t))), (3, some (.int .i64 n)), (4, some (.int .i64 (i : Int)))] S (kont (env ot oz) fin st) =
      kont (env ot oz) fin st (.exit 0) [(1, some (.at_ (rVal t))), (3, some (.int .i64 (muchTs n rest))), (4, some (.int .i64 i')), (29, some (.bool false))] S
  | [], i, n, h, hc => by
    refine ⟨i, fun f hf S fin st => ?_⟩
    obtain ⟨k, rfl⟩ : ∃ k, f = k + 1 := ⟨f - 1, by omega⟩
    have hlt := lt_no (drop_nil h)
    (rw [c23_l0_step]; simp only [c23_l0_b, c23_r3, c23_r7, go_sem, reduceIte, Nat.reduceEqDiff, Nat.reduceAdd, Nat.reduceSub, Nat.reduceMul, Nat.reduceLeDiff, Nat.reduceLT, Int.reduceNeg, Int.reduceEq, Int.reduceLT, Int.reduceLE, Int.reduceNe, Int.reduceToNat, Int.reduceAdd, Int.reduceMul, Int.reduceSub, Int.reduceBEq, hlt, muchTs])
  | a :: r, i, n, h, hc => by
    obtain ⟨h1, h2, h3⟩ := drop_cons h
    unfold Short maxLen at ht
    have hlt : (i : Int) < (t.Types.length : Int) := by omega
    by_cases hi : n < 3000
    · obtain ⟨i', ih⟩ := muchV_l0 t ht N r (i + 1) (w64 (n + muchT a)) h2 fun b hb => hc b (List.mem_cons_of_mem _ hb)
      refine ⟨i', fun f hf S fin st => ?_⟩
      obtain ⟨k, rfl⟩ : ∃ k, f = k + 1 := ⟨f - 1, by omega⟩
      have ih := ih k (by simp only [List.length_cons] at hf; omega) S fin st
      have ca := hc a (by simp) k (by omega)
      have w := wrap_succ (i := i) (n := t.Types.length) h3 (by omega)
      rw [muchTs, if_pos hi]
      (rw [c23_l0_step]; simp only [c23_l0_b, c23_r3, c23_r7, go_sem, reduceIte, Nat.reduceEqDiff, Nat.reduceAdd, Nat.reduceSub, Nat.reduceMul, Nat.reduceLeDiff, Nat.reduceLT, Int.reduceNeg, Int.reduceEq, Int.reduceLT, Int.reduceLE, Int.reduceNe, Int.reduceToNat, Int.reduceAdd, Int.reduceMul, Int.reduceSub, Int.reduceBEq, hlt, hi, h1, w, ca])
      exact ih
    · refine ⟨i, fun f hf S fin st => ?_⟩
      obtain ⟨k, rfl⟩ : ∃ k, f = k + 1 := ⟨f - 1, by omega⟩
      rw [muchTs, if_neg hi]
      (rw [c23_l0_step]; simp only [c23_l0_b, c23_r3, c23_r7, go_sem, reduceIte, Nat.reduceEqDiff, Nat.reduceAdd, Nat.reduceSub, Nat.reduceMul, Nat.reduceLeDiff, Nat.reduceLT, Int.reduceNeg, Int.reduceEq, Int.reduceLT, Int.reduceLE, Int.reduceNe, Int.reduceToNat, Int.reduceAdd, Int.reduceMul, Int.reduceSub, Int.reduceBEq, hlt, hi, h1])

theorem muchV_l1 (t : GVal) (ht : Short t.Kids.length) (N : Nat) : ∀ (rest : List GVal) (i : Nat) (n : Int), t.Kids.drop i = rest → (∀ a ∈ rest, ∀ m, N ≤ m → ∀ S, (lvl (env ot oz) m).call 23 [.agg (rVal a)] S = some (.int .i64 (muchV a), S)) → ∃ i' : Int, ∀ f, rest.length + N + 2 ≤ f → ∀ (S : St) (fin : Kont (PV × St)) (st : List Fr),
    (lvl (env ot oz) f).ev c23_l1 [(1, some (.at_ (rVal t))), (3, some (.int .i64 n)), (5, some (.int .i64 (i : Int)))] S (kont (env ot oz) fin st) =
      kont (env ot oz) fin st (.exit 2) [(1, some (.at_ (rVal t))), (3, some (.int .i64 (muchVs n rest))), (5, some (.int .i64 i')), (48, some (.bool false))] S
  | [], i, n, h, hc => by
    refine ⟨i, fun f hf S fin st => ?_⟩
    obtain ⟨k, rfl⟩ : ∃ k, f = k + 1 := ⟨f - 1, by omega⟩
    have hlt := lt_no (drop_nil h)
    (rw [c23_l1_step]; simp only [c23_l1_b, c23_r3, c23_r7, go_sem, reduceIte, Nat.reduceEqDiff, Nat.reduceAdd, Nat.reduceSub, Nat.reduceMul, Nat.reduceLeDiff, Nat.reduceLT, Int.reduceNeg, Int.reduceEq, Int.reduceLT, Int.reduceLE, Int.reduceNe, Int.reduceToNat, Int.reduceAdd, Int.reduceMul, Int.reduceSub, Int.reduceBEq, hlt, muchVs])
  | a :: r, i, n, h, hc => by
    obtain ⟨h1, h2, h3⟩ := drop_cons h
    unfold Short maxLen at ht
    have hlt : (i : Int) < (t.Kids.length : Int) := by omega
    by_cases hi : n < 3000
    · obtain ⟨i', ih⟩ := muchV_l1 t ht N r (i + 1) (w64 (n + muchV a)) h2 fun b hb => hc b (List.mem_cons_of_mem _ hb)
      refine ⟨i', fun f hf S fin st => ?_⟩
      obtain ⟨k, rfl⟩ : ∃ k, f = k + 1 := ⟨f - 1, by omega⟩
      have ih := ih k (by simp only [List.length_cons] at hf; omega) S fin st
      have ca := hc a (by simp) k (by omega)
      have w := wrap_succ (i := i) (n := t.Kids.length) h3 (by omega)
      rw [muchVs, if_pos hi]
      (rw [c23_l1_step]; simp only [c23_l1_b, c23_r3, c23_r7, go_sem, reduceIte, Nat.reduceEqDiff, Nat.reduceAdd, Nat.reduceSub, Nat.reduceMul, Nat.reduceLeDiff, Nat.reduceLT, Int.reduceNeg, Int.reduceEq, Int.reduceLT, Int.reduceLE, Int.reduceNe, Int.reduceToNat, Int.reduceAdd, Int.reduceMul, Int.reduceSub, Int.reduceBEq, hlt, hi, h1, w, ca])
      exact ih
    · refine ⟨i, fun f hf S fin st => ?_⟩
      obtain ⟨k, rfl⟩ : ∃ k, f = k + 1 := ⟨f - 1, by omega⟩
      rw [muchVs, if_neg hi]
      (rw [c23_l1_step]; simp only [c23_l1_b, c23_r3, c23_r7, go_sem, reduceIte, Nat.reduceEqDiff, Nat.reduceAdd, Nat.reduceSub, Nat.reduceMul, Nat.reduceLeDiff, Nat.reduceLT, Int.reduceNeg, Int.reduceEq, Int.reduceLT, Int.reduceLE, Int.reduceNe, Int.reduceToNat, Int.reduceAdd, Int.reduceMul, Int.reduceSub, Int.reduceBEq, hlt, hi, h1])

theorem muchV_ok : ∀ (t : GVal), OkVal t → Ans (env ot oz) 23 [.agg (rVal t)] (.int .i64 (muchV t)) := by
  refine GVal.ind fun t ih ok => ?_
  have ok' := ok
  obtain ⟨K, N, M, In, S, At, Types, Labels, Kids, hK, hN, hM, hS, hAt, hTypes, hLabels, hKids, hKids'⟩ := ok'
  obtain ⟨A, hA⟩ := all_le (p := fun n (a : GTy) => ∀ S, (lvl (env ot oz) n).call 34 [.agg (rTy a)] S = some (.int .i64 (muchT a), S)) (fun n m k hm h S => call_mono hm (h S)) (l := Types) (fun a ha => muchT_ok a (hTypes.2 a ha))
  obtain ⟨B, hB⟩ := all_le (p := fun n (a : GVal) => ∀ S, (lvl (env ot oz) n).call 23 [.agg (rVal a)] S = some (.int .i64 (muchV a), S)) (fun n m k hm h S => call_mono hm (h S)) (l := Kids) (fun a ha => ih a ha (hKids' a ha))
  obtain ⟨i1, f1⟩ := muchV_l0 (ot := ot) (oz := oz) (.mk K N M In S At Types Labels Kids) hTypes.1 A Types 0 (w64 (w64 (w64 (1 + w64 ((S.size : Int).tdiv 8)) + (Labels.length : Int)) + w64 ((At.Def.size : Int).tdiv 8))) rfl (fun a ha m hm S => call_mono hm (hA a ha S))
  obtain ⟨i2, f2⟩ := muchV_l1 (ot := ot) (oz := oz) (.mk K N M In S At Types Labels Kids) hKids B Kids 0 (muchTs (w64 (w64 (w64 (1 + w64 ((S.size : Int).tdiv 8)) + (Labels.length : Int)) + w64 ((At.Def.size : Int).tdiv 8))) Types) rfl (fun a ha m hm S => call_mono hm (hB a ha S))
  refine ⟨Types.length + Kids.length + A + B + 4, fun S' => ?_⟩
  have f1 := f1 (Types.length + Kids.length + A + B + 3) (by omega)
  have f2 := f2 (Types.length + Kids.length + A + B + 3) (by omega)
  have e : muchV (.mk K N M In S At Types Labels Kids) = muchVs (muchTs (w64 (w64 (w64 (1 + w64 ((S.size : Int).tdiv 8)) + (Labels.length : Int)) + w64 ((At.Def.size : Int).tdiv 8))) Types) Kids := by rw [muchV]
  simp only [Int.cast_ofNat_Int, Nat.sub_zero, rVal_mk] at f1 f2
  (rw [call_plain (fn := c23) rfl rfl (by simp only [go_sem, reduceIte, Nat.reduceEqDiff, Nat.reduceAdd, Nat.reduceSub, Nat.reduceMul, Nat.reduceLeDiff, Nat.reduceLT, Int.reduceNeg, Int.reduceEq, Int.reduceLT, Int.reduceLE, Int.reduceNe, Int.reduceToNat, Int.reduceAdd, Int.reduceMul, Int.reduceSub, Int.reduceBEq, f1, f2, e]) rfl (by decide)]; simp only [c23, c23_b, c23_r3, c23_r7, go_sem, reduceIte, Nat.reduceEqDiff, Nat.reduceAdd, Nat.reduceSub, Nat.reduceMul, Nat.reduceLeDiff, Nat.reduceLT, Int.reduceNeg, Int.reduceEq, Int.reduceLT, Int.reduceLE, Int.reduceNe, Int.reduceToNat, Int.reduceAdd, Int.reduceMul, Int.reduceSub, Int.reduceBEq, f1, f2, e])
end
end Go.PE
