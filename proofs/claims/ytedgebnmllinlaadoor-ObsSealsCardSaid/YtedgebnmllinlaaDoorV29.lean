/-
  Values that are right, by the document. Conditions: each law's own.
-/
import Derived.Test.YtedgebnmllinlaaDoorT04
import Derived.Test.YtedgebnmllinlaaDoorOb1
namespace Go.PE
open Go Go.RowKit Go.Proofs
set_option linter.unusedVariables false
set_option linter.unusedSimpArgs false
set_option maxRecDepth 100000
section
variable {ot : TypeId} {oz : Nat × Nat}

def badV (v : GVal) : Bool :=
  (((v.K != 3 && !(strEq v.S ⟨#[]⟩)) || (v.K != 4 && decide (0 < v.Labels.length))) || (v.K != 6 && !(strEq v.At.Def ⟨#[]⟩ && v.At.Node == 0))) || (v.K != 7 && (v.M != 0 || v.In))
def noneV (v : GVal) : Bool := IntKind.i64.wrap ((v.Types.length : Int) + (v.Kids.length : Int)) == 0
def funT (t : GTy) : Bool := rightT t && t.K == 7
def tailV (v : GVal) : Bool :=
  (match v.Kids with | [k] => funS k | _ => false) && (v.Types.all funT && (if v.K == 6 then (v.Types.length : Int) == 2 && v.N == 0 else (((v.K == 7 && (v.Types.length : Int) == 1) && decide (0 ≤ v.N)) && decide (v.N ≤ v.M))))
def ownV (v : GVal) : Bool :=
  !(badV v) && (if v.K == 1 then noneV v else if v.K == 2 then noneV v && (v.N == 0 || v.N == 1) else if v.K == 3 then (noneV v && v.N == 0) && decide ((v.S.size : Int) ≤ 256)
    else if v.K == 4 then (((v.Types.length : Int) == 0 && v.N == 0) && (v.Kids.length : Int) == (v.Labels.length : Int)) && risingS v.Labels
    else if v.K == 5 then noneV v && decide (0 ≤ v.N) else if v.K == 8 then ((v.Types.length : Int) == 0 && (v.Kids.length : Int) == 1) && decide (0 ≤ v.N) else tailV v)
mutual
def rightV : GVal → Bool
  | .mk K N M In S At Types Labels Kids => ownV (.mk K N M In S At Types Labels Kids) && rightVs Kids
def rightVs : List GVal → Bool
  | [] => true
  | a :: r => rightV a && rightVs r
end
theorem rightV_eq (v : GVal) : rightV v = (ownV v && rightVs v.Kids) := by cases v; rw [rightV]; rfl

theorem tri (p q : Bool) : (p = false ∧ True) ∨ (p = true ∧ q = true) ∨ (p = true ∧ q = false) := by cases p <;> cases q <;> simp
set_option maxHeartbeats 8000000 in
theorem own_r1 (v : GVal) {ts : Tmps} (h : PE.look ts 1 = some (.at_ (rVal v))) (n : Nat) (S : St) (fin : Kont (PV × St)) (st : List Fr) : stepR (env ot oz) fin st (some [1, 47]) (evOps (env ot oz).G (lvl (env ot oz) n).call c55_r1 ts S) = kont (env ot oz) fin st .normal [(1, some (.at_ (rVal v))), (47, some (.bool (badV v)))] S := by
  unfold badV
  rcases tri (v.K != 3) (strEq v.S ⟨#[]⟩) with ⟨a1, a2⟩ | ⟨a1, a2⟩ | ⟨a1, a2⟩ <;> (try (simp only [c55_r1, go_sem, reduceIte, Nat.reduceEqDiff, Nat.reduceAdd, Nat.reduceSub, Nat.reduceMul, Nat.reduceLeDiff, Nat.reduceLT, Int.reduceNeg, Int.reduceEq, Int.reduceLT, Int.reduceLE, Int.reduceNe, Int.reduceToNat, Int.reduceAdd, Int.reduceMul, Int.reduceSub, Int.reduceBEq, h, a1, a2]; done)) <;> rcases tri (v.K != 4) (!(decide (0 < v.Labels.length))) with ⟨b1, b2⟩ | ⟨b1, b2⟩ | ⟨b1, b2⟩ <;> (try simp only [Bool.not_eq_true', Bool.not_eq_false'] at b2) <;> (try (simp only [c55_r1, go_sem, reduceIte, Nat.reduceEqDiff, Nat.reduceAdd, Nat.reduceSub, Nat.reduceMul, Nat.reduceLeDiff, Nat.reduceLT, Int.reduceNeg, Int.reduceEq, Int.reduceLT, Int.reduceLE, Int.reduceNe, Int.reduceToNat, Int.reduceAdd, Int.reduceMul, Int.reduceSub, Int.reduceBEq, h, a1, a2, b1, b2]; done)) <;> rcases tri (v.K != 6) (strEq v.At.Def ⟨#[]⟩) with ⟨c1, c2⟩ | ⟨c1, c2⟩ | ⟨c1, c2⟩ <;> (try (simp only [c55_r1, go_sem, reduceIte, Nat.reduceEqDiff, Nat.reduceAdd, Nat.reduceSub, Nat.reduceMul, Nat.reduceLeDiff, Nat.reduceLT, Int.reduceNeg, Int.reduceEq, Int.reduceLT, Int.reduceLE, Int.reduceNe, Int.reduceToNat, Int.reduceAdd, Int.reduceMul, Int.reduceSub, Int.reduceBEq, h, a1, a2, b1, b2, c1, c2]; done)) <;>
    cases c3 : (v.At.Node == 0) <;> (try (simp only [c55_r1, go_sem, reduceIte, Nat.reduceEqDiff, Nat.reduceAdd, Nat.reduceSub, Nat.reduceMul, Nat.reduceLeDiff, Nat.reduceLT, Int.reduceNeg, Int.reduceEq, Int.reduceLT, Int.reduceLE, Int.reduceNe, Int.reduceToNat, Int.reduceAdd, Int.reduceMul, Int.reduceSub, Int.reduceBEq, h, a1, a2, b1, b2, c1, c2, c3]; done)) <;> rcases tri (v.K != 7) (v.M != 0) with ⟨d1, d2⟩ | ⟨d1, d2⟩ | ⟨d1, d2⟩ <;> simp only [c55_r1, go_sem, reduceIte, Nat.reduceEqDiff, Nat.reduceAdd, Nat.reduceSub, Nat.reduceMul, Nat.reduceLeDiff, Nat.reduceLT, Int.reduceNeg, Int.reduceEq, Int.reduceLT, Int.reduceLE, Int.reduceNe, Int.reduceToNat, Int.reduceAdd, Int.reduceMul, Int.reduceSub, Int.reduceBEq, h, a1, a2, b1, b2, c1, c2, c3, d1, d2]
theorem own_r6 (v : GVal) {ts : Tmps} (h : PE.look ts 1 = some (.at_ (rVal v))) (n : Nat) (S : St) (fin : Kont (PV × St)) (st : List Fr) : stepR (env ot oz) fin st (some [2]) (evOps (env ot oz).G (lvl (env ot oz) n).call c55_r6 ts S) = kont (env ot oz) fin st .normal [(2, some (.bool (noneV v && (v.N == 0 || v.N == 1))))] S := by
  unfold noneV
  cases h1 : (IntKind.i64.wrap ((v.Types.length : Int) + (v.Kids.length : Int)) == 0) <;> cases h2 : (v.N == 0) <;> simp only [c55_r6, go_sem, reduceIte, Nat.reduceEqDiff, Nat.reduceAdd, Nat.reduceSub, Nat.reduceMul, Nat.reduceLeDiff, Nat.reduceLT, Int.reduceNeg, Int.reduceEq, Int.reduceLT, Int.reduceLE, Int.reduceNe, Int.reduceToNat, Int.reduceAdd, Int.reduceMul, Int.reduceSub, Int.reduceBEq, h, h1, h2]
theorem own_r8 (v : GVal) {ts : Tmps} (h : PE.look ts 1 = some (.at_ (rVal v))) (n : Nat) (S : St) (fin : Kont (PV × St)) (st : List Fr) : stepR (env ot oz) fin st (some [2]) (evOps (env ot oz).G (lvl (env ot oz) n).call c55_r8 ts S) = kont (env ot oz) fin st .normal [(2, some (.bool ((noneV v && v.N == 0) && decide ((v.S.size : Int) ≤ 256))))] S := by
  unfold noneV
  cases h1 : (IntKind.i64.wrap ((v.Types.length : Int) + (v.Kids.length : Int)) == 0) <;> cases h2 : (v.N == 0) <;> simp only [c55_r8, go_sem, reduceIte, Nat.reduceEqDiff, Nat.reduceAdd, Nat.reduceSub, Nat.reduceMul, Nat.reduceLeDiff, Nat.reduceLT, Int.reduceNeg, Int.reduceEq, Int.reduceLT, Int.reduceLE, Int.reduceNe, Int.reduceToNat, Int.reduceAdd, Int.reduceMul, Int.reduceSub, Int.reduceBEq, h, h1, h2]
theorem own_r12 (v : GVal) {ts : Tmps} (h : PE.look ts 1 = some (.at_ (rVal v))) (n : Nat) (S : St) (fin : Kont (PV × St)) (st : List Fr) : stepR (env ot oz) fin st (some [2]) (evOps (env ot oz).G (lvl (env ot oz) n).call c55_r12 ts S) = kont (env ot oz) fin st .normal [(2, some (.bool (noneV v && decide (0 ≤ v.N))))] S := by
  unfold noneV
  cases h1 : (IntKind.i64.wrap ((v.Types.length : Int) + (v.Kids.length : Int)) == 0) <;> simp only [c55_r12, go_sem, reduceIte, Nat.reduceEqDiff, Nat.reduceAdd, Nat.reduceSub, Nat.reduceMul, Nat.reduceLeDiff, Nat.reduceLT, Int.reduceNeg, Int.reduceEq, Int.reduceLT, Int.reduceLE, Int.reduceNe, Int.reduceToNat, Int.reduceAdd, Int.reduceMul, Int.reduceSub, Int.reduceBEq, h, h1]
theorem own_r14 (v : GVal) {ts : Tmps} (h : PE.look ts 1 = some (.at_ (rVal v))) (n : Nat) (S : St) (fin : Kont (PV × St)) (st : List Fr) : stepR (env ot oz) fin st (some [2]) (evOps (env ot oz).G (lvl (env ot oz) n).call c55_r14 ts S) = kont (env ot oz) fin st .normal [(2, some (.bool (((v.Types.length : Int) == 0 && (v.Kids.length : Int) == 1) && decide (0 ≤ v.N))))] S := by
  cases h1 : ((v.Types.length : Int) == 0) <;> cases h2 : ((v.Kids.length : Int) == 1) <;> simp only [c55_r14, go_sem, reduceIte, Nat.reduceEqDiff, Nat.reduceAdd, Nat.reduceSub, Nat.reduceMul, Nat.reduceLeDiff, Nat.reduceLT, Int.reduceNeg, Int.reduceEq, Int.reduceLT, Int.reduceLE, Int.reduceNe, Int.reduceToNat, Int.reduceAdd, Int.reduceMul, Int.reduceSub, Int.reduceBEq, h, h1, h2]
theorem own_r23 (v : GVal) {ts : Tmps} (h : PE.look ts 1 = some (.at_ (rVal v))) (n : Nat) (S : St) (fin : Kont (PV × St)) (st : List Fr) : stepR (env ot oz) fin st (some [2]) (evOps (env ot oz).G (lvl (env ot oz) n).call c55_r23 ts S) = kont (env ot oz) fin st .normal [(2, some (.bool ((v.Types.length : Int) == 2 && v.N == 0)))] S := by
  cases h1 : ((v.Types.length : Int) == 2) <;> simp only [c55_r23, go_sem, reduceIte, Nat.reduceEqDiff, Nat.reduceAdd, Nat.reduceSub, Nat.reduceMul, Nat.reduceLeDiff, Nat.reduceLT, Int.reduceNeg, Int.reduceEq, Int.reduceLT, Int.reduceLE, Int.reduceNe, Int.reduceToNat, Int.reduceAdd, Int.reduceMul, Int.reduceSub, Int.reduceBEq, h, h1]
theorem own_r24 (v : GVal) {ts : Tmps} (h : PE.look ts 1 = some (.at_ (rVal v))) (n : Nat) (S : St) (fin : Kont (PV × St)) (st : List Fr) : stepR (env ot oz) fin st (some [2]) (evOps (env ot oz).G (lvl (env ot oz) n).call c55_r24 ts S) = kont (env ot oz) fin st .normal [(2, some (.bool (((v.K == 7 && (v.Types.length : Int) == 1) && decide (0 ≤ v.N)) && decide (v.N ≤ v.M))))] S := by
  cases h1 : (v.K == 7) <;> cases h2 : ((v.Types.length : Int) == 1) <;> by_cases h3 : 0 ≤ v.N <;> simp only [c55_r24, go_sem, reduceIte, Nat.reduceEqDiff, Nat.reduceAdd, Nat.reduceSub, Nat.reduceMul, Nat.reduceLeDiff, Nat.reduceLT, Int.reduceNeg, Int.reduceEq, Int.reduceLT, Int.reduceLE, Int.reduceNe, Int.reduceToNat, Int.reduceAdd, Int.reduceMul, Int.reduceSub, Int.reduceBEq, h, h1, h2, h3]
theorem own_r10 (v : GVal) {ts : Tmps} (h : PE.look ts 1 = some (.at_ (rVal v))) (n : Nat) (S : St) (c : ∀ S, (lvl (env ot oz) n).call 62 [.sl .ro (v.Labels.map rStr)] S = some (.bool (risingS v.Labels), S)) (fin : Kont (PV × St)) (st : List Fr) : stepR (env ot oz) fin st (some [2]) (evOps (env ot oz).G (lvl (env ot oz) n).call c55_r10 ts S) = kont (env ot oz) fin st .normal [(2, some (.bool ((((v.Types.length : Int) == 0 && v.N == 0) && (v.Kids.length : Int) == (v.Labels.length : Int)) && risingS v.Labels)))] S := by
  cases h1 : ((v.Types.length : Int) == 0) <;> cases h2 : (v.N == 0) <;> cases h3 : ((v.Kids.length : Int) == (v.Labels.length : Int)) <;> simp only [c55_r10, go_sem, reduceIte, Nat.reduceEqDiff, Nat.reduceAdd, Nat.reduceSub, Nat.reduceMul, Nat.reduceLeDiff, Nat.reduceLT, Int.reduceNeg, Int.reduceEq, Int.reduceLT, Int.reduceLE, Int.reduceNe, Int.reduceToNat, Int.reduceAdd, Int.reduceMul, Int.reduceSub, Int.reduceBEq, h, h1, h2, h3, c]
def kidF (l : List GVal) : Bool := match l with | [k] => funS k | _ => false
theorem own_r15 (v : GVal) {ts : Tmps} (h : PE.look ts 1 = some (.at_ (rVal v))) (n : Nat) (S : St) (c : ∀ k ∈ v.Kids, ∀ S, (lvl (env ot oz) n).call 48 [.agg (rVal k)] S = some (.bool (funS k), S)) (fin : Kont (PV × St)) (st : List Fr) : stepR (env ot oz) fin st (some [1, 173]) (evOps (env ot oz).G (lvl (env ot oz) n).call c55_r15 ts S) = kont (env ot oz) fin st .normal [(1, some (.at_ (rVal v))), (173, some (.bool (!(kidF v.Kids))))] S := by
  cases hk : v.Kids with
  | nil =>
    have h1 : (((0 : Nat) : Int) != 1) = true := by decide
    simp only [c55_r15, go_sem, reduceIte, Nat.reduceEqDiff, Nat.reduceAdd, Nat.reduceSub, Nat.reduceMul, Nat.reduceLeDiff, Nat.reduceLT, Int.reduceNeg, Int.reduceEq, Int.reduceLT, Int.reduceLE, Int.reduceNe, Int.reduceToNat, Int.reduceAdd, Int.reduceMul, Int.reduceSub, Int.reduceBEq, h, hk, kidF, Int.reduceBNe]
  | cons k r =>
    cases r with
    | nil =>
      have c := c k (by rw [hk]; simp)
      simp only [c55_r15, go_sem, reduceIte, Nat.reduceEqDiff, Nat.reduceAdd, Nat.reduceSub, Nat.reduceMul, Nat.reduceLeDiff, Nat.reduceLT, Int.reduceNeg, Int.reduceEq, Int.reduceLT, Int.reduceLE, Int.reduceNe, Int.reduceToNat, Int.reduceAdd, Int.reduceMul, Int.reduceSub, Int.reduceBEq, h, hk, kidF, c, Int.reduceBNe]
    | cons k2 r =>
      have h1 : (((r.length + 1 + 1 : Nat) : Int) != 1) = true := by simp; omega
      simp only [c55_r15, go_sem, reduceIte, Nat.reduceEqDiff, Nat.reduceAdd, Nat.reduceSub, Nat.reduceMul, Nat.reduceLeDiff, Nat.reduceLT, Int.reduceNeg, Int.reduceEq, Int.reduceLT, Int.reduceLE, Int.reduceNe, Int.reduceToNat, Int.reduceAdd, Int.reduceMul, Int.reduceSub, Int.reduceBEq, h, hk, kidF, h1]
theorem own_l0 (v : GVal) (ht : Short v.Types.length) (N : Nat) (S : St) (fin : Kont (PV × St)) (st : List Fr) : ∀ (rest : List GTy) (i : Nat), v.Types.drop i = rest → (∀ a ∈ rest, ∀ m, N ≤ m → ∀ S, (lvl (env ot oz) m).call 38 [.agg (rTy a)] S = some (.bool (rightT a), S)) → ∀ n, rest.length + N + 2 ≤ n →
    (lvl (env ot oz) n).ev c55_l0 [(1, some (.at_ (rVal v))), (3, some (.int .i64 (i : Int)))] S (kont (env ot oz) fin st) =
      if rest.all funT then kont (env ot oz) fin st (.exit 0) [(1, some (.at_ (rVal v))), (3, some (.int .i64 ((i + rest.length : Nat) : Int))), (178, some (.bool false))] S else kont (env ot oz) fin st .ret [(2, some (.bool false))] S
  | [], i, h, hc, n, hn => by
    obtain ⟨k, rfl⟩ : ∃ k, n = k + 1 := ⟨n - 1, by omega⟩
    have hlt := lt_no (drop_nil h)
    (rw [c55_l0_step]; simp only [c55_l0_b, c55_r1, c55_r6, c55_r8, c55_r10, c55_r12, c55_r14, c55_r15, c55_r20, c55_r23, c55_r24, go_sem, reduceIte, Nat.reduceEqDiff, Nat.reduceAdd, Nat.reduceSub, Nat.reduceMul, Nat.reduceLeDiff, Nat.reduceLT, Int.reduceNeg, Int.reduceEq, Int.reduceLT, Int.reduceLE, Int.reduceNe, Int.reduceToNat, Int.reduceAdd, Int.reduceMul, Int.reduceSub, Int.reduceBEq, hlt, List.all_nil])
  | a :: r, i, h, hc, n, hn => by
    obtain ⟨k, rfl⟩ : ∃ k, n = k + 1 := ⟨n - 1, by omega⟩
    obtain ⟨h1, h2, h3⟩ := drop_cons h
    unfold Short maxLen at ht
    simp only [List.length_cons] at hn
    have e : i + (a :: r).length = i + 1 + r.length := by simp only [List.length_cons]; omega
    have w := wrap_succ (i := i) (n := v.Types.length) h3 (by omega)
    have hlt : (i : Int) < (v.Types.length : Int) := by omega
    have ih := own_l0 v (by unfold Short maxLen; omega) N S fin st r (i + 1) h2 (fun x hx => hc x (List.mem_cons_of_mem _ hx)) k (by omega)
    have ca := hc a (by simp) k (by omega)
    rw [e]
    cases q : rightT a <;> cases q2 : (a.K == 7) <;> (rw [c55_l0_step]; simp only [c55_l0_b, c55_r1, c55_r6, c55_r8, c55_r10, c55_r12, c55_r14, c55_r15, c55_r20, c55_r23, c55_r24, go_sem, reduceIte, Nat.reduceEqDiff, Nat.reduceAdd, Nat.reduceSub, Nat.reduceMul, Nat.reduceLeDiff, Nat.reduceLT, Int.reduceNeg, Int.reduceEq, Int.reduceLT, Int.reduceLE, Int.reduceNe, Int.reduceToNat, Int.reduceAdd, Int.reduceMul, Int.reduceSub, Int.reduceBEq, hlt, h1, q, q2, bne, w, ih, ca, funT, List.all_cons])
theorem own_ok (v : GVal) (ok : OkVal v) : Ans (env ot oz) 55 [.agg (rVal v)] (.bool (ownV v)) := by
  have hA : Short v.Types.length ∧ (∀ x ∈ v.Types, OkTy x) ∧ Short v.Labels.length := by
    cases ok with | mk K N M In S At Types Labels Kids h1 h2 h3 h4 h5 hT hL hK hK' => exact ⟨hT.1, hT.2, hL.1⟩
  obtain ⟨A, a⟩ := all_le (p := fun n (x : GTy) => ∀ S, (lvl (env ot oz) n).call 38 [.agg (rTy x)] S = some (.bool (rightT x), S)) (fun n m k hm h S => call_mono hm (h S)) (l := v.Types) (fun x hx => right04_ok x (hA.2.1 x hx))
  obtain ⟨B, b⟩ := all_le (p := fun n (x : GVal) => ∀ S, (lvl (env ot oz) n).call 48 [.agg (rVal x)] S = some (.bool (funS x), S)) (fun n m k hm h S => call_mono hm (h S)) (l := v.Kids) (fun x _ => fun_ok x)
  obtain ⟨C, c⟩ := (rising01_ok (ot := ot) (oz := oz) v.Labels hA.2.2 .ro).le
  refine ⟨v.Types.length + A + B + C + 5, fun S => ?_⟩
  have c := c (v.Types.length + A + B + C + 3) (by omega)
  have f0 := fun fin st => own_l0 (ot := ot) (oz := oz) v hA.1 A S fin st v.Types 0 rfl (fun x hx m hm S => call_mono hm (a x hx S)) (v.Types.length + A + B + C + 4) (by omega)
  have r1 := fun ts h => own_r1 (ot := ot) (oz := oz) v (ts := ts) h
  have r6 := fun ts h => own_r6 (ot := ot) (oz := oz) v (ts := ts) h
  have r8 := fun ts h => own_r8 (ot := ot) (oz := oz) v (ts := ts) h
  have r12 := fun ts h => own_r12 (ot := ot) (oz := oz) v (ts := ts) h
  have r14 := fun ts h => own_r14 (ot := ot) (oz := oz) v (ts := ts) h
  have r23 := fun ts h => own_r23 (ot := ot) (oz := oz) v (ts := ts) h
  have r24 := fun ts h => own_r24 (ot := ot) (oz := oz) v (ts := ts) h
  have r10 := fun ts h => own_r10 (ot := ot) (oz := oz) v (ts := ts) h (v.Types.length + A + B + C + 3) S c
  have r15 := fun ts h => own_r15 (ot := ot) (oz := oz) v (ts := ts) h (v.Types.length + A + B + C + 3) S (fun k hk S => call_mono (by omega) (b k hk S))
  simp only [Int.cast_ofNat_Int] at f0
  have e : ownV v = (!(badV v) && (if v.K == 1 then noneV v else if v.K == 2 then noneV v && (v.N == 0 || v.N == 1) else if v.K == 3 then (noneV v && v.N == 0) && decide ((v.S.size : Int) ≤ 256)
    else if v.K == 4 then (((v.Types.length : Int) == 0 && v.N == 0) && (v.Kids.length : Int) == (v.Labels.length : Int)) && risingS v.Labels
    else if v.K == 5 then noneV v && decide (0 ≤ v.N) else if v.K == 8 then ((v.Types.length : Int) == 0 && (v.Kids.length : Int) == 1) && decide (0 ≤ v.N) else kidF v.Kids && (v.Types.all funT && (if v.K == 6 then (v.Types.length : Int) == 2 && v.N == 0 else (((v.K == 7 && (v.Types.length : Int) == 1) && decide (0 ≤ v.N)) && decide (v.N ≤ v.M)))))) := rfl
  cases q0 : badV v with
  | true => (rw [call_plain (fn := c55) rfl rfl (by simp only [go_sem, reduceIte, Nat.reduceEqDiff, Nat.reduceAdd, Nat.reduceSub, Nat.reduceMul, Nat.reduceLeDiff, Nat.reduceLT, Int.reduceNeg, Int.reduceEq, Int.reduceLT, Int.reduceLE, Int.reduceNe, Int.reduceToNat, Int.reduceAdd, Int.reduceMul, Int.reduceSub, Int.reduceBEq, r1, q0, e]) rfl (by decide)]; simp only [c55, c55_b, c55_r20, go_sem, reduceIte, Nat.reduceEqDiff, Nat.reduceAdd, Nat.reduceSub, Nat.reduceMul, Nat.reduceLeDiff, Nat.reduceLT, Int.reduceNeg, Int.reduceEq, Int.reduceLT, Int.reduceLE, Int.reduceNe, Int.reduceToNat, Int.reduceAdd, Int.reduceMul, Int.reduceSub, Int.reduceBEq, r1, q0, e])
  | false =>
    cases q1 : (v.K == 1) with
    | true => (rw [call_plain (fn := c55) rfl rfl (by simp only [go_sem, reduceIte, Nat.reduceEqDiff, Nat.reduceAdd, Nat.reduceSub, Nat.reduceMul, Nat.reduceLeDiff, Nat.reduceLT, Int.reduceNeg, Int.reduceEq, Int.reduceLT, Int.reduceLE, Int.reduceNe, Int.reduceToNat, Int.reduceAdd, Int.reduceMul, Int.reduceSub, Int.reduceBEq, r1, q0, e, q1, noneV]) rfl (by decide)]; simp only [c55, c55_b, c55_r20, go_sem, reduceIte, Nat.reduceEqDiff, Nat.reduceAdd, Nat.reduceSub, Nat.reduceMul, Nat.reduceLeDiff, Nat.reduceLT, Int.reduceNeg, Int.reduceEq, Int.reduceLT, Int.reduceLE, Int.reduceNe, Int.reduceToNat, Int.reduceAdd, Int.reduceMul, Int.reduceSub, Int.reduceBEq, r1, q0, e, q1, noneV])
    | false =>
      cases q2 : (v.K == 2) with
      | true => (rw [call_plain (fn := c55) rfl rfl (by simp only [go_sem, reduceIte, Nat.reduceEqDiff, Nat.reduceAdd, Nat.reduceSub, Nat.reduceMul, Nat.reduceLeDiff, Nat.reduceLT, Int.reduceNeg, Int.reduceEq, Int.reduceLT, Int.reduceLE, Int.reduceNe, Int.reduceToNat, Int.reduceAdd, Int.reduceMul, Int.reduceSub, Int.reduceBEq, r1, q0, e, q1, q2, r6]) rfl (by decide)]; simp only [c55, c55_b, c55_r20, go_sem, reduceIte, Nat.reduceEqDiff, Nat.reduceAdd, Nat.reduceSub, Nat.reduceMul, Nat.reduceLeDiff, Nat.reduceLT, Int.reduceNeg, Int.reduceEq, Int.reduceLT, Int.reduceLE, Int.reduceNe, Int.reduceToNat, Int.reduceAdd, Int.reduceMul, Int.reduceSub, Int.reduceBEq, r1, q0, e, q1, q2, r6])
      | false =>
        cases q3 : (v.K == 3) with
        | true => (rw [call_plain (fn := c55) rfl rfl (by simp only [go_sem, reduceIte, Nat.reduceEqDiff, Nat.reduceAdd, Nat.reduceSub, Nat.reduceMul, Nat.reduceLeDiff, Nat.reduceLT, Int.reduceNeg, Int.reduceEq, Int.reduceLT, Int.reduceLE, Int.reduceNe, Int.reduceToNat, Int.reduceAdd, Int.reduceMul, Int.reduceSub, Int.reduceBEq, r1, q0, e, q1, q2, q3, r8]) rfl (by decide)]; simp only [c55, c55_b, c55_r20, go_sem, reduceIte, Nat.reduceEqDiff, Nat.reduceAdd, Nat.reduceSub, Nat.reduceMul, Nat.reduceLeDiff, Nat.reduceLT, Int.reduceNeg, Int.reduceEq, Int.reduceLT, Int.reduceLE, Int.reduceNe, Int.reduceToNat, Int.reduceAdd, Int.reduceMul, Int.reduceSub, Int.reduceBEq, r1, q0, e, q1, q2, q3, r8])
        | false =>
          cases q4 : (v.K == 4) with
          | true => (rw [call_plain (fn := c55) rfl rfl (by simp only [go_sem, reduceIte, Nat.reduceEqDiff, Nat.reduceAdd, Nat.reduceSub, Nat.reduceMul, Nat.reduceLeDiff, Nat.reduceLT, Int.reduceNeg, Int.reduceEq, Int.reduceLT, Int.reduceLE, Int.reduceNe, Int.reduceToNat, Int.reduceAdd, Int.reduceMul, Int.reduceSub, Int.reduceBEq, r1, q0, e, q1, q2, q3, q4, r10]) rfl (by decide)]; simp only [c55, c55_b, c55_r20, go_sem, reduceIte, Nat.reduceEqDiff, Nat.reduceAdd, Nat.reduceSub, Nat.reduceMul, Nat.reduceLeDiff, Nat.reduceLT, Int.reduceNeg, Int.reduceEq, Int.reduceLT, Int.reduceLE, Int.reduceNe, Int.reduceToNat, Int.reduceAdd, Int.reduceMul, Int.reduceSub, Int.reduceBEq, r1, q0, e, q1, q2, q3, q4, r10])
          | false =>
            cases q5 : (v.K == 5) with
            | true => (rw [call_plain (fn := c55) rfl rfl (by simp only [go_sem, reduceIte, Nat.reduceEqDiff, Nat.reduceAdd, Nat.reduceSub, Nat.reduceMul, Nat.reduceLeDiff, Nat.reduceLT, Int.reduceNeg, Int.reduceEq, Int.reduceLT, Int.reduceLE, Int.reduceNe, Int.reduceToNat, Int.reduceAdd, Int.reduceMul, Int.reduceSub, Int.reduceBEq, r1, q0, e, q1, q2, q3, q4, q5, r12]) rfl (by decide)]; simp only [c55, c55_b, c55_r20, go_sem, reduceIte, Nat.reduceEqDiff, Nat.reduceAdd, Nat.reduceSub, Nat.reduceMul, Nat.reduceLeDiff, Nat.reduceLT, Int.reduceNeg, Int.reduceEq, Int.reduceLT, Int.reduceLE, Int.reduceNe, Int.reduceToNat, Int.reduceAdd, Int.reduceMul, Int.reduceSub, Int.reduceBEq, r1, q0, e, q1, q2, q3, q4, q5, r12])
            | false =>
              cases q8 : (v.K == 8) with
              | true => (rw [call_plain (fn := c55) rfl rfl (by simp only [go_sem, reduceIte, Nat.reduceEqDiff, Nat.reduceAdd, Nat.reduceSub, Nat.reduceMul, Nat.reduceLeDiff, Nat.reduceLT, Int.reduceNeg, Int.reduceEq, Int.reduceLT, Int.reduceLE, Int.reduceNe, Int.reduceToNat, Int.reduceAdd, Int.reduceMul, Int.reduceSub, Int.reduceBEq, r1, q0, e, q1, q2, q3, q4, q5, q8, r14]) rfl (by decide)]; simp only [c55, c55_b, c55_r20, go_sem, reduceIte, Nat.reduceEqDiff, Nat.reduceAdd, Nat.reduceSub, Nat.reduceMul, Nat.reduceLeDiff, Nat.reduceLT, Int.reduceNeg, Int.reduceEq, Int.reduceLT, Int.reduceLE, Int.reduceNe, Int.reduceToNat, Int.reduceAdd, Int.reduceMul, Int.reduceSub, Int.reduceBEq, r1, q0, e, q1, q2, q3, q4, q5, q8, r14])
              | false =>
                cases q9 : kidF v.Kids with
                | false => (rw [call_plain (fn := c55) rfl rfl (by simp only [go_sem, reduceIte, Nat.reduceEqDiff, Nat.reduceAdd, Nat.reduceSub, Nat.reduceMul, Nat.reduceLeDiff, Nat.reduceLT, Int.reduceNeg, Int.reduceEq, Int.reduceLT, Int.reduceLE, Int.reduceNe, Int.reduceToNat, Int.reduceAdd, Int.reduceMul, Int.reduceSub, Int.reduceBEq, r1, q0, e, q1, q2, q3, q4, q5, q8, r15, q9]) rfl (by decide)]; simp only [c55, c55_b, c55_r20, go_sem, reduceIte, Nat.reduceEqDiff, Nat.reduceAdd, Nat.reduceSub, Nat.reduceMul, Nat.reduceLeDiff, Nat.reduceLT, Int.reduceNeg, Int.reduceEq, Int.reduceLT, Int.reduceLE, Int.reduceNe, Int.reduceToNat, Int.reduceAdd, Int.reduceMul, Int.reduceSub, Int.reduceBEq, r1, q0, e, q1, q2, q3, q4, q5, q8, r15, q9])
                | true =>
                  cases q10 : v.Types.all funT with
                  | false =>
                    simp only [q10, if_false, Bool.false_eq_true] at f0
                    (rw [call_plain (fn := c55) rfl rfl (by simp only [go_sem, reduceIte, Nat.reduceEqDiff, Nat.reduceAdd, Nat.reduceSub, Nat.reduceMul, Nat.reduceLeDiff, Nat.reduceLT, Int.reduceNeg, Int.reduceEq, Int.reduceLT, Int.reduceLE, Int.reduceNe, Int.reduceToNat, Int.reduceAdd, Int.reduceMul, Int.reduceSub, Int.reduceBEq, r1, q0, e, q1, q2, q3, q4, q5, q8, r15, q9, q10, f0]) rfl (by decide)]; simp only [c55, c55_b, c55_r20, go_sem, reduceIte, Nat.reduceEqDiff, Nat.reduceAdd, Nat.reduceSub, Nat.reduceMul, Nat.reduceLeDiff, Nat.reduceLT, Int.reduceNeg, Int.reduceEq, Int.reduceLT, Int.reduceLE, Int.reduceNe, Int.reduceToNat, Int.reduceAdd, Int.reduceMul, Int.reduceSub, Int.reduceBEq, r1, q0, e, q1, q2, q3, q4, q5, q8, r15, q9, q10, f0])
                  | true =>
                    simp only [q10, if_true] at f0
                    cases q6 : (v.K == 6) <;> (rw [call_plain (fn := c55) rfl rfl (by simp only [go_sem, reduceIte, Nat.reduceEqDiff, Nat.reduceAdd, Nat.reduceSub, Nat.reduceMul, Nat.reduceLeDiff, Nat.reduceLT, Int.reduceNeg, Int.reduceEq, Int.reduceLT, Int.reduceLE, Int.reduceNe, Int.reduceToNat, Int.reduceAdd, Int.reduceMul, Int.reduceSub, Int.reduceBEq, r1, q0, e, q1, q2, q3, q4, q5, q8, r15, q9, q10, f0, q6, r23, r24]) rfl (by decide)]; simp only [c55, c55_b, c55_r20, go_sem, reduceIte, Nat.reduceEqDiff, Nat.reduceAdd, Nat.reduceSub, Nat.reduceMul, Nat.reduceLeDiff, Nat.reduceLT, Int.reduceNeg, Int.reduceEq, Int.reduceLT, Int.reduceLE, Int.reduceNe, Int.reduceToNat, Int.reduceAdd, Int.reduceMul, Int.reduceSub, Int.reduceBEq, r1, q0, e, q1, q2, q3, q4, q5, q8, r15, q9, q10, f0, q6, r23, r24])
end
end Go.PE
