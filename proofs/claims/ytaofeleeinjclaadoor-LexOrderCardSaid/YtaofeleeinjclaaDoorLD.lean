/-
  One behind the other: the law LexOrder. Conditions: each law's own.
-/
import Derived.Test.YtaofeleeinjclaaDoorLA
namespace Go.PE
open Go Go.RowKit Go.Proofs
set_option linter.unusedVariables false
set_option linter.unusedSimpArgs false
set_option maxRecDepth 100000
section
variable {ot : TypeId} {oz : EP}
theorem ord_l0 (s t : PV) (L M : List GToken) (a : Nat) (hL : L.length = a + 1) (ha : a ≤ 5000) (ho : ∀ (j : Nat) x y, L[j]? = some x → L[j + 1]? = some y → x.At < y.At) (S : St) (fin : Kont (PV × St)) (st : List Fw) : ∀ (n j : Nat), j + n = a →
    run (env ot oz) fin st c3_l0 [(0, some s), (1, some t), (5, some (.sl .ro (L.map rToken))), (7, some (.sl .ro (M.map rToken))), (9, some (.int .i64 ((j + 1 : Nat) : Int)))] S =
      aft (env ot oz) fin st (.exit 0) [(0, some s), (1, some t), (5, some (.sl .ro (L.map rToken))), (7, some (.sl .ro (M.map rToken))), (9, some (.int .i64 ((a + 1 : Nat) : Int))), (44, some (.bool false))] S
  | 0, j, hj => by
    have lt : decide (((j + 1 : Nat) : Int) < ((a + 1 : Nat) : Int)) = false := decide_eq_false (by omega)
    have e : j = a := by omega
    subst e
    (rw [c3_l0_w]; simp only [c3_l0_b, c3_l0_a, c3_r1, c3_r5, c3_r13, c3_r24, go_sem, reduceIte, Nat.reduceEqDiff, Nat.reduceAdd, Nat.reduceSub, Nat.reduceMul, Nat.reduceLeDiff, Nat.reduceLT, Int.reduceNeg, Int.reduceEq, Int.reduceLT, Int.reduceLE, Int.reduceNe, Int.reduceToNat, Int.reduceAdd, Int.reduceMul, Int.reduceSub, Int.reduceBEq, hL, lt]; repeat' (first | (rw [guardO_t]; split <;> rename_i h <;> (try rw [Bool.not_eq_true] at h) <;> (try simp only [go_sem, reduceIte, Nat.reduceEqDiff, Nat.reduceAdd, Nat.reduceSub, Nat.reduceMul, Nat.reduceLeDiff, Nat.reduceLT, Int.reduceNeg, Int.reduceEq, Int.reduceLT, Int.reduceLE, Int.reduceNe, Int.reduceToNat, Int.reduceAdd, Int.reduceMul, Int.reduceSub, Int.reduceBEq, c3_r1, c3_r5, c3_r13, c3_r24, c3_l0_a, hL, lt, *])) | (rw [guardO_f]; split <;> rename_i h <;> (try rw [Bool.not_eq_true] at h) <;> (try simp only [go_sem, reduceIte, Nat.reduceEqDiff, Nat.reduceAdd, Nat.reduceSub, Nat.reduceMul, Nat.reduceLeDiff, Nat.reduceLT, Int.reduceNeg, Int.reduceEq, Int.reduceLT, Int.reduceLE, Int.reduceNe, Int.reduceToNat, Int.reduceAdd, Int.reduceMul, Int.reduceSub, Int.reduceBEq, c3_r1, c3_r5, c3_r13, c3_r24, c3_l0_a, hL, lt, *])) | (rw [cw_bool]; split <;> rename_i h <;> (try rw [Bool.not_eq_true] at h) <;> (try simp only [go_sem, reduceIte, Nat.reduceEqDiff, Nat.reduceAdd, Nat.reduceSub, Nat.reduceMul, Nat.reduceLeDiff, Nat.reduceLT, Int.reduceNeg, Int.reduceEq, Int.reduceLT, Int.reduceLE, Int.reduceNe, Int.reduceToNat, Int.reduceAdd, Int.reduceMul, Int.reduceSub, Int.reduceBEq, c3_r1, c3_r5, c3_r13, c3_r24, c3_l0_a, hL, lt, *]))))
  | n + 1, j, hj => by
    have ih := ord_l0 s t L M a hL ha ho S fin st n (j + 1) (by omega)
    have lt : decide (((j + 1 : Nat) : Int) < ((a + 1 : Nat) : Int)) = true := decide_eq_true (by omega)
    have hx : L[j]? = some L[j] := List.getElem?_eq_getElem (by omega)
    have hy : L[j + 1]? = some L[j + 1] := List.getElem?_eq_getElem (by omega)
    have oo := ho j _ _ hx hy
    generalize L[j] = x at *
    generalize L[j + 1] = y at *
    have ge : decide (y.At ≤ x.At) = false := decide_eq_false (by omega)
    have w1 : IntKind.i64.wrap (((j + 1 : Nat) : Int) - 1) = (j : Int) := by rw [wrap64 (by omega) (by omega)]; omega
    have w2 : IntKind.i64.wrap (((j + 1 : Nat) : Int) + 1) = ((j + 1 + 1 : Nat) : Int) := by rw [wrap64 (by omega) (by omega)]; omega
    have b1 : (0 : Int) ≤ (j : Int) ∧ (j : Int) < ((a + 1 : Nat) : Int) := by omega
    have b2 : (0 : Int) ≤ ((j + 1 : Nat) : Int) ∧ ((j + 1 : Nat) : Int) < ((a + 1 : Nat) : Int) := by omega
    (rw [c3_l0_w]; simp only [c3_l0_b, c3_l0_a, c3_r1, c3_r5, c3_r13, c3_r24, go_sem, reduceIte, Nat.reduceEqDiff, Nat.reduceAdd, Nat.reduceSub, Nat.reduceMul, Nat.reduceLeDiff, Nat.reduceLT, Int.reduceNeg, Int.reduceEq, Int.reduceLT, Int.reduceLE, Int.reduceNe, Int.reduceToNat, Int.reduceAdd, Int.reduceMul, Int.reduceSub, Int.reduceBEq, hL, lt, w1, w2, b1, b2, hx, hy, ge, ih, Int.toNat_natCast, rToken_eq]; repeat' (first | (rw [guardO_t]; split <;> rename_i h <;> (try rw [Bool.not_eq_true] at h) <;> (try simp only [go_sem, reduceIte, Nat.reduceEqDiff, Nat.reduceAdd, Nat.reduceSub, Nat.reduceMul, Nat.reduceLeDiff, Nat.reduceLT, Int.reduceNeg, Int.reduceEq, Int.reduceLT, Int.reduceLE, Int.reduceNe, Int.reduceToNat, Int.reduceAdd, Int.reduceMul, Int.reduceSub, Int.reduceBEq, c3_r1, c3_r5, c3_r13, c3_r24, c3_l0_a, hL, lt, w1, w2, b1, b2, hx, hy, ge, ih, Int.toNat_natCast, rToken_eq, *])) | (rw [guardO_f]; split <;> rename_i h <;> (try rw [Bool.not_eq_true] at h) <;> (try simp only [go_sem, reduceIte, Nat.reduceEqDiff, Nat.reduceAdd, Nat.reduceSub, Nat.reduceMul, Nat.reduceLeDiff, Nat.reduceLT, Int.reduceNeg, Int.reduceEq, Int.reduceLT, Int.reduceLE, Int.reduceNe, Int.reduceToNat, Int.reduceAdd, Int.reduceMul, Int.reduceSub, Int.reduceBEq, c3_r1, c3_r5, c3_r13, c3_r24, c3_l0_a, hL, lt, w1, w2, b1, b2, hx, hy, ge, ih, Int.toNat_natCast, rToken_eq, *])) | (rw [cw_bool]; split <;> rename_i h <;> (try rw [Bool.not_eq_true] at h) <;> (try simp only [go_sem, reduceIte, Nat.reduceEqDiff, Nat.reduceAdd, Nat.reduceSub, Nat.reduceMul, Nat.reduceLeDiff, Nat.reduceLT, Int.reduceNeg, Int.reduceEq, Int.reduceLT, Int.reduceLE, Int.reduceNe, Int.reduceToNat, Int.reduceAdd, Int.reduceMul, Int.reduceSub, Int.reduceBEq, c3_r1, c3_r5, c3_r13, c3_r24, c3_l0_a, hL, lt, w1, w2, b1, b2, hx, hy, ge, ih, Int.toNat_natCast, rToken_eq, *]))))
theorem ord_l1 (s : PV) (L M B : List GToken) (a b : Nat) (hL : L.length = a + 1) (hB : B.length = a + b) (ha : a ≤ 5000) (he : ∀ j : Nat, j < a → B[j]? = L[j]?) (S : St) (fin : Kont (PV × St)) (st : List Fw) : ∀ (n j : Nat), j + n = a →
    run (env ot oz) fin st c3_l1 [(0, some s), (5, some (.sl .ro (L.map rToken))), (7, some (.sl .ro (M.map rToken))), (10, some (.sl .ro (B.map rToken))), (12, some (.int .i64 (j : Int)))] S =
      aft (env ot oz) fin st (.exit 2) [(0, some s), (5, some (.sl .ro (L.map rToken))), (7, some (.sl .ro (M.map rToken))), (10, some (.sl .ro (B.map rToken))), (12, some (.int .i64 (a : Int))), (101, some (.bool false))] S
  | 0, j, hj => by
    have e : j = a := by omega
    subst e
    have w1 : IntKind.i64.wrap ((j : Int) + 1) = ((j + 1 : Nat) : Int) := by rw [wrap64 (by omega) (by omega)]; omega
    have lt : decide (((j + 1 : Nat) : Int) < ((j + 1 : Nat) : Int)) = false := decide_eq_false (by omega)
    (rw [c3_l1_w]; simp only [c3_l1_b, c3_l1_a, c3_r1, c3_r5, c3_r13, c3_r24, go_sem, reduceIte, Nat.reduceEqDiff, Nat.reduceAdd, Nat.reduceSub, Nat.reduceMul, Nat.reduceLeDiff, Nat.reduceLT, Int.reduceNeg, Int.reduceEq, Int.reduceLT, Int.reduceLE, Int.reduceNe, Int.reduceToNat, Int.reduceAdd, Int.reduceMul, Int.reduceSub, Int.reduceBEq, hL, w1, lt]; repeat' (first | (rw [guardO_t]; split <;> rename_i h <;> (try rw [Bool.not_eq_true] at h) <;> (try simp only [go_sem, reduceIte, Nat.reduceEqDiff, Nat.reduceAdd, Nat.reduceSub, Nat.reduceMul, Nat.reduceLeDiff, Nat.reduceLT, Int.reduceNeg, Int.reduceEq, Int.reduceLT, Int.reduceLE, Int.reduceNe, Int.reduceToNat, Int.reduceAdd, Int.reduceMul, Int.reduceSub, Int.reduceBEq, c3_r1, c3_r5, c3_r13, c3_r24, c3_l1_a, hL, w1, lt, *])) | (rw [guardO_f]; split <;> rename_i h <;> (try rw [Bool.not_eq_true] at h) <;> (try simp only [go_sem, reduceIte, Nat.reduceEqDiff, Nat.reduceAdd, Nat.reduceSub, Nat.reduceMul, Nat.reduceLeDiff, Nat.reduceLT, Int.reduceNeg, Int.reduceEq, Int.reduceLT, Int.reduceLE, Int.reduceNe, Int.reduceToNat, Int.reduceAdd, Int.reduceMul, Int.reduceSub, Int.reduceBEq, c3_r1, c3_r5, c3_r13, c3_r24, c3_l1_a, hL, w1, lt, *])) | (rw [cw_bool]; split <;> rename_i h <;> (try rw [Bool.not_eq_true] at h) <;> (try simp only [go_sem, reduceIte, Nat.reduceEqDiff, Nat.reduceAdd, Nat.reduceSub, Nat.reduceMul, Nat.reduceLeDiff, Nat.reduceLT, Int.reduceNeg, Int.reduceEq, Int.reduceLT, Int.reduceLE, Int.reduceNe, Int.reduceToNat, Int.reduceAdd, Int.reduceMul, Int.reduceSub, Int.reduceBEq, c3_r1, c3_r5, c3_r13, c3_r24, c3_l1_a, hL, w1, lt, *]))))
  | n + 1, j, hj => by
    have ih := ord_l1 s L M B a b hL hB ha he S fin st n (j + 1) (by omega)
    have lt : decide (((j + 1 : Nat) : Int) < ((a + 1 : Nat) : Int)) = true := decide_eq_true (by omega)
    have hx : L[j]? = some L[j] := List.getElem?_eq_getElem (by omega)
    have hy := he j (by omega)
    rw [hx] at hy
    generalize L[j] = x at *
    have w1 : IntKind.i64.wrap ((j : Int) + 1) = ((j + 1 : Nat) : Int) := by rw [wrap64 (by omega) (by omega)]; omega
    have b1 : (0 : Int) ≤ (j : Int) ∧ (j : Int) < ((a + 1 : Nat) : Int) := by omega
    have b2 : (0 : Int) ≤ (j : Int) ∧ (j : Int) < ((a + b : Nat) : Int) := by
      have := getElem?_lt hy
      omega
    (rw [c3_l1_w]; simp only [c3_l1_b, c3_l1_a, c3_r1, c3_r5, c3_r13, c3_r24, go_sem, reduceIte, Nat.reduceEqDiff, Nat.reduceAdd, Nat.reduceSub, Nat.reduceMul, Nat.reduceLeDiff, Nat.reduceLT, Int.reduceNeg, Int.reduceEq, Int.reduceLT, Int.reduceLE, Int.reduceNe, Int.reduceToNat, Int.reduceAdd, Int.reduceMul, Int.reduceSub, Int.reduceBEq, hL, hB, lt, w1, b1, b2, hx, hy, ih, Int.toNat_natCast, rToken_eq]; repeat' (first | (rw [guardO_t]; split <;> rename_i h <;> (try rw [Bool.not_eq_true] at h) <;> (try simp only [go_sem, reduceIte, Nat.reduceEqDiff, Nat.reduceAdd, Nat.reduceSub, Nat.reduceMul, Nat.reduceLeDiff, Nat.reduceLT, Int.reduceNeg, Int.reduceEq, Int.reduceLT, Int.reduceLE, Int.reduceNe, Int.reduceToNat, Int.reduceAdd, Int.reduceMul, Int.reduceSub, Int.reduceBEq, c3_r1, c3_r5, c3_r13, c3_r24, c3_l1_a, hL, hB, lt, w1, b1, b2, hx, hy, ih, Int.toNat_natCast, rToken_eq, *])) | (rw [guardO_f]; split <;> rename_i h <;> (try rw [Bool.not_eq_true] at h) <;> (try simp only [go_sem, reduceIte, Nat.reduceEqDiff, Nat.reduceAdd, Nat.reduceSub, Nat.reduceMul, Nat.reduceLeDiff, Nat.reduceLT, Int.reduceNeg, Int.reduceEq, Int.reduceLT, Int.reduceLE, Int.reduceNe, Int.reduceToNat, Int.reduceAdd, Int.reduceMul, Int.reduceSub, Int.reduceBEq, c3_r1, c3_r5, c3_r13, c3_r24, c3_l1_a, hL, hB, lt, w1, b1, b2, hx, hy, ih, Int.toNat_natCast, rToken_eq, *])) | (rw [cw_bool]; split <;> rename_i h <;> (try rw [Bool.not_eq_true] at h) <;> (try simp only [go_sem, reduceIte, Nat.reduceEqDiff, Nat.reduceAdd, Nat.reduceSub, Nat.reduceMul, Nat.reduceLeDiff, Nat.reduceLT, Int.reduceNeg, Int.reduceEq, Int.reduceLT, Int.reduceLE, Int.reduceNe, Int.reduceToNat, Int.reduceAdd, Int.reduceMul, Int.reduceSub, Int.reduceBEq, c3_r1, c3_r5, c3_r13, c3_r24, c3_l1_a, hL, hB, lt, w1, b1, b2, hx, hy, ih, Int.toNat_natCast, rToken_eq, *]))))
theorem ord_l2 (s : ByteArray) (hs : s.size ≤ 2000) (L M B : List GToken) (a b : Nat) (hL : L.length = a + 1) (hM : M.length = b) (hB : B.length = a + b) (ha : a ≤ 5000) (hb : b ≤ 5000)
    (he : ∀ (j : Nat) m, M[j]? = some m → (0 ≤ m.At ∧ m.At ≤ 5000) ∧ B[a + j]? = some ⟨m.K, m.N, m.S, m.At + (s.size : Int) + 1⟩) : ∀ (n j : Nat), j + n = b → ∀ (S : St), ∃ os, ∀ (fin : Kont (PV × St)) (st : List Fw),
    run (env ot oz) fin st c3_l2 [(0, some (.str s)), (5, some (.sl .ro (L.map rToken))), (7, some (.sl .ro (M.map rToken))), (10, some (.sl .ro (B.map rToken))), (13, some (.int .i64 (j : Int)))] S =
      aft (env ot oz) fin st (.exit 4) [(0, some (.str s)), (5, some (.sl .ro (L.map rToken))), (7, some (.sl .ro (M.map rToken))), (10, some (.sl .ro (B.map rToken))), (13, some (.int .i64 (b : Int))), (116, some (.bool false))] ⟨S.obs ++ os, S.own⟩
  | 0, j, hj, S => by
    have e : j = b := by omega
    subst e
    have lt : decide ((j : Int) < (j : Int)) = false := decide_eq_false (by omega)
    refine ⟨[], fun fin st => ?_⟩
    simp only [List.append_nil]
    (rw [c3_l2_w]; simp only [c3_l2_b, c3_l2_a, c3_r1, c3_r5, c3_r13, c3_r24, go_sem, reduceIte, Nat.reduceEqDiff, Nat.reduceAdd, Nat.reduceSub, Nat.reduceMul, Nat.reduceLeDiff, Nat.reduceLT, Int.reduceNeg, Int.reduceEq, Int.reduceLT, Int.reduceLE, Int.reduceNe, Int.reduceToNat, Int.reduceAdd, Int.reduceMul, Int.reduceSub, Int.reduceBEq, hM, lt]; repeat' (first | (rw [guardO_t]; split <;> rename_i h <;> (try rw [Bool.not_eq_true] at h) <;> (try simp only [go_sem, reduceIte, Nat.reduceEqDiff, Nat.reduceAdd, Nat.reduceSub, Nat.reduceMul, Nat.reduceLeDiff, Nat.reduceLT, Int.reduceNeg, Int.reduceEq, Int.reduceLT, Int.reduceLE, Int.reduceNe, Int.reduceToNat, Int.reduceAdd, Int.reduceMul, Int.reduceSub, Int.reduceBEq, c3_r1, c3_r5, c3_r13, c3_r24, c3_l2_a, hM, lt, *])) | (rw [guardO_f]; split <;> rename_i h <;> (try rw [Bool.not_eq_true] at h) <;> (try simp only [go_sem, reduceIte, Nat.reduceEqDiff, Nat.reduceAdd, Nat.reduceSub, Nat.reduceMul, Nat.reduceLeDiff, Nat.reduceLT, Int.reduceNeg, Int.reduceEq, Int.reduceLT, Int.reduceLE, Int.reduceNe, Int.reduceToNat, Int.reduceAdd, Int.reduceMul, Int.reduceSub, Int.reduceBEq, c3_r1, c3_r5, c3_r13, c3_r24, c3_l2_a, hM, lt, *])) | (rw [cw_bool]; split <;> rename_i h <;> (try rw [Bool.not_eq_true] at h) <;> (try simp only [go_sem, reduceIte, Nat.reduceEqDiff, Nat.reduceAdd, Nat.reduceSub, Nat.reduceMul, Nat.reduceLeDiff, Nat.reduceLT, Int.reduceNeg, Int.reduceEq, Int.reduceLT, Int.reduceLE, Int.reduceNe, Int.reduceToNat, Int.reduceAdd, Int.reduceMul, Int.reduceSub, Int.reduceBEq, c3_r1, c3_r5, c3_r13, c3_r24, c3_l2_a, hM, lt, *]))))
  | n + 1, j, hj, S => by
    have lt : decide ((j : Int) < (b : Int)) = true := decide_eq_true (by omega)
    have hx : M[j]? = some M[j] := List.getElem?_eq_getElem (by omega)
    obtain ⟨hat, hy⟩ := he j _ hx
    generalize M[j] = m at *
    obtain ⟨os, ih⟩ := ord_l2 s hs L M B a b hL hM hB ha hb he n (j + 1) (by omega) ⟨S.obs ++ [.cells 29 [.int .i64 m.K, .int .i64 m.N, .str m.S, .int .i64 (m.At + (s.size : Int) + 1)]], S.own⟩
    refine ⟨[.cells 29 [.int .i64 m.K, .int .i64 m.N, .str m.S, .int .i64 (m.At + (s.size : Int) + 1)]] ++ os, fun fin st => ?_⟩
    have ih := ih fin st
    simp only [List.append_assoc] at ih
    have w0 : IntKind.i64.wrap (((a + 1 : Nat) : Int) - 1) = (a : Int) := by rw [wrap64 (by omega) (by omega)]; omega
    have w1 : IntKind.i64.wrap ((a : Int) + (j : Int)) = ((a + j : Nat) : Int) := by rw [wrap64 (by omega) (by omega)]; omega
    have w2 : IntKind.i64.wrap ((j : Int) + 1) = ((j + 1 : Nat) : Int) := by rw [wrap64 (by omega) (by omega)]; omega
    have w3 : IntKind.i64.wrap (m.At + (s.size : Int)) = m.At + (s.size : Int) := wrap64 (by omega) (by omega)
    have w4 : IntKind.i64.wrap (m.At + (s.size : Int) + 1) = m.At + (s.size : Int) + 1 := wrap64 (by omega) (by omega)
    have b1 : (0 : Int) ≤ (j : Int) ∧ (j : Int) < (b : Int) := by omega
    have b2 : (0 : Int) ≤ ((a + j : Nat) : Int) ∧ ((a + j : Nat) : Int) < ((a + b : Nat) : Int) := by omega
    have g2 : ∀ o, (S.obs ++ [Ob.cells 29 o])[S.obs.length]? = some (.cells 29 o) := fun o => by simp
    have g4 : ∀ o o', (S.obs ++ [Ob.cells 29 o]).set S.obs.length o' = S.obs ++ [o'] := fun o o' => by rw [List.set_append, if_neg (by omega)]; simp
    (rw [c3_l2_w]; simp only [c3_l2_b, c3_l2_a, c3_r1, c3_r5, c3_r13, c3_r24, go_sem, reduceIte, Nat.reduceEqDiff, Nat.reduceAdd, Nat.reduceSub, Nat.reduceMul, Nat.reduceLeDiff, Nat.reduceLT, Int.reduceNeg, Int.reduceEq, Int.reduceLT, Int.reduceLE, Int.reduceNe, Int.reduceToNat, Int.reduceAdd, Int.reduceMul, Int.reduceSub, Int.reduceBEq, hL, hM, hB, lt, w0, w1, w2, w3, w4, b1, b2, hx, hy, g2, g4, ih, Int.toNat_natCast, rToken_eq]; repeat' (first | (rw [guardO_t]; split <;> rename_i h <;> (try rw [Bool.not_eq_true] at h) <;> (try simp only [go_sem, reduceIte, Nat.reduceEqDiff, Nat.reduceAdd, Nat.reduceSub, Nat.reduceMul, Nat.reduceLeDiff, Nat.reduceLT, Int.reduceNeg, Int.reduceEq, Int.reduceLT, Int.reduceLE, Int.reduceNe, Int.reduceToNat, Int.reduceAdd, Int.reduceMul, Int.reduceSub, Int.reduceBEq, c3_r1, c3_r5, c3_r13, c3_r24, c3_l2_a, hL, hM, hB, lt, w0, w1, w2, w3, w4, b1, b2, hx, hy, g2, g4, ih, Int.toNat_natCast, rToken_eq, *])) | (rw [guardO_f]; split <;> rename_i h <;> (try rw [Bool.not_eq_true] at h) <;> (try simp only [go_sem, reduceIte, Nat.reduceEqDiff, Nat.reduceAdd, Nat.reduceSub, Nat.reduceMul, Nat.reduceLeDiff, Nat.reduceLT, Int.reduceNeg, Int.reduceEq, Int.reduceLT, Int.reduceLE, Int.reduceNe, Int.reduceToNat, Int.reduceAdd, Int.reduceMul, Int.reduceSub, Int.reduceBEq, c3_r1, c3_r5, c3_r13, c3_r24, c3_l2_a, hL, hM, hB, lt, w0, w1, w2, w3, w4, b1, b2, hx, hy, g2, g4, ih, Int.toNat_natCast, rToken_eq, *])) | (rw [cw_bool]; split <;> rename_i h <;> (try rw [Bool.not_eq_true] at h) <;> (try simp only [go_sem, reduceIte, Nat.reduceEqDiff, Nat.reduceAdd, Nat.reduceSub, Nat.reduceMul, Nat.reduceLeDiff, Nat.reduceLT, Int.reduceNeg, Int.reduceEq, Int.reduceLT, Int.reduceLE, Int.reduceNe, Int.reduceToNat, Int.reduceAdd, Int.reduceMul, Int.reduceSub, Int.reduceBEq, c3_r1, c3_r5, c3_r13, c3_r24, c3_l2_a, hL, hM, hB, lt, w0, w1, w2, w3, w4, b1, b2, hx, hy, g2, g4, ih, Int.toNat_natCast, rToken_eq, *]))))
theorem both_data (s t : ByteArray) : (s ++ ⟨#[10]⟩ ++ t).data.toList = s.data.toList ++ 10 :: t.data.toList := by
  rw [ByteArray.data_append, ByteArray.data_append]; simp
theorem both_size (s t : ByteArray) : (s ++ ⟨#[10]⟩ ++ t).size = s.size + 1 + t.size := by
  rw [← size_data, both_data, List.length_append, List.length_cons, size_data, size_data]; omega
theorem inOrder_get : ∀ (ts : List GToken) (a b : Int), InOrder a b ts → (∀ (j : Nat) x, ts[j]? = some x → a ≤ x.At ∧ x.At < b) ∧ ∀ (j : Nat) x y, ts[j]? = some x → ts[j + 1]? = some y → x.At < y.At
  | [], a, b, _ => ⟨fun j x h => by simp at h, fun j x y h => by simp at h⟩
  | t :: ts, a, b, h => by
    obtain ⟨h1, h2, h3⟩ := h
    obtain ⟨i1, i2⟩ := inOrder_get ts _ _ h3
    refine ⟨fun j x hx => ?_, fun j x y hx hy => ?_⟩
    · match j with
      | 0 => simp at hx; subst hx; exact ⟨h1, h2⟩
      | j + 1 => have := i1 j x (by simpa using hx); omega
    · match j with
      | 0 => simp at hx; subst hx; have := i1 0 y (by simpa using hy); omega
      | j + 1 => exact i2 j x y (by simpa using hx) (by simpa using hy)
theorem lexOrder (s t : ByteArray) (oks : Short s.size) (okt : Short t.size) : Ev (env ot oz) 3 [.str s, .str t] .none (.bool true) .none := by
  refine cal_ev ?_
  have aw := aw03 (ot := ot) (oz := oz)
  cases l1 : decide ((2000 : Int) < (s.size : Int)) with
  | true => (rw [w_plain (fn := c3) rfl rfl (by simp only [go_sem, reduceIte, Nat.reduceEqDiff, Nat.reduceAdd, Nat.reduceSub, Nat.reduceMul, Nat.reduceLeDiff, Nat.reduceLT, Int.reduceNeg, Int.reduceEq, Int.reduceLT, Int.reduceLE, Int.reduceNe, Int.reduceToNat, Int.reduceAdd, Int.reduceMul, Int.reduceSub, Int.reduceBEq, l1, aw]) rfl (by decide)]; simp only [c3, c3_b, c3_r1, c3_r5, c3_r13, c3_r24, go_sem, reduceIte, Nat.reduceEqDiff, Nat.reduceAdd, Nat.reduceSub, Nat.reduceMul, Nat.reduceLeDiff, Nat.reduceLT, Int.reduceNeg, Int.reduceEq, Int.reduceLT, Int.reduceLE, Int.reduceNe, Int.reduceToNat, Int.reduceAdd, Int.reduceMul, Int.reduceSub, Int.reduceBEq, l1, aw]; repeat' (first | (rw [guardO_t]; split <;> rename_i h <;> (try rw [Bool.not_eq_true] at h) <;> (try simp only [go_sem, reduceIte, Nat.reduceEqDiff, Nat.reduceAdd, Nat.reduceSub, Nat.reduceMul, Nat.reduceLeDiff, Nat.reduceLT, Int.reduceNeg, Int.reduceEq, Int.reduceLT, Int.reduceLE, Int.reduceNe, Int.reduceToNat, Int.reduceAdd, Int.reduceMul, Int.reduceSub, Int.reduceBEq, c3_r1, c3_r5, c3_r13, c3_r24, l1, aw, *])) | (rw [guardO_f]; split <;> rename_i h <;> (try rw [Bool.not_eq_true] at h) <;> (try simp only [go_sem, reduceIte, Nat.reduceEqDiff, Nat.reduceAdd, Nat.reduceSub, Nat.reduceMul, Nat.reduceLeDiff, Nat.reduceLT, Int.reduceNeg, Int.reduceEq, Int.reduceLT, Int.reduceLE, Int.reduceNe, Int.reduceToNat, Int.reduceAdd, Int.reduceMul, Int.reduceSub, Int.reduceBEq, c3_r1, c3_r5, c3_r13, c3_r24, l1, aw, *])) | (rw [cw_bool]; split <;> rename_i h <;> (try rw [Bool.not_eq_true] at h) <;> (try simp only [go_sem, reduceIte, Nat.reduceEqDiff, Nat.reduceAdd, Nat.reduceSub, Nat.reduceMul, Nat.reduceLeDiff, Nat.reduceLT, Int.reduceNeg, Int.reduceEq, Int.reduceLT, Int.reduceLE, Int.reduceNe, Int.reduceToNat, Int.reduceAdd, Int.reduceMul, Int.reduceSub, Int.reduceBEq, c3_r1, c3_r5, c3_r13, c3_r24, l1, aw, *]))))
  | false =>
  cases l2 : decide ((2000 : Int) < (t.size : Int)) with
  | true => (rw [w_plain (fn := c3) rfl rfl (by simp only [go_sem, reduceIte, Nat.reduceEqDiff, Nat.reduceAdd, Nat.reduceSub, Nat.reduceMul, Nat.reduceLeDiff, Nat.reduceLT, Int.reduceNeg, Int.reduceEq, Int.reduceLT, Int.reduceLE, Int.reduceNe, Int.reduceToNat, Int.reduceAdd, Int.reduceMul, Int.reduceSub, Int.reduceBEq, l1, l2, aw]) rfl (by decide)]; simp only [c3, c3_b, c3_r1, c3_r5, c3_r13, c3_r24, go_sem, reduceIte, Nat.reduceEqDiff, Nat.reduceAdd, Nat.reduceSub, Nat.reduceMul, Nat.reduceLeDiff, Nat.reduceLT, Int.reduceNeg, Int.reduceEq, Int.reduceLT, Int.reduceLE, Int.reduceNe, Int.reduceToNat, Int.reduceAdd, Int.reduceMul, Int.reduceSub, Int.reduceBEq, l1, l2, aw]; repeat' (first | (rw [guardO_t]; split <;> rename_i h <;> (try rw [Bool.not_eq_true] at h) <;> (try simp only [go_sem, reduceIte, Nat.reduceEqDiff, Nat.reduceAdd, Nat.reduceSub, Nat.reduceMul, Nat.reduceLeDiff, Nat.reduceLT, Int.reduceNeg, Int.reduceEq, Int.reduceLT, Int.reduceLE, Int.reduceNe, Int.reduceToNat, Int.reduceAdd, Int.reduceMul, Int.reduceSub, Int.reduceBEq, c3_r1, c3_r5, c3_r13, c3_r24, l1, l2, aw, *])) | (rw [guardO_f]; split <;> rename_i h <;> (try rw [Bool.not_eq_true] at h) <;> (try simp only [go_sem, reduceIte, Nat.reduceEqDiff, Nat.reduceAdd, Nat.reduceSub, Nat.reduceMul, Nat.reduceLeDiff, Nat.reduceLT, Int.reduceNeg, Int.reduceEq, Int.reduceLT, Int.reduceLE, Int.reduceNe, Int.reduceToNat, Int.reduceAdd, Int.reduceMul, Int.reduceSub, Int.reduceBEq, c3_r1, c3_r5, c3_r13, c3_r24, l1, l2, aw, *])) | (rw [cw_bool]; split <;> rename_i h <;> (try rw [Bool.not_eq_true] at h) <;> (try simp only [go_sem, reduceIte, Nat.reduceEqDiff, Nat.reduceAdd, Nat.reduceSub, Nat.reduceMul, Nat.reduceLeDiff, Nat.reduceLT, Int.reduceNeg, Int.reduceEq, Int.reduceLT, Int.reduceLE, Int.reduceNe, Int.reduceToNat, Int.reduceAdd, Int.reduceMul, Int.reduceSub, Int.reduceBEq, c3_r1, c3_r5, c3_r13, c3_r24, l1, l2, aw, *]))))
  | false =>
  have hs : s.size ≤ 2000 := by have := of_decide_eq_false l1; omega
  have ht : t.size ≤ 2000 := by have := of_decide_eq_false l2; omega
  have asA := all_g (ot := ot) (oz := oz) s (by omega)
  have at' := all_g (ot := ot) (oz := oz) t (by omega)
  have ab := all_g (ot := ot) (oz := oz) (s ++ ⟨#[10]⟩ ++ t) (by rw [both_size]; omega)
  have eb := both_data s t
  have zb := both_size s t
  have zs := size_data s
  have zt := size_data t
  unfold allR at asA at' ab
  cases hA : lexG s.size (s.size + 1) s.data.toList 0 with
  | error e =>
    rw [hA] at asA
    simp only [allP] at asA
    cases hB : lexG t.size (t.size + 1) t.data.toList 0 with
    | error e' =>
      rw [hB] at at'
      simp only [allP] at at'
      (rw [w_plain (fn := c3) rfl rfl (by simp only [go_sem, reduceIte, Nat.reduceEqDiff, Nat.reduceAdd, Nat.reduceSub, Nat.reduceMul, Nat.reduceLeDiff, Nat.reduceLT, Int.reduceNeg, Int.reduceEq, Int.reduceLT, Int.reduceLE, Int.reduceNe, Int.reduceToNat, Int.reduceAdd, Int.reduceMul, Int.reduceSub, Int.reduceBEq, l1, l2, asA, at', aw]) rfl (by decide)]; simp only [c3, c3_b, c3_r1, c3_r5, c3_r13, c3_r24, go_sem, reduceIte, Nat.reduceEqDiff, Nat.reduceAdd, Nat.reduceSub, Nat.reduceMul, Nat.reduceLeDiff, Nat.reduceLT, Int.reduceNeg, Int.reduceEq, Int.reduceLT, Int.reduceLE, Int.reduceNe, Int.reduceToNat, Int.reduceAdd, Int.reduceMul, Int.reduceSub, Int.reduceBEq, l1, l2, asA, at', aw]; repeat' (first | (rw [guardO_t]; split <;> rename_i h <;> (try rw [Bool.not_eq_true] at h) <;> (try simp only [go_sem, reduceIte, Nat.reduceEqDiff, Nat.reduceAdd, Nat.reduceSub, Nat.reduceMul, Nat.reduceLeDiff, Nat.reduceLT, Int.reduceNeg, Int.reduceEq, Int.reduceLT, Int.reduceLE, Int.reduceNe, Int.reduceToNat, Int.reduceAdd, Int.reduceMul, Int.reduceSub, Int.reduceBEq, c3_r1, c3_r5, c3_r13, c3_r24, l1, l2, asA, at', aw, *])) | (rw [guardO_f]; split <;> rename_i h <;> (try rw [Bool.not_eq_true] at h) <;> (try simp only [go_sem, reduceIte, Nat.reduceEqDiff, Nat.reduceAdd, Nat.reduceSub, Nat.reduceMul, Nat.reduceLeDiff, Nat.reduceLT, Int.reduceNeg, Int.reduceEq, Int.reduceLT, Int.reduceLE, Int.reduceNe, Int.reduceToNat, Int.reduceAdd, Int.reduceMul, Int.reduceSub, Int.reduceBEq, c3_r1, c3_r5, c3_r13, c3_r24, l1, l2, asA, at', aw, *])) | (rw [cw_bool]; split <;> rename_i h <;> (try rw [Bool.not_eq_true] at h) <;> (try simp only [go_sem, reduceIte, Nat.reduceEqDiff, Nat.reduceAdd, Nat.reduceSub, Nat.reduceMul, Nat.reduceLeDiff, Nat.reduceLT, Int.reduceNeg, Int.reduceEq, Int.reduceLT, Int.reduceLE, Int.reduceNe, Int.reduceToNat, Int.reduceAdd, Int.reduceMul, Int.reduceSub, Int.reduceBEq, c3_r1, c3_r5, c3_r13, c3_r24, l1, l2, asA, at', aw, *]))))
    | ok us =>
      rw [hB] at at'
      simp only [allP] at at'
      (rw [w_plain (fn := c3) rfl rfl (by simp only [go_sem, reduceIte, Nat.reduceEqDiff, Nat.reduceAdd, Nat.reduceSub, Nat.reduceMul, Nat.reduceLeDiff, Nat.reduceLT, Int.reduceNeg, Int.reduceEq, Int.reduceLT, Int.reduceLE, Int.reduceNe, Int.reduceToNat, Int.reduceAdd, Int.reduceMul, Int.reduceSub, Int.reduceBEq, l1, l2, asA, at', aw]) rfl (by decide)]; simp only [c3, c3_b, c3_r1, c3_r5, c3_r13, c3_r24, go_sem, reduceIte, Nat.reduceEqDiff, Nat.reduceAdd, Nat.reduceSub, Nat.reduceMul, Nat.reduceLeDiff, Nat.reduceLT, Int.reduceNeg, Int.reduceEq, Int.reduceLT, Int.reduceLE, Int.reduceNe, Int.reduceToNat, Int.reduceAdd, Int.reduceMul, Int.reduceSub, Int.reduceBEq, l1, l2, asA, at', aw]; repeat' (first | (rw [guardO_t]; split <;> rename_i h <;> (try rw [Bool.not_eq_true] at h) <;> (try simp only [go_sem, reduceIte, Nat.reduceEqDiff, Nat.reduceAdd, Nat.reduceSub, Nat.reduceMul, Nat.reduceLeDiff, Nat.reduceLT, Int.reduceNeg, Int.reduceEq, Int.reduceLT, Int.reduceLE, Int.reduceNe, Int.reduceToNat, Int.reduceAdd, Int.reduceMul, Int.reduceSub, Int.reduceBEq, c3_r1, c3_r5, c3_r13, c3_r24, l1, l2, asA, at', aw, *])) | (rw [guardO_f]; split <;> rename_i h <;> (try rw [Bool.not_eq_true] at h) <;> (try simp only [go_sem, reduceIte, Nat.reduceEqDiff, Nat.reduceAdd, Nat.reduceSub, Nat.reduceMul, Nat.reduceLeDiff, Nat.reduceLT, Int.reduceNeg, Int.reduceEq, Int.reduceLT, Int.reduceLE, Int.reduceNe, Int.reduceToNat, Int.reduceAdd, Int.reduceMul, Int.reduceSub, Int.reduceBEq, c3_r1, c3_r5, c3_r13, c3_r24, l1, l2, asA, at', aw, *])) | (rw [cw_bool]; split <;> rename_i h <;> (try rw [Bool.not_eq_true] at h) <;> (try simp only [go_sem, reduceIte, Nat.reduceEqDiff, Nat.reduceAdd, Nat.reduceSub, Nat.reduceMul, Nat.reduceLeDiff, Nat.reduceLT, Int.reduceNeg, Int.reduceEq, Int.reduceLT, Int.reduceLE, Int.reduceNe, Int.reduceToNat, Int.reduceAdd, Int.reduceMul, Int.reduceSub, Int.reduceBEq, c3_r1, c3_r5, c3_r13, c3_r24, l1, l2, asA, at', aw, *]))))
  | ok ts =>
    rw [hA] at asA
    simp only [allP] at asA
    cases hB : lexG t.size (t.size + 1) t.data.toList 0 with
    | error e' =>
      rw [hB] at at'
      simp only [allP] at at'
      (rw [w_plain (fn := c3) rfl rfl (by simp only [go_sem, reduceIte, Nat.reduceEqDiff, Nat.reduceAdd, Nat.reduceSub, Nat.reduceMul, Nat.reduceLeDiff, Nat.reduceLT, Int.reduceNeg, Int.reduceEq, Int.reduceLT, Int.reduceLE, Int.reduceNe, Int.reduceToNat, Int.reduceAdd, Int.reduceMul, Int.reduceSub, Int.reduceBEq, l1, l2, asA, at', aw]) rfl (by decide)]; simp only [c3, c3_b, c3_r1, c3_r5, c3_r13, c3_r24, go_sem, reduceIte, Nat.reduceEqDiff, Nat.reduceAdd, Nat.reduceSub, Nat.reduceMul, Nat.reduceLeDiff, Nat.reduceLT, Int.reduceNeg, Int.reduceEq, Int.reduceLT, Int.reduceLE, Int.reduceNe, Int.reduceToNat, Int.reduceAdd, Int.reduceMul, Int.reduceSub, Int.reduceBEq, l1, l2, asA, at', aw]; repeat' (first | (rw [guardO_t]; split <;> rename_i h <;> (try rw [Bool.not_eq_true] at h) <;> (try simp only [go_sem, reduceIte, Nat.reduceEqDiff, Nat.reduceAdd, Nat.reduceSub, Nat.reduceMul, Nat.reduceLeDiff, Nat.reduceLT, Int.reduceNeg, Int.reduceEq, Int.reduceLT, Int.reduceLE, Int.reduceNe, Int.reduceToNat, Int.reduceAdd, Int.reduceMul, Int.reduceSub, Int.reduceBEq, c3_r1, c3_r5, c3_r13, c3_r24, l1, l2, asA, at', aw, *])) | (rw [guardO_f]; split <;> rename_i h <;> (try rw [Bool.not_eq_true] at h) <;> (try simp only [go_sem, reduceIte, Nat.reduceEqDiff, Nat.reduceAdd, Nat.reduceSub, Nat.reduceMul, Nat.reduceLeDiff, Nat.reduceLT, Int.reduceNeg, Int.reduceEq, Int.reduceLT, Int.reduceLE, Int.reduceNe, Int.reduceToNat, Int.reduceAdd, Int.reduceMul, Int.reduceSub, Int.reduceBEq, c3_r1, c3_r5, c3_r13, c3_r24, l1, l2, asA, at', aw, *])) | (rw [cw_bool]; split <;> rename_i h <;> (try rw [Bool.not_eq_true] at h) <;> (try simp only [go_sem, reduceIte, Nat.reduceEqDiff, Nat.reduceAdd, Nat.reduceSub, Nat.reduceMul, Nat.reduceLeDiff, Nat.reduceLT, Int.reduceNeg, Int.reduceEq, Int.reduceLT, Int.reduceLE, Int.reduceNe, Int.reduceToNat, Int.reduceAdd, Int.reduceMul, Int.reduceSub, Int.reduceBEq, c3_r1, c3_r5, c3_r13, c3_r24, l1, l2, asA, at', aw, *]))))
    | ok us =>
      rw [hB] at at'
      simp only [allP] at at'
      have oA := inOrder_get _ _ _ (lex_order _ _ _ _ hA (by rw [zs]; omega))
      have oB := inOrder_get _ _ _ (lex_order _ _ _ _ hB (by rw [zt]; omega))
      have mB : ∀ m', t.data.toList.length < m' → lexG (s ++ ⟨#[10]⟩ ++ t).size m' t.data.toList (0 + s.data.toList.length + 1) = .ok (us.map (mvT (s.size + 1))) := fun m' hm' => by
        have := lex_move _ _ _ _ hB (s ++ ⟨#[10]⟩ ++ t).size m' (s.size + 1) (by rw [zb, zt]; omega) hm'
        have e : 0 + s.data.toList.length + 1 = 0 + (s.size + 1) := by rw [zs]; omega
        rw [e]; exact this
      have hC := lex_app t.data.toList _ _ _ _ _ hA (s ++ ⟨#[10]⟩ ++ t).size ((s ++ ⟨#[10]⟩ ++ t).size + 1) (by rw [← eb, size_data]; omega) (by rw [← eb, size_data]; omega) mB
      rw [eb, hC] at ab
      simp only [allP] at ab
      have lA : ts.length ≤ 2000 := by
        have k : ∀ (a b : Int) (l : List GToken), InOrder a b l → 0 ≤ a → (l.length : Int) ≤ max 0 (b - a) := by
          intro a b l
          induction l generalizing a with
          | nil => intro _ _; simp; omega
          | cons t l ih =>
            intro hh ha
            have := ih _ hh.2.2 (by have := hh.1; omega)
            have h1 := hh.1; have h2 := hh.2.1
            simp only [List.length_cons]; omega
        have := k _ _ _ (lex_order _ _ _ _ hA (by rw [zs]; omega)) (by omega)
        rw [zs] at this; omega
      have lB : us.length ≤ 2000 := by
        have k : ∀ (a b : Int) (l : List GToken), InOrder a b l → 0 ≤ a → (l.length : Int) ≤ max 0 (b - a) := by
          intro a b l
          induction l generalizing a with
          | nil => intro _ _; simp; omega
          | cons t l ih =>
            intro hh ha
            have := ih _ hh.2.2 (by have := hh.1; omega)
            have h1 := hh.1; have h2 := hh.2.1
            simp only [List.length_cons]; omega
        have := k _ _ _ (lex_order _ _ _ _ hB (by rw [zt]; omega)) (by omega)
        rw [zt] at this; omega
      have hL : (ts ++ [(⟨0, 0, ⟨#[]⟩, (s.size : Int)⟩ : GToken)]).length = ts.length + 1 := by simp
      have hM : (us ++ [(⟨0, 0, ⟨#[]⟩, (t.size : Int)⟩ : GToken)]).length = us.length + 1 := by simp
      have hBl : (ts ++ us.map (mvT (s.size + 1)) ++ [(⟨0, 0, ⟨#[]⟩, ((s ++ ⟨#[10]⟩ ++ t).size : Int)⟩ : GToken)]).length = ts.length + (us.length + 1) := by simp <;> omega
      have hend : (ts ++ [(⟨0, 0, ⟨#[]⟩, (s.size : Int)⟩ : GToken)])[ts.length]? = some ⟨0, 0, ⟨#[]⟩, (s.size : Int)⟩ := by simp
      have ho : ∀ (j : Nat) x y, (ts ++ [(⟨0, 0, ⟨#[]⟩, (s.size : Int)⟩ : GToken)])[j]? = some x → (ts ++ [(⟨0, 0, ⟨#[]⟩, (s.size : Int)⟩ : GToken)])[j + 1]? = some y → x.At < y.At := fun j x y hx hy => by
        have hj : j < ts.length := by have := getElem?_lt hy; simp at this; omega
        rw [List.getElem?_append_left hj] at hx
        rcases Nat.lt_or_ge (j + 1) ts.length with h | h
        · rw [List.getElem?_append_left h] at hy
          exact oA.2 j x y hx hy
        · have : j + 1 = ts.length := by omega
          rw [this, hend] at hy
          injection hy with hy; subst hy
          have := (oA.1 j x hx).2
          rw [zs] at this
          show x.At < (s.size : Int)
          omega
      have he1 : ∀ j : Nat, j < ts.length → (ts ++ us.map (mvT (s.size + 1)) ++ [(⟨0, 0, ⟨#[]⟩, ((s ++ ⟨#[10]⟩ ++ t).size : Int)⟩ : GToken)])[j]? = (ts ++ [(⟨0, 0, ⟨#[]⟩, (s.size : Int)⟩ : GToken)])[j]? := fun j hj => by
        rw [List.append_assoc, List.getElem?_append_left hj, List.getElem?_append_left hj]
      have he2 : ∀ (j : Nat) m, (us ++ [(⟨0, 0, ⟨#[]⟩, (t.size : Int)⟩ : GToken)])[j]? = some m → (0 ≤ m.At ∧ m.At ≤ 5000) ∧ (ts ++ us.map (mvT (s.size + 1)) ++ [(⟨0, 0, ⟨#[]⟩, ((s ++ ⟨#[10]⟩ ++ t).size : Int)⟩ : GToken)])[ts.length + j]? = some ⟨m.K, m.N, m.S, m.At + (s.size : Int) + 1⟩ := fun j m hm => by
        rw [List.append_assoc, List.getElem?_append_right (by omega), Nat.add_sub_cancel_left]
        rcases Nat.lt_or_ge j us.length with h | h
        · rw [List.getElem?_append_left h] at hm
          rw [List.getElem?_append_left (by simpa using h), List.getElem?_map, hm]
          have := oB.1 j m hm
          rw [zt] at this
          refine ⟨⟨by omega, by omega⟩, ?_⟩
          simp only [Option.map_some, mvT, Option.some.injEq, GToken.mk.injEq, true_and]
          omega
        · have hj : j = us.length := by have := getElem?_lt hm; simp at this; omega
          subst hj
          have hm' : m = ⟨0, 0, ⟨#[]⟩, (t.size : Int)⟩ := by simpa using hm.symm
          subst hm'
          refine ⟨⟨by simp, by simp; omega⟩, ?_⟩
          rw [List.getElem?_append_right (by simp), zb]
          simp
          omega
      generalize (⟨0, 0, ⟨#[]⟩, ((s ++ ⟨#[10]⟩ ++ t).size : Int)⟩ : GToken) = EB at *
      generalize ts ++ us.map (mvT (s.size + 1)) ++ [EB] = B at *
      generalize (⟨0, 0, ⟨#[]⟩, (t.size : Int)⟩ : GToken) = EM at *
      generalize us ++ [EM] = M at *
      generalize hgL : ts ++ [(⟨0, 0, ⟨#[]⟩, (s.size : Int)⟩ : GToken)] = L at *
      generalize us.length = b at *
      generalize ts.length = a at *
      have f0 := fun S fin st => ord_l0 (ot := ot) (oz := oz) (.str s) (.str t) L M a hL (by omega) ho S fin st a 0 (by omega)
      have f1 := fun S fin st => ord_l1 (ot := ot) (oz := oz) (.str s) L M B a (b + 1) hL hBl (by omega) he1 S fin st a 0 (by omega)
      obtain ⟨os, f2⟩ := ord_l2 (ot := ot) (oz := oz) s hs L M B a (b + 1) hL hM hBl (by omega) (by omega) he2 (b + 1) 0 (by omega) St.none
      have n0 : (((a + 1 : Nat) : Int) == 0) = false := by simp; omega
      have w0 : IntKind.i64.wrap (((a + 1 : Nat) : Int) - 1) = (a : Int) := by rw [wrap64 (by omega) (by omega)]; omega
      have w1 : IntKind.i64.wrap ((a : Int) + ((b + 1 : Nat) : Int)) = ((a + (b + 1) : Nat) : Int) := by rw [wrap64 (by omega) (by omega)]; omega
      have b1 : (0 : Int) ≤ (a : Int) ∧ (a : Int) < ((a + 1 : Nat) : Int) := by omega
      simp only [Nat.zero_add, Int.cast_ofNat_Int] at f0 f1 f2
      have e10 : (⟨#[10]⟩ : ByteArray).size = 1 := rfl
      have z1 := addS (a := s) (b := ⟨#[10]⟩) (by rw [e10]; omega)
      have z2 := addS (a := s ++ ⟨#[10]⟩) (b := t) (by rw [ByteArray.size_append, e10]; omega)
      (rw [w_plain (fn := c3) rfl rfl (by simp only [go_sem, reduceIte, Nat.reduceEqDiff, Nat.reduceAdd, Nat.reduceSub, Nat.reduceMul, Nat.reduceLeDiff, Nat.reduceLT, Int.reduceNeg, Int.reduceEq, Int.reduceLT, Int.reduceLE, Int.reduceNe, Int.reduceToNat, Int.reduceAdd, Int.reduceMul, Int.reduceSub, Int.reduceBEq, l1, l2, asA, at', ab, ↓z1, ↓z2, hL, hM, hBl, f0, f1, f2, n0, w0, w1, b1, hend, aw, Int.toNat_natCast, rToken_eq]) rfl (by decide)]; simp only [c3, c3_b, c3_r1, c3_r5, c3_r13, c3_r24, go_sem, reduceIte, Nat.reduceEqDiff, Nat.reduceAdd, Nat.reduceSub, Nat.reduceMul, Nat.reduceLeDiff, Nat.reduceLT, Int.reduceNeg, Int.reduceEq, Int.reduceLT, Int.reduceLE, Int.reduceNe, Int.reduceToNat, Int.reduceAdd, Int.reduceMul, Int.reduceSub, Int.reduceBEq, l1, l2, asA, at', ab, ↓z1, ↓z2, hL, hM, hBl, f0, f1, f2, n0, w0, w1, b1, hend, aw, Int.toNat_natCast, rToken_eq]; repeat' (first | (rw [guardO_t]; split <;> rename_i h <;> (try rw [Bool.not_eq_true] at h) <;> (try simp only [go_sem, reduceIte, Nat.reduceEqDiff, Nat.reduceAdd, Nat.reduceSub, Nat.reduceMul, Nat.reduceLeDiff, Nat.reduceLT, Int.reduceNeg, Int.reduceEq, Int.reduceLT, Int.reduceLE, Int.reduceNe, Int.reduceToNat, Int.reduceAdd, Int.reduceMul, Int.reduceSub, Int.reduceBEq, c3_r1, c3_r5, c3_r13, c3_r24, l1, l2, asA, at', ab, ↓z1, ↓z2, hL, hM, hBl, f0, f1, f2, n0, w0, w1, b1, hend, aw, Int.toNat_natCast, rToken_eq, *])) | (rw [guardO_f]; split <;> rename_i h <;> (try rw [Bool.not_eq_true] at h) <;> (try simp only [go_sem, reduceIte, Nat.reduceEqDiff, Nat.reduceAdd, Nat.reduceSub, Nat.reduceMul, Nat.reduceLeDiff, Nat.reduceLT, Int.reduceNeg, Int.reduceEq, Int.reduceLT, Int.reduceLE, Int.reduceNe, Int.reduceToNat, Int.reduceAdd, Int.reduceMul, Int.reduceSub, Int.reduceBEq, c3_r1, c3_r5, c3_r13, c3_r24, l1, l2, asA, at', ab, ↓z1, ↓z2, hL, hM, hBl, f0, f1, f2, n0, w0, w1, b1, hend, aw, Int.toNat_natCast, rToken_eq, *])) | (rw [cw_bool]; split <;> rename_i h <;> (try rw [Bool.not_eq_true] at h) <;> (try simp only [go_sem, reduceIte, Nat.reduceEqDiff, Nat.reduceAdd, Nat.reduceSub, Nat.reduceMul, Nat.reduceLeDiff, Nat.reduceLT, Int.reduceNeg, Int.reduceEq, Int.reduceLT, Int.reduceLE, Int.reduceNe, Int.reduceToNat, Int.reduceAdd, Int.reduceMul, Int.reduceSub, Int.reduceBEq, c3_r1, c3_r5, c3_r13, c3_r24, l1, l2, asA, at', ab, ↓z1, ↓z2, hL, hM, hBl, f0, f1, f2, n0, w0, w1, b1, hend, aw, Int.toNat_natCast, rToken_eq, *]))))
end
end Go.PE
