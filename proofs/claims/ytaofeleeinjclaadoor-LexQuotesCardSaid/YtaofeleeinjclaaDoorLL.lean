/-
  A text of too many bytes is none: the law LexLong. Conditions: each law's own.
-/
import Derived.Test.YtaofeleeinjclaaDoorLW
namespace Go.PE
open Go Go.RowKit Go.Proofs
set_option linter.unusedVariables false
set_option linter.unusedSimpArgs false
set_option maxRecDepth 100000
section
variable {ot : TypeId} {oz : EP}
/-- An error: a place, with its number. -/
abbrev plc (c a : Int) : PV := .ifc 65 (.at_ [.int .i64 c, .int .i64 a])
theorem fnew (c a : Int) (hc : c ≠ 0) (S : St) : cal (env ot oz) 27 [.int .i64 c, .int .i64 a] S = some (plc c a, S) := by
  have h : (c == 0) = false := by simpa using hc
  (rw [w_plain (fn := c27) rfl rfl (by simp only [go_sem, reduceIte, Nat.reduceEqDiff, Nat.reduceAdd, Nat.reduceSub, Nat.reduceMul, Nat.reduceLeDiff, Nat.reduceLT, Int.reduceNeg, Int.reduceEq, Int.reduceLT, Int.reduceLE, Int.reduceNe, Int.reduceToNat, Int.reduceAdd, Int.reduceMul, Int.reduceSub, Int.reduceBEq, h]) rfl (by decide)]; simp only [c27, c27_b, go_sem, reduceIte, Nat.reduceEqDiff, Nat.reduceAdd, Nat.reduceSub, Nat.reduceMul, Nat.reduceLeDiff, Nat.reduceLT, Int.reduceNeg, Int.reduceEq, Int.reduceLT, Int.reduceLE, Int.reduceNe, Int.reduceToNat, Int.reduceAdd, Int.reduceMul, Int.reduceSub, Int.reduceBEq, h]; repeat' (first | (rw [guardO_t]; split <;> rename_i h <;> (try rw [Bool.not_eq_true] at h) <;> (try simp only [go_sem, reduceIte, Nat.reduceEqDiff, Nat.reduceAdd, Nat.reduceSub, Nat.reduceMul, Nat.reduceLeDiff, Nat.reduceLT, Int.reduceNeg, Int.reduceEq, Int.reduceLT, Int.reduceLE, Int.reduceNe, Int.reduceToNat, Int.reduceAdd, Int.reduceMul, Int.reduceSub, Int.reduceBEq, h, *])) | (rw [guardO_f]; split <;> rename_i h <;> (try rw [Bool.not_eq_true] at h) <;> (try simp only [go_sem, reduceIte, Nat.reduceEqDiff, Nat.reduceAdd, Nat.reduceSub, Nat.reduceMul, Nat.reduceLeDiff, Nat.reduceLT, Int.reduceNeg, Int.reduceEq, Int.reduceLT, Int.reduceLE, Int.reduceNe, Int.reduceToNat, Int.reduceAdd, Int.reduceMul, Int.reduceSub, Int.reduceBEq, h, *])) | (rw [cw_bool]; split <;> rename_i h <;> (try rw [Bool.not_eq_true] at h) <;> (try simp only [go_sem, reduceIte, Nat.reduceEqDiff, Nat.reduceAdd, Nat.reduceSub, Nat.reduceMul, Nat.reduceLeDiff, Nat.reduceLT, Int.reduceNeg, Int.reduceEq, Int.reduceLT, Int.reduceLE, Int.reduceNe, Int.reduceToNat, Int.reduceAdd, Int.reduceMul, Int.reduceSub, Int.reduceBEq, h, *]))))
theorem all_long (s : ByteArray) (h : 65536 < s.size) (hs : s.size ≤ 9223372036854775807) (S : St) : cal (env ot oz) 9 [.str s] S = some (.tup [.sl .ro [], plc 6 0], S) := by
  have f := fun a S => fnew (ot := ot) (oz := oz) 6 a (by decide) S
  have h1 : decide ((65536 : Int) < (s.size : Int)) = true := by simp; omega
  (rw [w_plain (fn := c9) rfl rfl (by simp only [go_sem, reduceIte, Nat.reduceEqDiff, Nat.reduceAdd, Nat.reduceSub, Nat.reduceMul, Nat.reduceLeDiff, Nat.reduceLT, Int.reduceNeg, Int.reduceEq, Int.reduceLT, Int.reduceLE, Int.reduceNe, Int.reduceToNat, Int.reduceAdd, Int.reduceMul, Int.reduceSub, Int.reduceBEq, f, h1]) rfl (by decide)]; simp only [c9, c9_b, go_sem, reduceIte, Nat.reduceEqDiff, Nat.reduceAdd, Nat.reduceSub, Nat.reduceMul, Nat.reduceLeDiff, Nat.reduceLT, Int.reduceNeg, Int.reduceEq, Int.reduceLT, Int.reduceLE, Int.reduceNe, Int.reduceToNat, Int.reduceAdd, Int.reduceMul, Int.reduceSub, Int.reduceBEq, f, h1]; repeat' (first | (rw [guardO_t]; split <;> rename_i h <;> (try rw [Bool.not_eq_true] at h) <;> (try simp only [go_sem, reduceIte, Nat.reduceEqDiff, Nat.reduceAdd, Nat.reduceSub, Nat.reduceMul, Nat.reduceLeDiff, Nat.reduceLT, Int.reduceNeg, Int.reduceEq, Int.reduceLT, Int.reduceLE, Int.reduceNe, Int.reduceToNat, Int.reduceAdd, Int.reduceMul, Int.reduceSub, Int.reduceBEq, f, h1, *])) | (rw [guardO_f]; split <;> rename_i h <;> (try rw [Bool.not_eq_true] at h) <;> (try simp only [go_sem, reduceIte, Nat.reduceEqDiff, Nat.reduceAdd, Nat.reduceSub, Nat.reduceMul, Nat.reduceLeDiff, Nat.reduceLT, Int.reduceNeg, Int.reduceEq, Int.reduceLT, Int.reduceLE, Int.reduceNe, Int.reduceToNat, Int.reduceAdd, Int.reduceMul, Int.reduceSub, Int.reduceBEq, f, h1, *])) | (rw [cw_bool]; split <;> rename_i h <;> (try rw [Bool.not_eq_true] at h) <;> (try simp only [go_sem, reduceIte, Nat.reduceEqDiff, Nat.reduceAdd, Nat.reduceSub, Nat.reduceMul, Nat.reduceLeDiff, Nat.reduceLT, Int.reduceNeg, Int.reduceEq, Int.reduceLT, Int.reduceLE, Int.reduceNe, Int.reduceToNat, Int.reduceAdd, Int.reduceMul, Int.reduceSub, Int.reduceBEq, f, h1, *]))))
theorem zeros_row : ∀ n : Nat, bytesOf (chunk 1 n (repRow [.int .u8 0] n)) = some (List.replicate n 0)
  | 0 => rfl
  | n + 1 => by
    have e : chunk 1 (n + 1) (repRow [.int .u8 0] (n + 1)) = [.int .u8 0] :: chunk 1 n (repRow [.int .u8 0] n) := rfl
    rw [e]
    simp only [bytesOf]
    rw [zeros_row n]
    rfl
theorem fcode (c a : Int) (S : St) : cal (env ot oz) 19 [plc c a] S = some (.int .i64 c, S) := cal_at (n := 1) rfl
theorem fat (c a : Int) (S : St) : cal (env ot oz) 20 [plc c a] S = some (.int .i64 a, S) := cal_at (n := 1) rfl
theorem lexLong (m : Int) (hm : 0 ≤ m ∧ m ≤ 255) : Ev (env ot oz) 7 [.int .u8 m] .none (.bool true) .none := by
  refine cal_ev ?_
  have aw := aw03 (ot := ot) (oz := oz)
  obtain ⟨k, rfl⟩ := Int.eq_ofNat_of_zero_le hm.1
  have w1 : IntKind.i64.wrap ((k : Int)) = (k : Int) := wrap_nat (by omega)
  have w2 : IntKind.i64.wrap (65537 + (k : Int)) = ((65537 + k : Nat) : Int) := by rw [wrap64 (by omega) (by omega)]; omega
  have b := zeros_row (65537 + k)
  have c1 := fun S => all_long (ot := ot) (oz := oz) ⟨(List.replicate (65537 + k) 0).toArray⟩ (by simp [ByteArray.size]; omega) (by simp [ByteArray.size]; omega) S
  have f1 := fcode (ot := ot) (oz := oz)
  have f2 := fat (ot := ot) (oz := oz)
  have g1 : (0 : Int) ≤ ((65537 + k : Nat) : Int) := by omega
  have g2 : ((65537 + k : Nat) : Int) * 1 ≤ 140737488355328 := by omega
  have g3 : ((65537 + k : Nat) : Int) ≤ 9223372036854775807 := by omega
  have g4 : ((65537 + k : Nat) : Int).toNat = 65537 + k := by omega
  (rw [w_plain (fn := c7) rfl rfl (by simp only [go_sem, reduceIte, Nat.reduceEqDiff, Nat.reduceAdd, Nat.reduceSub, Nat.reduceMul, Nat.reduceLeDiff, Nat.reduceLT, Int.reduceNeg, Int.reduceEq, Int.reduceLT, Int.reduceLE, Int.reduceNe, Int.reduceToNat, Int.reduceAdd, Int.reduceMul, Int.reduceSub, Int.reduceBEq, w1, w2, b, c1, f1, f2, g1, g2, g3, g4, aw]) rfl (by decide)]; simp only [c7, c7_b, c7_r2, go_sem, reduceIte, Nat.reduceEqDiff, Nat.reduceAdd, Nat.reduceSub, Nat.reduceMul, Nat.reduceLeDiff, Nat.reduceLT, Int.reduceNeg, Int.reduceEq, Int.reduceLT, Int.reduceLE, Int.reduceNe, Int.reduceToNat, Int.reduceAdd, Int.reduceMul, Int.reduceSub, Int.reduceBEq, w1, w2, b, c1, f1, f2, g1, g2, g3, g4, aw]; repeat' (first | (rw [guardO_t]; split <;> rename_i h <;> (try rw [Bool.not_eq_true] at h) <;> (try simp only [go_sem, reduceIte, Nat.reduceEqDiff, Nat.reduceAdd, Nat.reduceSub, Nat.reduceMul, Nat.reduceLeDiff, Nat.reduceLT, Int.reduceNeg, Int.reduceEq, Int.reduceLT, Int.reduceLE, Int.reduceNe, Int.reduceToNat, Int.reduceAdd, Int.reduceMul, Int.reduceSub, Int.reduceBEq, c7_r2, w1, w2, b, c1, f1, f2, g1, g2, g3, g4, aw, *])) | (rw [guardO_f]; split <;> rename_i h <;> (try rw [Bool.not_eq_true] at h) <;> (try simp only [go_sem, reduceIte, Nat.reduceEqDiff, Nat.reduceAdd, Nat.reduceSub, Nat.reduceMul, Nat.reduceLeDiff, Nat.reduceLT, Int.reduceNeg, Int.reduceEq, Int.reduceLT, Int.reduceLE, Int.reduceNe, Int.reduceToNat, Int.reduceAdd, Int.reduceMul, Int.reduceSub, Int.reduceBEq, c7_r2, w1, w2, b, c1, f1, f2, g1, g2, g3, g4, aw, *])) | (rw [cw_bool]; split <;> rename_i h <;> (try rw [Bool.not_eq_true] at h) <;> (try simp only [go_sem, reduceIte, Nat.reduceEqDiff, Nat.reduceAdd, Nat.reduceSub, Nat.reduceMul, Nat.reduceLeDiff, Nat.reduceLT, Int.reduceNeg, Int.reduceEq, Int.reduceLT, Int.reduceLE, Int.reduceNe, Int.reduceToNat, Int.reduceAdd, Int.reduceMul, Int.reduceSub, Int.reduceBEq, c7_r2, w1, w2, b, c1, f1, f2, g1, g2, g3, g4, aw, *]))))
end
end Go.PE
