/-
  That the program computes at all: run, on closed texts; and a text of too many bytes is none. No conditions.
-/
import Derived.Test.YtaofeleeinjclaaGreatDoorPR
import Derived.KernelRfl
namespace Go.PE
open Go Go.RowKit Go.Proofs
set_option linter.unusedVariables false
set_option linter.unusedSimpArgs false
set_option maxRecDepth 100000
section
variable {ot : TypeId} {oz : EP}
theorem aw03 (S : St) : cal (env ot oz) 8 [] S = some (.bool true, S) := cal_closed (env_free ot oz) (n := 60) (by kernel_rfl) rfl rfl S
end
end Go.PE
namespace Go.PE
open Go Go.RowKit Go.Proofs
set_option linter.unusedVariables false
set_option linter.unusedSimpArgs false
set_option maxRecDepth 100000
section
variable {ot : TypeId} {oz : EP}
/-- An error: a place, with its number. -/
abbrev plc (c a : Int) : PV := .ifc 69 (.at_ [.int .i64 c, .int .i64 a])
theorem fnew (c a : Int) (hc : c ≠ 0) (S : St) : cal (env ot oz) 30 [.int .i64 c, .int .i64 a] S = some (plc c a, S) := by
  have h : (c == 0) = false := by simpa using hc
  (rw [w_plain (fn := c30) rfl rfl (by simp only [go_sem, h]) rfl (by decide)]; simp only [c30, c30_b, go_sem, h]; repeat' (first | (rw [guardO_t]; split <;> rename_i h <;> (try rw [Bool.not_eq_true] at h) <;> (try simp only [go_sem, h, *])) | (rw [guardO_f]; split <;> rename_i h <;> (try rw [Bool.not_eq_true] at h) <;> (try simp only [go_sem, h, *])) | (rw [cw_bool]; split <;> rename_i h <;> (try rw [Bool.not_eq_true] at h) <;> (try simp only [go_sem, h, *]))))
theorem all_long (s : ByteArray) (h : 65536 < s.size) (hs : s.size ≤ 9223372036854775807) (S : St) : cal (env ot oz) 9 [.str s] S = some (.tup [.sl .ro [], plc 6 0], S) := by
  have f := fun a S => fnew (ot := ot) (oz := oz) 6 a (by decide) S
  have h1 : decide ((65536 : Int) < (s.size : Int)) = true := by simp; omega
  (rw [w_plain (fn := c9) rfl rfl (by simp only [go_sem, f, h1]) rfl (by decide)]; simp only [c9, c9_b, go_sem, f, h1]; repeat' (first | (rw [guardO_t]; split <;> rename_i h <;> (try rw [Bool.not_eq_true] at h) <;> (try simp only [go_sem, f, h1, *])) | (rw [guardO_f]; split <;> rename_i h <;> (try rw [Bool.not_eq_true] at h) <;> (try simp only [go_sem, f, h1, *])) | (rw [cw_bool]; split <;> rename_i h <;> (try rw [Bool.not_eq_true] at h) <;> (try simp only [go_sem, f, h1, *]))))
theorem zeros_row : ∀ n : Nat, bytesOf (chunk 1 n (repRow [.int .u8 0] n)) = some (List.replicate n 0)
  | 0 => rfl
  | n + 1 => by
    have e : chunk 1 (n + 1) (repRow [.int .u8 0] (n + 1)) = [.int .u8 0] :: chunk 1 n (repRow [.int .u8 0] n) := rfl
    rw [e]
    simp only [bytesOf]
    rw [zeros_row n]
    rfl
theorem fcode (c a : Int) (S : St) : cal (env ot oz) 11 [plc c a] S = some (.int .i64 c, S) := cal_at (n := 1) rfl
theorem fat (c a : Int) (S : St) : cal (env ot oz) 12 [plc c a] S = some (.int .i64 a, S) := cal_at (n := 1) rfl
end
end Go.PE
