/-
  What the reader does with a text's own text: what a backslash tells. Conditions: each law's own.
-/
import Derived.Test.YtaofeleeinjclaaGreatDoorQT
import Derived.Test.YtaofeleeinjclaaGreatDoorBW
import Derived.Test.YtaofeleeinjclaaGreatDoorLW
namespace Go.PE
open Go Go.RowKit Go.Proofs
set_option linter.unusedVariables false
set_option linter.unusedSimpArgs false
set_option maxRecDepth 100000
section
variable {ot : TypeId} {oz : EP}
theorem ix_hex : ∀ k, k < 16 → Lib.indexByte [48, 49, 50, 51, 52, 53, 54, 55, 56, 57, 97, 98, 99, 100, 101, 102] (hx k) = (k : Int) := by decide
theorem ibyte (s : ByteArray) (c : UInt8) (S : St) : cal (env ot oz) 91 [.str s, .int .u8 (c.toNat : Int)] S = some (.int .i64 (Lib.indexByte s.data.toList c), S) := by
  refine cal_at (n := 1) ?_
  show some (PV.int .i64 (Lib.indexByte s.data.toList ((c.toNat : Int)).toNat.toUInt8), S) = _
  simp
/-- The value of a digit. -/
theorem esc_val (t : ByteArray) (i k : Nat) (hi : t.data.toList[i]? = some (hx k)) (hk : k < 16) (h9 : i < 9) (S : St) : cal (env ot oz) 123 [.int .i64 (i : Int), .at_ [.str t]] S = some (.int .i64 (k : Int), S) := by
  have hl : i < t.size := by rw [← size_data]; exact getElem?_lt hi
  have h1 : decide ((t.size : Int) ≤ (i : Int)) = false := by simp; omega
  have h2 : (0 : Int) ≤ (i : Int) ∧ (i : Int) < (t.size : Int) := by omega
  have b := ibyte (ot := ot) (oz := oz) ⟨#[48, 49, 50, 51, 52, 53, 54, 55, 56, 57, 97, 98, 99, 100, 101, 102]⟩ (hx k)
  have e := ix_hex k hk
  (rw [w_plain (fn := c123) rfl rfl (by simp only [go_sem, h1, h2, hi, b, e, Int.toNat_natCast]) rfl (by decide)]; simp only [c123, c123_b, go_sem, h1, h2, hi, b, e, Int.toNat_natCast]; repeat' (first | (rw [guardO_t]; split <;> rename_i h <;> (try rw [Bool.not_eq_true] at h) <;> (try simp only [go_sem, h1, h2, hi, b, e, Int.toNat_natCast, *])) | (rw [guardO_f]; split <;> rename_i h <;> (try rw [Bool.not_eq_true] at h) <;> (try simp only [go_sem, h1, h2, hi, b, e, Int.toNat_natCast, *])) | (rw [cw_bool]; split <;> rename_i h <;> (try rw [Bool.not_eq_true] at h) <;> (try simp only [go_sem, h1, h2, hi, b, e, Int.toNat_natCast, *]))))
theorem esc_q (c : UInt8) (r : List UInt8) (hc : c = 34 ∨ c = 92) (hr : r.length ≤ 100000) (S : St) : cal (env ot oz) 99 [.str (txt (92 :: c :: r))] S = some (.tup [.int .u8 (c.toNat : Int), .int .i64 2], S) := by
  have sz : ((txt (92 :: c :: r)).size : Int) = ((r.length + 2 : Nat) : Int) := by rw [txt_size]; rfl
  have h1 : decide (((r.length + 2 : Nat) : Int) < 2) = false := by simp; omega
  have h2 : (1 : Int) < ((r.length + 2 : Nat) : Int) := by omega
  have h3 : (txt (92 :: c :: r)).data.toList[1]? = some c := by rw [txt_data]; rfl
  rcases hc with rfl | rfl <;> (rw [w_plain (fn := c99) rfl rfl (by simp only [go_sem, sz, h1, h2, h3, UInt8.reduceToNat]) rfl (by decide)]; simp only [c99, c99_b, c99_r5, c99_r9, go_sem, sz, h1, h2, h3, UInt8.reduceToNat]; repeat' (first | (rw [guardO_t]; split <;> rename_i h <;> (try rw [Bool.not_eq_true] at h) <;> (try simp only [go_sem, c99_r5, c99_r9, sz, h1, h2, h3, UInt8.reduceToNat, *])) | (rw [guardO_f]; split <;> rename_i h <;> (try rw [Bool.not_eq_true] at h) <;> (try simp only [go_sem, c99_r5, c99_r9, sz, h1, h2, h3, UInt8.reduceToNat, *])) | (rw [cw_bool]; split <;> rename_i h <;> (try rw [Bool.not_eq_true] at h) <;> (try simp only [go_sem, c99_r5, c99_r9, sz, h1, h2, h3, UInt8.reduceToNat, *]))))
theorem esc_n (r : List UInt8) (hr : r.length ≤ 100000) (S : St) : cal (env ot oz) 99 [.str (txt (92 :: 110 :: r))] S = some (.tup [.int .u8 10, .int .i64 2], S) := by
  have sz : ((txt (92 :: 110 :: r)).size : Int) = ((r.length + 2 : Nat) : Int) := by rw [txt_size]; rfl
  have h1 : decide (((r.length + 2 : Nat) : Int) < 2) = false := by simp; omega
  have h2 : (1 : Int) < ((r.length + 2 : Nat) : Int) := by omega
  have h3 : (txt (92 :: 110 :: r)).data.toList[1]? = some 110 := by rw [txt_data]; rfl
  (rw [w_plain (fn := c99) rfl rfl (by simp only [go_sem, sz, h1, h2, h3, UInt8.reduceToNat]) rfl (by decide)]; simp only [c99, c99_b, c99_r5, c99_r9, go_sem, sz, h1, h2, h3, UInt8.reduceToNat]; repeat' (first | (rw [guardO_t]; split <;> rename_i h <;> (try rw [Bool.not_eq_true] at h) <;> (try simp only [go_sem, c99_r5, c99_r9, sz, h1, h2, h3, UInt8.reduceToNat, *])) | (rw [guardO_f]; split <;> rename_i h <;> (try rw [Bool.not_eq_true] at h) <;> (try simp only [go_sem, c99_r5, c99_r9, sz, h1, h2, h3, UInt8.reduceToNat, *])) | (rw [cw_bool]; split <;> rename_i h <;> (try rw [Bool.not_eq_true] at h) <;> (try simp only [go_sem, c99_r5, c99_r9, sz, h1, h2, h3, UInt8.reduceToNat, *]))))
theorem shl4 (n : Nat) (h : n < 256) : binP .shl (.int .i64 ((n / 16 : Nat) : Int)) (.int .u64 4) = some (.int .i64 ((n / 16 * 16 : Nat) : Int)) := by
  have k : ∀ n, n < 256 → IntKind.i64.wrap (((n / 16 : Nat) : Int) * 2 ^ (min (4 : Int).toNat IntKind.i64.bits)) = ((n / 16 * 16 : Nat) : Int) := by decide +kernel
  show (if (4 : Int) < 0 then none else some (PV.int .i64 (IntKind.i64.wrap (((n / 16 : Nat) : Int) * 2 ^ (min (4 : Int).toNat IntKind.i64.bits))))) = _
  rw [if_neg (by decide), k n h]
theorem or16 (n : Nat) (h : n < 256) : binP .or (.int .i64 ((n / 16 * 16 : Nat) : Int)) (.int .i64 ((n % 16 : Nat) : Int)) = some (.int .i64 (n : Int)) := by
  have k : ∀ n, n < 256 → IntKind.i64.wrap (BitVec.ofInt IntKind.i64.bits ((n / 16 * 16 : Nat) : Int) ||| BitVec.ofInt IntKind.i64.bits ((n % 16 : Nat) : Int)).toNat = (n : Int) := by decide +kernel
  show (if IntKind.i64 = IntKind.i64 then some (PV.int .i64 (IntKind.i64.wrap (BitVec.ofInt IntKind.i64.bits ((n / 16 * 16 : Nat) : Int) ||| BitVec.ofInt IntKind.i64.bits ((n % 16 : Nat) : Int)).toNat)) else none) = _
  rw [if_pos rfl, k n h]
theorem esc_x (n : Nat) (hn : n < 256) (r : List UInt8) (hr : r.length ≤ 100000) (S : St) : cal (env ot oz) 99 [.str (txt (92 :: 120 :: hx (n / 16) :: hx (n % 16) :: r))] S = some (.tup [.int .u8 (n : Int), .int .i64 4], S) := by
  have sz : ((txt (92 :: 120 :: hx (n / 16) :: hx (n % 16) :: r)).size : Int) = ((r.length + 4 : Nat) : Int) := by rw [txt_size]; rfl
  have h1 : decide (((r.length + 4 : Nat) : Int) < 2) = false := by simp; omega
  have h2 : (1 : Int) < ((r.length + 4 : Nat) : Int) := by omega
  have h3 : (txt (92 :: 120 :: hx (n / 16) :: hx (n % 16) :: r)).data.toList[1]? = some 120 := by rw [txt_data]; rfl
  have v1 := esc_val (ot := ot) (oz := oz) (txt (92 :: 120 :: hx (n / 16) :: hx (n % 16) :: r)) 2 (n / 16) (by rw [txt_data]; rfl) (by omega) (by decide)
  have v2 := esc_val (ot := ot) (oz := oz) (txt (92 :: 120 :: hx (n / 16) :: hx (n % 16) :: r)) 3 (n % 16) (by rw [txt_data]; rfl) (by omega) (by decide)
  have s1 := shl4 n hn
  have s2 := or16 n hn
  have w : IntKind.u8.wrap (n : Int) = (n : Int) := IntWalk.u8_in _ ⟨by omega, by omega⟩
  have g1 : decide ((0 : Int) ≤ ((n / 16 : Nat) : Int)) = true := by simp; omega
  have g2 : decide ((0 : Int) ≤ ((n % 16 : Nat) : Int)) = true := by simp; omega
  simp only [Int.cast_ofNat_Int] at v1 v2
  generalize ((n / 16 : Nat) : Int) = a at *
  generalize ((n % 16 : Nat) : Int) = b at *
  (rw [w_plain (fn := c99) rfl rfl (by simp only [go_sem, sz, h1, h2, h3, UInt8.reduceToNat, v1, v2, g1, g2, ↓s1, ↓s2, w]) rfl (by decide)]; simp only [c99, c99_b, c99_r5, c99_r9, go_sem, sz, h1, h2, h3, UInt8.reduceToNat, v1, v2, g1, g2, ↓s1, ↓s2, w]; repeat' (first | (rw [guardO_t]; split <;> rename_i h <;> (try rw [Bool.not_eq_true] at h) <;> (try simp only [go_sem, c99_r5, c99_r9, sz, h1, h2, h3, UInt8.reduceToNat, v1, v2, g1, g2, ↓s1, ↓s2, w, *])) | (rw [guardO_f]; split <;> rename_i h <;> (try rw [Bool.not_eq_true] at h) <;> (try simp only [go_sem, c99_r5, c99_r9, sz, h1, h2, h3, UInt8.reduceToNat, v1, v2, g1, g2, ↓s1, ↓s2, w, *])) | (rw [cw_bool]; split <;> rename_i h <;> (try rw [Bool.not_eq_true] at h) <;> (try simp only [go_sem, c99_r5, c99_r9, sz, h1, h2, h3, UInt8.reduceToNat, v1, v2, g1, g2, ↓s1, ↓s2, w, *]))))
end
end Go.PE
