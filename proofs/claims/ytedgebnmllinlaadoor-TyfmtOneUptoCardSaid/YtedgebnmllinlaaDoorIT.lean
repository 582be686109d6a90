/-
  Numerals, and strconv.Itoa. Conditions: each law's own.
-/
import Derived.Test.YtedgebnmllinlaaDoorPR
namespace Go.PE
open Go Go.RowKit Go.Proofs
set_option linter.unusedVariables false
set_option linter.unusedSimpArgs false
set_option maxRecDepth 100000
theorem digF_len : ∀ (f n : Nat), (digF f n).length ≤ f
  | 0, n => by simp [digF]
  | f + 1, n => by
    unfold digF
    split
    · simp
    · have := digF_len f (n / 10)
      simp; omega
theorem digF_one {f n : Nat} (h : n < 10) : digF (f + 1) n = [UInt8.ofNat (48 + n)] := by rw [digF, if_pos h]
theorem digF_more {f n : Nat} (h : ¬ n < 10) : digF (f + 1) n = digF f (n / 10) ++ [UInt8.ofNat (48 + n % 10)] := by rw [digF, if_neg h]
theorem byte_one {k : Nat} (h : k < 256) : bytesOf [[.int .u8 (k : Int)]] = some [UInt8.ofNat k] := by
  have h' : (0 : Int) ≤ (k : Int) ∧ (k : Int) < 256 := by omega
  simp [bytesOf, h']

theorem numS_21 (n : Int) : (numS n).size ≤ 21 := by
  unfold numS numL
  have a1 := digF_len 20 n.natAbs
  have a2 := digF_len 20 n.toNat
  split <;> simp [ByteArray.size] <;> omega
section
variable {ot : TypeId} {oz : Nat × Nat}
theorem itoa_call (n : Int) (h : In64 n) (m : Nat) (S : St) : (lvl (env ot oz) (m + 1)).call 49 [.int .i64 n] S = some (.str (numS n), S) := by
  rw [call_known (F := itF) rfl (args' := [.int .i64 n]) (by simp only [askD, sealL, sealW, Option.map_some, Option.bind_some])]
  simp only [itF]
  exact if_pos h
theorem itoa_ok (n : Int) (h : In64 n) : Ans (env ot oz) 49 [.int .i64 n] (.str (numS n)) := ⟨1, itoa_call n h 0⟩
theorem itoa_w (n : Int) (h : In64 n) (S : St) : cal (env ot oz) 49 [.int .i64 n] S = some (.str (numS n), S) := cal_at (itoa_call n h 0 S)
end
end Go.PE
