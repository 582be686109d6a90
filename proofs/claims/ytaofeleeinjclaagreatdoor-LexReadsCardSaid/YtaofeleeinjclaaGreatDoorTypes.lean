/-
  The data types of this seat's laws as Lean types: rows of cells, and how what is handed in is read as them. (Printed by a program.) Conditions: each law's own.
-/
import Derived.Test.YtaofeleeinjclaaGreatDoorPF
import Derived.Test.YtaofeleeinjclaaGreatDoorProg
namespace Go.PE
open Go Go.RowKit Go.Proofs
set_option linter.unusedVariables false
set_option linter.unusedSimpArgs false
set_option maxRecDepth 100000

/-! ### limbeck/api.Token -/
structure GToken where
  K : Int
  N : Int
  S : ByteArray
  At : Int
  deriving DecidableEq, Inhabited
def rToken (v : GToken) : List PV := [.int .i64 v.K, .int .i64 v.N, .str v.S, .int .i64 v.At]
theorem rToken_eq (v : GToken) : rToken v = [.int .i64 v.K, .int .i64 v.N, .str v.S, .int .i64 v.At] := rfl
theorem rToken_len (v : GToken) : (rToken v).length = 4 := by simp [rToken]
theorem rToken_plain (v : GToken) : PlainL (rToken v) := plain_cons (plain_int _ _) (plain_cons (plain_int _ _) (plain_cons (plain_str _) (plain_cons (plain_int _ _) (plain_nil))))
theorem rToken_sll (n : Nat) (d : Nat → Nat → Option PV) (l : List GToken) : sealLL n d (l.map rToken) = some (l.map rToken) := plainLL_map (fun x _ => rToken_plain x) n d
theorem rToken_ok (l : List GToken) : headOk 4 (l.map rToken) = true := headOk_map rToken_len l
structure OkToken (v : GToken) : Prop where
  K : In64 v.K
  N : In64 v.N
  S : Short v.S.size
  At : In64 v.At
theorem sz3 : Tryz.prog.cellsOf 3 = 1 := by kernel_rfl
theorem sz9 : Tryz.prog.cellsOf 9 = 1 := by kernel_rfl
theorem sz53 : Tryz.prog.cellsOf 53 = 4 := by kernel_rfl
theorem rToken_fits {cs : List PV} (h : Fit Tryz.prog 53 cs) : ∃ x, cs = rToken x ∧ OkToken x := by
  obtain ⟨hlen, hf⟩ := fit_struct Tryz.underlying53 h
  have f0 : Fit Tryz.prog 3 (List.take (Tryz.prog.cellsOf 3) (List.drop 0 cs)) := hf 0 _ rfl
  rw [sz3] at f0
  obtain ⟨x0, e0, k0⟩ := fit_int64 Tryz.underlying3 f0
  have f1 : Fit Tryz.prog 3 (List.take (Tryz.prog.cellsOf 3) (List.drop 1 cs)) := hf 1 _ rfl
  rw [sz3] at f1
  obtain ⟨x1, e1, k1⟩ := fit_int64 Tryz.underlying3 f1
  have f2 : Fit Tryz.prog 9 (List.take (Tryz.prog.cellsOf 9) (List.drop 2 cs)) := hf 2 _ rfl
  rw [sz9] at f2
  obtain ⟨x2, e2, k2⟩ := fit_str Tryz.underlying9 f2
  have f3 : Fit Tryz.prog 3 (List.take (Tryz.prog.cellsOf 3) (List.drop 3 cs)) := hf 3 _ rfl
  rw [sz3] at f3
  obtain ⟨x3, e3, k3⟩ := fit_int64 Tryz.underlying3 f3
  have z : cs.drop 4 = [] := List.drop_eq_nil_of_le (by rw [hlen, sz53]; exact Nat.le_refl _)
  have hc := cut1 cs 0 1 1 rfl
  rw [e0, cut1 cs 1 1 2 rfl, e1, cut1 cs 2 1 3 rfl, e2, cut1 cs 3 1 4 rfl, e3, z, List.drop_zero] at hc
  exact ⟨⟨x0, x1, x2, x3⟩, hc.trans (by first | rfl | simp [rToken]), ⟨k0, k1, k2, k3⟩⟩
def dataTypes : List TypeId := [3, 9, 53]
theorem dataTypes_ok : plainTypes Tryz.prog dataTypes = true := by kernel_rfl
end Go.PE
