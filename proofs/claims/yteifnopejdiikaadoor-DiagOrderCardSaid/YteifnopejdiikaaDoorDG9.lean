/-
  Numerals, and strconv.Itoa. Conditions: each law's own.
-/
import Derived.KernelRfl
import Derived.Test.YteifnopejdiikaaDoorBW
import Derived.Test.YteifnopejdiikaaDoorDG7
namespace Go.PE
open Go Go.RowKit Go.Proofs
set_option linter.unusedVariables false
set_option linter.unusedSimpArgs false
set_option maxRecDepth 100000
section
variable {ot:TypeId} {oz:EP}
end
end Go.PE
namespace Go.PE
open Go Go.RowKit Go.Proofs
set_option linter.unusedVariables false
set_option linter.unusedSimpArgs false
set_option maxRecDepth 100000
section
variable {ot:TypeId} {oz:EP}
end
end Go.PE
namespace Go.PE
open Go Go.RowKit Go.Proofs
set_option linter.unusedVariables false
set_option linter.unusedSimpArgs false
set_option maxRecDepth 100000
theorem short_all {l:List GDiag} (h:shortD l=true):l.length≤60∧ ∀ d∈l,d.At.Def.size≤100:=by
 unfold shortD at h
 simp only[Bool.and_eq_true,Bool.not_eq_true',decide_eq_true_eq,List.any_eq_false] at h
 obtain ⟨h1,h2⟩:=h
 rw[List.take_of_length_le (by omega)] at h1
 exact ⟨h2,fun d hd=>by have:=h1 d hd;omega⟩
section
variable {ot:TypeId} {oz:EP}
theorem aw24 (S:St):cal (env ot oz) 6 [] S=some (.bool true,S):=cal_closed (env_free ot oz) (n:=60) (by kernel_rfl) rfl rfl S
end
end Go.PE
