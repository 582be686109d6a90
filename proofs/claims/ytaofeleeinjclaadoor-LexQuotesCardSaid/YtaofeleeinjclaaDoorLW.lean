/-
  That the program computes at all: run, on closed texts; and a text of too many bytes is none. No conditions.
-/
import Derived.Test.YtaofeleeinjclaaDoorPR
import Derived.KernelRfl
namespace Go.PE
open Go Go.RowKit Go.Proofs
set_option linter.unusedVariables false
set_option linter.unusedSimpArgs false
set_option maxRecDepth 100000
section
variable {ot : TypeId} {oz : EP}
theorem aw03 (S : St) : cal (env ot oz) 8 [] S = some (.bool true, S) := cal_closed (env_free ot oz) (n := 60) (by kernel_rfl) rfl rfl S
end
end Go.PE
