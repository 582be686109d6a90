/-
  Types, and lists of names, that are the same, by the document. Conditions: each law's own.
-/
import Derived.Test.YtleggogbmklddaaT04
namespace Go.PE
open Go Go.RowKit Go.Proofs
set_option linter.unusedVariables false
set_option linter.unusedSimpArgs false
set_option maxRecDepth 100000
section
variable {ot : TypeId} {oz : EP}
end
end Go.PE
