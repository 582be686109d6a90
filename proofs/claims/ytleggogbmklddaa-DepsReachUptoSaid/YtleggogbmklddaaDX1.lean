/-
  Types, binders, expressions and definitions that are the same: by the program. Conditions: each law's own.
-/
import Derived.Test.YtleggogbmklddaaS4
import Derived.Test.YtleggogbmklddaaPLO
namespace Go.PE
open Go Go.RowKit Go.Proofs
set_option linter.unusedVariables false
set_option linter.unusedSimpArgs false
set_option maxRecDepth 100000
section
variable {ot : TypeId} {oz : EP}
theorem okExp_at {t : GExp} (h : OkExp t) : (Short t.Kids.length ∧ ∀ x ∈ t.Kids, OkExp x) ∧ (Short t.Types.length ∧ ∀ x ∈ t.Types, OkTy x) ∧ (Short t.Labels.length ∧ ∀ x ∈ t.Labels, Short x.size) ∧ Short t.Name.size ∧ In64 t.K ∧ In64 t.N := by
  cases h; exact ⟨⟨by assumption, by assumption⟩, by assumption, by assumption, by assumption, by assumption, by assumption⟩
end
end Go.PE
