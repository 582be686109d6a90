/-
  This seat's functions bear no private numbers in their code; so closed calls are settled anywhere. No conditions.
-/
import Derived.Test.YtleggogbmklddaaEnv
import Derived.Test.YtleggogbmklddaaPE21
import Derived.Test.YtleggogbmklddaaPKS
import Derived.KernelRfl
namespace Go.PE
open Go Go.RowKit Go.Proofs
set_option linter.unusedVariables false
set_option linter.unusedSimpArgs false
set_option maxRecDepth 100000
def tabFree : List (Nat × EFn) → Bool
  | [] => true
  | (_, c) :: l => c.free && tabFree l
theorem tabFree_find : ∀ {l : List (Nat × EFn)}, tabFree l = true → ∀ f c, findE l f = some c → c.free = true
  | [], _, f, c, h => by cases h
  | (k, c') :: l, ht, f, c, h => by
    simp only [tabFree, Bool.and_eq_true] at ht
    simp only [findE] at h
    split at h
    · injection h with h; subst h; exact ht.1
    · exact tabFree_find ht.2 f c h
theorem env_free (t : TypeId) (z : EP) : EnvFree (env t z) := by
  refine ⟨fun g cs h => ?_, fun f c h => tabFree_find (show tabFree tabL = true by kernel_rfl) f c h, fun B f F h => ?_⟩
  · simp only [env, gtab] at h
    (repeat' split at h) <;> first | (cases h; done) | (injection h with h; subst h; rfl)
  · simp only [env, knownF] at h
    (repeat' split at h) <;> first | (cases h; done) | (injection h with h; subst h; intro args S r S' hh; first | exact srF_mv B args S r S' hh | exact cpF_mv B args S r S' hh | exact ccF_mv B args S r S' hh | exact itF_mv B args S r S' hh | exact ibF_mv B args S r S' hh | exact scF_mv B args S r S' hh | exact piF_mv B args S r S' hh | exact fcF_mv B args S r S' hh | exact faF_mv B args S r S' hh)
end Go.PE
