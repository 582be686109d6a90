/-
  This seat's functions bear no private numbers in their code; so closed calls are settled anywhere. No conditions.
-/
import Derived.Test.YtaofeleeinjclaaGreatDoorEnv
import Derived.Test.YtaofeleeinjclaaGreatDoorPE21
import Derived.KernelRfl
namespace Go.PE
open Go Go.RowKit Go.Proofs
set_option linter.unusedVariables false
set_option linter.unusedSimpArgs false
set_option maxRecDepth 100000
def tabFree : List (Nat × EFn) → Bool
  | [] => true
  | (_, c) :: l => c.free && tabFree l
theorem tabFree_find : ∀ {l : List (Nat × EFn)}, tabFree l = true → ∀ f c, findE l f = some c → c.free = true
  | [], _, f, c, h => by cases h
  | (k, c') :: l, ht, f, c, h => by
    simp only [tabFree, Bool.and_eq_true] at ht
    simp only [findE] at h
    split at h
    · injection h with h; subst h; exact ht.1
    · exact tabFree_find ht.2 f c h
theorem ccF_mv (B : St) (args : List PV) (S : St) (r : PV) (S' : St) (h : ccF args S = some (r, S')) : ccF (mBL B args) (mS B S) = some (mB B r, mS B S') := by
  unfold ccF at h
  split at h
  · rename_i l
    have e : mBL B [.ref l 0] = [.ref (B.obs.length + l) 0] := rfl
    rw [e]
    unfold ccF
    simp only [mS_ob]
    split at h
    · rename_i t x hob
      rw [hob]
      split at h
      · rename_i ht
        injection h with h; injection h with h1 h2; subst h1 h2
        simp only [Option.map_some, mBO, mvO, mvL, mvV, ht, if_true, mS_obs_set]
      · cases h
    · rename_i t l' x hob
      rw [hob]
      split at h
      · rename_i hl
        injection h with h; injection h with h1 h2; subst h1 h2
        simp only [Option.map_some, mBO, mvO, mvL, mvV, hl, if_true]
      · cases h
    · cases h
  · cases h
theorem ibF_mv (B : St) (args : List PV) (S : St) (r : PV) (S' : St) (h : ibF args S = some (r, S')) : ibF (mBL B args) (mS B S) = some (mB B r, mS B S') := by
  unfold ibF at h
  split at h
  · injection h with h; injection h with h1 h2; subst h1 h2; rfl
  · cases h
theorem piF_mv (B : St) (args : List PV) (S : St) (r : PV) (S' : St) (h : piF args S = some (r, S')) : piF (mBL B args) (mS B S) = some (mB B r, mS B S') := by
  unfold piF at h
  split at h
  · rename_i s b n
    split at h
    · rename_i hc
      show piF [.str s, .int .i64 b, .int .i64 n] (mS B S) = _
      unfold piF
      simp only [hc, and_self, if_true]
      split at h
      · rename_i e; injection h with h; injection h with h1 h2; subst h1 h2; rfl
      · rename_i e; injection h with h; injection h with h1 h2; subst h1 h2; rfl
      · cases h
    · cases h
  · cases h
theorem fcF_mv (B : St) (args : List PV) (S : St) (r : PV) (S' : St) (h : fcF args S = some (r, S')) : fcF (mBL B args) (mS B S) = some (mB B r, mS B S') := by
  unfold fcF at h
  split at h
  · injection h with h; injection h with h1 h2; subst h1 h2; rfl
  · rename_i t c n l
    split at h
    · rename_i ht
      injection h with h; injection h with h1 h2; subst h1 h2
      show (if t = 69 then some (PV.int .i64 c, mS B S) else none) = _
      rw [if_pos ht]; rfl
    · cases h
  · cases h
theorem faF_mv (B : St) (args : List PV) (S : St) (r : PV) (S' : St) (h : faF args S = some (r, S')) : faF (mBL B args) (mS B S) = some (mB B r, mS B S') := by
  unfold faF at h
  split at h
  · injection h with h; injection h with h1 h2; subst h1 h2; rfl
  · rename_i t c n l
    split at h
    · rename_i ht
      injection h with h; injection h with h1 h2; subst h1 h2
      show (if t = 69 then some (PV.int .i64 n, mS B S) else none) = _
      rw [if_pos ht]; rfl
    · cases h
  · cases h
theorem env_free (t : TypeId) (z : EP) : EnvFree (env t z) := by
  refine ⟨fun g cs h => ?_, fun f c h => tabFree_find (show tabFree tabL = true by kernel_rfl) f c h, fun B f F h => ?_⟩
  · simp only [env, gtab] at h
    (repeat' split at h) <;> first | (cases h; done) | (injection h with h; subst h; rfl)
  · simp only [env, knownF] at h
    (repeat' split at h) <;> first | (cases h; done) | (injection h with h; subst h; intro args S r S' hh; first | exact ccF_mv B args S r S' hh | exact itF_mv B args S r S' hh | exact ibF_mv B args S r S' hh | exact piF_mv B args S r S' hh | exact fcF_mv B args S r S' hh | exact faF_mv B args S r S' hh)
end Go.PE
