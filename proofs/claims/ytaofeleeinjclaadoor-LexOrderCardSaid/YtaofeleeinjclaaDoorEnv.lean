/-
  What the evaluator knows of this seat's program: its functions, and its variables. No conditions.
-/
import Derived.Test.YtaofeleeinjclaaDoorCode
import Derived.Test.YtaofeleeinjclaaDoorPKB
import Derived.Test.YtaofeleeinjclaaDoorPKL
namespace Go.PE
open Go Go.Proofs
set_option maxRecDepth 100000
def tabL : List (Nat × EFn) := [(3, c3), (8, c8), (9, c9), (26, c26), (27, c27), (28, c28), (35, c35), (37, c37), (39, c39), (40, c40), (41, c41), (42, c42), (43, c43), (44, c44), (45, c45), (46, c46), (61, c61), (62, c62), (63, c63), (65, c65), (66, c66), (67, c67), (68, c68), (69, c69), (91, c91), (92, c92), (109, c109), (110, c110), (111, c111)]
def gtab (g : Nat) : Option (List PV) :=
  none
def knownF (f : FuncId) : Option (List PV → St → Option (PV × St)) :=
  if f = 57 then some ccF else
  if f = 60 then some ibF else
  if f = 64 then some piF else
  none
def gblk (z : EP) (g : Nat) : Option Obj := if g = 4 then some (.cells #[.iface (z.t (4 + 1000)) (z.v 4)] (z.t 4) (z.z 4)) else none
noncomputable def env (t : TypeId) (z : EP) : Env := ⟨⟨gtab, gblk z, Tryd.prog⟩, findE tabL, knownF⟩
theorem tabL_ok : TabOk Tryd.prog tabL := by
  unfold tabL
  refine ⟨⟨by decide, Tryd.f3, Tryd.func3, c3_ok, by kernel_rfl⟩, ⟨⟨by decide, Tryd.f8, Tryd.func8, c8_ok, by kernel_rfl⟩, ⟨⟨by decide, Tryd.f9, Tryd.func9, c9_ok, by kernel_rfl⟩, ⟨⟨by decide, Tryd.f26, Tryd.func26, c26_ok, by kernel_rfl⟩, ⟨⟨by decide, Tryd.f27, Tryd.func27, c27_ok, by kernel_rfl⟩, ⟨⟨by decide, Tryd.f28, Tryd.func28, c28_ok, by kernel_rfl⟩, ⟨⟨by decide, Tryd.f35, Tryd.func35, c35_ok, by kernel_rfl⟩, ⟨⟨by decide, Tryd.f37, Tryd.func37, c37_ok, by kernel_rfl⟩, ⟨⟨by decide, Tryd.f39, Tryd.func39, c39_ok, by kernel_rfl⟩, ⟨⟨by decide, Tryd.f40, Tryd.func40, c40_ok, by kernel_rfl⟩, ⟨⟨by decide, Tryd.f41, Tryd.func41, c41_ok, by kernel_rfl⟩, ⟨⟨by decide, Tryd.f42, Tryd.func42, c42_ok, by kernel_rfl⟩, ⟨⟨by decide, Tryd.f43, Tryd.func43, c43_ok, by kernel_rfl⟩, ⟨⟨by decide, Tryd.f44, Tryd.func44, c44_ok, by kernel_rfl⟩, ⟨⟨by decide, Tryd.f45, Tryd.func45, c45_ok, by kernel_rfl⟩, ⟨⟨by decide, Tryd.f46, Tryd.func46, c46_ok, by kernel_rfl⟩, ⟨⟨by decide, Tryd.f61, Tryd.func61, c61_ok, by kernel_rfl⟩, ⟨⟨by decide, Tryd.f62, Tryd.func62, c62_ok, by kernel_rfl⟩, ⟨⟨by decide, Tryd.f63, Tryd.func63, c63_ok, by kernel_rfl⟩, ⟨⟨by decide, Tryd.f65, Tryd.func65, c65_ok, by kernel_rfl⟩, ⟨⟨by decide, Tryd.f66, Tryd.func66, c66_ok, by kernel_rfl⟩, ⟨⟨by decide, Tryd.f67, Tryd.func67, c67_ok, by kernel_rfl⟩, ⟨⟨by decide, Tryd.f68, Tryd.func68, c68_ok, by kernel_rfl⟩, ⟨⟨by decide, Tryd.f69, Tryd.func69, c69_ok, by kernel_rfl⟩, ⟨⟨by decide, Tryd.f91, Tryd.func91, c91_ok, by kernel_rfl⟩, ⟨⟨by decide, Tryd.f92, Tryd.func92, c92_ok, by kernel_rfl⟩, ⟨⟨by decide, Tryd.f109, Tryd.func109, c109_ok, by kernel_rfl⟩, ⟨⟨by decide, Tryd.f110, Tryd.func110, c110_ok, by kernel_rfl⟩, ⟨⟨by decide, Tryd.f111, Tryd.func111, c111_ok, by kernel_rfl⟩, trivial⟩⟩⟩⟩⟩⟩⟩⟩⟩⟩⟩⟩⟩⟩⟩⟩⟩⟩⟩⟩⟩⟩⟩⟩⟩⟩⟩⟩⟩
theorem env_ok (t : TypeId) (z : EP) : EnvOk Tryd.prog (env t z) := by
  refine ⟨by kernel_rfl, rfl, fun f c h => tabL_ok.find f c h, fun f F h => ?_⟩
  simp only [env, knownF] at h
  split at h
  · rename_i e; subst e; injection h with h; subst h
    exact ⟨_, .inl ⟨rfl, by decide⟩, enter_cc, fun args S r S' h => ccF_spec (env t z).G args S r S' h⟩
  split at h
  · rename_i e; subst e; injection h with h; subst h
    exact ⟨_, .inl ⟨rfl, by decide⟩, enter_ib, fun args S r S' h => ibF_spec (env t z).G args S r S' h⟩
  split at h
  · rename_i e; subst e; injection h with h; subst h
    exact ⟨_, .inl ⟨rfl, by decide⟩, enter_pi, fun args S r S' h => piF_spec (env t z).G ⟨.iface (z.t (4 + 1000)) (z.v 4), z.t 4, z.z 4, by simp [env, gblk], .inr ⟨_, _, rfl⟩⟩ args S r S' h⟩
  cases h
end Go.PE
