/-
  What the evaluator knows of this seat's program: its functions, and its variables. No conditions.
-/
import Derived.Test.YtaofeleeinjclaaGreatDoorCode
import Derived.Test.YtaofeleeinjclaaGreatDoorPKB
import Derived.Test.YtaofeleeinjclaaGreatDoorPKL
import Derived.Test.YtaofeleeinjclaaGreatDoorPKF
namespace Go.PE
open Go Go.Proofs
set_option maxRecDepth 100000
def tabL : List (Nat × EFn) := [(3, c3), (8, c8), (9, c9), (10, c10), (13, c13), (14, c14), (15, c15), (30, c30), (31, c31), (32, c32), (34, c34), (35, c35), (36, c36), (37, c37), (55, c55), (56, c56), (57, c57), (58, c58), (59, c59), (60, c60), (61, c61), (62, c62), (63, c63), (64, c64), (65, c65), (66, c66), (67, c67), (73, c73), (92, c92), (93, c93), (94, c94), (96, c96), (97, c97), (98, c98), (99, c99), (100, c100), (101, c101), (102, c102), (103, c103), (104, c104), (109, c109), (122, c122), (123, c123), (124, c124), (134, c134), (135, c135), (136, c136)]
def gtab (g : Nat) : Option (List PV) :=
  none
def knownF (f : FuncId) : Option (List PV → St → Option (PV × St)) :=
  if f = 11 then some fcF else
  if f = 12 then some faF else
  if f = 72 then some ccF else
  if f = 91 then some ibF else
  if f = 95 then some piF else
  none
def gblk (z : EP) (g : Nat) : Option Obj := if g = 3 then some (.cells #[.iface (z.t (3 + 1000)) (z.v 3)] (z.t 3) (z.z 3)) else if g = 0 then some (.cells #[errV] (z.t 0) (z.z 0)) else none
noncomputable def env (t : TypeId) (z : EP) : Env := ⟨⟨gtab, gblk z, Tryz.prog⟩, findE tabL, knownF⟩
theorem tabL_ok : TabOk Tryz.prog tabL := by
  unfold tabL
  refine ⟨⟨by decide, Tryz.f3, Tryz.func3, c3_ok, by kernel_rfl⟩, ⟨⟨by decide, Tryz.f8, Tryz.func8, c8_ok, by kernel_rfl⟩, ⟨⟨by decide, Tryz.f9, Tryz.func9, c9_ok, by kernel_rfl⟩, ⟨⟨by decide, Tryz.f10, Tryz.func10, c10_ok, by kernel_rfl⟩, ⟨⟨by decide, Tryz.f13, Tryz.func13, c13_ok, by kernel_rfl⟩, ⟨⟨by decide, Tryz.f14, Tryz.func14, c14_ok, by kernel_rfl⟩, ⟨⟨by decide, Tryz.f15, Tryz.func15, c15_ok, by kernel_rfl⟩, ⟨⟨by decide, Tryz.f30, Tryz.func30, c30_ok, by kernel_rfl⟩, ⟨⟨by decide, Tryz.f31, Tryz.func31, c31_ok, by kernel_rfl⟩, ⟨⟨by decide, Tryz.f32, Tryz.func32, c32_ok, by kernel_rfl⟩, ⟨⟨by decide, Tryz.f34, Tryz.func34, c34_ok, by kernel_rfl⟩, ⟨⟨by decide, Tryz.f35, Tryz.func35, c35_ok, by kernel_rfl⟩, ⟨⟨by decide, Tryz.f36, Tryz.func36, c36_ok, by kernel_rfl⟩, ⟨⟨by decide, Tryz.f37, Tryz.func37, c37_ok, by kernel_rfl⟩, ⟨⟨by decide, Tryz.f55, Tryz.func55, c55_ok, by kernel_rfl⟩, ⟨⟨by decide, Tryz.f56, Tryz.func56, c56_ok, by kernel_rfl⟩, ⟨⟨by decide, Tryz.f57, Tryz.func57, c57_ok, by kernel_rfl⟩, ⟨⟨by decide, Tryz.f58, Tryz.func58, c58_ok, by kernel_rfl⟩, ⟨⟨by decide, Tryz.f59, Tryz.func59, c59_ok, by kernel_rfl⟩, ⟨⟨by decide, Tryz.f60, Tryz.func60, c60_ok, by kernel_rfl⟩, ⟨⟨by decide, Tryz.f61, Tryz.func61, c61_ok, by kernel_rfl⟩, ⟨⟨by decide, Tryz.f62, Tryz.func62, c62_ok, by kernel_rfl⟩, ⟨⟨by decide, Tryz.f63, Tryz.func63, c63_ok, by kernel_rfl⟩, ⟨⟨by decide, Tryz.f64, Tryz.func64, c64_ok, by kernel_rfl⟩, ⟨⟨by decide, Tryz.f65, Tryz.func65, c65_ok, by kernel_rfl⟩, ⟨⟨by decide, Tryz.f66, Tryz.func66, c66_ok, by kernel_rfl⟩, ⟨⟨by decide, Tryz.f67, Tryz.func67, c67_ok, by kernel_rfl⟩, ⟨⟨by decide, Tryz.f73, Tryz.func73, c73_ok, by kernel_rfl⟩, ⟨⟨by decide, Tryz.f92, Tryz.func92, c92_ok, by kernel_rfl⟩, ⟨⟨by decide, Tryz.f93, Tryz.func93, c93_ok, by kernel_rfl⟩, ⟨⟨by decide, Tryz.f94, Tryz.func94, c94_ok, by kernel_rfl⟩, ⟨⟨by decide, Tryz.f96, Tryz.func96, c96_ok, by kernel_rfl⟩, ⟨⟨by decide, Tryz.f97, Tryz.func97, c97_ok, by kernel_rfl⟩, ⟨⟨by decide, Tryz.f98, Tryz.func98, c98_ok, by kernel_rfl⟩, ⟨⟨by decide, Tryz.f99, Tryz.func99, c99_ok, by kernel_rfl⟩, ⟨⟨by decide, Tryz.f100, Tryz.func100, c100_ok, by kernel_rfl⟩, ⟨⟨by decide, Tryz.f101, Tryz.func101, c101_ok, by kernel_rfl⟩, ⟨⟨by decide, Tryz.f102, Tryz.func102, c102_ok, by kernel_rfl⟩, ⟨⟨by decide, Tryz.f103, Tryz.func103, c103_ok, by kernel_rfl⟩, ⟨⟨by decide, Tryz.f104, Tryz.func104, c104_ok, by kernel_rfl⟩, ⟨⟨by decide, Tryz.f109, Tryz.func109, c109_ok, by kernel_rfl⟩, ⟨⟨by decide, Tryz.f122, Tryz.func122, c122_ok, by kernel_rfl⟩, ⟨⟨by decide, Tryz.f123, Tryz.func123, c123_ok, by kernel_rfl⟩, ⟨⟨by decide, Tryz.f124, Tryz.func124, c124_ok, by kernel_rfl⟩, ⟨⟨by decide, Tryz.f134, Tryz.func134, c134_ok, by kernel_rfl⟩, ⟨⟨by decide, Tryz.f135, Tryz.func135, c135_ok, by kernel_rfl⟩, ⟨⟨by decide, Tryz.f136, Tryz.func136, c136_ok, by kernel_rfl⟩, trivial⟩⟩⟩⟩⟩⟩⟩⟩⟩⟩⟩⟩⟩⟩⟩⟩⟩⟩⟩⟩⟩⟩⟩⟩⟩⟩⟩⟩⟩⟩⟩⟩⟩⟩⟩⟩⟩⟩⟩⟩⟩⟩⟩⟩⟩⟩⟩
theorem env_ok (t : TypeId) (z : EP) : EnvOk Tryz.prog (env t z) := by
  refine ⟨by kernel_rfl, rfl, fun f c h => tabL_ok.find f c h, fun f F h => ?_⟩
  simp only [env, knownF] at h
  split at h
  · rename_i e; subst e; injection h with h; subst h
    exact ⟨_, .inl ⟨rfl, by decide⟩, enter_fc, fun args S r S' h => fcF_spec (env t z).G ⟨z.t 0, z.z 0, by simp [env, gblk]⟩ args S r S' h⟩
  split at h
  · rename_i e; subst e; injection h with h; subst h
    exact ⟨_, .inl ⟨rfl, by decide⟩, enter_fa, fun args S r S' h => faF_spec (env t z).G ⟨z.t 0, z.z 0, by simp [env, gblk]⟩ args S r S' h⟩
  split at h
  · rename_i e; subst e; injection h with h; subst h
    exact ⟨_, .inl ⟨rfl, by decide⟩, enter_cc, fun args S r S' h => ccF_spec (env t z).G args S r S' h⟩
  split at h
  · rename_i e; subst e; injection h with h; subst h
    exact ⟨_, .inl ⟨rfl, by decide⟩, enter_ib, fun args S r S' h => ibF_spec (env t z).G args S r S' h⟩
  split at h
  · rename_i e; subst e; injection h with h; subst h
    exact ⟨_, .inl ⟨rfl, by decide⟩, enter_pi, fun args S r S' h => piF_spec (env t z).G ⟨.iface (z.t (3 + 1000)) (z.v 3), z.t 3, z.z 3, by simp [env, gblk], .inr ⟨_, _, rfl⟩⟩ args S r S' h⟩
  cases h
end Go.PE
