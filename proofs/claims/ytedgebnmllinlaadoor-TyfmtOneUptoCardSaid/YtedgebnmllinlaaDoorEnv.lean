/-
  What the evaluator knows of this seat's program: its functions, and its variables. No conditions.
-/
import Derived.Test.YtedgebnmllinlaaDoorCode
import Derived.Test.YtedgebnmllinlaaDoorPKB
import Derived.Test.YtedgebnmllinlaaDoorPKI
namespace Go.PE
open Go Go.Proofs
set_option maxRecDepth 100000
def tabL : List (Nat × EFn) := [(8, c8), (9, c9), (10, c10), (34, c34), (35, c35), (36, c36), (37, c37), (38, c38), (39, c39), (40, c40), (41, c41), (42, c42), (43, c43), (56, c56), (57, c57), (58, c58), (59, c59), (60, c60), (61, c61), (62, c62), (63, c63), (64, c64), (65, c65), (66, c66), (67, c67), (77, c77), (78, c78), (81, c81), (82, c82), (83, c83), (84, c84), (85, c85), (86, c86), (87, c87), (88, c88), (89, c89), (90, c90), (95, c95), (96, c96), (97, c97), (98, c98), (99, c99), (100, c100), (101, c101), (107, c107), (113, c113), (114, c114), (115, c115)]
def gtab (g : Nat) : Option (List PV) :=
  none
def knownF (f : FuncId) : Option (List PV → St → Option (PV × St)) :=
  if f = 49 then some itF else
  if f = 94 then some ccF else
  none
def env (t : TypeId) (z : Nat × Nat) : Env := ⟨⟨gtab, fun g => if g = 2 then some (.cells powCells t z) else none⟩, findE tabL, knownF⟩
theorem tabL_ok : TabOk Tryd.prog tabL := by
  unfold tabL
  refine ⟨⟨Tryd.f8, Tryd.func8, c8_ok, by kernel_rfl⟩, ⟨⟨Tryd.f9, Tryd.func9, c9_ok, by kernel_rfl⟩, ⟨⟨Tryd.f10, Tryd.func10, c10_ok, by kernel_rfl⟩, ⟨⟨Tryd.f34, Tryd.func34, c34_ok, by kernel_rfl⟩, ⟨⟨Tryd.f35, Tryd.func35, c35_ok, by kernel_rfl⟩, ⟨⟨Tryd.f36, Tryd.func36, c36_ok, by kernel_rfl⟩, ⟨⟨Tryd.f37, Tryd.func37, c37_ok, by kernel_rfl⟩, ⟨⟨Tryd.f38, Tryd.func38, c38_ok, by kernel_rfl⟩, ⟨⟨Tryd.f39, Tryd.func39, c39_ok, by kernel_rfl⟩, ⟨⟨Tryd.f40, Tryd.func40, c40_ok, by kernel_rfl⟩, ⟨⟨Tryd.f41, Tryd.func41, c41_ok, by kernel_rfl⟩, ⟨⟨Tryd.f42, Tryd.func42, c42_ok, by kernel_rfl⟩, ⟨⟨Tryd.f43, Tryd.func43, c43_ok, by kernel_rfl⟩, ⟨⟨Tryd.f56, Tryd.func56, c56_ok, by kernel_rfl⟩, ⟨⟨Tryd.f57, Tryd.func57, c57_ok, by kernel_rfl⟩, ⟨⟨Tryd.f58, Tryd.func58, c58_ok, by kernel_rfl⟩, ⟨⟨Tryd.f59, Tryd.func59, c59_ok, by kernel_rfl⟩, ⟨⟨Tryd.f60, Tryd.func60, c60_ok, by kernel_rfl⟩, ⟨⟨Tryd.f61, Tryd.func61, c61_ok, by kernel_rfl⟩, ⟨⟨Tryd.f62, Tryd.func62, c62_ok, by kernel_rfl⟩, ⟨⟨Tryd.f63, Tryd.func63, c63_ok, by kernel_rfl⟩, ⟨⟨Tryd.f64, Tryd.func64, c64_ok, by kernel_rfl⟩, ⟨⟨Tryd.f65, Tryd.func65, c65_ok, by kernel_rfl⟩, ⟨⟨Tryd.f66, Tryd.func66, c66_ok, by kernel_rfl⟩, ⟨⟨Tryd.f67, Tryd.func67, c67_ok, by kernel_rfl⟩, ⟨⟨Tryd.f77, Tryd.func77, c77_ok, by kernel_rfl⟩, ⟨⟨Tryd.f78, Tryd.func78, c78_ok, by kernel_rfl⟩, ⟨⟨Tryd.f81, Tryd.func81, c81_ok, by kernel_rfl⟩, ⟨⟨Tryd.f82, Tryd.func82, c82_ok, by kernel_rfl⟩, ⟨⟨Tryd.f83, Tryd.func83, c83_ok, by kernel_rfl⟩, ⟨⟨Tryd.f84, Tryd.func84, c84_ok, by kernel_rfl⟩, ⟨⟨Tryd.f85, Tryd.func85, c85_ok, by kernel_rfl⟩, ⟨⟨Tryd.f86, Tryd.func86, c86_ok, by kernel_rfl⟩, ⟨⟨Tryd.f87, Tryd.func87, c87_ok, by kernel_rfl⟩, ⟨⟨Tryd.f88, Tryd.func88, c88_ok, by kernel_rfl⟩, ⟨⟨Tryd.f89, Tryd.func89, c89_ok, by kernel_rfl⟩, ⟨⟨Tryd.f90, Tryd.func90, c90_ok, by kernel_rfl⟩, ⟨⟨Tryd.f95, Tryd.func95, c95_ok, by kernel_rfl⟩, ⟨⟨Tryd.f96, Tryd.func96, c96_ok, by kernel_rfl⟩, ⟨⟨Tryd.f97, Tryd.func97, c97_ok, by kernel_rfl⟩, ⟨⟨Tryd.f98, Tryd.func98, c98_ok, by kernel_rfl⟩, ⟨⟨Tryd.f99, Tryd.func99, c99_ok, by kernel_rfl⟩, ⟨⟨Tryd.f100, Tryd.func100, c100_ok, by kernel_rfl⟩, ⟨⟨Tryd.f101, Tryd.func101, c101_ok, by kernel_rfl⟩, ⟨⟨Tryd.f107, Tryd.func107, c107_ok, by kernel_rfl⟩, ⟨⟨Tryd.f113, Tryd.func113, c113_ok, by kernel_rfl⟩, ⟨⟨Tryd.f114, Tryd.func114, c114_ok, by kernel_rfl⟩, ⟨⟨Tryd.f115, Tryd.func115, c115_ok, by kernel_rfl⟩, trivial⟩⟩⟩⟩⟩⟩⟩⟩⟩⟩⟩⟩⟩⟩⟩⟩⟩⟩⟩⟩⟩⟩⟩⟩⟩⟩⟩⟩⟩⟩⟩⟩⟩⟩⟩⟩⟩⟩⟩⟩⟩⟩⟩⟩⟩⟩⟩⟩
theorem env_ok (t : TypeId) (z : Nat × Nat) : EnvOk Tryd.prog (env t z) := by
  refine ⟨by kernel_rfl, fun f c h => tabL_ok.find f c h, fun f F h => ?_⟩
  simp only [env, knownF] at h
  split at h
  · rename_i e; subst e; injection h with h; subst h
    exact ⟨enter_it, fun args S r S' h => itF_spec (env t z).G ⟨t, z, by simp [env]⟩ args S r S' h⟩
  split at h
  · rename_i e; subst e; injection h with h; subst h
    exact ⟨enter_cc, fun args S r S' h => ccF_spec (env t z).G args S r S' h⟩
  cases h
end Go.PE
