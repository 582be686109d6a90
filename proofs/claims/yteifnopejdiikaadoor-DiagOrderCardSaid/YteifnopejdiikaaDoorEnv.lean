/-
  What the evaluator knows of this seat's program: its functions, and its variables. No conditions.
-/
import Derived.Test.YteifnopejdiikaaDoorCode
import Derived.Test.YteifnopejdiikaaDoorPKB
import Derived.Test.YteifnopejdiikaaDoorPKI
import Derived.Test.YteifnopejdiikaaDoorPKC
import Derived.Test.YteifnopejdiikaaDoorPKF
import Derived.Test.YteifnopejdiikaaDoorPKD
import Derived.Test.YteifnopejdiikaaDoorPKW
namespace Go.PE
open Go Go.Proofs
set_option linter.unusedVariables false
set_option maxRecDepth 100000
def tabL:List (Nat×EFn):=[(3,c3),(4,c4),(5,c5),(6,c6),(7,c7),(8,c8),(9,c9),(10,c10),(11,c11),(12,c12),(13,c13),(17,c17),(18,c18),(19,c19),(20,c20),(22,c22),(23,c23),(25,c25),(26,c26),(28,c28),(30,c30),(31,c31),(34,c34),(36,c36),(37,c37),(44,c44),(56,c56),(57,c57)]
def gtab (g:Nat):Option (List PV):=
 none
def knownF (f:FuncId):Option (List PV→St→Option (PV×St)):=
 if f=14 then some fcF else
 if f=15 then some faF else
 if f=16 then some fdF else
 if f=21 then some sfF else
 if f=24 then some clF else
 if f=29 then some itF else
 if f=35 then some scF else
 if f=42 then some ccF else
 none
def gblk (z:EP) (g:Nat):Option Obj:=if g=2 then some (.cells powCells (z.t 2) (z.z 2)) else if g=0 then some (.cells #[errV] (z.t 0) (z.z 0)) else none
noncomputable def env (t:TypeId) (z:EP):Env:=⟨⟨gtab,gblk z,Tryd.prog⟩,findE tabL,knownF⟩
theorem tabL_ok:TabOk Tryd.prog tabL:=by
 unfold tabL
 refine ⟨⟨by decide,Tryd.f3,Tryd.func3,c3_ok,by kernel_rfl⟩,⟨⟨by decide,Tryd.f4,Tryd.func4,c4_ok,by kernel_rfl⟩,⟨⟨by decide,Tryd.f5,Tryd.func5,c5_ok,by kernel_rfl⟩,⟨⟨by decide,Tryd.f6,Tryd.func6,c6_ok,by kernel_rfl⟩,⟨⟨by decide,Tryd.f7,Tryd.func7,c7_ok,by kernel_rfl⟩,⟨⟨by decide,Tryd.f8,Tryd.func8,c8_ok,by kernel_rfl⟩,⟨⟨by decide,Tryd.f9,Tryd.func9,c9_ok,by kernel_rfl⟩,⟨⟨by decide,Tryd.f10,Tryd.func10,c10_ok,by kernel_rfl⟩,⟨⟨by decide,Tryd.f11,Tryd.func11,c11_ok,by kernel_rfl⟩,⟨⟨by decide,Tryd.f12,Tryd.func12,c12_ok,by kernel_rfl⟩,⟨⟨by decide,Tryd.f13,Tryd.func13,c13_ok,by kernel_rfl⟩,⟨⟨by decide,Tryd.f17,Tryd.func17,c17_ok,by kernel_rfl⟩,⟨⟨by decide,Tryd.f18,Tryd.func18,c18_ok,by kernel_rfl⟩,⟨⟨by decide,Tryd.f19,Tryd.func19,c19_ok,by kernel_rfl⟩,⟨⟨by decide,Tryd.f20,Tryd.func20,c20_ok,by kernel_rfl⟩,⟨⟨by decide,Tryd.f22,Tryd.func22,c22_ok,by kernel_rfl⟩,⟨⟨by decide,Tryd.f23,Tryd.func23,c23_ok,by kernel_rfl⟩,⟨⟨by decide,Tryd.f25,Tryd.func25,c25_ok,by kernel_rfl⟩,⟨⟨by decide,Tryd.f26,Tryd.func26,c26_ok,by kernel_rfl⟩,⟨⟨by decide,Tryd.f28,Tryd.func28,c28_ok,by kernel_rfl⟩,⟨⟨by decide,Tryd.f30,Tryd.func30,c30_ok,by kernel_rfl⟩,⟨⟨by decide,Tryd.f31,Tryd.func31,c31_ok,by kernel_rfl⟩,⟨⟨by decide,Tryd.f34,Tryd.func34,c34_ok,by kernel_rfl⟩,⟨⟨by decide,Tryd.f36,Tryd.func36,c36_ok,by kernel_rfl⟩,⟨⟨by decide,Tryd.f37,Tryd.func37,c37_ok,by kernel_rfl⟩,⟨⟨by decide,Tryd.f44,Tryd.func44,c44_ok,by kernel_rfl⟩,⟨⟨by decide,Tryd.f56,Tryd.func56,c56_ok,by kernel_rfl⟩,⟨⟨by decide,Tryd.f57,Tryd.func57,c57_ok,by kernel_rfl⟩,trivial⟩⟩⟩⟩⟩⟩⟩⟩⟩⟩⟩⟩⟩⟩⟩⟩⟩⟩⟩⟩⟩⟩⟩⟩⟩⟩⟩⟩
theorem env_ok (t:TypeId) (z:EP):EnvOk Tryd.prog (env t z):=by
 refine ⟨by kernel_rfl,rfl,fun f c h=>tabL_ok.find f c h,fun f F h=> ?_⟩
 simp only[env,knownF] at h
 split at h
 ·rename_i e;subst e;injection h with h;subst h
  exact ⟨_,.inl ⟨rfl,by decide⟩,enter_fc,fun args S r S' h=>fcF_spec (env t z).G ⟨z.t 0,z.z 0,by simp[env,gblk]⟩ args S r S' h⟩
 split at h
 ·rename_i e;subst e;injection h with h;subst h
  exact ⟨_,.inl ⟨rfl,by decide⟩,enter_fa,fun args S r S' h=>faF_spec (env t z).G ⟨z.t 0,z.z 0,by simp[env,gblk]⟩ args S r S' h⟩
 split at h
 ·rename_i e;subst e;injection h with h;subst h
  exact ⟨_,.inl ⟨rfl,by decide⟩,enter_fd,fun args S r S' h=>fdF_spec (env t z).G ⟨z.t 0,z.z 0,by simp[env,gblk]⟩ args S r S' h⟩
 split at h
 ·rename_i e;subst e;injection h with h;subst h
  exact ⟨_,.inl ⟨rfl,by decide⟩,enter_sf,fun args S r S' h=>sfF_spec (env t z).G args S r S' h⟩
 split at h
 ·rename_i e;subst e;injection h with h;subst h
  exact ⟨_,.inl ⟨rfl,by decide⟩,enter_cl,fun args S r S' h=>clF_spec (env t z).G rfl args S r S' h⟩
 split at h
 ·rename_i e;subst e;injection h with h;subst h
  exact ⟨_,.inl ⟨rfl,by decide⟩,enter_it,fun args S r S' h=>itF_spec (env t z).G ⟨z.t 2,z.z 2,by simp[env,gblk]⟩ args S r S' h⟩
 split at h
 ·rename_i e;subst e;injection h with h;subst h
  exact ⟨_,.inl ⟨rfl,by decide⟩,enter_sc,fun args S r S' h=>scF_spec (env t z).G args S r S' h⟩
 split at h
 ·rename_i e;subst e;injection h with h;subst h
  exact ⟨_,.inl ⟨rfl,by decide⟩,enter_cc,fun args S r S' h=>ccF_spec (env t z).G args S r S' h⟩
 cases h
end Go.PE
