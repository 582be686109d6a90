/-
  This seat's functions bear no private numbers in their code; so closed calls are settled anywhere. No conditions.
-/
import Derived.Test.YteifnopejdiikaaDoorEnv
import Derived.Test.YteifnopejdiikaaDoorPE21
import Derived.Test.YteifnopejdiikaaDoorPKD
import Derived.Test.YteifnopejdiikaaDoorPKW
import Derived.KernelRfl
namespace Go.PE
open Go Go.RowKit Go.Proofs
set_option linter.unusedVariables false
set_option linter.unusedSimpArgs false
set_option maxRecDepth 100000
def tabFree:List (Nat×EFn)→Bool
 |[]=>true
 |(_,c)::l=>c.free&&tabFree l
theorem tabFree_find: ∀ {l:List (Nat×EFn)},tabFree l=true→ ∀ f c,findE l f=some c→c.free=true
 |[],_,f,c,h=>by cases h
 |(k,c')::l,ht,f,c,h=>by
  simp only[tabFree,Bool.and_eq_true] at ht
  simp only[findE] at h
  split at h
  ·injection h with h;subst h;exact ht.1
  ·exact tabFree_find ht.2 f c h
theorem ccF_mv (B:St) (args:List PV) (S:St) (r:PV) (S':St) (h:ccF args S=some (r,S')):ccF (mBL B args) (mS B S)=some (mB B r,mS B S'):=by
 unfold ccF at h
 split at h
 ·rename_i l
  have e:mBL B [.ref l 0]=[.ref (B.obs.length+l) 0]:=rfl
  rw[e]
  unfold ccF
  simp only[mS_ob]
  split at h
  ·rename_i t x hob
   rw[hob]
   split at h
   ·rename_i ht
    injection h with h;injection h with h1 h2;subst h1 h2
    simp only[Option.map_some,mBO,mvO,mvL,mvV,ht,if_true,mS_obs_set]
   ·cases h
  ·rename_i t l' x hob
   rw[hob]
   split at h
   ·rename_i hl
    injection h with h;injection h with h1 h2;subst h1 h2
    simp only[Option.map_some,mBO,mvO,mvL,mvV,hl,if_true]
   ·cases h
  ·cases h
 ·cases h
theorem itF_mv (B:St) (args:List PV) (S:St) (r:PV) (S':St) (h:itF args S=some (r,S')):itF (mBL B args) (mS B S)=some (mB B r,mS B S'):=by
 unfold itF at h
 split at h
 ·rename_i n
  split at h
  ·rename_i hn
   injection h with h;injection h with h1 h2;subst h1 h2
   show itF [.int .i64 n] (mS B S)=_
   unfold itF
   simp only[hn,and_self,if_true];rfl
  ·cases h
 ·cases h
theorem scF_mv (B:St) (args:List PV) (S:St) (r:PV) (S':St) (h:scF args S=some (r,S')):scF (mBL B args) (mS B S)=some (mB B r,mS B S'):=by
 unfold scF at h
 split at h
 ·injection h with h;injection h with h1 h2;subst h1 h2;rfl
 ·cases h
theorem erF_mv (a k:Nat): ∀ (f:Nat) (p:PV) (e:Er),erF f p=some e→mvV a k p=p:=by
 intro f
 induction f with
 |zero=>
  intro p e h
  unfold erF at h
  split at h
  ·rfl
  ·simp_all
  ·cases h
 |succ f ih=>
  intro p e h
  unfold erF at h
  split at h
  ·rfl
  ·rename_i f' t s q hf
   obtain rfl:f=f':=by omega
   split at h
   ·simp only[Option.map_eq_some_iff] at h
    obtain ⟨e',he',_⟩:=h
    simp only[mvV,mvL,ih _ _ he']
   ·cases h
  ·cases h
theorem fcF_mv (B:St) (args:List PV) (S:St) (r:PV) (S':St) (h:fcF args S=some (r,S')):fcF (mBL B args) (mS B S)=some (mB B r,mS B S'):=by
 unfold fcF at h
 split at h
 ·injection h with h;injection h with h1 h2;subst h1 h2;rfl
 ·simp only[Option.map_eq_some_iff,Prod.mk.injEq] at h
  obtain ⟨er,he,h1,h2⟩:=h
  subst h1 h2
  rename_i e hne
  have q:mBL B [e]=[e]:=by show [mvV _ _ e]=[e];rw[erF_mv _ _ _ _ _ he]
  rw[q]
  unfold fcF
  split
  ·rename_i e1;injection e1 with e1;subst e1;cases he
  ·rename_i e1;injection e1 with e1;subst e1;rw[he];rfl
  ·rename_i _ h1;exact absurd rfl (h1 e)
 ·cases h
theorem faF_mv (B:St) (args:List PV) (S:St) (r:PV) (S':St) (h:faF args S=some (r,S')):faF (mBL B args) (mS B S)=some (mB B r,mS B S'):=by
 unfold faF at h
 split at h
 ·injection h with h;injection h with h1 h2;subst h1 h2;rfl
 ·simp only[Option.map_eq_some_iff,Prod.mk.injEq] at h
  obtain ⟨er,he,h1,h2⟩:=h
  subst h1 h2
  rename_i e hne
  have q:mBL B [e]=[e]:=by show [mvV _ _ e]=[e];rw[erF_mv _ _ _ _ _ he]
  rw[q]
  unfold faF
  split
  ·rename_i e1;injection e1 with e1;subst e1;cases he
  ·rename_i e1;injection e1 with e1;subst e1;rw[he];rfl
  ·rename_i _ h1;exact absurd rfl (h1 e)
 ·cases h
theorem fdF_mv (B:St) (args:List PV) (S:St) (r:PV) (S':St) (h:fdF args S=some (r,S')):fdF (mBL B args) (mS B S)=some (mB B r,mS B S'):=by
 unfold fdF at h
 split at h
 ·injection h with h;injection h with h1 h2;subst h1 h2;rfl
 ·simp only[Option.map_eq_some_iff,Prod.mk.injEq] at h
  obtain ⟨er,he,h1,h2⟩:=h
  subst h1 h2
  rename_i e hne
  have q:mBL B [e]=[e]:=by show [mvV _ _ e]=[e];rw[erF_mv _ _ _ _ _ he]
  rw[q]
  unfold fdF
  split
  ·rename_i e1;injection e1 with e1;subst e1;cases he
  ·rename_i e1;injection e1 with e1;subst e1;rw[he];rfl
  ·rename_i _ h1;exact absurd rfl (h1 e)
 ·cases h
theorem env_free (t:TypeId) (z:EP):EnvFree (env t z):=by
 refine ⟨fun g cs h=> ?_,fun f c h=>tabFree_find (show tabFree tabL=true by kernel_rfl) f c h,fun B f F h=> ?_⟩
 ·simp only[env,gtab] at h
  (repeat' split at h)<;>first|(cases h;done)|(injection h with h;subst h;rfl)
 ·simp only[env,knownF] at h
  (repeat' split at h)<;>first|(cases h;done)|(injection h with h;subst h;intro args S r S' hh;first|exact jnF_mv B args S r S' hh|exact srF_mv B args S r S' hh|exact cpF_mv B args S r S' hh|exact ccF_mv B args S r S' hh|exact itF_mv B args S r S' hh|exact ibF_mv B args S r S' hh|exact scF_mv B args S r S' hh|exact piF_mv B args S r S' hh|exact fcF_mv B args S r S' hh|exact faF_mv B args S r S' hh|exact fdF_mv B args S r S' hh|exact sfF_mv B args S r S' hh|exact clF_mv B args S r S' hh)
end Go.PE
