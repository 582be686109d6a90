/-
  A text that grows (strings.Builder): what its copyCheck does, told of private objects. Conditions: each law's own.
-/
import Derived.Test.YteifnopejdiikaaDoorPE17
import Derived.Test.YteifnopejdiikaaDoorProg
import Derived.WalkKit
import Derived.Below
import Derived.Lib.Hide
import Derived.Laws.Cover1
import Derived.WalkSpells
import Derived.Shelf.Strings.Builder1
namespace Go.PE
open Go Go.RowKit Go.Proofs
set_option linter.unusedVariables false
set_option linter.unusedSimpArgs false
theorem sizeB:(Tryd.prog.info? 64).map (·.size)=some 2:=by kernel_rfl
set_option maxRecDepth 100000 in
set_option maxHeartbeats 2000000 in
theorem check_used (b:Nat) (w:World) (h0:w.cell? ⟨b,0,none⟩=some (.pointer (some ⟨b,0,none⟩))):
  Calls Tryd.prog 42 #[.pointer (some ⟨b,0,none⟩)] w fun e w'=>e= .returned (.tuple #[])∧w'=w:=by
 obtain ⟨j,hj,_⟩:=Option.map_eq_some_iff.1 sizeB
 go_enter Tryd.func42,Tryd.ntmps42
 go_wp2
 rw[Lib.run_neq_ptr_same w _ Tryd.underlying61 hj]
 go_wp2
 go_end0
 exact ⟨rfl,rfl⟩
set_option maxRecDepth 100000 in
set_option maxHeartbeats 2000000 in
theorem check_fresh (b:Nat) (w:World) (h0:w.cell? ⟨b,0,none⟩=some (.pointer none)) (hsh:w.shape? b=some (64,2)) (hfz:w.frozen? ⟨b,0,none⟩=false):
  Calls Tryd.prog 42 #[.pointer (some ⟨b,0,none⟩)] w fun e w'=>e= .returned (.tuple #[])∧w'=w.setCell ⟨b,0,none⟩ (.pointer (some ⟨b,0,none⟩)):=by
 obtain ⟨j,hj,hjs⟩:=Option.map_eq_some_iff.1 sizeB
 go_enter Tryd.func42,Tryd.ntmps42
 go_wp2
 rw[Lib.run_to_unsafe w ⟨b,0,none⟩ Tryd.underlying61 Tryd.underlying76 hj (by rw[hjs];decide) hsh (Nat.zero_lt_succ 1)]
 simp only[Result.andThen]
 rw[Oper.upon_value]
 go_wp2
 rw[run_callFunc_extern Tryd.func61 (by kernel_rfl) (by kernel_rfl) (by kernel_rfl) (e:=Extern.AbiNoEscape.same) (by kernel_rfl)]
 rw[Lib.run_noEscape]
 simp only[Result.andThen]
 rw[Oper.upon_value]
 go_wp2
 rw[Lib.run_from_unsafe w ⟨b,0,none⟩ Tryd.underlying76 Tryd.underlying61 hj hsh (by kernel_rfl)]
 simp only[Result.andThen]
 rw[Oper.upon_value]
 go_wp2
 go_end0
 exact ⟨rfl,rfl⟩
def ccF:List PV→St→Option (PV×St)
 |[.ref l 0],S=>match S.obs[l]? with
  |some (.cells t [.nilp,x])=>if t=64 then some (.un,{S with obs:=S.obs.set l (.cells t [.ref l 0,x])}) else none
  |some (.cells t [.ref l' 0,x])=>if l'=l then some (.un,S) else none
  |_=>none
 |_,_=>none
theorem enter_cc:Enter Tryd.prog 42:=⟨_,Tryd.func42,by kernel_rfl,by kernel_rfl⟩
theorem ccF_spec (G:Glob) (args:List PV) (S:St) (r:PV) (S':St) (h:ccF args S=some (r,S')):CallSpec Tryd.prog G 42 args S r S':=by
 intro C w vs hW hR
 unfold ccF at h
 split at h
 ·rename_i l
  match vs,hR with
  |[],hR=>have:=hR.1;simp at this
  |_::_::_,hR=>have:=hR.1;simp at this
  |[v],hR=>
  have rp:=hR.2 0 _ v rfl rfl
  cases rp with|ref l q b hm=>
  split at h
  ·rename_i t x hob
   split at h
   ·rename_i ht;subst ht
    injection h with h;injection h with e1 e2;subst e1 e2
    obtain ⟨hm,hlt,arr,h1,h2,h3,h4⟩:=hW.live hob (by simp) hm
    have hs2:arr.size=2:=by simpa using h2
    have hg0:arr[0]?=some arr[0]:=Array.getElem?_eq_getElem (by omega)
    have r0:=h4 0 .nilp _ rfl hg0
    have e0:arr[0]?=some (.pointer none):=by generalize arr[0]=u at r0 hg0;cases r0;exact hg0
    refine (check_fresh b w (cell?_of h1 e0) (by simp[World.shape?,h1,hs2]) (by simp[World.frozen?,h1])).mono ?_
    rintro e w' ⟨rfl,rfl⟩
    have hh:(w.setCell ⟨b,0,none⟩ (.pointer (some ⟨b,0,none⟩))).heap[b]?=some (.cells (arr.setIfInBounds 0 (.pointer (some ⟨b,0,none⟩))) 64 (0,0)):=by
     simp[World.setCell,Array.getElem?_modify,h1]
    have h5: ∀ k,k≠b→(w.setCell ⟨b,0,none⟩ (.pointer (some ⟨b,0,none⟩))).heap[k]?=w.heap[k]?:=fun k hk=>by
     simp[World.setCell,Array.getElem?_modify,Ne.symm hk]
    have hsize:(w.setCell ⟨b,0,none⟩ (.pointer (some ⟨b,0,none⟩))).heap.size=w.heap.size:=by simp[World.setCell]
    have hs:Step C w C (w.setCell ⟨b,0,none⟩ (.pointer (some ⟨b,0,none⟩))):=step_turn hW hm rfl rfl rfl hsize h5
    refine ⟨C,_,rfl,.un C _,wrel_turn hW hm hs hsize h5 (by simp) ⟨_,hh,by simpa using hs2,fun i p hp=> ?_,fun i p v hp hv=> ?_⟩,hs⟩
    ·match i with
     |0=>simp at hp;subst hp;rfl
     |1=>exact h3 1 p hp
     |i+2=>simp at hp
    ·match i with
     |0=>
      simp at hp;subst hp
      rw[Array.getElem?_setIfInBounds_self_of_lt (by omega)] at hv
      injection hv with hv;subst hv
      exact .ref l 0 b (.inl hm)
     |1=>
      rw[Array.getElem?_setIfInBounds_ne (by omega)] at hv
      exact (h4 1 p v hp hv).step hs
     |i+2=>simp at hp
   ·cases h
  ·rename_i t l' x hob
   split at h
   ·rename_i hl;subst hl
    injection h with h;injection h with e1 e2;subst e1 e2
    obtain ⟨hm,hlt,arr,h1,h2,h3,h4⟩:=hW.live hob (by simp) hm
    have hs2:arr.size=2:=by simpa using h2
    have hg0:arr[0]?=some arr[0]:=Array.getElem?_eq_getElem (by omega)
    have r0:=h4 0 (.ref _ 0) _ rfl hg0
    have e0:arr[0]?=some (.pointer (some ⟨b,0,none⟩)):=by
     generalize arr[0]=u at r0 hg0
     cases r0 with|ref _ _ b2 hm2=>
      rcases hm2 with hm2|hm2
      ·rw[hm] at hm2;injection hm2 with hm2;subst hm2;exact hg0
      ·exact absurd (hW.dd _ hm2) (by rw[hob];simp)
    refine (check_used b w (cell?_of h1 e0)).mono ?_
    rintro e w' ⟨rfl,rfl⟩
    exact ⟨C,_,rfl,.un C _,hW,.refl C _⟩
   ·cases h
  ·cases h
 ·cases h
end Go.PE
