/-
  A region that draws its order: whatever order is drawn, it comes to what the order of the text comes to. Conditions: each law's own.
-/
import Derived.Test.YteifnopejdiikaaDoorPE11
namespace Go.PE
open Go Go.RowKit
set_option linter.unusedVariables false
set_option linter.unusedSimpArgs false
theorem ba_data {s t:ByteArray} (h:s.data.toList=t.data.toList):s=t:=by
 cases s;cases t;simp_all
theorem beqM_sound: ∀ {a b:List (ByteArray×PV×Nat)},beqM a b=true→a=b
 |[],[],_=>rfl
 |[],_::_,h=>by simp[beqM] at h
 |_::_,[],h=>by simp[beqM] at h
 |(k,v,n)::l,(k',v',n')::m,h=>by
  simp only[beqM,Bool.and_eq_true,beq_iff_eq] at h
  rw[ba_data h.1.1.1,beq_sound h.1.1.2,h.1.2,beqM_sound h.2]
theorem beqM_refl: ∀ a:List (ByteArray×PV×Nat),beqM a a=true
 |[]=>rfl
 |(k,v,n)::l=>by simp[beqM,beq_refl,beqM_refl l]
theorem Ob.beq_sound {a b:Ob} (h:a.beq b=true):a=b:=by
 cases a<;>cases b<;>simp only[Ob.beq,Bool.and_eq_true,beq_iff_eq,decide_eq_true_eq] at h<;>try (cases h;done)
 ·rw[h.1,beqL_sound h.2]
 ·rw[ba_data h.1,h.2]
 ·rw[h]
 ·rw[beqM_sound h.1,h.2]
 ·rw[h.1,beqL_sound h.2]
 ·rfl
theorem Ob.beq_refl (a:Ob):a.beq a=true:=by
 cases a<;>simp[Ob.beq,beqL_refl,beqM_refl]
theorem beqO_sound: ∀ {a b:List Ob},beqO a b=true→a=b
 |[],[],_=>rfl
 |[],_::_,h=>by simp[beqO] at h
 |_::_,[],h=>by simp[beqO] at h
 |x::l,y::m,h=>by
  simp only[beqO,Bool.and_eq_true] at h
  rw[beqO_sound h.2,Ob.beq_sound h.1]
theorem beqO_refl: ∀ a:List Ob,beqO a a=true
 |[]=>rfl
 |x::l=>by simp[beqO,Ob.beq_refl,beqO_refl l]
theorem St.beq_sound {a b:St} (h:a.beq b=true):a=b:=by
 cases a;cases b
 simp[St.beq] at h
 rw[beqO_sound h.1,h.2]
theorem St.beq_refl (a:St):a.beq a=true:=by simp[St.beq,beqO_refl]
section
variable {G:Glob} {call:CallFn} {S S':St} {ts ts':Tmps}
theorem val_congr {x:EOpd} (h: ∀ d∈x.reads,look ts d=look ts' d):x.val G ts=x.val G ts':=by
 cases x with
 |tmp t=>simp only[EOpd.val];exact h t (by simp[EOpd.reads])
 |con v=>rfl
 |glob g=>rfl
theorem vals_congr: ∀ {xs:List EOpd},(∀ d∈xs.flatMap EOpd.reads,look ts d=look ts' d)→vals G ts xs=vals G ts' xs
 |[],_=>rfl
 |x::l,h=>by
  simp only[vals,val_congr (x:=x) (fun d hd=>h d (by simp[hd])),vals_congr (xs:=l) (fun d hd=>h d (by rw[List.flatMap_cons,List.mem_append];exact .inr hd))]
theorem optVal_congr {x:Option EOpd} (h: ∀ d∈oReads x,look ts d=look ts' d):optVal G ts x=optVal G ts' x:=by
 cases x with
 |none=>rfl
 |some x=>simp only[optVal,val_congr (x:=x) h]
theorem fillP_congr: ∀ {ps:List (Nat×Nat×EOpd)} {cells:List PV},(∀ d∈ps.flatMap (fun p=>p.2.2.reads),look ts d=look ts' d)→fillP G ts cells ps=fillP G ts' cells ps
 |[],_,_=>rfl
 |(off,size,x)::l,cells,h=>by
  have hx:=val_congr (G:=G) (x:=x) (ts:=ts) (ts':=ts') (fun d hd=>h d (by simp[hd]))
  have hl: ∀ cells,fillP G ts cells l=fillP G ts' cells l:=fun cells=>fillP_congr (ps:=l) (fun d hd=>h d (by rw[List.flatMap_cons,List.mem_append];exact .inr hd))
  simp only[fillP,hx,hl]
theorem evOp_congr {e:EOp} (h: ∀ d∈e.reads,look ts d=look ts' d):evOp G call ts S e=evOp G call ts' S e:=by
 have two: ∀ {x y:EOpd},(∀ d∈x.reads++y.reads,look ts d=look ts' d)→x.val G ts=x.val G ts'∧y.val G ts=y.val G ts':=fun h=>
  ⟨val_congr fun d hd=>h d (by simp[hd]),val_congr fun d hd=>h d (by simp[hd])⟩
 cases e with
 |mv x|box _ x|boxI _ x|ld _ x|nck x|un _ x|cvI _ x|cvS x|s2b x|b2s x|ifc _ x|fA _ x|fld _ _ x|rng x|nxt x|ext x _|len _ x|usd x|clr _ _ x|tas _ _ _ x|mln x|pnc x=>simp only[evOp,val_congr (G:=G) (x:=x) h]
 |new _ z=>rfl
 |mkm|rcv=>rfl
 |pick c a b=>
  have h1:=val_congr (G:=G) (x:=c) (ts:=ts) (ts':=ts') fun d hd=>h d (by simp[EOp.reads,hd])
  obtain ⟨h2,h3⟩:=two (x:=a) (y:=b) fun d hd=>h d (by simp only[EOp.reads,List.mem_append] at hd ⊢;exact .inr hd)
  simp only[evOp,h1]
  split
  ·rename_i t _
   cases t<;>simp[h2,h3]
  ·rfl
 |build z ps=>simp only[evOp,fillP_congr (G:=G) (ps:=ps) h]
 |rows n sz z ps=>
  have:=fillP_congr (G:=G) (ts:=ts) (ts':=ts') (ps:=ps.map fun (i,x)=>(i*sz,sz,x)) (cells:=repRow z n) (fun d hd=>h d (by
   simp only[EOp.reads,List.mem_flatMap,List.mem_map] at hd ⊢
   obtain ⟨p,⟨q,hq,rfl⟩,hd⟩:=hd
   exact ⟨q,hq,hd⟩))
  simp only[evOp,this]
 |st _ x y|bin _ x y|eqB _ x y|eqP _ x y|eqI _ x y|eqL _ x y|eqG _ _ _ x y|ixL _ x y|ixP _ _ x y|ixS x y|ixG _ _ _ x y|app _ _ _ x y|apS _ x y|ust _ x y|mx _ x y|mks _ _ _ _ x y|mksM _ _ _ _ x y|appM _ _ _ x y|cpy _ x y|lkp _ _ x y|men _ x y|mdl x y=>
  obtain ⟨h1,h2⟩:=two (x:=x) (y:=y) h
  simp only[evOp,h1,h2]
 |fnv f a b=>
  have h1:=vals_congr (G:=G) (xs:=a) (ts:=ts) (ts':=ts') fun d hd=>h d (by simp only[EOp.reads,List.mem_append];exact .inl hd)
  have h2:=vals_congr (G:=G) (xs:=b) (ts:=ts) (ts':=ts') fun d hd=>h d (by simp only[EOp.reads,List.mem_append];exact .inr hd)
  simp only[evOp,h1,h2]
 |slS x l r=>
  have h1:=val_congr (G:=G) (x:=x) (ts:=ts) (ts':=ts') fun d hd=>h d (by simp[EOp.reads,hd])
  have h2:=optVal_congr (G:=G) (x:=l) (ts:=ts) (ts':=ts') fun d hd=>h d (by simp[EOp.reads,hd])
  have h3:=optVal_congr (G:=G) (x:=r) (ts:=ts) (ts':=ts') fun d hd=>h d (by simp[EOp.reads,hd])
  simp only[evOp,h1,h2,h3]
 |slL _ x l r m=>
  have h1:=val_congr (G:=G) (x:=x) (ts:=ts) (ts':=ts') fun d hd=>h d (by simp[EOp.reads,hd])
  have h2:=optVal_congr (G:=G) (x:=l) (ts:=ts) (ts':=ts') fun d hd=>h d (by simp[EOp.reads,hd])
  have h3:=optVal_congr (G:=G) (x:=r) (ts:=ts) (ts':=ts') fun d hd=>h d (by simp[EOp.reads,hd])
  have h4:=optVal_congr (G:=G) (x:=m) (ts:=ts) (ts':=ts') fun d hd=>h d (by simp[EOp.reads,hd])
  simp only[evOp,h1,h2,h3,h4]
 |mup x y z|mst x y z=>
  have h1:=val_congr (G:=G) (x:=x) (ts:=ts) (ts':=ts') fun d hd=>h d (by simp[EOp.reads,hd])
  have h2:=val_congr (G:=G) (x:=y) (ts:=ts) (ts':=ts') fun d hd=>h d (by simp[EOp.reads,hd])
  have h3:=val_congr (G:=G) (x:=z) (ts:=ts) (ts':=ts') fun d hd=>h d (by simp[EOp.reads,hd])
  simp only[evOp,h1,h2,h3]
 |call f xs|callM f xs=>
  have h1:=val_congr (G:=G) (x:=f) (ts:=ts) (ts':=ts') fun d hd=>h d (by simp[EOp.reads,hd])
  have h2:=vals_congr (G:=G) (xs:=xs) (ts:=ts) (ts':=ts') fun d hd=>h d (by simp only[EOp.reads,List.mem_append];exact .inr hd)
  simp only[evOp,h1,h2]
theorem panOp_congr {e:EOp} (h: ∀ d∈e.reads,look ts d=look ts' d):panOp G call ts S e=panOp G call ts' S e:=by
 cases e with
 |call f xs=>
  have h1:=val_congr (G:=G) (x:=f) (ts:=ts) (ts':=ts') fun d hd=>h d (by simp[EOp.reads,hd])
  have h2:=vals_congr (G:=G) (xs:=xs) (ts:=ts) (ts':=ts') fun d hd=>h d (by simp only[EOp.reads,List.mem_append];exact .inr hd)
  simp only[panOp,h1,h2]
 |pnc x=>simp only[panOp,val_congr (G:=G) (x:=x) h]
 |_=>rfl
theorem evOp_still {e:EOp} (hl:loud e=false) {v:PV} (h:evOp G call ts S e=some (v,S')):S'=S∧ ∀ S2,evOp G call ts S2 e=some (v,S2):=by
 cases e<;>simp only[loud] at hl<;>try (cases hl;done)
 all_goals
  simp only[evOp] at h ⊢
  (repeat' split at h)<;>simp_all [Option.map_eq_some_iff,Option.bind_eq_some_iff]<;>grind
end
end Go.PE
