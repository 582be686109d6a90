/-
  A region that draws its order: whatever order is drawn, it comes to what the order of the text comes to. Conditions: each law's own.
-/
import Derived.Test.YtleggogbmklddaaGreatDoorPE11
namespace Go.PE
open Go Go.RowKit
set_option linter.unusedVariables false
set_option linter.unusedSimpArgs false
theorem ba_data {s t:ByteArray} (h:s.data.toList=t.data.toList):s=t:=by
 cases s;cases t;simp_all
theorem beqM_sound: ∀ {a b:List (ByteArray×PV×Nat)},beqM a b=true→a=b
 |[],[],_=>rfl
 |[],_::_,h=>by simp[beqM] at h
 |_::_,[],h=>by simp[beqM] at h
 |(k,v,n)::l,(k',v',n')::m,h=>by
  simp only[beqM,Bool.and_eq_true,beq_iff_eq] at h
  rw[ba_data h.1.1.1,beq_sound h.1.1.2,h.1.2,beqM_sound h.2]
theorem beqM_refl: ∀ a:List (ByteArray×PV×Nat),beqM a a=true
 |[]=>rfl
 |(k,v,n)::l=>by simp[beqM,beq_refl,beqM_refl l]
theorem Ob.beq_sound {a b:Ob} (h:a.beq b=true):a=b:=by
 cases a<;>cases b<;>simp only[Ob.beq,Bool.and_eq_true,beq_iff_eq,decide_eq_true_eq] at h<;>try (cases h;done)
 ·rw[h.1,beqL_sound h.2]
 ·rw[ba_data h.1,h.2]
 ·rw[h]
 ·rw[beqM_sound h.1,h.2]
 ·rw[h.1,beqL_sound h.2]
 ·rfl
theorem Ob.beq_refl (a:Ob):a.beq a=true:=by
 cases a<;>simp[Ob.beq,beqL_refl,beqM_refl]
theorem beqO_sound: ∀ {a b:List Ob},beqO a b=true→a=b
 |[],[],_=>rfl
 |[],_::_,h=>by simp[beqO] at h
 |_::_,[],h=>by simp[beqO] at h
 |x::l,y::m,h=>by
  simp only[beqO,Bool.and_eq_true] at h
  rw[beqO_sound h.2,Ob.beq_sound h.1]
theorem beqO_refl: ∀ a:List Ob,beqO a a=true
 |[]=>rfl
 |x::l=>by simp[beqO,Ob.beq_refl,beqO_refl l]
theorem St.beq_sound {a b:St} (h:a.beq b=true):a=b:=by
 cases a;cases b
 simp[St.beq] at h
 rw[beqO_sound h.1,h.2]
theorem St.beq_refl (a:St):a.beq a=true:=by simp[St.beq,beqO_refl]
section
variable {G:Glob} {call:CallFn} {S S':St} {ts ts':Tmps}
theorem val_congr {x:EOpd} (h: ∀ d∈x.reads,look ts d=look ts' d):x.val G ts=x.val G ts':=by
 cases x with
 |tmp t=>simp only[EOpd.val];exact h t (by simp[EOpd.reads])
 |con v=>rfl
 |glob g=>rfl
theorem vals_congr: ∀ {xs:List EOpd},(∀ d∈xs.flatMap EOpd.reads,look ts d=look ts' d)→vals G ts xs=vals G ts' xs
 |[],_=>rfl
 |x::l,h=>by
  simp only[vals,val_congr (x:=x) (fun d hd=>h d (by simp[hd])),vals_congr (xs:=l) (fun d hd=>h d (by rw[List.flatMap_cons,List.mem_append];exact .inr hd))]
theorem optVal_congr {x:Option EOpd} (h: ∀ d∈oReads x,look ts d=look ts' d):optVal G ts x=optVal G ts' x:=by
 cases x with
 |none=>rfl
 |some x=>simp only[optVal,val_congr (x:=x) h]
theorem fillP_congr: ∀ {ps:List (Nat×Nat×EOpd)} {cells:List PV},(∀ d∈ps.flatMap (fun p=>p.2.2.reads),look ts d=look ts' d)→fillP G ts cells ps=fillP G ts' cells ps
 |[],_,_=>rfl
 |(off,size,x)::l,cells,h=>by
  have hx:=val_congr (G:=G) (x:=x) (ts:=ts) (ts':=ts') (fun d hd=>h d (by simp[hd]))
  have hl: ∀ cells,fillP G ts cells l=fillP G ts' cells l:=fun cells=>fillP_congr (ps:=l) (fun d hd=>h d (by rw[List.flatMap_cons,List.mem_append];exact .inr hd))
  simp only[fillP,hx,hl]
theorem evOp_congr {e:EOp} (h: ∀ d∈e.reads,look ts d=look ts' d):evOp G call ts S e=evOp G call ts' S e:=by
 have two: ∀ {x y:EOpd},(∀ d∈x.reads++y.reads,look ts d=look ts' d)→x.val G ts=x.val G ts'∧y.val G ts=y.val G ts':=fun h=>
  ⟨val_congr fun d hd=>h d (by simp[hd]),val_congr fun d hd=>h d (by simp[hd])⟩
 cases e with
 |mv x|box _ x|boxI _ x|ld _ x|nck x|un _ x|cvI _ x|cvS x|s2b x|b2s x|ifc _ x|fA _ x|fld _ _ x|rng x|nxt x|ext x _|len _ x|usd x|clr _ _ x|tas _ _ _ x|mln x|pnc x=>simp only[evOp,val_congr (G:=G) (x:=x) h]
 |new _ z=>rfl
 |mkm|rcv=>rfl
 |pick c a b=>
  have h1:=val_congr (G:=G) (x:=c) (ts:=ts) (ts':=ts') fun d hd=>h d (by simp[EOp.reads,hd])
  obtain ⟨h2,h3⟩:=two (x:=a) (y:=b) fun d hd=>h d (by simp only[EOp.reads,List.mem_append] at hd ⊢;exact .inr hd)
  simp only[evOp,h1]
  split
  ·rename_i t _
   cases t<;>simp[h2,h3]
  ·rfl
 |build z ps=>simp only[evOp,fillP_congr (G:=G) (ps:=ps) h]
 |rows n sz z ps=>
  have:=fillP_congr (G:=G) (ts:=ts) (ts':=ts') (ps:=ps.map fun (i,x)=>(i*sz,sz,x)) (cells:=repRow z n) (fun d hd=>h d (by
   simp only[EOp.reads,List.mem_flatMap,List.mem_map] at hd ⊢
   obtain ⟨p,⟨q,hq,rfl⟩,hd⟩:=hd
   exact ⟨q,hq,hd⟩))
  simp only[evOp,this]
 |st _ x y|bin _ x y|eqB _ x y|eqP _ x y|eqI _ x y|eqL _ x y|eqG _ _ _ x y|ixL _ x y|ixP _ _ x y|ixS x y|ixG _ _ _ x y|app _ _ _ x y|apS _ x y|ust _ x y|mx _ x y|mks _ _ _ _ x y|mksM _ _ _ _ x y|appM _ _ _ x y|cpy _ x y|lkp _ _ x y|men _ x y|mdl x y=>
  obtain ⟨h1,h2⟩:=two (x:=x) (y:=y) h
  simp only[evOp,h1,h2]
 |fnv f a b=>
  have h1:=vals_congr (G:=G) (xs:=a) (ts:=ts) (ts':=ts') fun d hd=>h d (by simp only[EOp.reads,List.mem_append];exact .inl hd)
  have h2:=vals_congr (G:=G) (xs:=b) (ts:=ts) (ts':=ts') fun d hd=>h d (by simp only[EOp.reads,List.mem_append];exact .inr hd)
  simp only[evOp,h1,h2]
 |slS x l r=>
  have h1:=val_congr (G:=G) (x:=x) (ts:=ts) (ts':=ts') fun d hd=>h d (by simp[EOp.reads,hd])
  have h2:=optVal_congr (G:=G) (x:=l) (ts:=ts) (ts':=ts') fun d hd=>h d (by simp[EOp.reads,hd])
  have h3:=optVal_congr (G:=G) (x:=r) (ts:=ts) (ts':=ts') fun d hd=>h d (by simp[EOp.reads,hd])
  simp only[evOp,h1,h2,h3]
 |slL _ x l r m=>
  have h1:=val_congr (G:=G) (x:=x) (ts:=ts) (ts':=ts') fun d hd=>h d (by simp[EOp.reads,hd])
  have h2:=optVal_congr (G:=G) (x:=l) (ts:=ts) (ts':=ts') fun d hd=>h d (by simp[EOp.reads,hd])
  have h3:=optVal_congr (G:=G) (x:=r) (ts:=ts) (ts':=ts') fun d hd=>h d (by simp[EOp.reads,hd])
  have h4:=optVal_congr (G:=G) (x:=m) (ts:=ts) (ts':=ts') fun d hd=>h d (by simp[EOp.reads,hd])
  simp only[evOp,h1,h2,h3,h4]
 |mup x y z|mst x y z=>
  have h1:=val_congr (G:=G) (x:=x) (ts:=ts) (ts':=ts') fun d hd=>h d (by simp[EOp.reads,hd])
  have h2:=val_congr (G:=G) (x:=y) (ts:=ts) (ts':=ts') fun d hd=>h d (by simp[EOp.reads,hd])
  have h3:=val_congr (G:=G) (x:=z) (ts:=ts) (ts':=ts') fun d hd=>h d (by simp[EOp.reads,hd])
  simp only[evOp,h1,h2,h3]
 |call f xs|callM f xs=>
  have h1:=val_congr (G:=G) (x:=f) (ts:=ts) (ts':=ts') fun d hd=>h d (by simp[EOp.reads,hd])
  have h2:=vals_congr (G:=G) (xs:=xs) (ts:=ts) (ts':=ts') fun d hd=>h d (by simp only[EOp.reads,List.mem_append];exact .inr hd)
  simp only[evOp,h1,h2]
theorem panOp_congr {e:EOp} (h: ∀ d∈e.reads,look ts d=look ts' d):panOp G call ts S e=panOp G call ts' S e:=by
 cases e with
 |call f xs=>
  have h1:=val_congr (G:=G) (x:=f) (ts:=ts) (ts':=ts') fun d hd=>h d (by simp[EOp.reads,hd])
  have h2:=vals_congr (G:=G) (xs:=xs) (ts:=ts) (ts':=ts') fun d hd=>h d (by simp only[EOp.reads,List.mem_append];exact .inr hd)
  simp only[panOp,h1,h2]
 |pnc x=>simp only[panOp,val_congr (G:=G) (x:=x) h]
 |_=>rfl
theorem evOp_still {e:EOp} (hl:loud e=false) {v:PV} (h:evOp G call ts S e=some (v,S')):S'=S∧ ∀ S2,evOp G call ts S2 e=some (v,S2):=by
 cases e<;>simp only[loud] at hl<;>try (cases hl;done)
 all_goals
  simp only[evOp] at h ⊢
  (repeat' split at h)<;>simp_all [Option.map_eq_some_iff,Option.bind_eq_some_iff]<;>grind
end
end Go.PE
namespace Go.PE
open Go Go.RowKit
set_option linter.unusedVariables false
set_option linter.unusedSimpArgs false
section
variable {P:Program} {G:Glob} {call:CallFn}
structure Trace (G:Glob) (call:CallFn) (es:List EI) (T:Nat→Tmps×St) (V:Nat→Option PV):Prop where
 tm: ∀ (i:Nat) e,es[i]?=some e→(T (i+1)).1=put (T i).1 e.dst (V i)
 st: ∀ (i:Nat) e,es[i]?=some e→(∃ v,wantedE e.guard (T i).1=some true∧V i=some v∧evOp G call (T i).1 (T i).2 e.op=some (v,(T (i+1)).2)∧e.q.ok G (T i).1 (T i).2 (T (i+1)).2=true)∨
  (wantedE e.guard (T i).1=some false∧V i=some .un∧(T (i+1)).2=(T i).2)
theorem trace_of: ∀ {es:List EI} {ts ts':Tmps} {S S':St},evOps G call es ts S=some (ts',S')→ ∃ T V,T 0=(ts,S)∧T es.length=(ts',S')∧Trace G call es T V
 |[],ts,ts',S,S',h=>by
  simp only[evOps,Option.some.injEq,Prod.mk.injEq] at h
  obtain ⟨rfl,rfl⟩:=h
  exact ⟨fun _=>(ts,S),fun _=>none,rfl,rfl,⟨fun i e h=>by simp at h,fun i e h=>by simp at h⟩⟩
 |e::es,ts,ts',S,S',h=>by
  have key: ∀ v S1,evOps G call es (put ts e.dst v) S1=some (ts',S')→((∃ p,wantedE e.guard ts=some true∧v=some p∧evOp G call ts S e.op=some (p,S1)∧e.q.ok G ts S S1=true)∨(wantedE e.guard ts=some false∧v=some .un∧S1=S))→ ∃ T V,T 0=(ts,S)∧T (e::es).length=(ts',S')∧Trace G call (e::es) T V:=by
   intro v S1 h1 h2
   obtain ⟨T,V,h3,h4,h5⟩:=trace_of h1
   refine ⟨fun i=>match i with|0=>(ts,S)|i+1=>T i,fun i=>match i with|0=>v|i+1=>V i,rfl,h4,⟨fun i x hx=> ?_,fun i x hx=> ?_⟩⟩
   ·cases i with
    |zero=>simp at hx;subst hx;simp[h3]
    |succ i=>exact h5.tm i x (by simpa using hx)
   ·cases i with
    |zero=>simp at hx;subst hx;simp only[h3];exact h2
    |succ i=>exact h5.st i x (by simpa using hx)
  simp only[evOps] at h
  split at h
  ·rename_i hw
   split at h
   ·rename_i v S1 ho
    split at h
    ·cases h
    ·rename_i hq
     refine key (some v) S1 h (.inl ⟨v,hw,rfl,ho, ?_⟩)
     simpa using hq
   ·cases h
  ·rename_i hw
   exact key (some .un) S h (.inr ⟨hw,rfl,rfl⟩)
  ·cases h
def FL (es:List EI) (ts:Tmps) (V:Nat→Option PV) (L:Nat→Bool):Nat→Tmps
 |0=>ts
 |i+1=>if L i then put (FL es ts V L i) ((es[i]?).bind (·.dst)) (V i) else FL es ts V L i
theorem FL_trace {es:List EI} {T:Nat→Tmps×St} {V:Nat→Option PV} (h:Trace G call es T V): ∀ i,i≤es.length→(T i).1=FL es (T 0).1 V (fun _=>true) i
 |0,_=>rfl
 |i+1,hi=>by
  have hlt:i<es.length:=hi
  rw[h.tm i _ (List.getElem?_eq_getElem hlt),FL_trace h i (by omega),FL,if_pos rfl,List.getElem?_eq_getElem hlt]
  rfl
theorem look_put_eq (ts:Tmps) (d:Nat) (v:Option PV):look (put ts (some d) v) d=v:=by simp[put,look]
theorem look_put_ne {ts:Tmps} {d:Option Nat} {v:Option PV} {k:Nat} (h:d≠some k):look (put ts d v) k=look ts k:=by
 cases d with
 |none=>rfl
 |some d=>simp only[put,look];rw[if_neg (fun e=>h (by rw[e]))]
theorem put_congr {ts ts':Tmps} (h: ∀ k,look ts k=look ts' k) (d:Option Nat) (v:Option PV) (k:Nat):look (put ts d v) k=look (put ts' d v) k:=by
 cases d with
 |none=>exact h k
 |some d=>
  simp only[put,look]
  split
  ·rfl
  ·exact h k
theorem put_comm {ts:Tmps} {d d':Option Nat} {v v':Option PV} (h: ∀ k,d=some k→d'≠some k) (k:Nat):look (put (put ts d v) d' v') k=look (put (put ts d' v') d v) k:=by
 cases d with
 |none=>rfl
 |some d=>
  cases d' with
  |none=>rfl
  |some d'=>
   have hne:d'≠d:=fun e=>h d rfl (by rw[e])
   simp only[put,look]
   by_cases h1:k=d'
   ·rw[if_pos h1,if_pos h1,if_neg (by omega)]
   ·rw[if_neg h1,if_neg h1]
theorem FL_congr {es:List EI} {ts:Tmps} {V:Nat→Option PV} {L L':Nat→Bool}: ∀ k,(∀ j,j<k→L j=L' j)→FL es ts V L k=FL es ts V L' k
 |0,_=>rfl
 |k+1,h=>by simp only[FL];rw[FL_congr k (fun j hj=>h j (by omega)),h k (by omega)]
theorem FL_add {es:List EI} {ts:Tmps} {V:Nat→Option PV} {L:Nat→Bool} {i:Nat} (hi:L i=false) (hw: ∀ j,i<j→L j=true→ ∀ d,((es[i]?).bind (·.dst))=some d→((es[j]?).bind (·.dst))≠some d):
  ∀ k q,look (FL es ts V (fun j=>if j=i then true else L j) k) q=look (if i<k then put (FL es ts V L k) ((es[i]?).bind (·.dst)) (V i) else FL es ts V L k) q
 |0,q=>by simp[FL]
 |k+1,q=>by
  have ih:=FL_add (ts:=ts) (V:=V) hi hw k
  simp only[FL]
  by_cases hk:k=i
  ·subst hk
   have h2:=put_congr (ih) ((es[k]?).bind (·.dst)) (V k) q
   simpa [hi] using h2
  ·by_cases hlt:i<k
   ·have h1:i<k+1:=by omega
    simp only[hk,if_false,hlt,h1,if_true] at ih ⊢
    cases hL:L k with
    |false=>simpa using ih q
    |true=>
     simp only[if_true]
     rw[put_congr ih,put_comm (fun d hd=>hw k hlt hL d hd)]
   ·have h1: ¬ i<k+1:=by omega
    simp only[hk,if_false,hlt,h1] at ih ⊢
    cases hL:L k with
    |false=>simpa using ih q
    |true=>simp only[if_true];exact put_congr ih _ _ q
theorem FL_get {es:List EI} {ts:Tmps} {V:Nat→Option PV} {L:Nat→Bool} {i d:Nat} (h: ∀ j,((es[j]?).bind (·.dst))=some d→((j<i→L j=true)∧(i≤j→L j=false))):
  ∀ k,look (FL es ts V L k) d=look (FL es ts V (fun _=>true) (min k i)) d
 |0=>by simp[FL]
 |k+1=>by
  have ih:=FL_get (ts:=ts) (V:=V) h k
  by_cases hk:k<i
  ·rw[show min (k+1) i=k+1 from by omega]
   rw[show min k i=k from by omega] at ih
   simp only[FL,if_true]
   by_cases hd:((es[k]?).bind (·.dst))=some d
   ·rw[(h k hd).1 hk,if_pos rfl,hd,look_put_eq,look_put_eq]
   ·rw[look_put_ne hd]
    split
    ·rw[look_put_ne hd];exact ih
    ·exact ih
  ·rw[show min (k+1) i=min k i from by omega,←ih]
   simp only[FL]
   split
   ·rename_i hL
    refine look_put_ne fun hd=> ?_
    rw[(h k hd).2 (by omega)] at hL
    cases hL
   ·rfl
end
theorem predsOk_spec {ops:List Oper} {pr:List (List Nat)} (h:predsOk ops pr=true) {j:Nat} {o:Oper} (ho:ops[j]?=some o):
  (∀ e∈o.after.toList,Region.binds .any e=true→e.on<j)∧ ∀ i∈pr.getD j [],i<j∧ ∃ e∈o.after.toList,Region.binds .any e=true∧(e.on=i∨i∈pr.getD e.on []):=by
 simp only[predsOk,List.all_eq_true,List.mem_range] at h
 have:=h j (getElem?_lt ho)
 rw[ho] at this
 simp only[Bool.and_eq_true,List.all_eq_true,Bool.or_eq_true,Bool.not_eq_true',decide_eq_true_eq,List.any_eq_true] at this
 obtain ⟨h1,h2⟩:=this
 refine ⟨fun e he hb=> ?_,fun i hi=> ?_⟩
 ·rcases h1 e he with h|h
  ·rw[hb] at h;cases h
  ·exact h
 ·obtain ⟨g1,e,he,hb,g2⟩:=h2 i hi
  refine ⟨g1,e,he,hb, ?_⟩
  rcases g2 with g2|g2
  ·exact .inl (by simpa using g2)
  ·exact .inr (by simpa using g2)
theorem apartE_spec {es:List EI} {pr:List (List Nat)} (h:apartE es pr=true) {i j:Nat} {x y:EI} {d:Nat} (hi:es[i]?=some x) (hj:es[j]?=some y) (hne:i≠j) (hd:x.dst=some d) (hr:d∈y.looks∨y.dst=some d):ordered pr i j=true:=by
 simp only[apartE,List.all_eq_true] at h
 have h1:=h (x,i) (List.mem_of_getElem? (by rw[zipIdx_get,hi];rfl))
 simp only[hd,List.all_eq_true] at h1
 have h2:=h1 (y,j) (List.mem_of_getElem? (by rw[zipIdx_get,hj];rfl))
 simp only[Bool.or_eq_true,beq_iff_eq,Bool.not_eq_true',Bool.or_eq_false_iff] at h2
 rcases h2 with (h2|h2)|h2
 ·exact absurd h2 hne
 ·exact h2
 ·exfalso
  rcases hr with hr|hr
  ·have:=h2.1;simp at this;exact this hr
  ·have:=h2.2;simp[hr] at this
theorem ordered_comm (pr:List (List Nat)) (i j:Nat):ordered pr i j=ordered pr j i:=by simp[ordered,Bool.or_comm]
def left (n:Nat) (listed:Array Bool):Nat:=(List.range n).countP fun i=> !listed.getD i true
theorem countP_lt {α:Type} {p q:α→Bool} {l:List α} (h: ∀ x∈l,p x=true→q x=true) {y:α} (hy:y∈l) (hq:q y=true) (hp:p y=false):l.countP p<l.countP q:=by
 induction l with
 |nil=>cases hy
 |cons x l ih=>
  have hle:l.countP p≤l.countP q:=List.countP_mono_left fun z hz hpz=>h z (by simp[hz]) hpz
  rw[List.countP_cons,List.countP_cons]
  rcases List.mem_cons.1 hy with rfl|hy'
  ·rw[hq,hp];simp;omega
  ·have:=ih (fun z hz=>h z (by simp[hz])) hy'
   have hx:=h x (by simp)
   cases hpx:p x with
   |false=>simp;split<;>omega
   |true=>rw[hx hpx];simp;omega
end Go.PE
