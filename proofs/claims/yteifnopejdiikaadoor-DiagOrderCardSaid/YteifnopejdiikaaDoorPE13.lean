/-
  A region that draws its order: the proof. Conditions: each law's own.
-/
import Derived.Test.YteifnopejdiikaaDoorPE12
namespace Go.PE
open Go Go.RowKit
set_option linter.unusedVariables false
set_option linter.unusedSimpArgs false
section
variable {P:Program} {G:Glob} {call:CallFn}
structure Trace (G:Glob) (call:CallFn) (es:List EI) (T:Nat→Tmps×St) (V:Nat→Option PV):Prop where
 tm: ∀ (i:Nat) e,es[i]?=some e→(T (i+1)).1=put (T i).1 e.dst (V i)
 st: ∀ (i:Nat) e,es[i]?=some e→(∃ v,wantedE e.guard (T i).1=some true∧V i=some v∧evOp G call (T i).1 (T i).2 e.op=some (v,(T (i+1)).2)∧e.q.ok G (T i).1 (T i).2 (T (i+1)).2=true)∨
  (wantedE e.guard (T i).1=some false∧V i=some .un∧(T (i+1)).2=(T i).2)
theorem trace_of: ∀ {es:List EI} {ts ts':Tmps} {S S':St},evOps G call es ts S=some (ts',S')→ ∃ T V,T 0=(ts,S)∧T es.length=(ts',S')∧Trace G call es T V
 |[],ts,ts',S,S',h=>by
  simp only[evOps,Option.some.injEq,Prod.mk.injEq] at h
  obtain ⟨rfl,rfl⟩:=h
  exact ⟨fun _=>(ts,S),fun _=>none,rfl,rfl,⟨fun i e h=>by simp at h,fun i e h=>by simp at h⟩⟩
 |e::es,ts,ts',S,S',h=>by
  have key: ∀ v S1,evOps G call es (put ts e.dst v) S1=some (ts',S')→((∃ p,wantedE e.guard ts=some true∧v=some p∧evOp G call ts S e.op=some (p,S1)∧e.q.ok G ts S S1=true)∨(wantedE e.guard ts=some false∧v=some .un∧S1=S))→ ∃ T V,T 0=(ts,S)∧T (e::es).length=(ts',S')∧Trace G call (e::es) T V:=by
   intro v S1 h1 h2
   obtain ⟨T,V,h3,h4,h5⟩:=trace_of h1
   refine ⟨fun i=>match i with|0=>(ts,S)|i+1=>T i,fun i=>match i with|0=>v|i+1=>V i,rfl,h4,⟨fun i x hx=> ?_,fun i x hx=> ?_⟩⟩
   ·cases i with
    |zero=>simp at hx;subst hx;simp[h3]
    |succ i=>exact h5.tm i x (by simpa using hx)
   ·cases i with
    |zero=>simp at hx;subst hx;simp only[h3];exact h2
    |succ i=>exact h5.st i x (by simpa using hx)
  simp only[evOps] at h
  split at h
  ·rename_i hw
   split at h
   ·rename_i v S1 ho
    split at h
    ·cases h
    ·rename_i hq
     refine key (some v) S1 h (.inl ⟨v,hw,rfl,ho, ?_⟩)
     simpa using hq
   ·cases h
  ·rename_i hw
   exact key (some .un) S h (.inr ⟨hw,rfl,rfl⟩)
  ·cases h
def FL (es:List EI) (ts:Tmps) (V:Nat→Option PV) (L:Nat→Bool):Nat→Tmps
 |0=>ts
 |i+1=>if L i then put (FL es ts V L i) ((es[i]?).bind (·.dst)) (V i) else FL es ts V L i
theorem FL_trace {es:List EI} {T:Nat→Tmps×St} {V:Nat→Option PV} (h:Trace G call es T V): ∀ i,i≤es.length→(T i).1=FL es (T 0).1 V (fun _=>true) i
 |0,_=>rfl
 |i+1,hi=>by
  have hlt:i<es.length:=hi
  rw[h.tm i _ (List.getElem?_eq_getElem hlt),FL_trace h i (by omega),FL,if_pos rfl,List.getElem?_eq_getElem hlt]
  rfl
theorem look_put_eq (ts:Tmps) (d:Nat) (v:Option PV):look (put ts (some d) v) d=v:=by simp[put,look]
theorem look_put_ne {ts:Tmps} {d:Option Nat} {v:Option PV} {k:Nat} (h:d≠some k):look (put ts d v) k=look ts k:=by
 cases d with
 |none=>rfl
 |some d=>simp only[put,look];rw[if_neg (fun e=>h (by rw[e]))]
theorem put_congr {ts ts':Tmps} (h: ∀ k,look ts k=look ts' k) (d:Option Nat) (v:Option PV) (k:Nat):look (put ts d v) k=look (put ts' d v) k:=by
 cases d with
 |none=>exact h k
 |some d=>
  simp only[put,look]
  split
  ·rfl
  ·exact h k
theorem put_comm {ts:Tmps} {d d':Option Nat} {v v':Option PV} (h: ∀ k,d=some k→d'≠some k) (k:Nat):look (put (put ts d v) d' v') k=look (put (put ts d' v') d v) k:=by
 cases d with
 |none=>rfl
 |some d=>
  cases d' with
  |none=>rfl
  |some d'=>
   have hne:d'≠d:=fun e=>h d rfl (by rw[e])
   simp only[put,look]
   by_cases h1:k=d'
   ·rw[if_pos h1,if_pos h1,if_neg (by omega)]
   ·rw[if_neg h1,if_neg h1]
theorem FL_congr {es:List EI} {ts:Tmps} {V:Nat→Option PV} {L L':Nat→Bool}: ∀ k,(∀ j,j<k→L j=L' j)→FL es ts V L k=FL es ts V L' k
 |0,_=>rfl
 |k+1,h=>by simp only[FL];rw[FL_congr k (fun j hj=>h j (by omega)),h k (by omega)]
theorem FL_add {es:List EI} {ts:Tmps} {V:Nat→Option PV} {L:Nat→Bool} {i:Nat} (hi:L i=false) (hw: ∀ j,i<j→L j=true→ ∀ d,((es[i]?).bind (·.dst))=some d→((es[j]?).bind (·.dst))≠some d):
  ∀ k q,look (FL es ts V (fun j=>if j=i then true else L j) k) q=look (if i<k then put (FL es ts V L k) ((es[i]?).bind (·.dst)) (V i) else FL es ts V L k) q
 |0,q=>by simp[FL]
 |k+1,q=>by
  have ih:=FL_add (ts:=ts) (V:=V) hi hw k
  simp only[FL]
  by_cases hk:k=i
  ·subst hk
   have h2:=put_congr (ih) ((es[k]?).bind (·.dst)) (V k) q
   simpa [hi] using h2
  ·by_cases hlt:i<k
   ·have h1:i<k+1:=by omega
    simp only[hk,if_false,hlt,h1,if_true] at ih ⊢
    cases hL:L k with
    |false=>simpa using ih q
    |true=>
     simp only[if_true]
     rw[put_congr ih,put_comm (fun d hd=>hw k hlt hL d hd)]
   ·have h1: ¬ i<k+1:=by omega
    simp only[hk,if_false,hlt,h1] at ih ⊢
    cases hL:L k with
    |false=>simpa using ih q
    |true=>simp only[if_true];exact put_congr ih _ _ q
theorem FL_get {es:List EI} {ts:Tmps} {V:Nat→Option PV} {L:Nat→Bool} {i d:Nat} (h: ∀ j,((es[j]?).bind (·.dst))=some d→((j<i→L j=true)∧(i≤j→L j=false))):
  ∀ k,look (FL es ts V L k) d=look (FL es ts V (fun _=>true) (min k i)) d
 |0=>by simp[FL]
 |k+1=>by
  have ih:=FL_get (ts:=ts) (V:=V) h k
  by_cases hk:k<i
  ·rw[show min (k+1) i=k+1 from by omega]
   rw[show min k i=k from by omega] at ih
   simp only[FL,if_true]
   by_cases hd:((es[k]?).bind (·.dst))=some d
   ·rw[(h k hd).1 hk,if_pos rfl,hd,look_put_eq,look_put_eq]
   ·rw[look_put_ne hd]
    split
    ·rw[look_put_ne hd];exact ih
    ·exact ih
  ·rw[show min (k+1) i=min k i from by omega,←ih]
   simp only[FL]
   split
   ·rename_i hL
    refine look_put_ne fun hd=> ?_
    rw[(h k hd).2 (by omega)] at hL
    cases hL
   ·rfl
end
theorem predsOk_spec {ops:List Oper} {pr:List (List Nat)} (h:predsOk ops pr=true) {j:Nat} {o:Oper} (ho:ops[j]?=some o):
  (∀ e∈o.after.toList,Region.binds .any e=true→e.on<j)∧ ∀ i∈pr.getD j [],i<j∧ ∃ e∈o.after.toList,Region.binds .any e=true∧(e.on=i∨i∈pr.getD e.on []):=by
 simp only[predsOk,List.all_eq_true,List.mem_range] at h
 have:=h j (getElem?_lt ho)
 rw[ho] at this
 simp only[Bool.and_eq_true,List.all_eq_true,Bool.or_eq_true,Bool.not_eq_true',decide_eq_true_eq,List.any_eq_true] at this
 obtain ⟨h1,h2⟩:=this
 refine ⟨fun e he hb=> ?_,fun i hi=> ?_⟩
 ·rcases h1 e he with h|h
  ·rw[hb] at h;cases h
  ·exact h
 ·obtain ⟨g1,e,he,hb,g2⟩:=h2 i hi
  refine ⟨g1,e,he,hb, ?_⟩
  rcases g2 with g2|g2
  ·exact .inl (by simpa using g2)
  ·exact .inr (by simpa using g2)
theorem apartE_spec {es:List EI} {pr:List (List Nat)} (h:apartE es pr=true) {i j:Nat} {x y:EI} {d:Nat} (hi:es[i]?=some x) (hj:es[j]?=some y) (hne:i≠j) (hd:x.dst=some d) (hr:d∈y.looks∨y.dst=some d):ordered pr i j=true:=by
 simp only[apartE,List.all_eq_true] at h
 have h1:=h (x,i) (List.mem_of_getElem? (by rw[zipIdx_get,hi];rfl))
 simp only[hd,List.all_eq_true] at h1
 have h2:=h1 (y,j) (List.mem_of_getElem? (by rw[zipIdx_get,hj];rfl))
 simp only[Bool.or_eq_true,beq_iff_eq,Bool.not_eq_true',Bool.or_eq_false_iff] at h2
 rcases h2 with (h2|h2)|h2
 ·exact absurd h2 hne
 ·exact h2
 ·exfalso
  rcases hr with hr|hr
  ·have:=h2.1;simp at this;exact this hr
  ·have:=h2.2;simp[hr] at this
theorem ordered_comm (pr:List (List Nat)) (i j:Nat):ordered pr i j=ordered pr j i:=by simp[ordered,Bool.or_comm]
def left (n:Nat) (listed:Array Bool):Nat:=(List.range n).countP fun i=> !listed.getD i true
theorem countP_lt {α:Type} {p q:α→Bool} {l:List α} (h: ∀ x∈l,p x=true→q x=true) {y:α} (hy:y∈l) (hq:q y=true) (hp:p y=false):l.countP p<l.countP q:=by
 induction l with
 |nil=>cases hy
 |cons x l ih=>
  have hle:l.countP p≤l.countP q:=List.countP_mono_left fun z hz hpz=>h z (by simp[hz]) hpz
  rw[List.countP_cons,List.countP_cons]
  rcases List.mem_cons.1 hy with rfl|hy'
  ·rw[hq,hp];simp;omega
  ·have:=ih (fun z hz=>h z (by simp[hz])) hy'
   have hx:=h x (by simp)
   cases hpx:p x with
   |false=>simp;split<;>omega
   |true=>rw[hx hpx];simp;omega
end Go.PE
