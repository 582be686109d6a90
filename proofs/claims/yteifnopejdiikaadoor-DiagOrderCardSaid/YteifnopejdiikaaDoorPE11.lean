/-
  Regions in the order of the text. Conditions: each law's own.
-/
import Derived.Test.YteifnopejdiikaaDoorPE10
namespace Go.PE
open Go Go.RowKit
set_option linter.unusedVariables false
set_option linter.unusedSimpArgs false
structure EIof (P:Program) (ops:List Oper) (o:Oper) (e:EI):Prop where
 op:cOp P o=some e.op.strip
 guard:cGuard ops o=some e.guard
 dst:e.dst=o.dst
theorem zipIdx_get {α:Type} (l:List α) (i:Nat):l.zipIdx[i]?=(l[i]?).map fun x=>(x,i):=by
 simp[List.getElem?_zipIdx]
theorem loud_strip {e:EOp} (h:loud e=true):loud e.strip=true:=by cases e<;>simp_all [loud,EOp.strip]
def QOk (es:List EI) (q:EQ) (e':EOp):Prop:=
 q.k= .still∨(∃ L n a,q.k= .lds L∧e'= .ld n a∧(n,a)∈L∧ ∀ t,a= .tmp t→ ∀ (k:Nat) x,es[k]?=some x→x.dst≠some t)∨(q.k= .obs∧ ∃ n a,e'= .ld n a)
theorem loadOf_some {e:EOp} {n:Option Nat} {a:EOpd} (h:loadOf e=some (n,a)):e= .ld n a:=by
 cases e<;>simp[loadOf] at h
 obtain ⟨rfl,rfl⟩:=h;rfl
theorem mkQ_ok {pr:List (List Nat)} {es:List EOp} {ds:List (Option Nat)} {i j:Nat} {e x:EOp} (hl:loud e=true) (k1:es[j]?=some x) (hl':loud x=true) (hne:i≠j) (hord:ordered pr i j=false):
  (mkQ true pr es ds i e).k= .still∨(∃ L n a,(mkQ true pr es ds i e).k= .lds L∧x= .ld n a∧(n,a)∈L∧a.stat ds=true)∨((mkQ true pr es ds i e).k= .obs∧ ∃ n a,x= .ld n a):=by
 have hmem:(x,j)∈es.zipIdx.filter fun (e',j)=>loud e'&&i !=j&& !ordered pr i j:=by
  rw[List.mem_filter]
  exact ⟨List.mem_of_getElem? (by rw[zipIdx_get,k1];rfl),by simp[hl',hne,hord]⟩
 unfold mkQ
 simp only
 generalize (es.zipIdx.filter fun (e',j)=>loud e'&&i !=j&& !ordered pr i j)=us at hmem ⊢
 have hemp:us.isEmpty=false:=by
  cases us with
  |nil=>cases hmem
  |cons _ _=>rfl
 rw[if_neg (by simp[hl,hemp])]
 split
 ·rename_i hall
  have h0:=List.all_eq_true.1 hall _ hmem
  simp only at h0
  cases hlo:loadOf x with
  |none=>rw[hlo] at h0;cases h0
  |some q=>
   obtain ⟨n,ad⟩:=q
   rw[hlo] at h0
   exact .inr (.inl ⟨_,n,ad,rfl,loadOf_some hlo,List.mem_filterMap.2 ⟨_,hmem,hlo⟩,h0⟩)
 ·split
  ·rename_i hall
   have h0:=List.all_eq_true.1 hall _ hmem
   simp only at h0
   cases hlo:loadOf x with
   |none=>rw[hlo] at h0;cases h0
   |some q=>exact .inr (.inr ⟨rfl,q.1,q.2,loadOf_some hlo⟩)
  ·exact .inl rfl
theorem cOps_spec0 {P:Program} {nt:Nat} {ops:List Oper} {draw:Bool} {es:List EI} (h:cOps P nt ops draw=some es):
  es.length=ops.length∧(∀ (i:Nat) o e,ops[i]?=some o→es[i]?=some e→cOp P o=some e.op∧cGuard ops o=some e.guard∧e.dst=o.dst)∧(∀ e∈es,∀ d,e.dst=some d→d<nt)∧
  (draw=true→predsOk ops (preds ops)=true∧apartE es (preds ops)=true∧ ∀ (i j:Nat) e e',es[i]?=some e→es[j]?=some e'→loud e.op=true→loud e'.op=true→i≠j→ordered (preds ops) i j=false→QOk es e.q e'.op)∧
  (draw=true→ ∀ (i j:Nat) e,es[i]?=some e→e.q.pn=true→i<j→j<es.length→i∈(preds ops).getD j []):=by
 simp only[cOps,bind,Option.bind_eq_some_iff] at h
 obtain ⟨es0,he,gs,hg,h⟩:=h
 obtain ⟨e1,e2⟩:=mapM_some he
 obtain ⟨g1,g2⟩:=mapM_some hg
 have get: ∀ {i:Nat} {o:Oper},ops[i]?=some o→ ∃ x g,es0[i]?=some x∧gs[i]?=some g∧cOp P o=some x∧cGuard ops o=some g:=by
  intro i o ho
  have hi:=getElem?_lt ho
  have h1:es0[i]?=some (es0[i]'(by omega)):=List.getElem?_eq_getElem _
  have h2:gs[i]?=some (gs[i]'(by omega)):=List.getElem?_eq_getElem _
  exact ⟨_,_,h1,h2,e2 i o _ ho h1,g2 i o _ ho h2⟩
 generalize hpr:(if draw=true then preds ops else [])=pr at*
 split at h
 ·cases h
 rename_i hds
 split at h
 ·cases h
 ·rename_i hok
  injection h with h
  subst h
  have hget: ∀ {i:Nat} {e:EI},(mkEs draw pr es0 gs (ops.map (·.dst)))[i]?=some e→
    ∃ x g o,es0[i]?=some x∧gs[i]?=some g∧ops[i]?=some o∧e=⟨o.dst,x,g,mkQ draw pr es0 (ops.map (·.dst)) i x⟩:=by
   intro i e hi
   simp only[mkEs,List.getElem?_map,zipIdx_get,Option.map_eq_some_iff] at hi
   obtain ⟨⟨⟨x',g',d'⟩,i'⟩,⟨⟨x2,g2,d2⟩,hz,hz2⟩,rfl⟩:=hi
   simp only[Prod.mk.injEq] at hz2
   obtain ⟨⟨rfl,rfl,rfl⟩,rfl⟩:=hz2
   simp only[List.getElem?_zip_eq_some] at hz
   obtain ⟨z1,z2,z3⟩:=hz
   simp only[List.getElem?_map,Option.map_eq_some_iff] at z3
   obtain ⟨o,ho,rfl⟩:=z3
   exact ⟨x2,g2,o,z1,z2,ho,rfl⟩
  have hlen:(mkEs draw pr es0 gs (ops.map (·.dst))).length=ops.length:=by simp[mkEs,e1,g1]
  refine ⟨hlen,fun i o e ho hi=> ?_,fun e he d hd=> ?_,fun hd=> ?_,fun hd i j e hi hq hij hj=> ?_⟩
  ·obtain ⟨x,g,o',h1,h2,h3,rfl⟩:=hget hi
   rw[ho] at h3;injection h3 with h3;subst h3
   obtain ⟨x',g',k1,k2,k3,k4⟩:=get ho
   rw[h1] at k1;rw[h2] at k2;injection k1 with k1;injection k2 with k2;subst k1 k2
   exact ⟨k3,k4,rfl⟩
  ·simp only[Bool.not_eq_true',Bool.not_eq_false,List.all_eq_true] at hds
   have:=hds e he
   rw[hd] at this
   simpa using this
  ·subst hd
   simp only[if_true] at hpr
   subst hpr
   simp only[Bool.true_and,Bool.not_eq_true',Bool.not_eq_false,Bool.and_eq_true] at hok
   refine ⟨hok.1,hok.2,fun i j e e' hi hj hl hl' hne hord=> ?_⟩
   obtain ⟨x,g,o,h1,h2,h3,rfl⟩:=hget hi
   obtain ⟨x',g',o',k1,k2,k3,rfl⟩:=hget hj
   simp only at hl hl'
   rcases mkQ_ok (ds:=ops.map (·.dst)) hl k1 hl' hne hord with h|⟨L,n,ad,q1,q2,q3,q4⟩|h
   ·exact .inl h
   rotate_left
   ·exact .inr (.inr h)
   ·refine .inr (.inl ⟨L,n,ad,q1,q2,q3,fun t ht k xx hk hd=> ?_⟩)
    subst ht
    obtain ⟨_,_,ok,_,_,k3,rfl⟩:=hget hk
    simp only at hd
    simp only[EOpd.stat,Bool.not_eq_true',List.contains_eq_mem,decide_eq_false_iff_not,List.mem_map,not_exists,not_and] at q4
    exact q4 ok (List.mem_of_getElem? k3) hd
  ·subst hd
   simp only[if_true] at hpr
   subst hpr
   obtain ⟨x,g,o,h1,h2,h3,rfl⟩:=hget hi
   simp only[mkQ,Bool.not_true,Bool.false_or,List.all_eq_true] at hq
   have hj':j<es0.length:=by omega
   have:=hq (es0[j],j) (List.mem_of_getElem? (by rw[zipIdx_get,List.getElem?_eq_getElem hj'];rfl))
   simp only[Bool.or_eq_true,decide_eq_true_eq,List.contains_eq_mem] at this
   rcases this with h|h
   ·omega
   ·exact h
theorem reads_strip (e:EOp):e.strip.reads=e.reads:=by cases e<;>rfl
theorem looks_strip (e:EI):e.strip.looks=e.looks:=by simp[EI.looks,EI.strip,reads_strip]
theorem apartE_strip {es:List EI} {pr:List (List Nat)} (h:apartE (es.map EI.strip) pr=true):apartE es pr=true:=by
 simp only[apartE,List.all_eq_true] at h ⊢
 rintro ⟨x,i⟩ hx
 have hx':=List.mem_zipIdx' hx
 have h1:=h (x.strip,i) (List.mem_of_getElem? (i:=i) (by rw[zipIdx_get,List.getElem?_map,List.getElem?_eq_getElem hx'.1,←hx'.2];rfl))
 simp only[EI.strip] at h1 ⊢
 cases hd:x.dst with
 |none=>rfl
 |some d=>
  rw[hd] at h1
  simp only[List.all_eq_true] at h1 ⊢
  rintro ⟨y,j⟩ hy
  have hy':=List.mem_zipIdx' hy
  have h2:=h1 (y.strip,j) (List.mem_of_getElem? (i:=j) (by rw[zipIdx_get,List.getElem?_map,List.getElem?_eq_getElem hy'.1,←hy'.2];rfl))
  rw[looks_strip] at h2
  simpa [EI.strip] using h2
theorem strip_ld {e:EOp} {n:Option Nat} {a:EOpd} (h:e.strip= .ld n a):e= .ld n a:=by
 cases e<;>first|exact h|cases h
theorem cOps_spec {P:Program} {nt:Nat} {ops:List Oper} {draw:Bool} {es:List EI} (h:cOps P nt ops draw=some (es.map EI.strip)):
  es.length=ops.length∧(∀ (i:Nat) o e,ops[i]?=some o→es[i]?=some e→EIof P ops o e)∧(∀ e∈es,∀ d,e.dst=some d→d<nt)∧
  (draw=true→predsOk ops (preds ops)=true∧apartE es (preds ops)=true∧ ∀ (i j:Nat) e e',es[i]?=some e→es[j]?=some e'→loud e.op=true→loud e'.op=true→i≠j→ordered (preds ops) i j=false→QOk es e.q e'.op)∧
  (draw=true→ ∀ (i j:Nat) e,es[i]?=some e→e.q.pn=true→i<j→j<es.length→i∈(preds ops).getD j []):=by
 obtain ⟨h1,h2,h3,h4,h5⟩:=cOps_spec0 h
 have get: ∀ {i:Nat} {e:EI},es[i]?=some e→(es.map EI.strip)[i]?=some e.strip:=fun he=>by rw[List.getElem?_map,he];rfl
 refine ⟨by simpa using h1,fun i o e ho he=> ?_,fun e he d hd=>h3 e.strip (List.mem_map_of_mem he) d hd,fun hd=> ?_,fun hd i j e hi hq hij hj=>h5 hd i j e.strip (get hi) hq hij (by simpa using hj)⟩
 ·obtain ⟨g1,g2,g3⟩:=h2 i o _ ho (get he)
  exact ⟨g1,g2,g3⟩
 ·obtain ⟨g1,g2,g3⟩:=h4 hd
  refine ⟨g1,apartE_strip g2,fun i j e e' he he' hl hl' hne ho=> ?_⟩
  rcases g3 i j e.strip e'.strip (get he) (get he') (loud_strip hl) (loud_strip hl') hne ho with h|⟨L,n,ad,q1,q2,q3,q4⟩|⟨q1,n,ad,q2⟩
  ·exact .inl h
  ·refine .inr (.inl ⟨L,n,ad,q1, ?_,q3,fun t ht k x hk=>q4 t ht k x.strip (get hk)⟩)
   exact strip_ld q2
  ·exact .inr (.inr ⟨q1,n,ad,strip_ld q2⟩)
section
variable {nt:Nat} {P:Program} {G:Glob} {C:Ctx} {S:St} {w:World} {ts:Tmps} {a:Act} {o:Oper} {v:PV}
theorem wanted_iff (hT:TR nt C w ts a.tmps) {ops:Array Oper} {o:Oper} {g:Option (Nat×Bool)} (hg:cGuard ops.toList o=some g) {b:Bool} (hb:wantedE g ts=some b):Region.wanted o (yielded ops a.tmps)=b:=by
 unfold cGuard at hg
 unfold Region.wanted
 unfold wantedE at hb
 cases hgd:o.guard with
 |none=>rw[hgd] at hg;simp at hg;subst hg;simpa using hb
 |some q=>
  obtain ⟨j,want⟩:=q
  rw[hgd] at hg
  simp only[Option.map_eq_some_iff] at hg
  obtain ⟨d,hd,rfl⟩:=hg
  rw[Array.getElem?_toList] at hd
  simp only at hb
  split at hb
  ·rename_i x hx
   obtain ⟨u,h1,h2⟩:=hT.get d _ hx
   have:=h2.bool_inv
   subst this
   injection hb with hb
   simp only[yielded,hd,Option.bind_some,h1]
   rw[←hb]
   cases x<;>cases want<;>rfl
  ·rename_i hx
   obtain ⟨u,h1,h2⟩:=hT.get d _ hx
   cases h2 with|tup cs vs hl h=>
   injection hb with hb
   simp only[yielded,hd,Option.bind_some,h1]
   rw[←hb]
   rfl
  ·cases hb
theorem evOps_wp {call:CallFn} (hC:CallOk P G call) {ops:Array Oper} {Q:Exit→Act→World→Prop} {r:Option Nat} {n:Nat}: ∀ (l:List Oper) (es:List EI) (C:Ctx) (ts:Tmps) (S:St) (a:Act) (w:World) (ts':Tmps) (S':St),
  es.length=l.length→(∀ (i:Nat) o e,l[i]?=some o→es[i]?=some e→EIof P ops.toList o e)→(∀ e∈es,∀ d,e.dst=some d→d<nt)→WRel G C S w→TR nt C w ts a.tmps→evOps G call es ts S=some (ts',S')→
  ∀ (rest:List Oper),(∀ C' a' w',TR nt C' w' ts' a'.tmps→WRel G C' S' w'→Step C w C' w'→a'.defers=a.defers→wpListIn (FF r) n P ops Q rest a' w')→wpListIn (FF r) n P ops Q (l++rest) a w
 |[],[],C,ts,S,a,w,ts',S',_,_,_,hW,hT,hv,rest,hk=>by
  simp only[evOps,Option.some.injEq,Prod.mk.injEq] at hv
  obtain ⟨rfl,rfl⟩:=hv
  exact hk C a w hT hW (.refl C w) rfl
 |[],e::es,_,_,_,_,_,_,_,hl,_,_,_,_,_,_,_=>by simp at hl
 |o::l,[],_,_,_,_,_,_,_,hl,_,_,_,_,_,_,_=>by simp at hl
 |o::l,e::es,C,ts,S,a,w,ts',S',hl,hof,hds,hW,hT,hv,rest,hk=>by
  have he:=hof 0 o e rfl rfl
  have hrest: ∀ (i:Nat) o' e',l[i]?=some o'→es[i]?=some e'→EIof P ops.toList o' e':=fun i o' e' h1 h2=>hof (i+1) o' e' (by simpa using h1) (by simpa using h2)
  have hds': ∀ e∈es,∀ d,e.dst=some d→d<nt:=fun e he=>hds e (by simp[he])
  have hd0: ∀ d,o.dst=some d→d<nt:=fun d hd=>hds e (by simp) d (by rw[he.dst];exact hd)
  simp only[evOps] at hv
  rw[List.cons_append]
  unfold wpListIn
  split at hv
  ·rename_i hwant
   rw[wanted_iff (ops:=ops) hT he.guard hwant,if_pos rfl]
   split at hv
   ·rename_i p S1 hop
    split at hv
    ·cases hv
    ·refine op_does hW hT hC he.op hop r n _ _ fun C1 w1 v1 hr hW1 hs=> ?_
     refine evOps_wp hC l es C1 _ S1 _ w1 ts' S' (by simpa using hl) hrest hds' hW1 ?_ hv rest fun C' a' w' h1 h2 h3 h4=> ?_
     ·have:=(hT.step hs).put (ds:=a.defers) hd0 (q:=some p) (v:=v1) (fun q hq=>by injection hq with hq;subst hq;exact hr)
      rw[he.dst]
      exact this
     ·refine hk C' a' w' h1 h2 (hs.trans h3) (h4.trans ?_)
      cases o.dst<;>rfl
   ·cases hv
  ·rename_i hwant
   rw[wanted_iff (ops:=ops) hT he.guard hwant,if_neg (by simp)]
   refine ⟨fun _ _=>trivial,evOps_wp hC l es C _ S _ w ts' S' (by simpa using hl) hrest hds' hW ?_ hv rest fun C' a' w' h1 h2 h3 h4=> ?_⟩
   ·have:=hT.put (ds:=a.defers) hd0 (q:=some .un) (v:=undef) (fun q hq=>by injection hq with hq;subst hq;exact .un C w)
    rw[he.dst]
    exact this
   ·refine hk C' a' w' h1 h2 h3 (h4.trans ?_)
    cases o.dst<;>rfl
  ·cases hv
theorem reg_wp {call:CallFn} (hC:CallOk P G call) {id:Nat} {ops:Array Oper} {es:List EI} (hc:cOps P nt ops.toList false=some (es.map EI.strip)) {Q:Exit→Act→World→Prop} {r:Option Nat} {n:Nat} {ts':Tmps} {S':St} (hW:WRel G C S w) (hT:TR nt C w ts a.tmps) (hv:evOps G call es ts S=some (ts',S'))
  (hk: ∀ C' a' w',TR nt C' w' ts' a'.tmps→WRel G C' S' w'→Step C w C' w'→a'.defers=a.defers→Q .normal a' w'):(Code.region id ops false).wpIn (FF r) n P Q a w:=by
 obtain ⟨h1,h2,h3,_⟩:=cOps_spec hc
 refine wpIn_region_list ?_
 have:=evOps_wp hC (r:=r) (n:=n) (Q:=Q) ops.toList es C ts S a w ts' S' h1 h2 h3 hW hT hv [] fun C' a' w' g1 g2 g3 g4=>hk C' a' w' g1 g2 g3 g4
 simpa using this
theorem cOp_pnc {ex:EOpd} (h:cOp P o=some (.pnc ex)): ∃ x,o.op= .panic x∧cOpd x=some ex:=by
 cases ho:o.op with
 |panic x=>
  simp only[cOp,ho,bind,Option.bind_eq_some_iff,Option.some.injEq] at h
  obtain ⟨ex',hx,h⟩:=h
  injection h with h;subst h
  exact ⟨x,rfl,hx⟩
 |_=>
  exfalso
  simp only[cOp,ho,cEq] at h
  (repeat' split at h)<;>simp_all [bind,Option.bind_eq_some_iff,Option.map_eq_some_iff]<;>(try (obtain ⟨_,_,h⟩:=h;(repeat' split at h)<;>simp_all [bind,Option.bind_eq_some_iff]))<;>(try grind)
theorem pan_does (hW:WRel G C S w) (hT:TR nt C w ts a.tmps) {pan:CallFn} (hP:PanOk P G pan) {e:EOp} (hc:cOp P o=some e.strip) {S':St} (hv:panOp G pan ts S e=some (v,S')) (r:Option Nat) (n:Nat) (K:Act→World→Prop) (Q:Exit→Act→World→Prop)
  (hk: ∀ C' w' u,Rep C' w' v u→WRel G C' S' w'→Step C w C' w'→Q (.panic [{v:=u,recovered:=false}]) a w'):o.wpIn (FF r) n P a w K Q:=by
 refine wpIn_of_wp (cOp_nd hc) ?_
 cases e<;>simp only[panOp] at hv<;>try (cases hv;done)
 ·rename_i f xs
  obtain ⟨c,f',ho,hcal,hf,hes⟩:=cOp_call hc
  split at hv
  ·rename_i g first caps vs hp hvs
   obtain ⟨hE,hS⟩:=hP _ _ _ _ _ (fn_lt hW hT hf hp) hv
   have rf:=opd_rep hW hT hf hp
   have ra:=vals_rep hW hT hes hvs
   generalize eu:a.eval f'=u at rf
   cases rf with|fn g first caps first' caps' hf0 e1 e2 r1 r2=>
   have rfirst:RepL C w first first'.toList:=⟨by simpa using e1,fun i p v hp hv=>r1 i p v hp (by simpa using hv)⟩
   have rcaps:RepL C w caps caps'.toList:=⟨by simpa using e2,fun i p v hp hv=>r2 i p v hp (by simpa using hv)⟩
   have rall:=(rfirst.append ra).append rcaps
   have hrun:(execOp a.eval o).run P w= .ok (.enter g (first'++c.args.map a.eval++caps')) w:=by
    simp only[execOp,ho,resolve,hcal,eu,Deferred.ofValue,invoke,Sem.run_bind,Sem.run_pure,Result.andThen_ok,callFunc_run hE]
   have harr:(first'.toList++c.args.toList.map a.eval++caps'.toList).toArray=first'++c.args.map a.eval++caps':=by
    rw[←Array.toList_inj];simp
   have:=hS C w _ hW rall
   rw[harr] at this
   unfold Oper.wp
   rw[hrun]
   refine this.mono fun e w' h=> ?_
   obtain ⟨C',v',rfl,g1,g2,g3⟩:=h
   exact hk C' w' v' g1 g2 g3
  ·cases hv
 ·rename_i ex
  obtain ⟨x,ho,hx⟩:=cOp_pnc hc
  split at hv
  ·rename_i t q hp
   injection hv with hv;injection hv with q1 q2;subst q1 q2
   have rp:=opd_rep hW hT hx hp
   generalize eu:a.eval x=u at rp
   cases rp with|ifc t q qv rq=>
   have hrun:(execOp a.eval o).run P w= .halt (.panic (.iface t qv)) w:=by
    simp[execOp,ho,eu,Instr.panic,goPanic,Result.andThen]
   unfold Oper.wp
   rw[hrun]
   exact hk C w _ (.ifc t q qv rq) hW (.refl C w)
  ·cases hv
def Apart (es:List EI) (ts:Tmps):Prop:= ∀ e∈es,∀ d,e.dst=some d→look ts d=none
theorem look_dropT {es:List EI} {d:Nat}: ∀ {ts:Tmps} {p:PV},look (dropT es ts) d=some p→look ts d=some p
 |[],p,h=>by simp[dropT,look] at h
 |(k,q)::ts,p,h=>by
  simp only[dropT,List.filter_cons] at h
  split at h
  ·simp only[look] at h ⊢
   split at h
   ·rename_i e;rw[if_pos e];exact h
   ·rename_i e;rw[if_neg e];exact look_dropT (es:=es) h
  ·rename_i hn
   have h':=look_dropT (es:=es) (ts:=ts) (p:=p) h
   have hne:d≠k:=by
    intro e;subst e
    simp only[Bool.not_eq_true',Bool.not_eq_false] at hn
    have: ∀ (l:Tmps),look (l.filter fun p=> !(es.any fun e=>e.dst==some p.1)) d=none:=by
     intro l
     induction l with
     |nil=>rfl
     |cons x l ih=>
      simp only[List.filter_cons]
      split
      ·rename_i hx
       simp only[look]
       split
       ·rename_i e;rw[←e] at hx;simp[hn] at hx
       ·exact ih
      ·exact ih
    rw[this] at h;cases h
   simp only[look,if_neg hne]
   exact h'
theorem apart_dropT (es:List EI) (ts:Tmps):Apart es (dropT es ts):=by
 intro e he d hd
 induction ts with
 |nil=>rfl
 |cons x l ih=>
  simp only[dropT,List.filter_cons]
  split
  ·rename_i hx
   simp only[look]
   split
   ·rename_i e'
    simp only[Bool.not_eq_true',List.any_eq_false,beq_iff_eq] at hx
    exact absurd (by rw[hd,e']) (hx e he)
   ·exact ih
  ·exact ih
theorem TR.put_apart {td:Tmps} {ds:List Deferred} (h:TR nt C w td a.tmps) {dst:Option Nat} (hd: ∀ d,dst=some d→look td d=none) (v:Value):TR nt C w td (Act.put ⟨a.tmps,ds⟩ dst v).tmps:=by
 cases dst with
 |none=>exact h
 |some d=>
  refine ⟨by simpa [Act.put] using h.size,fun i p hp=> ?_⟩
  have hne:d≠i:=by intro e;subst e;rw[hd d rfl] at hp;cases hp
  obtain ⟨u,h1,h2⟩:=h.get i p hp
  exact ⟨u,by simp only[Act.put];rw[Array.getElem?_setIfInBounds_ne hne];exact h1,h2⟩
theorem evPan_wp {call pan:CallFn} (hC:CallOk P G call) (hP:PanOk P G pan) {ops:Array Oper} {Q:Exit→Act→World→Prop} {r:Option Nat} {n:Nat} {td:Tmps}: ∀ (l:List Oper) (es:List EI) (C:Ctx) (ts:Tmps) (S:St) (a:Act) (w:World) (v:PV) (S':St),
  es.length=l.length→(∀ (i:Nat) o e,l[i]?=some o→es[i]?=some e→EIof P ops.toList o e)→(∀ e∈es,∀ d,e.dst=some d→d<nt)→WRel G C S w→TR nt C w ts a.tmps→Apart es td→TR nt C w td a.tmps→evPan G call pan es ts S=some (v,S')→
  (∀ C' a' w' u,TR nt C' w' td a'.tmps→Rep C' w' v u→WRel G C' S' w'→Step C w C' w'→a'.defers=a.defers→Q (.panic [{v:=u,recovered:=false}]) a' w')→wpListIn (FF r) n P ops Q l a w
 |[],[],C,ts,S,a,w,v,S',_,_,_,hW,hT,hap,hTd,hv,hk=>by simp[evPan] at hv
 |[],e::es,_,_,_,_,_,_,_,hl,_,_,_,_,_,_,_,_=>by simp at hl
 |o::l,[],_,_,_,_,_,_,_,hl,_,_,_,_,_,_,_,_=>by simp at hl
 |o::l,e::es,C,ts,S,a,w,v,S',hl,hof,hds,hW,hT,hap,hTd,hv,hk=>by
  have he:=hof 0 o e rfl rfl
  have hrest: ∀ (i:Nat) o' e',l[i]?=some o'→es[i]?=some e'→EIof P ops.toList o' e':=fun i o' e' h1 h2=>hof (i+1) o' e' (by simpa using h1) (by simpa using h2)
  have hds': ∀ e∈es,∀ d,e.dst=some d→d<nt:=fun e he=>hds e (by simp[he])
  have hd0: ∀ d,o.dst=some d→d<nt:=fun d hd=>hds e (by simp) d (by rw[he.dst];exact hd)
  have hap0: ∀ d,o.dst=some d→look td d=none:=fun d hd=>hap e (by simp) d (by rw[he.dst];exact hd)
  have hap':Apart es td:=fun e he=>hap e (by simp[he])
  simp only[evPan] at hv
  unfold wpListIn
  split at hv
  ·rename_i hwant
   rw[wanted_iff (ops:=ops) hT he.guard hwant,if_pos rfl]
   split at hv
   ·rename_i p S1 hop
    split at hv
    ·cases hv
    ·refine op_does hW hT hC he.op hop r n _ _ fun C1 w1 v1 hr hW1 hs=> ?_
     refine evPan_wp hC hP l es C1 _ S1 _ w1 v S' (by simpa using hl) hrest hds' hW1 ?_ hap' ((hTd.step hs).put_apart (ds:=a.defers) hap0 v1) hv fun C' a' w' u h1 h2 h3 h4 h5=> ?_
     ·have:=(hT.step hs).put (ds:=a.defers) hd0 (q:=some p) (v:=v1) (fun q hq=>by injection hq with hq;subst hq;exact hr)
      rw[he.dst]
      exact this
     ·refine hk C' a' w' u h1 h2 h3 (hs.trans h4) (h5.trans ?_)
      cases o.dst<;>rfl
   ·split at hv
    ·exact pan_does hW hT hP he.op hv r n _ _ fun C' w' u h1 h2 h3=>hk C' a w' u (hTd.step h3) h1 h2 h3 rfl
    ·cases hv
  ·rename_i hwant
   rw[wanted_iff (ops:=ops) hT he.guard hwant,if_neg (by simp)]
   refine ⟨fun _ _=>trivial,evPan_wp hC hP l es C _ S _ w v S' (by simpa using hl) hrest hds' hW ?_ hap' (hTd.put_apart (ds:=a.defers) hap0 undef) hv fun C' a' w' u h1 h2 h3 h4 h5=> ?_⟩
   ·have:=hT.put (ds:=a.defers) hd0 (q:=some .un) (v:=undef) (fun q hq=>by injection hq with hq;subst hq;exact .un C w)
    rw[he.dst]
    exact this
   ·refine hk C' a' w' u h1 h2 h3 h4 (h5.trans ?_)
    cases o.dst<;>rfl
  ·cases hv
theorem regPan_wp {call pan:CallFn} (hC:CallOk P G call) (hP:PanOk P G pan) {id:Nat} {ops:Array Oper} {es:List EI} (hc:cOps P nt ops.toList false=some (es.map EI.strip)) {Q:Exit→Act→World→Prop} {r:Option Nat} {n:Nat} {S':St} (hW:WRel G C S w) (hT:TR nt C w ts a.tmps) (hv:evPan G call pan es ts S=some (v,S'))
  (hk: ∀ C' a' w' u,TR nt C' w' (dropT es ts) a'.tmps→Rep C' w' v u→WRel G C' S' w'→Step C w C' w'→a'.defers=a.defers→Q (.panic [{v:=u,recovered:=false}]) a' w'):(Code.region id ops false).wpIn (FF r) n P Q a w:=by
 obtain ⟨h1,h2,h3,_⟩:=cOps_spec hc
 exact wpIn_region_list (evPan_wp hC hP ops.toList es C ts S a w v S' h1 h2 h3 hW hT (apart_dropT es ts) (hT.ext fun d p=>look_dropT) hv hk)
end
end Go.PE
