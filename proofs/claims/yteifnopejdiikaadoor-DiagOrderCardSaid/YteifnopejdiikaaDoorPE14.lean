/-
  A region that draws its order: the walk over whatever order. Conditions: each law's own.
-/
import Derived.Test.YteifnopejdiikaaDoorPE13
import Derived.OrdersIn
namespace Go.PE
open Go Go.RowKit
set_option linter.unusedVariables false
set_option linter.unusedSimpArgs false
section
variable {nt:Nat} {P:Program} {G:Glob} {call:CallFn}
theorem getD_set (l:Array Bool) (i j:Nat) (b:Bool) (hi:i<l.size):(l.setIfInBounds i true).getD j b=if j=i then true else l.getD j b:=by
 simp only[Array.getD_eq_getD_getElem?]
 by_cases h:j=i
 ·subst h;simp[hi]
 ·rw[if_neg h,Array.getElem?_setIfInBounds_ne (Ne.symm h)]
theorem getD_repl (n j:Nat):(Array.replicate n false).getD j false=false:=by
 rw[Array.getD_eq_getD_getElem?,Array.getElem?_replicate]
 split<;>rfl
theorem state_eq {T:Nat→Tmps×St}: ∀ (k a:Nat),(∀ j,a≤j→j<a+k→(T (j+1)).2=(T j).2)→(T (a+k)).2=(T a).2
 |0,a,_=>rfl
 |k+1,a,h=>by
  rw[show a+(k+1)=(a+k)+1 from by omega,h (a+k) (by omega) (by omega)]
  exact state_eq k a fun j h1 h2=>h j h1 (by omega)
theorem const_between {α:Type} (R:Nat→α) (m i:Nat) (h: ∀ j,(j<m∧ ¬ j<i)∨(¬ j<m∧j<i)→R (j+1)=R j):R m=R i:=by
 have up: ∀ (k a:Nat),(∀ j,a≤j→j<a+k→R (j+1)=R j)→R (a+k)=R a:=by
  intro k
  induction k with
  |zero=>intro a _;rfl
  |succ k ih=>
   intro a h
   rw[←Nat.add_assoc,h (a+k) (by omega) (by omega)]
   exact ih a fun j h1 h2=>h j h1 (by omega)
 by_cases hle:m≤i
 ·have:=up (i - m) m fun j h1 h2=>h j (.inr ⟨by omega,by omega⟩)
  rw[show m+(i - m)=i from by omega] at this
  exact this.symm
 ·have:=up (m - i) i fun j h1 h2=>h j (.inl ⟨by omega,by omega⟩)
  rw[show i+(m - i)=m from by omega] at this
  exact this
theorem evOp_ld {ts:Tmps} {S:St} {n:Option Nat} {x:EOpd}:evOp G call ts S (.ld n x)=(rdE G ts S n x).map (·,S):=by
 simp only[evOp,rdE]
 cases x.val G ts with
 |none=>rfl
 |some p=>
  simp only[Option.bind_some]
  cases derefP S p with
  |none=>rfl
  |some cs=>simp
theorem qok_ld {es:List EI} {T:Nat→Tmps×St} {V:Nat→Option PV} (hTr:Trace G call es T V) {j i:Nat} (hj:j≤es.length) (hi:i≤es.length) {q:EQ} {e':EOp} (hq:QOk es q e') (hok:q.ok G (T j).1 (T j).2 (T (j+1)).2=true) (hne:(T (j+1)).2≠(T j).2):
  ∃ n x,e'= .ld n x∧rdE G (T i).1 (T (j+1)).2 n x=rdE G (T i).1 (T j).2 n x:=by
 rcases hq with hq|⟨L,n,x,h1,h2,h3,h4⟩|⟨h1,n,x,h2⟩
 ·unfold EQ.ok at hok;rw[hq] at hok
  exact absurd (St.beq_sound hok) hne
 ·refine ⟨n,x,h2, ?_⟩
  unfold EQ.ok at hok;rw[h1] at hok
  simp only[Bool.or_eq_true] at hok
  rcases hok with hok|hok
  ·exact absurd (St.beq_sound hok) hne
  ·have h5:=List.all_eq_true.1 hok _ h3
   simp only at h5
   have hlook: ∀ t,x= .tmp t→ ∀ k,k≤es.length→look (T k).1 t=look (T 0).1 t:=by
    intro t ht k
    induction k with
    |zero=>intro _;rfl
    |succ k ih=>
     intro hk
     have hk':es[k]?=some es[k]:=List.getElem?_eq_getElem (by omega)
     rw[hTr.tm k _ hk',look_put_ne (h4 t ht k _ hk'),ih (by omega)]
   have hval:x.val G (T i).1=x.val G (T j).1:=by
    cases x with
    |tmp t=>simp only[EOpd.val];rw[hlook t rfl i hi,hlook t rfl j hj]
    |con v=>rfl
    |glob g=>rfl
   have hr: ∀ S,rdE G (T i).1 S n x=rdE G (T j).1 S n x:=fun S=>by simp only[rdE,hval]
   rw[hr,hr]
   split at h5
   ·rename_i v v' e1 e2
    rw[e1,e2,beq_sound h5]
   ·cases h5
 ·refine ⟨n,x,h2, ?_⟩
  unfold EQ.ok at hok;rw[h1] at hok
  have ho:(T (j+1)).2.obs=(T j).2.obs:=beqO_sound hok
  have hd: ∀ p,derefP (T (j+1)).2 p=derefP (T j).2 p:=fun p=>by cases p<;>simp only[derefP,St.cells,ho]
  simp only[rdE,hd]
theorem draw_wp {r:Option Nat} {n:Nat} (hC:CallOk P G call) (hm:P.follows .mixedOrders=true) {id:Nat} {ops:Array Oper} {es:List EI} (hc:cOps P nt ops.toList true=some (es.map EI.strip)) {Q:Exit→Act→World→Prop} {C0:Ctx} {S0 S':St} {w0:World} {ts0 ts':Tmps} {a0:Act} (hW0:WRel G C0 S0 w0) (hT0:TR nt C0 w0 ts0 a0.tmps)
  (hv:evOps G call es ts0 S0=some (ts',S')) (hk: ∀ C' a' w',TR nt C' w' ts' a'.tmps→WRel G C' S' w'→Step C0 w0 C' w'→a'.defers=a0.defers→Q .normal a' w'):(Code.region id ops true).wpIn (FF r) n P Q a0 w0:=by
 obtain ⟨hlen,hof,hdst,hdr,_⟩:=cOps_spec hc
 obtain ⟨hpr,hap,hq⟩:=hdr rfl
 generalize preds ops.toList=pr at hpr hap hq
 obtain ⟨T,V,hT0',hTn,hTr⟩:=trace_of hv
 have hn:es.length=ops.size:=by simpa using hlen
 have hprlt: ∀ j o,ops.toList[j]?=some o→ ∀ i∈pr.getD j [],i<j:=fun j o ho i hi=>((predsOk_spec hpr ho).2 i hi).1
 have hordlt: ∀ {i j:Nat} {x y:EI},es[i]?=some x→es[j]?=some y→ordered pr i j=true→i<j→i∈pr.getD j []:=by
  intro i j x y hi hj h hlt
  simp only[ordered,Bool.or_eq_true,List.contains_iff_mem] at h
  rcases h with h|h
  ·exact h
  ·have hil:i<ops.toList.length:=by rw[←hlen];exact getElem?_lt hi
   have:=hprlt i _ (List.getElem?_eq_getElem hil) j h
   omega
 have hWop: ∀ j,(T (j+1)).2≠(T j).2→j<es.length→ ∃ e,es[j]?=some e∧loud e.op=true∧ ∀ k e',es[k]?=some e'→loud e'.op=true→j≠k→
   ordered pr j k=true∨ ∃ n x,e'.op= .ld n x∧ ∀ i,i≤es.length→rdE G (T i).1 (T (j+1)).2 n x=rdE G (T i).1 (T j).2 n x:=by
  intro j hj hjl
  have he:=List.getElem?_eq_getElem hjl
  rcases hTr.st j _ he with ⟨_,_,_,h2,h3⟩|⟨_,_,h3⟩
  ·have hloud:loud es[j].op=true:=by
    cases hl:loud es[j].op with
    |true=>rfl
    |false=>exact absurd (evOp_still hl h2).1 hj
   refine ⟨_,he,hloud,fun k e' hk' hl' hne=> ?_⟩
   cases ho:ordered pr j k with
   |true=>exact .inl rfl
   |false=>
    have hqq:=hq j k _ _ he hk' hloud hl' hne ho
    obtain ⟨n,x,e1,_⟩:=qok_ld hTr (i:=0) (by omega) (by omega) hqq h3 hj
    refine .inr ⟨n,x,e1,fun i hi=> ?_⟩
    obtain ⟨n',x',e1',e2⟩:=qok_ld hTr (i:=i) (by omega) hi hqq h3 hj
    rw[e1] at e1';injection e1' with e3 e4;subst e3 e4
    exact e2
  ·exact absurd h3 hj
 have hbig: ∀ j,(T (j+1)).2≠(T j).2→ ∀ (hjl: ¬ j<es.length),True:=fun _ _ _=>trivial
 have main: ∀ (fuel:Nat) (listed:Array Bool) (C:Ctx) (m:Nat) (a:Act) (w:World),listed.size=ops.size→left ops.size listed≤fuel→
   (∀ j,listed.getD j false=true→j<ops.size→ ∀ i∈pr.getD j [],listed.getD i false=true)→TR nt C w (FL es ts0 V (fun j=>listed.getD j false) es.length) a.tmps→
   (∀ j,j<es.length→(T (j+1)).2≠(T j).2→(listed.getD j false=true↔j<m))→m≤es.length→WRel G C (T m).2 w→Step C0 w0 C w→a.defers=a0.defers→
   wpAnyIn (FF r) n P .any ops Q fuel listed a w:=by
  intro fuel
  induction fuel with
  |zero=>
   intro listed C m a w hsz hleft hcl hTR hWl hmn hW hs hd
   have hall: ∀ j,j<ops.size→listed.getD j true=true:=by
    intro j hj
    have h0:left ops.size listed=0:=by omega
    simp only[left,List.countP_eq_zero,List.mem_range] at h0
    have:=h0 j hj
    simpa using this
   refine ⟨?_, ?_⟩
   ·simp only[Region.ready,List.filter_eq_nil_iff,List.mem_range]
    intro i hi
    simp[hall i hi]
   ·have hall': ∀ j,j<es.length→listed.getD j false=true:=by
     intro j hj
     have:=hall j (by omega)
     simp only[Array.getD_eq_getD_getElem?] at this ⊢
     rw[Array.getElem?_eq_getElem (by omega)] at this ⊢
     exact this
    have e1:FL es ts0 V (fun j=>listed.getD j false) es.length=ts':=by
     rw[FL_congr (L':=fun _=>true) es.length (fun j hj=>hall' j hj)]
     have:=FL_trace hTr es.length (Nat.le_refl _)
     rw[hTn,hT0'] at this
     exact this.symm
    have e2:(T m).2=S':=by
     have:=state_eq (T:=T) (es.length - m) m fun j h1 h2=>Classical.byContradiction fun hne=>by
      have:=(hWl j (by omega) hne).1 (hall' j (by omega));omega
     rw[show m+(es.length - m)=es.length from by omega,hTn] at this
     exact this.symm
    rw[e1] at hTR
    rw[e2] at hW
    exact hk C a w hTR hW hs hd
  |succ fuel ih=>
   intro listed C m a w hsz hleft hcl hTR hWl hmn hW hs hd
   refine ⟨fun hr=> ?_,fun i hi=> ?_⟩
   ·-- none is ready: all are listed
    have hall: ∀ j,j<ops.size→listed.getD j true=true:=by
     intro j
     induction j using Nat.strongRecOn with
     |_ j ihj=>
      intro hj
      have hnr:j ∉ Region.ready .any ops listed:=by rw[hr];simp
      simp only[Region.ready,List.mem_filter,List.mem_range,not_and] at hnr
      have h1:=hnr hj
      cases hlj:listed.getD j true with
      |true=>rfl
      |false=>
       exfalso
       apply h1
       have ho:ops[j]?=some ops[j]:=Array.getElem?_eq_getElem hj
       simp only[hlj,Bool.not_false,Bool.true_and,ho,Option.map_some,Option.getD_some,Array.all_eq_true]
       intro k hk'
       have hmem:ops[j].after[k]∈ops[j].after.toList:=by simp
       have hsp:=(predsOk_spec hpr (j:=j) (o:=ops[j]) (by rw[Array.getElem?_toList];exact ho)).1 _ hmem
       cases hb:Region.binds .any ops[j].after[k] with
       |false=>rfl
       |true=>
        have hlt:=hsp hb
        have:=ihj _ hlt (by omega)
        simp only[Bool.not_true,Bool.false_or]
        simp only[Array.getD_eq_getD_getElem?] at this ⊢
        rw[Array.getElem?_eq_getElem (by omega)] at this ⊢
        exact this
    have hall': ∀ j,j<es.length→listed.getD j false=true:=by
     intro j hj
     have:=hall j (by omega)
     simp only[Array.getD_eq_getD_getElem?] at this ⊢
     rw[Array.getElem?_eq_getElem (by omega)] at this ⊢
     exact this
    have e1:FL es ts0 V (fun j=>listed.getD j false) es.length=ts':=by
     rw[FL_congr (L':=fun _=>true) es.length (fun j hj=>hall' j hj)]
     have:=FL_trace hTr es.length (Nat.le_refl _)
     rw[hTn,hT0'] at this
     exact this.symm
    have e2:(T m).2=S':=by
     have:=state_eq (T:=T) (es.length - m) m fun j h1 h2=>Classical.byContradiction fun hne=>by
      have:=(hWl j (by omega) hne).1 (hall' j (by omega));omega
     rw[show m+(es.length - m)=es.length from by omega,hTn] at this
     exact this.symm
    rw[e1] at hTR
    rw[e2] at hW
    exact hk C a w hTR hW hs hd
   ·simp only[Region.ready,List.mem_filter,List.mem_range,Bool.and_eq_true,Bool.not_eq_true'] at hi
    obtain ⟨hin,hli,hedges⟩:=hi
    have ho:ops[i]?=some ops[i]:=Array.getElem?_eq_getElem hin
    have ho':ops.toList[i]?=some ops[i]:=by rw[Array.getElem?_toList];exact ho
    rw[ho] at hedges
    simp only[Option.map_some,Option.getD_some] at hedges
    have hedge: ∀ e∈ops[i].after.toList,Region.binds .any e=true→listed.getD e.on false=true:=by
     intro e he hb
     have:=Array.all_eq_true'.1 hedges e (by simpa using he)
     simpa [hb] using this
    have hil:i<es.length:=by omega
    have hei:es[i]?=some es[i]:=List.getElem?_eq_getElem hil
    have hE:=hof i _ _ ho' hei
    have hLi:listed.getD i false=false:=by
     simp only[Array.getD_eq_getD_getElem?] at hli ⊢
     rw[Array.getElem?_eq_getElem (by omega)] at hli ⊢
     exact hli
    have hpre: ∀ j∈pr.getD i [],listed.getD j false=true:=by
     intro j hj
     obtain ⟨_,e,he,hb,h⟩:=(predsOk_spec hpr ho').2 j hj
     have hon:=hedge e he hb
     rcases h with h|h
     ·rw[←h];exact hon
     ·have hlt:=(predsOk_spec hpr ho').1 e he hb
      exact hcl e.on hon (by omega) j h
    have hsuc: ∀ j,j<ops.size→i∈pr.getD j []→listed.getD j false=false:=by
     intro j hj h
     cases hlj:listed.getD j false with
     |false=>rfl
     |true=>have:=hcl j hlj hj i h;rw[hLi] at this;cases this
    have hord: ∀ j x,es[j]?=some x→j≠i→ordered pr j i=true→(j<i→listed.getD j false=true)∧(i≤j→listed.getD j false=false):=by
     intro j x hj hne h
     refine ⟨fun hlt=>hpre j (hordlt hj hei h hlt),fun hle=>hsuc j (by have:=getElem?_lt hj;omega) (hordlt hei hj (by rw[ordered_comm];exact h) (by omega))⟩
    have hread: ∀ d,d∈es[i].looks→look (FL es ts0 V (fun j=>listed.getD j false) es.length) d=look (T i).1 d:=by
     intro d hd
     rw[FL_get (i:=i) (d:=d) (fun j hj=> ?_) es.length,show min es.length i=i from by omega]
     ·have:=FL_trace hTr i (by omega)
      rw[hT0'] at this
      rw[this]
     ·simp only[Option.bind_eq_some_iff] at hj
      obtain ⟨x,hx,hxd⟩:=hj
      by_cases hne:j=i
      ·subst hne;exact ⟨fun h=>by omega,fun _=>hLi⟩
      ·exact hord j x hx hne (apartE_spec hap hx hei hne hxd (.inl hd))
    have hreadD: ∀ d∈es[i].op.reads,look (FL es ts0 V (fun j=>listed.getD j false) es.length) d=look (T i).1 d:=by
     intro d hd
     exact hread d (by simp[EI.looks,hd])
    have hwant:wantedE es[i].guard (FL es ts0 V (fun j=>listed.getD j false) es.length)=wantedE es[i].guard (T i).1:=by
     cases hg:es[i].guard with
     |none=>rfl
     |some q=>
      obtain ⟨d,wt⟩:=q
      simp only[wantedE]
      rw[hread d (by simp[EI.looks,hg])]
    have hwr: ∀ {b},wantedE es[i].guard (T i).1=some b→Region.wanted ops[i] (yielded ops a.tmps)=b:=fun hb=>wanted_iff (ops:=ops) hTR hE.guard (hwant.trans hb)
    have hd0: ∀ d,ops[i].dst=some d→d<nt:=fun d hd=>hdst es[i] (List.mem_of_getElem? hei) d (by rw[hE.dst];exact hd)
    have hframe: ∀ q,look (put (FL es ts0 V (fun j=>listed.getD j false) es.length) ops[i].dst (V i)) q=look (FL es ts0 V (fun j=>(listed.setIfInBounds i true).getD j false) es.length) q:=by
     intro q
     have h1:=FL_add (es:=es) (ts:=ts0) (V:=V) (L:=fun j=>listed.getD j false) (i:=i) hLi (fun j hj hLj d hd hd'=> ?_) es.length
     ·have h1:=h1 q
      rw[if_pos hil,hei] at h1
      simp only[Option.bind_some,hE.dst] at h1
      rw[←h1]
      exact congrArg (fun f=>look f q) (FL_congr _ fun j hj=>(getD_set listed i j false (by omega)).symm)
     ·rw[hei] at hd
      simp only[Option.bind_some] at hd
      simp only[Option.bind_eq_some_iff] at hd'
      obtain ⟨y,hy,hyd⟩:=hd'
      have:=hord j y hy (by omega) (by rw[ordered_comm];exact apartE_spec hap hei hy (by omega) hd (.inr hyd))
      have:=this.2 (by omega)
      have hLj':listed.getD j false=true:=hLj
      rw[this] at hLj'
      cases hLj'
    have hcl': ∀ j,(listed.setIfInBounds i true).getD j false=true→j<ops.size→ ∀ k∈pr.getD j [],(listed.setIfInBounds i true).getD k false=true:=by
     intro j hj hjn k hk'
     rw[getD_set _ _ _ _ (by omega)] at hj ⊢
     split
     ·rfl
     ·split at hj
      ·rename_i e;subst e;exact hpre k hk'
      ·exact hcl j hj hjn k hk'
    have hleft':left ops.size (listed.setIfInBounds i true)≤fuel:=by
     have:left ops.size (listed.setIfInBounds i true)<left ops.size listed:=by
      refine countP_lt (y:=i) (fun x hx h=> ?_) (by simp[hin]) (by simp[hli]) ?_
      ·rw[getD_set _ _ _ _ (by omega)] at h
       split at h
       ·simp at h
       ·exact h
      ·rw[getD_set _ _ _ _ (by omega)];simp
     omega
    unfold wpOpIn
    rw[ho]
    simp only
    rcases hTr.st i _ hei with ⟨vi,h1,hVi,h2,h3⟩|⟨h1,h2,h3⟩
    ·rw[hwr h1,if_pos rfl]
     by_cases hld: ∃ n x,es[i].op= .ld n x
     ·-- a read
      obtain ⟨n',x',hx'⟩:=hld
      rw[hx',evOp_ld] at h2
      simp only[Option.map_eq_some_iff,Prod.mk.injEq] at h2
      obtain ⟨vv,h2,rfl,hst⟩:=h2
      have hR:rdE G (T i).1 (T m).2 n' x'=rdE G (T i).1 (T i).2 n' x':=by
       refine const_between (fun k=>rdE G (T i).1 (T k).2 n' x') m i fun j hj=> ?_
       by_cases hsame:(T (j+1)).2=(T j).2
       ·simp only[hsame]
       ·have hjl:j<es.length:=by rcases hj with ⟨h,_⟩|⟨_,h⟩<;>omega
        obtain ⟨e,he,hle,hall⟩:=hWop j hsame hjl
        have hne:j≠i:=by intro e;subst e;exact hsame hst.symm
        rcases hall i _ hei (by rw[hx'];rfl) hne with ho2|⟨n2,x2,e1,e2⟩
        ·exfalso
         have ho2:=hord j e he hne ho2
         have hwl:=hWl j hjl hsame
         rcases hj with ⟨g1,g2⟩|⟨g1,g2⟩
         ·have:=ho2.2 (by omega);rw[hwl.2 g1] at this;cases this
         ·exact g1 (hwl.1 (ho2.1 g2))
        ·rw[hx'] at e1;injection e1 with e3 e4;subst e3 e4
         exact e2 i (by omega)
      have hval:x'.val G (FL es ts0 V (fun j=>listed.getD j false) es.length)=x'.val G (T i).1:=val_congr fun d hd=>hreadD d (by rw[hx'];exact hd)
      have hev:evOp G call (FL es ts0 V (fun j=>listed.getD j false) es.length) (T m).2 es[i].op=some (vv,(T m).2):=by
       rw[hx',evOp_ld,show rdE G (FL es ts0 V (fun j=>listed.getD j false) es.length) (T m).2 n' x'=rdE G (T i).1 (T m).2 n' x' from by simp only[rdE,hval],hR,h2];rfl
      refine op_does hW hTR hC hE.op hev r n _ _ fun C1 w1 v1 hr hW1 hs1=> ?_
      refine ih _ C1 m _ w1 (by simpa using hsz) hleft' hcl' ?_ (fun j hjl hj=> ?_) hmn hW1 (hs.trans hs1) (by cases ops[i].dst<;>exact hd)
      ·refine ((hTR.step hs1).put (ds:=a.defers) hd0 (q:=V i) (v:=v1) fun p hp=> ?_).ext fun d p hp=>by rw[hframe];exact hp
       rw[hVi] at hp;injection hp with hp;subst hp;exact hr
      ·rw[getD_set _ _ _ _ (by omega)]
       by_cases hne:j=i
       ·subst hne;exact absurd hst.symm hj
       ·rw[if_neg hne];exact hWl j hjl hj
     cases hloud:loud es[i].op with
     |true=>
      have hWi: ∀ j,j<es.length→(T (j+1)).2≠(T j).2→(j<m↔j<i):=by
       intro j hjl hj
       obtain ⟨e,he,hle,hall⟩:=hWop j hj hjl
       rw[←hWl j hjl hj]
       by_cases hne:j=i
       ·subst hne;simp[hLi]
       ·have ho2:=hord j e he hne ((hall i _ hei hloud hne).resolve_right (fun ⟨n,x,h,_⟩=>hld ⟨n,x,h⟩))
        constructor
        ·intro hl
         rcases Nat.lt_or_ge j i with h|h
         ·exact h
         ·rw[ho2.2 h] at hl;cases hl
        ·exact ho2.1
      have hst:(T m).2=(T i).2:=by
       by_cases hle:m≤i
       ·have:=state_eq (T:=T) (i - m) m fun j g1 g2=>Classical.byContradiction fun hn'=>by have:=hWi j (by omega) hn';omega
        rw[show m+(i - m)=i from by omega] at this
        exact this.symm
       ·have:=state_eq (T:=T) (m - i) i fun j g1 g2=>Classical.byContradiction fun hn'=>by have:=hWi j (by omega) hn';omega
        rw[show i+(m - i)=m from by omega] at this
        exact this
      rw[hst] at hW
      have hev:evOp G call (FL es ts0 V (fun j=>listed.getD j false) es.length) (T i).2 es[i].op=some (vi,(T (i+1)).2):=by
       rw[evOp_congr hreadD];exact h2
      refine op_does hW hTR hC hE.op hev r n _ _ fun C1 w1 v1 hr hW1 hs1=> ?_
      refine ih _ C1 (i+1) _ w1 (by simpa using hsz) hleft' hcl' ?_ (fun j hjl hj=> ?_) (by omega) hW1 (hs.trans hs1) (by cases ops[i].dst<;>exact hd)
      ·refine ((hTR.step hs1).put (ds:=a.defers) hd0 (q:=V i) (v:=v1) fun p hp=> ?_).ext fun d p hp=>by rw[hframe];exact hp
       rw[hVi] at hp;injection hp with hp;subst hp;exact hr
      ·rw[getD_set _ _ _ _ (by omega)]
       by_cases hne:j=i
       ·subst hne;simp
       ·rw[if_neg hne,hWl j hjl hj,hWi j hjl hj];omega
     |false=>
      obtain ⟨g1,g2⟩:=evOp_still hloud h2
      have hev:evOp G call (FL es ts0 V (fun j=>listed.getD j false) es.length) (T m).2 es[i].op=some (vi,(T m).2):=by
       rw[evOp_congr hreadD];exact g2 _
      refine op_does hW hTR hC hE.op hev r n _ _ fun C1 w1 v1 hr hW1 hs1=> ?_
      refine ih _ C1 m _ w1 (by simpa using hsz) hleft' hcl' ?_ (fun j hjl hj=> ?_) hmn hW1 (hs.trans hs1) (by cases ops[i].dst<;>exact hd)
      ·refine ((hTR.step hs1).put (ds:=a.defers) hd0 (q:=V i) (v:=v1) fun p hp=> ?_).ext fun d p hp=>by rw[hframe];exact hp
       rw[hVi] at hp;injection hp with hp;subst hp;exact hr
      ·rw[getD_set _ _ _ _ (by omega)]
       by_cases hne:j=i
       ·subst hne;exact absurd g1 hj
       ·rw[if_neg hne];exact hWl j hjl hj
    ·rw[hwr h1,if_neg (by simp)]
     refine ⟨fun _ _=>trivial, ?_⟩
     refine ih _ C m _ w (by simpa using hsz) hleft' hcl' ?_ (fun j hjl hj=> ?_) hmn hW hs (by cases ops[i].dst<;>exact hd)
     ·refine (hTR.put (ds:=a.defers) hd0 (q:=V i) (v:=undef) fun p hp=> ?_).ext fun d p hp=>by rw[hframe];exact hp
      rw[h2] at hp;injection hp with hp;subst hp;exact .un _ _
     ·rw[getD_set _ _ _ _ (by omega)]
      by_cases hne:j=i
      ·subst hne;exact absurd h3 hj
      ·rw[if_neg hne];exact hWl j hjl hj
 have hb:Below w0.heap.size w0 {w0 with drawn:=w0.drawn+1}:=(Below.refl _ w0).drew
 refine wpIn_region_any hm (main ops.size _ C0 0 a0 _ (by simp) ?_ (fun j hj=> ?_) ?_ (fun j hjl hj=> ?_) (Nat.zero_le _) ?_ (.of_below hb C0) rfl)
 ·unfold left;exact Nat.le_trans (List.countP_le_length) (by simp)
 ·rw[getD_repl] at hj;cases hj
 ·have:FL es ts0 V (fun j=>(Array.replicate ops.size false).getD j false) es.length=ts0:=by
   have: ∀ k,FL es ts0 V (fun j=>(Array.replicate ops.size false).getD j false) k=ts0:=by
    intro k
    induction k with
    |zero=>rfl
    |succ k ih=>
     simp only[FL]
     rw[if_neg,ih]
     rw[getD_repl];simp
   exact this _
  rw[this]
  exact hT0.step (.of_below hb C0)
 ·rw[getD_repl];simp
 ·rw[hT0'];exact hW0.of_below hb
theorem evPan_split {pan:CallFn}: ∀ {es:List EI} {ts:Tmps} {S S':St} {v:PV},evPan G call pan es ts S=some (v,S')→
  ∃ j e ts1 S1,es[j]?=some e∧evOps G call (es.take j) ts S=some (ts1,S1)∧wantedE e.guard ts1=some true∧e.q.pn=true∧panOp G pan ts1 S1 e.op=some (v,S')
 |[],ts,S,S',v,h=>by simp[evPan] at h
 |e::es,ts,S,S',v,h=>by
  simp only[evPan] at h
  split at h
  ·rename_i hw
   split at h
   ·rename_i p S1 ho
    split at h
    ·cases h
    ·rename_i hq
     obtain ⟨j,e',ts1,S2,h1,h2,h3⟩:=evPan_split h
     exact ⟨j+1,e',ts1,S2,by simpa using h1,by simp only[List.take_succ_cons,evOps,hw,ho,if_neg hq,h2],h3⟩
   ·split at h
    ·rename_i hpn
     exact ⟨0,e,ts,S,rfl,rfl,hw,hpn,h⟩
    ·cases h
  ·rename_i hw
   obtain ⟨j,e',ts1,S2,h1,h2,h3⟩:=evPan_split h
   exact ⟨j+1,e',ts1,S2,by simpa using h1,by simp only[List.take_succ_cons,evOps,hw,h2],h3⟩
  ·cases h
theorem panOp_loud {pan:CallFn} {ts:Tmps} {S S':St} {e:EOp} {v:PV} (h:panOp G pan ts S e=some (v,S')):loud e=true∧ ∀ n x,e≠ .ld n x:=by
 cases e<;>simp only[panOp] at h<;>first|(cases h;done)|exact ⟨rfl,fun n x h=>by cases h⟩
theorem drawPan_wp {r:Option Nat} {n:Nat} {pan:CallFn} (hC:CallOk P G call) (hP:PanOk P G pan) (hm:P.follows .mixedOrders=true) {id:Nat} {ops:Array Oper} {fs:List EI} (hc:cOps P nt ops.toList true=some (fs.map EI.strip)) {Q:Exit→Act→World→Prop} {C0:Ctx} {S0 S':St} {w0:World} {ts0:Tmps} {v:PV} {a0:Act} (hW0:WRel G C0 S0 w0) (hT0:TR nt C0 w0 ts0 a0.tmps)
  (hv:evPan G call pan fs ts0 S0=some (v,S')) (hk: ∀ C' a' w' u,TR nt C' w' (dropT fs ts0) a'.tmps→Rep C' w' v u→WRel G C' S' w'→Step C0 w0 C' w'→a'.defers=a0.defers→Q (.panic [{v:=u,recovered:=false}]) a' w'):(Code.region id ops true).wpIn (FF r) n P Q a0 w0:=by
 obtain ⟨hlen,hof,hdst,hdr,hpn⟩:=cOps_spec hc
 obtain ⟨hpr,hap,hq⟩:=hdr rfl
 have hpn:=hpn rfl
 generalize preds ops.toList=pr at hpr hap hq hpn
 obtain ⟨jp,ep,ts1,S1,hjp,hpre0,hwp,hqp,hpan⟩:=evPan_split hv
 have hjpl:=getElem?_lt hjp
 generalize hes:fs.take jp=es at hpre0
 have hesl:es.length=jp:=by rw[←hes];simp;omega
 have sub: ∀ {i:Nat} {e:EI},es[i]?=some e→fs[i]?=some e:=by
  intro i e h;rw[←hes,List.getElem?_take] at h;split at h
  ·exact h
  ·cases h
 have sub': ∀ {i:Nat} {e:EI},i<jp→fs[i]?=some e→es[i]?=some e:=by
  intro i e h h';rw[←hes,List.getElem?_take,if_pos h];exact h'
 obtain ⟨T,V,hT0',hTn,hTr⟩:=trace_of hpre0
 have hn:fs.length=ops.size:=by simpa using hlen
 have hprlt: ∀ j o,ops.toList[j]?=some o→ ∀ i∈pr.getD j [],i<j:=fun j o ho i hi=>((predsOk_spec hpr ho).2 i hi).1
 have hordlt: ∀ {i j:Nat} {x y:EI},fs[i]?=some x→fs[j]?=some y→ordered pr i j=true→i<j→i∈pr.getD j []:=by
  intro i j x y hi hj h hlt
  simp only[ordered,Bool.or_eq_true,List.contains_iff_mem] at h
  rcases h with h|h
  ·exact h
  ·have hil:i<ops.toList.length:=by rw[←hlen];exact getElem?_lt hi
   have:=hprlt i _ (List.getElem?_eq_getElem hil) j h
   omega
 have hqes: ∀ {q:EQ} {e':EOp},QOk fs q e'→QOk es q e':=by
  intro q e' h
  rcases h with h|⟨L,n,x,h1,h2,h3,h4⟩|h
  ·exact .inl h
  ·exact .inr (.inl ⟨L,n,x,h1,h2,h3,fun t ht k y hy=>h4 t ht k y (sub hy)⟩)
  ·exact .inr (.inr h)
 have hWop: ∀ j,(T (j+1)).2≠(T j).2→j<es.length→ ∃ e,es[j]?=some e∧loud e.op=true∧ ∀ k e',fs[k]?=some e'→loud e'.op=true→j≠k→
   ordered pr j k=true∨ ∃ n x,e'.op= .ld n x∧ ∀ i,i≤es.length→rdE G (T i).1 (T (j+1)).2 n x=rdE G (T i).1 (T j).2 n x:=by
  intro j hj hjl
  have he:=List.getElem?_eq_getElem hjl
  rcases hTr.st j _ he with ⟨_,_,_,h2,h3⟩|⟨_,_,h3⟩
  ·have hloud:loud es[j].op=true:=by
    cases hl:loud es[j].op with
    |true=>rfl
    |false=>exact absurd (evOp_still hl h2).1 hj
   refine ⟨_,he,hloud,fun k e' hk' hl' hne=> ?_⟩
   cases ho:ordered pr j k with
   |true=>exact .inl rfl
   |false=>
    have hqq:=hqes (hq j k _ _ (sub he) hk' hloud hl' hne ho)
    obtain ⟨n,x,e1,_⟩:=qok_ld hTr (i:=0) (by omega) (by omega) hqq h3 hj
    refine .inr ⟨n,x,e1,fun i hi=> ?_⟩
    obtain ⟨n',x',e1',e2⟩:=qok_ld hTr (i:=i) (by omega) hi hqq h3 hj
    rw[e1] at e1';injection e1' with e3 e4;subst e3 e4
    exact e2
  ·exact absurd h3 hj
 have main: ∀ (fuel:Nat) (listed:Array Bool) (C:Ctx) (m:Nat) (a:Act) (w:World),listed.size=ops.size→left ops.size listed≤fuel→
   (∀ j,listed.getD j false=true→j<ops.size→ ∀ i∈pr.getD j [],listed.getD i false=true)→TR nt C w (FL es ts0 V (fun j=>listed.getD j false) es.length) a.tmps→
   (∀ j,j<es.length→(T (j+1)).2≠(T j).2→(listed.getD j false=true↔j<m))→m≤es.length→WRel G C (T m).2 w→Step C0 w0 C w→a.defers=a0.defers→
   (∀ j,listed.getD j false=true→j<es.length)→TR nt C w (dropT fs ts0) a.tmps→
   wpAnyIn (FF r) n P .any ops Q fuel listed a w:=by
  intro fuel
  have nofull: ∀ (listed:Array Bool),listed.size=ops.size→(∀ j,j<ops.size→listed.getD j true=true)→(∀ j,listed.getD j false=true→j<es.length)→False:=by
   intro listed hsz hall hjl0
   have h1:=hall jp (by omega)
   have h2:listed.getD jp false=true:=by
    simp only[Array.getD_eq_getD_getElem?] at h1 ⊢
    rw[Array.getElem?_eq_getElem (by omega)] at h1 ⊢
    exact h1
   have:=hjl0 jp h2
   omega
  induction fuel with
  |zero=>
   intro listed C m a w hsz hleft hcl hTR hWl hmn hW hs hd hjl0 hTd
   exfalso
   refine nofull listed hsz (fun j hj=> ?_) hjl0
   have h0:left ops.size listed=0:=by omega
   simp only[left,List.countP_eq_zero,List.mem_range] at h0
   have:=h0 j hj
   simpa using this
  |succ fuel ih=>
   intro listed C m a w hsz hleft hcl hTR hWl hmn hW hs hd hjl0 hTd
   refine ⟨fun hr=> ?_,fun i hi=> ?_⟩
   ·exfalso
    refine nofull listed hsz ?_ hjl0
    intro j
    induction j using Nat.strongRecOn with
    |_ j ihj=>
     intro hj
     have hnr:j ∉ Region.ready .any ops listed:=by rw[hr];simp
     simp only[Region.ready,List.mem_filter,List.mem_range,not_and] at hnr
     have h1:=hnr hj
     cases hlj:listed.getD j true with
     |true=>rfl
     |false=>
      exfalso
      apply h1
      have ho:ops[j]?=some ops[j]:=Array.getElem?_eq_getElem hj
      simp only[hlj,Bool.not_false,Bool.true_and,ho,Option.map_some,Option.getD_some,Array.all_eq_true]
      intro k hk'
      have hmem:ops[j].after[k]∈ops[j].after.toList:=by simp
      have hsp:=(predsOk_spec hpr (j:=j) (o:=ops[j]) (by rw[Array.getElem?_toList];exact ho)).1 _ hmem
      cases hb:Region.binds .any ops[j].after[k] with
      |false=>rfl
      |true=>
       have hlt:=hsp hb
       have:=ihj _ hlt (by omega)
       simp only[Bool.not_true,Bool.false_or]
       simp only[Array.getD_eq_getD_getElem?] at this ⊢
       rw[Array.getElem?_eq_getElem (by omega)] at this ⊢
       exact this
   ·simp only[Region.ready,List.mem_filter,List.mem_range,Bool.and_eq_true,Bool.not_eq_true'] at hi
    obtain ⟨hin,hli,hedges⟩:=hi
    have ho:ops[i]?=some ops[i]:=Array.getElem?_eq_getElem hin
    have ho':ops.toList[i]?=some ops[i]:=by rw[Array.getElem?_toList];exact ho
    rw[ho] at hedges
    simp only[Option.map_some,Option.getD_some] at hedges
    have hedge: ∀ e∈ops[i].after.toList,Region.binds .any e=true→listed.getD e.on false=true:=by
     intro e he hb
     have:=Array.all_eq_true'.1 hedges e (by simpa using he)
     simpa [hb] using this
    have hLi:listed.getD i false=false:=by
     simp only[Array.getD_eq_getD_getElem?] at hli ⊢
     rw[Array.getElem?_eq_getElem (by omega)] at hli ⊢
     exact hli
    have hfi:fs[i]?=some fs[i]:=List.getElem?_eq_getElem (by omega)
    have hpre: ∀ j∈pr.getD i [],listed.getD j false=true:=by
     intro j hj
     obtain ⟨_,e,he,hb,h⟩:=(predsOk_spec hpr ho').2 j hj
     have hon:=hedge e he hb
     rcases h with h|h
     ·rw[←h];exact hon
     ·have hlt:=(predsOk_spec hpr ho').1 e he hb
      exact hcl e.on hon (by omega) j h
    have hsuc: ∀ j,j<ops.size→i∈pr.getD j []→listed.getD j false=false:=by
     intro j hj h
     cases hlj:listed.getD j false with
     |false=>rfl
     |true=>have:=hcl j hlj hj i h;rw[hLi] at this;cases this
    have hord: ∀ j x,fs[j]?=some x→j≠i→ordered pr j i=true→(j<i→listed.getD j false=true)∧(i≤j→listed.getD j false=false):=by
     intro j x hj hne h
     refine ⟨fun hlt=>hpre j (hordlt hj hfi h hlt),fun hle=>hsuc j (by have:=getElem?_lt hj;omega) (hordlt hfi hj (by rw[ordered_comm];exact h) (by omega))⟩
    by_cases hip:i=jp
    ·-- where it panics
     subst hip
     rw[hjp] at hfi;injection hfi with hfi;
     have hE:=hof i _ _ ho' hjp
     obtain ⟨hlp,hnld⟩:=panOp_loud hpan
     have hstate:(T m).2=S1:=by
      have:=state_eq (T:=T) (es.length - m) m fun j g1 g2=>Classical.byContradiction fun hn'=>by
       have hjl:j<es.length:=by omega
       obtain ⟨e,he,hle,hall⟩:=hWop j hn' hjl
       rcases hall i _ hjp hlp (by omega) with ho2|⟨n2,x2,e1,_⟩
       ·have:=(hord j e (sub he) (by omega) ho2).1 (by omega)
        have:=(hWl j hjl hn').1 this;omega
       ·exact hnld _ _ e1
      rw[show m+(es.length - m)=es.length from by omega,hTn] at this
      exact this.symm
     have hread: ∀ d,d∈ep.looks→look (FL es ts0 V (fun j=>listed.getD j false) es.length) d=look ts1 d:=by
      intro d hd
      rw[FL_get (i:=i) (d:=d) (fun j hj=> ?_) es.length,show min es.length i=i from by omega]
      ·have:=FL_trace hTr i (by omega)
       rw[hT0'] at this
       rw[←this,←hesl,hTn]
      ·simp only[Option.bind_eq_some_iff] at hj
       obtain ⟨x,hx,hxd⟩:=hj
       have hxl:=getElem?_lt hx
       exact hord j x (sub hx) (by omega) (apartE_spec hap (sub hx) hjp (by omega) hxd (.inl hd))
     have hwant:wantedE ep.guard (FL es ts0 V (fun j=>listed.getD j false) es.length)=wantedE ep.guard ts1:=by
      cases hg:ep.guard with
      |none=>rfl
      |some q=>
       obtain ⟨d,wt⟩:=q
       simp only[wantedE]
       rw[hread d (by simp[EI.looks,hg])]
     unfold wpOpIn
     rw[ho]
     simp only
     rw[wanted_iff (ops:=ops) hTR hE.guard (hwant.trans hwp),if_pos rfl]
     rw[hstate] at hW
     refine pan_does hW hTR hP hE.op (v:=v) (S':=S') ?_ r n _ _ fun C' w' u h1 h2 h3=>hk C' a w' u (hTd.step h3) h1 h2 (hs.trans h3) hd
     rw[panOp_congr (ts':=ts1) fun d hd=>hread d (by simp[EI.looks,hd])]
     exact hpan
    have hilt:i<jp:=by
     rcases Nat.lt_or_ge jp i with h|h
     ·exfalso
      have:=hpre jp (hpn jp i ep hjp hqp h (by omega))
      have:=hjl0 jp this;omega
     ·omega
    have hil:i<es.length:=by omega
    have hei:es[i]?=some es[i]:=List.getElem?_eq_getElem hil
    have hfi:fs[i]?=some es[i]:=sub hei
    have hE:=hof i _ _ ho' hfi
    have hread: ∀ d,d∈es[i].looks→look (FL es ts0 V (fun j=>listed.getD j false) es.length) d=look (T i).1 d:=by
     intro d hd
     rw[FL_get (i:=i) (d:=d) (fun j hj=> ?_) es.length,show min es.length i=i from by omega]
     ·have:=FL_trace hTr i (by omega)
      rw[hT0'] at this
      rw[this]
     ·simp only[Option.bind_eq_some_iff] at hj
      obtain ⟨x,hx,hxd⟩:=hj
      by_cases hne:j=i
      ·subst hne;exact ⟨fun h=>by omega,fun _=>hLi⟩
      ·exact hord j x (sub hx) hne (apartE_spec hap (sub hx) hfi hne hxd (.inl hd))
    have hreadD: ∀ d∈es[i].op.reads,look (FL es ts0 V (fun j=>listed.getD j false) es.length) d=look (T i).1 d:=by
     intro d hd
     exact hread d (by simp[EI.looks,hd])
    have hwant:wantedE es[i].guard (FL es ts0 V (fun j=>listed.getD j false) es.length)=wantedE es[i].guard (T i).1:=by
     cases hg:es[i].guard with
     |none=>rfl
     |some q=>
      obtain ⟨d,wt⟩:=q
      simp only[wantedE]
      rw[hread d (by simp[EI.looks,hg])]
    have hwr: ∀ {b},wantedE es[i].guard (T i).1=some b→Region.wanted ops[i] (yielded ops a.tmps)=b:=fun hb=>wanted_iff (ops:=ops) hTR hE.guard (hwant.trans hb)
    have hd0: ∀ d,ops[i].dst=some d→d<nt:=fun d hd=>hdst es[i] (List.mem_of_getElem? hfi) d (by rw[hE.dst];exact hd)
    have hframe: ∀ q,look (put (FL es ts0 V (fun j=>listed.getD j false) es.length) ops[i].dst (V i)) q=look (FL es ts0 V (fun j=>(listed.setIfInBounds i true).getD j false) es.length) q:=by
     intro q
     have h1:=FL_add (es:=es) (ts:=ts0) (V:=V) (L:=fun j=>listed.getD j false) (i:=i) hLi (fun j hj hLj d hd hd'=> ?_) es.length
     ·have h1:=h1 q
      rw[if_pos hil,hei] at h1
      simp only[Option.bind_some,hE.dst] at h1
      rw[←h1]
      exact congrArg (fun f=>look f q) (FL_congr _ fun j hj=>(getD_set listed i j false (by omega)).symm)
     ·rw[hei] at hd
      simp only[Option.bind_some] at hd
      simp only[Option.bind_eq_some_iff] at hd'
      obtain ⟨y,hy,hyd⟩:=hd'
      have:=hord j y (sub hy) (by omega) (by rw[ordered_comm];exact apartE_spec hap hfi (sub hy) (by omega) hd (.inr hyd))
      have:=this.2 (by omega)
      have hLj':listed.getD j false=true:=hLj
      rw[this] at hLj'
      cases hLj'
    have hcl': ∀ j,(listed.setIfInBounds i true).getD j false=true→j<ops.size→ ∀ k∈pr.getD j [],(listed.setIfInBounds i true).getD k false=true:=by
     intro j hj hjn k hk'
     rw[getD_set _ _ _ _ (by omega)] at hj ⊢
     split
     ·rfl
     ·split at hj
      ·rename_i e;subst e;exact hpre k hk'
      ·exact hcl j hj hjn k hk'
    have hleft':left ops.size (listed.setIfInBounds i true)≤fuel:=by
     have:left ops.size (listed.setIfInBounds i true)<left ops.size listed:=by
      refine countP_lt (y:=i) (fun x hx h=> ?_) (by simp[hin]) (by simp[hli]) ?_
      ·rw[getD_set _ _ _ _ (by omega)] at h
       split at h
       ·simp at h
       ·exact h
      ·rw[getD_set _ _ _ _ (by omega)];simp
     omega
    have hjl': ∀ j,(listed.setIfInBounds i true).getD j false=true→j<es.length:=by
     intro j hj
     rw[getD_set _ _ _ _ (by omega)] at hj
     split at hj
     ·rename_i e;subst e;exact hil
     ·exact hjl0 j hj
    have hap0: ∀ d,ops[i].dst=some d→look (dropT fs ts0) d=none:=fun d hd=>apart_dropT fs ts0 es[i] (List.mem_of_getElem? hfi) d (by rw[hE.dst];exact hd)
    unfold wpOpIn
    rw[ho]
    simp only
    rcases hTr.st i _ hei with ⟨vi,h1,hVi,h2,h3⟩|⟨h1,h2,h3⟩
    ·rw[hwr h1,if_pos rfl]
     by_cases hld: ∃ n x,es[i].op= .ld n x
     ·-- a read
      obtain ⟨n',x',hx'⟩:=hld
      rw[hx',evOp_ld] at h2
      simp only[Option.map_eq_some_iff,Prod.mk.injEq] at h2
      obtain ⟨vv,h2,rfl,hst⟩:=h2
      have hR:rdE G (T i).1 (T m).2 n' x'=rdE G (T i).1 (T i).2 n' x':=by
       refine const_between (fun k=>rdE G (T i).1 (T k).2 n' x') m i fun j hj=> ?_
       by_cases hsame:(T (j+1)).2=(T j).2
       ·simp only[hsame]
       ·have hjl:j<es.length:=by rcases hj with ⟨h,_⟩|⟨_,h⟩<;>omega
        obtain ⟨e,he,hle,hall⟩:=hWop j hsame hjl
        have hne:j≠i:=by intro e;subst e;exact hsame hst.symm
        rcases hall i _ hfi (by rw[hx'];rfl) hne with ho2|⟨n2,x2,e1,e2⟩
        ·exfalso
         have ho2:=hord j e (sub he) hne ho2
         have hwl:=hWl j hjl hsame
         rcases hj with ⟨g1,g2⟩|⟨g1,g2⟩
         ·have:=ho2.2 (by omega);rw[hwl.2 g1] at this;cases this
         ·exact g1 (hwl.1 (ho2.1 g2))
        ·rw[hx'] at e1;injection e1 with e3 e4;subst e3 e4
         exact e2 i (by omega)
      have hval:x'.val G (FL es ts0 V (fun j=>listed.getD j false) es.length)=x'.val G (T i).1:=val_congr fun d hd=>hreadD d (by rw[hx'];exact hd)
      have hev:evOp G call (FL es ts0 V (fun j=>listed.getD j false) es.length) (T m).2 es[i].op=some (vv,(T m).2):=by
       rw[hx',evOp_ld,show rdE G (FL es ts0 V (fun j=>listed.getD j false) es.length) (T m).2 n' x'=rdE G (T i).1 (T m).2 n' x' from by simp only[rdE,hval],hR,h2];rfl
      refine op_does hW hTR hC hE.op hev r n _ _ fun C1 w1 v1 hr hW1 hs1=> ?_
      refine ih _ C1 m _ w1 (by simpa using hsz) hleft' hcl' ?_ (fun j hjl hj=> ?_) hmn hW1 (hs.trans hs1) (by cases ops[i].dst<;>exact hd) hjl' ((hTd.step hs1).put_apart (ds:=a.defers) hap0 v1)
      ·refine ((hTR.step hs1).put (ds:=a.defers) hd0 (q:=V i) (v:=v1) fun p hp=> ?_).ext fun d p hp=>by rw[hframe];exact hp
       rw[hVi] at hp;injection hp with hp;subst hp;exact hr
      ·rw[getD_set _ _ _ _ (by omega)]
       by_cases hne:j=i
       ·subst hne;exact absurd hst.symm hj
       ·rw[if_neg hne];exact hWl j hjl hj
     cases hloud:loud es[i].op with
     |true=>
      have hWi: ∀ j,j<es.length→(T (j+1)).2≠(T j).2→(j<m↔j<i):=by
       intro j hjl hj
       obtain ⟨e,he,hle,hall⟩:=hWop j hj hjl
       rw[←hWl j hjl hj]
       by_cases hne:j=i
       ·subst hne;simp[hLi]
       ·have ho2:=hord j e (sub he) hne ((hall i _ hfi hloud hne).resolve_right (fun ⟨n,x,h,_⟩=>hld ⟨n,x,h⟩))
        constructor
        ·intro hl
         rcases Nat.lt_or_ge j i with h|h
         ·exact h
         ·rw[ho2.2 h] at hl;cases hl
        ·exact ho2.1
      have hst:(T m).2=(T i).2:=by
       by_cases hle:m≤i
       ·have:=state_eq (T:=T) (i - m) m fun j g1 g2=>Classical.byContradiction fun hn'=>by have:=hWi j (by omega) hn';omega
        rw[show m+(i - m)=i from by omega] at this
        exact this.symm
       ·have:=state_eq (T:=T) (m - i) i fun j g1 g2=>Classical.byContradiction fun hn'=>by have:=hWi j (by omega) hn';omega
        rw[show i+(m - i)=m from by omega] at this
        exact this
      rw[hst] at hW
      have hev:evOp G call (FL es ts0 V (fun j=>listed.getD j false) es.length) (T i).2 es[i].op=some (vi,(T (i+1)).2):=by
       rw[evOp_congr hreadD];exact h2
      refine op_does hW hTR hC hE.op hev r n _ _ fun C1 w1 v1 hr hW1 hs1=> ?_
      refine ih _ C1 (i+1) _ w1 (by simpa using hsz) hleft' hcl' ?_ (fun j hjl hj=> ?_) (by omega) hW1 (hs.trans hs1) (by cases ops[i].dst<;>exact hd) hjl' ((hTd.step hs1).put_apart (ds:=a.defers) hap0 v1)
      ·refine ((hTR.step hs1).put (ds:=a.defers) hd0 (q:=V i) (v:=v1) fun p hp=> ?_).ext fun d p hp=>by rw[hframe];exact hp
       rw[hVi] at hp;injection hp with hp;subst hp;exact hr
      ·rw[getD_set _ _ _ _ (by omega)]
       by_cases hne:j=i
       ·subst hne;simp
       ·rw[if_neg hne,hWl j hjl hj,hWi j hjl hj];omega
     |false=>
      obtain ⟨g1,g2⟩:=evOp_still hloud h2
      have hev:evOp G call (FL es ts0 V (fun j=>listed.getD j false) es.length) (T m).2 es[i].op=some (vi,(T m).2):=by
       rw[evOp_congr hreadD];exact g2 _
      refine op_does hW hTR hC hE.op hev r n _ _ fun C1 w1 v1 hr hW1 hs1=> ?_
      refine ih _ C1 m _ w1 (by simpa using hsz) hleft' hcl' ?_ (fun j hjl hj=> ?_) hmn hW1 (hs.trans hs1) (by cases ops[i].dst<;>exact hd) hjl' ((hTd.step hs1).put_apart (ds:=a.defers) hap0 v1)
      ·refine ((hTR.step hs1).put (ds:=a.defers) hd0 (q:=V i) (v:=v1) fun p hp=> ?_).ext fun d p hp=>by rw[hframe];exact hp
       rw[hVi] at hp;injection hp with hp;subst hp;exact hr
      ·rw[getD_set _ _ _ _ (by omega)]
       by_cases hne:j=i
       ·subst hne;exact absurd g1 hj
       ·rw[if_neg hne];exact hWl j hjl hj
    ·rw[hwr h1,if_neg (by simp)]
     refine ⟨fun _ _=>trivial, ?_⟩
     refine ih _ C m _ w (by simpa using hsz) hleft' hcl' ?_ (fun j hjl hj=> ?_) hmn hW hs (by cases ops[i].dst<;>exact hd) hjl' (hTd.put_apart (ds:=a.defers) hap0 undef)
     ·refine (hTR.put (ds:=a.defers) hd0 (q:=V i) (v:=undef) fun p hp=> ?_).ext fun d p hp=>by rw[hframe];exact hp
      rw[h2] at hp;injection hp with hp;subst hp;exact .un _ _
     ·rw[getD_set _ _ _ _ (by omega)]
      by_cases hne:j=i
      ·subst hne;exact absurd h3 hj
      ·rw[if_neg hne];exact hWl j hjl hj
 have hb:Below w0.heap.size w0 {w0 with drawn:=w0.drawn+1}:=(Below.refl _ w0).drew
 refine wpIn_region_any hm (main ops.size _ C0 0 a0 _ (by simp) ?_ (fun j hj=> ?_) ?_ (fun j hjl hj=> ?_) (Nat.zero_le _) ?_ (.of_below hb C0) rfl (fun j hj=> ?_) ?_)
 ·unfold left;exact Nat.le_trans (List.countP_le_length) (by simp)
 ·rw[getD_repl] at hj;cases hj
 ·have:FL es ts0 V (fun j=>(Array.replicate ops.size false).getD j false) es.length=ts0:=by
   have: ∀ k,FL es ts0 V (fun j=>(Array.replicate ops.size false).getD j false) k=ts0:=by
    intro k
    induction k with
    |zero=>rfl
    |succ k ih=>
     simp only[FL]
     rw[if_neg,ih]
     rw[getD_repl];simp
   exact this _
  rw[this]
  exact hT0.step (.of_below hb C0)
 ·rw[getD_repl];simp
 ·rw[hT0'];exact hW0.of_below hb
 ·rw[getD_repl] at hj;cases hj
 ·exact (hT0.ext fun d p=>look_dropT).step (.of_below hb C0)
end
end Go.PE
