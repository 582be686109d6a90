/-
  Code and calls: what the evaluator says is what the program does. Conditions: each law's own.
-/
import Derived.Test.YteifnopejdiikaaDoorPE15
import Derived.Scope
import Derived.RangeFuncRecord
import Derived.Recover
namespace Go.PE
open Go Go.RowKit
set_option linter.unusedVariables false
set_option linter.unusedSimpArgs false
def XOut (C:Ctx) (w:World):EX→Exit→Prop
 | .normal,e=>e= .normal
 | .exit id,e=>e= .exit id
 | .ret,e=>e= .ret
 | .pan v,e=> ∃ u,Rep C w v u∧e= .panic [{v:=u,recovered:=false}]
def Marks (n:Nat) (C:Ctx) (w:World):List Deferred→Prop
 |[]=>True
 |d::ds=>(∃ D,d={target:= .collected D,args:= #[]}∧n≤D∧w.heap[D]?=some (.deferred (some []))∧(∀ l,C.m l≠some D)∧(∀ k fr,C.o k≠some (D,fr))∧ ∀ d'∈ds,d'.target≠ .collected D)∧Marks n C w ds
theorem Marks.step {n:Nat} {C C':Ctx} {w w':World} (hs:Step C w C' w'): ∀ {ds:List Deferred},Marks n C w ds→Marks n C' w' ds
 |[],_=>trivial
 |d::ds,h=>by
  obtain ⟨⟨D,h1,h2,h3,h4,h5,h6⟩,h7⟩:=h
  have hD:=(Array.getElem?_eq_some_iff.1 h3).1
  refine ⟨⟨D,h1,h2,by rw[hs.ext.same D hD h4 h5];exact h3,fun l hl=> ?_,fun k fr hk=> ?_,h6⟩,Marks.step hs h7⟩
  ·rcases hs.le.m2 l D hl with h|h|⟨l0,h,_⟩
   ·exact h4 l h
   ·omega
   ·exact h4 l0 h
  ·rcases hs.le.o1 k D fr hk with h|⟨fr0,h,_⟩
   ·omega
   ·exact h5 k fr0 h
theorem Marks.lt {n:Nat} {C:Ctx} {w:World}: ∀ {ds:List Deferred},Marks n C w ds→ ∀ d∈ds,∀ D,d.target= .collected D→D<w.heap.size
 |[],_,d,hd=>by cases hd
 |d0::ds,h,d,hd=>by
  obtain ⟨⟨D,h1,h2,h3,_⟩,h7⟩:=h
  cases hd with
  |head=>
   intro D' e
   rw[h1] at e;injection e with e;subst e
   exact (Array.getElem?_eq_some_iff.1 h3).1
  |tail _ hd=>exact h7.lt d hd
theorem Marks.app {n m:Nat} {C:Ctx} {w:World} (hnm:n≤m) {ds1:List Deferred} (h1:Marks n C w ds1) (hlt: ∀ d∈ds1,∀ D,d.target= .collected D→D<m): ∀ {ds2:List Deferred},Marks m C w ds2→Marks n C w (ds2++ds1)
 |[],_=>h1
 |d::ds,h=>by
  obtain ⟨⟨D,g1,g2,g3,g4,g5,g6⟩,g7⟩:=h
  refine ⟨⟨D,g1,by omega,g3,g4,g5,fun d' hd'=> ?_⟩,Marks.app hnm h1 hlt g7⟩
  rcases List.mem_append.1 hd' with hd'|hd'
  ·exact g6 d' hd'
  ·intro e;have:=hlt d' hd' D e;omega
def Df (nr:Bool) (n:Nat) (C:Ctx) (w:World) (ds ds':List Deferred):Prop:= ∃ ms,ds'=ms++ds∧Marks n C w ms∧(nr=true→ms=[])
theorem Df.refl {nr:Bool} {n:Nat} {C:Ctx} {w:World} {ds ds':List Deferred} (h:ds'=ds):Df nr n C w ds ds':=⟨[],by simp[h],trivial,fun _=>rfl⟩
theorem Df.trans {p q r:Bool} {C:Ctx} {w0 w1:World} {C2:Ctx} {w2:World} {ds ds1 ds2:List Deferred} (h:Df p w0.heap.size C w1 ds ds1) (hs:Step C w1 C2 w2) (hle:w0.heap.size≤w1.heap.size) (k:Df q w1.heap.size C2 w2 ds1 ds2) (hr:r=true→p=true∧q=true):Df r w0.heap.size C2 w2 ds ds2:=by
 obtain ⟨ms1,e1,h1,n1⟩:=h
 obtain ⟨ms2,e2,h2,n2⟩:=k
 refine ⟨ms2++ms1,by rw[e2,e1,List.append_assoc],Marks.app hle (h1.step hs) h1.lt h2,fun h=> ?_⟩
 rw[n1 (hr h).1,n2 (hr h).2];rfl
theorem Df.weak {p r:Bool} {n:Nat} {C:Ctx} {w:World} {ds ds':List Deferred} (h:Df p n C w ds ds') (hr:r=true→p=true):Df r n C w ds ds':=by
 obtain ⟨ms,e,h1,h2⟩:=h
 exact ⟨ms,e,h1,fun h=>h2 (hr h)⟩
theorem Df.to {p:Bool} {n:Nat} {C C':Ctx} {w w':World} {ds ds':List Deferred} (h:Df p n C w ds ds') (hs:Step C w C' w'):Df p n C' w' ds ds':=by
 obtain ⟨ms,e,h1,h2⟩:=h
 exact ⟨ms,e,h1.step hs,h2⟩
theorem nr_strip: ∀ c:EC,(strip c).nr=c.nr:=by
 intro c
 induction c<;>simp_all [strip,EC.nr]
theorem wpIn_loop_n {F:Fence} {q:Nat} {P:Program} {Q:Exit→Act→World→Prop} {c:Code} (I:Nat→Act→World→Prop) (round: ∀ n a w,I n a w→c.wpIn F q P (Exit.then (fun a' w'=> ∃ m,m<n∧I m a' w') Q) a w) {n:Nat} {a:Act} {w:World} (h0:I n a w):(Code.loop c).wpIn F q P Q a w:=by
 intro b k cs hro hb hr
 have key: ∀ n a w,I n a w→ ∃ e a' w',Q e a' w'∧ArrivesIn (Machine.fenced P F) P (lone (b.atR a (.code c:: .inLoop c::k)) cs w) b k cs e a' w':=by
  intro n
  induction n using Nat.strongRecOn with
  |_ n ih=>
   intro a w hI
   obtain ⟨e,a₁,w₁,hq,harr⟩:=round n a w hI b (.inLoop c::k) cs hro hb hr
   cases e with
   |normal=>
    obtain ⟨m,hm,hI₁⟩:=hq
    obtain ⟨e₂,a₂,w₂,hq₂,harr₂⟩:=ih m hm a₁ w₁ hI₁
    exact ⟨e₂,a₂,w₂,hq₂,.of_steps (StepsIn.trans harr (.one (fenced_calm hb hr rfl) stepR_inLoop)) harr₂⟩
   |exit id=>exact ⟨_,a₁,w₁,hq,.pass (x:= .inLoop c) rfl (fun _ _=> .inl (by simp)) harr⟩
   |goto l=>exact ⟨_,a₁,w₁,hq,.pass (x:= .inLoop c) rfl (fun _ _=> .inl (by simp)) harr⟩
   |ret=>exact ⟨_,a₁,w₁,hq,.pass (x:= .inLoop c) rfl (fun _ _=> .inl (by simp)) harr⟩
   |panic ch=>exact ⟨_,a₁,w₁,hq,.pass (x:= .inLoop c) rfl (fun _ _=> .inl (by simp)) harr⟩
   |outgrown=>exact ⟨_,a₁,w₁,hq,.pass (x:= .inLoop c) rfl (fun _ _=> .inl (by simp)) harr⟩
 obtain ⟨e,a',w',hq,harr⟩:=key _ a w h0
 exact ⟨e,a',w',hq,.of_steps (.one (fenced_calm hb hr rfl) stepR_loop) harr⟩
theorem stepR_scope {P:Program} {b:Frame} {a:Act} {k:List Item} {cs:List Frame} {w:World} {c:Code}:step P (lone (b.atR a (.code (.scope c)::k)) cs w)= .next (lone (b.atR a (.code c:: .inScope c::k)) cs w):=
 step_lone_go (by simp[stepG,stepG.exec,Frame.atR])
theorem stepR_inScope {P:Program} {b:Frame} {a:Act} {k:List Item} {cs:List Frame} {w:World} {c:Code}:step P (lone (b.atR a (.inScope c::k)) cs w)= .next (lone (b.atR a k) cs w):=
 step_lone_go (by simp[stepG,stepG.exec,Frame.atR])
theorem wpIn_scope {F:Fence} {q:Nat} {P:Program} {Q:Exit→Act→World→Prop} {a:Act} {w:World} {c:Code} (h:c.wpIn F q P (Exit.noGoto Q) a w):(Code.scope c).wpIn F q P Q a w:=by
 intro b k cs hro hb hr
 have h0:(lone (b.atR a (.code (.scope c)::k)) cs w).fenced P F:=fenced_calm hb hr rfl
 obtain ⟨e,a₁,w₁,hq,harr⟩:=h b (.inScope c::k) cs hro hb hr
 have hx: ∀ id,exitTo id (.inScope c::k)=exitTo id k:=fun id=>by simp[exitTo]
 cases e with
 |normal=>exact ⟨.normal,a₁,w₁,hq,.head h0 stepR_scope (StepsIn.trans harr (.one (fenced_calm hb hr rfl) stepR_inScope))⟩
 |exit id=>
  exact ⟨.exit id,a₁,w₁,hq,fun k' hk=> .head h0 stepR_scope (harr.1 k' (by rw[hx];exact hk)),
   fun hr' hk=>let ⟨k₁,h1,h2⟩:=harr.2 hr' (by rw[hx];exact hk);⟨k₁,h1,.head h0 stepR_scope h2⟩⟩
 |goto l=>exact hq.elim
 |ret=>exact ⟨_,a₁,w₁,hq,.of_steps (.one h0 stepR_scope) harr⟩
 |panic ch=>exact ⟨_,a₁,w₁,hq,.of_steps (.one h0 stepR_scope) harr⟩
 |outgrown=>exact ⟨_,a₁,w₁,hq,.of_steps (b:=b) (k:=k) (cs:=cs) (e:= .outgrown) (.one h0 stepR_scope) harr⟩
structure EnvOk (P:Program) (E:Env):Prop where
 mixed:P.follows .mixedOrders=true
 prog:E.G.prog=P
 tab : ∀ f c, E.tab f = some c → f < yid ∧ ∃ fn, P.funcs[f]? = some fn ∧ cFn P fn = some c.strip ∧ (fn.name == "runtime.NumGoroutine") = false
 known: ∀ f F,E.known f=some F→ ∃ g,(f=g∧g<yid∨f=yid+1+g)∧Enter P g∧ ∀ args S r S',F args S=some (r,S')→CallSpec P E.G g args S r S'
def EvOk (P:Program) (E:Env) (n:Nat):Prop:=
 ∀ (nt:Nat) (code:Code) (c:EC),cCode P nt code=some (strip c)→ ∀ (ts:Tmps) (S:St) (K:Kont (PV×St)) (r:PV×St),(lvl E n).ev c ts S K=some r→
  ∀ (fr:Option Nat) (q:Nat) (C:Ctx) (a:Act) (w:World) (Q:Exit→Act→World→Prop),(fr≠none→c.nr=true)→WRel E.G C S w→TR nt C w ts a.tmps→
   (∀ x ts' S' C' a' w' e,K x ts' S'=some r→XOut C' w' x e→TR nt C' w' ts' a'.tmps→WRel E.G C' S' w'→Step C w C' w'→Df c.nr w.heap.size C' w' a.defers a'.defers→Q e a' w')→code.wpIn (FF fr) q P Q a w
theorem run_enterLoop (P:Program) (w:World) (fn:FuncId) (tmps:Array Value) (ps:Array Tmp) (assign body:Code):
  (Instr.enterLoop fn tmps ps assign body none).run P w=
   .ok (w.heap.size+1,[{target:= .collected w.heap.size,args:= #[]}])
    {{w with heap:=w.heap.push (.deferred (some []))} with heap:=(w.heap.push (.deferred (some []))).push (.loop {state:= .ready,pending:=none,fn,tmps,params:=ps,assign,body,defers:=w.heap.size})}:=run_enterLoop_outer fn tmps ps assign body
theorem lst_busy {n:Nat} (h:n≠1):lst n≠ .busy:=by
 match n,h with
 |0,_=>simp[lst]
 |1,h=>exact absurd rfl h
 |2,_=>simp[lst]
 |n+3,_=>simp[lst]
theorem WRel.loopAt {G:Glob} {C:Ctx} {S:St} {w:World} (hW:WRel G C S w) {l b:Nat} {r:ELoop} (h:S.obs[l]?=some (.loop r)) (hm:C.m l=some b∨C.d l=true):
  C.m l=some b∧b<w.heap.size∧ObAt G C w l b (.loop r):=hW.live h (by simp) hm
theorem loop_turn {G:Glob} {C:Ctx} {S:St} {w:World} (hW:WRel G C S w) {l b:Nat} {r:ELoop} (hm:C.m l=some b) {L:Loop} {nt:Nat} (h1:w.heap[b]?=some (.loop L)) (h4:L.params.toList=r.ps) (h5:(∀ t∈r.ps,t<nt)∧r.asg.nr=true∧r.bd.nr=true)
  (h6:cCode G.prog nt L.assign=some (strip r.asg)) (h7:cCode G.prog nt L.body=some (strip r.bd)) (h8:TR nt C w r.ts L.tmps) (st:Nat) (pend:Option (Option Nat)) (st':LoopState) (pend':Option Code) (e1:st'=lst st) (e2:pend'=pendC pend):
  Step C w C (w.putObj b (.loop {L with state:=st',pending:=pend'}))∧WRel G C {S with obs:=S.obs.set l (.loop {r with st:=st,pend:=pend})} (w.putObj b (.loop {L with state:=st',pending:=pend'})):=by
 have hlt:=hW.m_lt hm
 have h5': ∀ k,k≠b→(w.putObj b (.loop {L with state:=st',pending:=pend'})).heap[k]?=w.heap[k]?:=fun k hk=>World.putObj_heap_other hk
 have hs:Step C w C (w.putObj b (.loop {L with state:=st',pending:=pend'})):=step_turn hW hm rfl rfl rfl World.putObj_size h5'
 exact ⟨hs,wrel_turn hW hm hs World.putObj_size h5' (by simp) ⟨_,nt,World.putObj_heap_same hlt,e1,e2,h4,h5,h6,h7,h8.step hs⟩⟩
theorem ev_ok {P:Program} {E:Env} (hE:EnvOk P E) (n:Nat) (ihC:CallOk P E.G (lvl E n).call) (ihP:PanOk P E.G (lvl E n).pan) (ihE: ∀ m,m≤n→EvOk P E m):EvOk P E (n+1):=by
 intro nt code
 induction code with
 |skip=>
  intro c hc ts S K r hv fr q C a w Q hnr hW hT hk
  cases c<;>simp[cCode,strip] at hc
  simp only[lvl,ev] at hv
  exact wpIn_skip (hk .normal ts S C a w _ hv rfl hT hW (.refl C w) (.refl rfl))
 |region id ops draw=>
  intro c hc ts S K r hv fr q C a w Q hnr hW hT hk
  simp only[cCode,Option.map_eq_some_iff] at hc
  obtain ⟨l0,hl,hc⟩:=hc
  cases c<;>simp[strip] at hc
  ·rename_i id' l draw' keep
   obtain ⟨rfl,rfl,rfl⟩:=hc
   simp only[lvl,ev] at hv
   split at hv
   ·rename_i ts' S' hops
    cases draw with
    |false=>exact reg_wp ihC hl hW hT hops fun C' a' w' h1 h2 h3 h4=>hk .normal _ S' C' a' w' _ hv rfl (h1.sel keep) h2 h3 (.refl h4)
    |true=>exact draw_wp ihC hE.mixed hl hW hT hops fun C' a' w' h1 h2 h3 h4=>hk .normal _ S' C' a' w' _ hv rfl (h1.sel keep) h2 h3 (.refl h4)
   ·cases hv
  ·rename_i id' l draw' keep
   obtain ⟨rfl,rfl,rfl⟩:=hc
   simp only[lvl,ev] at hv
   split at hv
   ·rename_i ts' S' hops
    cases draw with
    |false=>exact reg_wp ihC hl hW hT hops fun C' a' w' h1 h2 h3 h4=>hk .normal _ S' C' a' w' _ hv rfl (h1.sel keep) h2 h3 (.refl h4)
    |true=>exact draw_wp ihC hE.mixed hl hW hT hops fun C' a' w' h1 h2 h3 h4=>hk .normal _ S' C' a' w' _ hv rfl (h1.sel keep) h2 h3 (.refl h4)
   ·split at hv
    ·rename_i v S' hops
     cases draw with
     |false=>exact regPan_wp ihC ihP hl hW hT hops fun C' a' w' u h1 h2 h3 h4 h5=>hk (.pan v) _ S' C' a' w' _ hv ⟨u,h2,rfl⟩ h1 h3 h4 (.refl h5)
     |true=>exact drawPan_wp ihC ihP hE.mixed hl hW hT hops fun C' a' w' u h1 h2 h3 h4 h5=>hk (.pan v) _ S' C' a' w' _ hv ⟨u,h2,rfl⟩ h1 h3 h4 (.refl h5)
    ·cases hv
 |seq x y ihx ihy=>
  intro c hc ts S K r hv fr q C a w Q hnr hW hT hk
  simp only[cCode,Option.bind_eq_some_iff,Option.map_eq_some_iff] at hc
  obtain ⟨cx',hx,cy',hy,hc⟩:=hc
  cases c<;>simp[strip] at hc
  rename_i cx cy
  obtain ⟨rfl,rfl⟩:=hc
  have hv':(lvl E (n+1)).ev cx ts S (fun x ts S=>match x with| .normal=>(lvl E (n+1)).ev cy ts S K|x=>K x ts S)=some r:=hv
  have hand: ∀ {p q:Bool},(p&&q)=true→p=true∧q=true:=fun h=>by simpa using h
  refine wpIn_seq (ihx cx hx ts S _ r hv' fr q C a w _ (fun h=>(hand (hnr h)).1) hW hT fun x ts' S' C' a' w' e hK hX hT' hW' hs hd=> ?_)
  cases x with
  |normal=>
   cases (show e= .normal from hX)
   exact ihy cy hy ts' S' K r hK fr q C' a' w' Q (fun h=>(hand (hnr h)).2) hW' hT' fun x2 ts2 S2 C2 a2 w2 e2 h1 hX2 h2 h3 h4 h5=>hk x2 ts2 S2 C2 a2 w2 e2 h1 hX2 h2 h3 (hs.trans h4) (hd.trans h4 hs.ext.size h5 hand)
  |exit id=>cases (show e= .exit id from hX);exact hk (.exit id) ts' S' C' a' w' _ hK rfl hT' hW' hs (hd.weak fun h=>(hand h).1)
  |ret=>cases (show e= .ret from hX);exact hk .ret ts' S' C' a' w' _ hK rfl hT' hW' hs (hd.weak fun h=>(hand h).1)
  |pan v=>
   obtain ⟨u,hu,rfl⟩:=hX
   exact hk (.pan v) ts' S' C' a' w' _ hK ⟨u,hu,rfl⟩ hT' hW' hs (hd.weak fun h=>(hand h).1)
 |cond x a1 b1 iha ihb=>
  intro c hc ts S K r hv fr q C a w Q hnr hW hT hk
  simp only[cCode,Option.bind_eq_some_iff,Option.map_eq_some_iff] at hc
  obtain ⟨ex',hx,ca',ha,cb',hb,hc⟩:=hc
  cases c<;>simp[strip] at hc
  rename_i ex ca cb
  obtain ⟨rfl,rfl,rfl⟩:=hc
  have hand: ∀ {p q:Bool},(p&&q)=true→p=true∧q=true:=fun h=>by simpa using h
  simp only[lvl,ev] at hv
  split at hv
  ·rename_i t ht
   have e:=(opd_rep hW hT hx ht).bool_inv
   cases t with
   |true=>exact wpIn_cond_true e (iha ca ha ts S K r (by rw[if_pos rfl] at hv;exact hv) fr q C a w Q (fun h=>(hand (hnr h)).1) hW hT fun x ts' S' C' a' w' e h1 h2 h3 h4 h5 h6=>hk x ts' S' C' a' w' e h1 h2 h3 h4 h5 (h6.weak fun h=>(hand h).1))
   |false=>exact wpIn_cond_false e (ihb cb hb ts S K r (by rw[if_neg (by simp)] at hv;exact hv) fr q C a w Q (fun h=>(hand (hnr h)).2) hW hT fun x ts' S' C' a' w' e h1 h2 h3 h4 h5 h6=>hk x ts' S' C' a' w' e h1 h2 h3 h4 h5 (h6.weak fun h=>(hand h).2))
  ·cases hv
 |block id x ih=>
  intro c hc ts S K r hv fr q C a w Q hnr hW hT hk
  simp only[cCode,Option.map_eq_some_iff] at hc
  obtain ⟨cx',hx,hc⟩:=hc
  cases c<;>simp[strip] at hc
  rename_i id' cx
  obtain ⟨rfl,rfl⟩:=hc
  have hv':(lvl E (n+1)).ev cx ts S (fun x ts S=>match x with| .exit id'=>if id'=id then K .normal ts S else K (.exit id') ts S|x=>K x ts S)=some r:=hv
  refine wpIn_block (ih cx hx ts S _ r hv' fr q C a w _ hnr hW hT fun x ts' S' C' a' w' e hK hX hT' hW' hs hd=> ?_)
  cases x with
  |normal=>cases (show e= .normal from hX);exact hk .normal ts' S' C' a' w' _ hK rfl hT' hW' hs hd
  |ret=>cases (show e= .ret from hX);exact hk .ret ts' S' C' a' w' _ hK rfl hT' hW' hs hd
  |pan v=>
   obtain ⟨u,hu,rfl⟩:=hX
   exact hk (.pan v) ts' S' C' a' w' _ hK ⟨u,hu,rfl⟩ hT' hW' hs hd
  |exit id'=>
   cases (show e= .exit id' from hX)
   simp only at hK
   show Exit.inBlock id Q (.exit id') a' w'
   unfold Exit.inBlock
   split at hK
   ·rename_i e;simp only[if_pos e];exact hk .normal ts' S' C' a' w' _ hK rfl hT' hW' hs hd
   ·rename_i e;simp only[if_neg e];exact hk (.exit id') ts' S' C' a' w' _ hK rfl hT' hW' hs hd
 |loop x ih=>
  intro c hc ts S K r hv fr q C a w Q hnr hW hT hk
  simp only[cCode,Option.map_eq_some_iff] at hc
  obtain ⟨cx',hx,hc⟩:=hc
  cases c<;>simp[strip] at hc
  rename_i keep cx
  subst hc
  refine wpIn_loop_n (n:=n+1) (fun k a1 w1=> ∃ C1 ts1 S1,k≤n+1∧WRel E.G C1 S1 w1∧TR nt C1 w1 ts1 a1.tmps∧(lvl E k).ev (.loop keep cx) ts1 S1 K=some r∧Step C w C1 w1∧Df cx.nr w.heap.size C1 w1 a.defers a1.defers) ?_ ⟨C,ts,S,Nat.le_refl _,hW,hT,hv,.refl C w,.refl rfl⟩
  rintro k a1 w1 ⟨C1,ts1,S1,hkn,hW1,hT1,hv1,hs1,hd1⟩
  cases k with
  |zero=>simp[lvl] at hv1
  |succ k=>
   have hv1':(lvl E (k+1)).ev cx (sel keep ts1) S1 (fun x ts S=>match x with| .normal=>(lvl E k).ev (.loop keep cx) ts S K|x=>K x ts S)=some r:=hv1
   have hbody: ∀ (ts:Tmps) (S:St) (K:Kont (PV×St)) (r:PV×St),(lvl E (k+1)).ev cx ts S K=some r→ ∀ (fr:Option Nat) (q:Nat) (C:Ctx) (a:Act) (w:World) (Q:Exit→Act→World→Prop),(fr≠none→cx.nr=true)→WRel E.G C S w→TR nt C w ts a.tmps→
     (∀ x ts' S' C' a' w' e,K x ts' S'=some r→XOut C' w' x e→TR nt C' w' ts' a'.tmps→WRel E.G C' S' w'→Step C w C' w'→Df cx.nr w.heap.size C' w' a.defers a'.defers→Q e a' w')→x.wpIn (FF fr) q P Q a w:=by
    by_cases hkn':k=n
    ·subst hkn';exact ih cx hx
    ·exact ihE (k+1) (by omega) nt x cx hx
   refine hbody _ S1 _ r hv1' fr q C1 a1 w1 _ hnr hW1 (hT1.sel keep) fun x ts' S' C' a' w' e hK hX hT' hW' hs hd=> ?_
   have hdd:Df cx.nr w.heap.size C' w' a.defers a'.defers:=hd1.trans hs hs1.ext.size hd fun h=>⟨h,h⟩
   cases x with
   |normal=>cases (show e= .normal from hX);exact ⟨k,by omega,C',ts',S',by omega,hW',hT',hK,hs1.trans hs,hdd⟩
   |exit id=>cases (show e= .exit id from hX);exact hk (.exit id) ts' S' C' a' w' _ hK rfl hT' hW' (hs1.trans hs) hdd
   |ret=>cases (show e= .ret from hX);exact hk .ret ts' S' C' a' w' _ hK rfl hT' hW' (hs1.trans hs) hdd
   |pan v=>
    obtain ⟨u,hu,rfl⟩:=hX
    exact hk (.pan v) ts' S' C' a' w' _ hK ⟨u,hu,rfl⟩ hT' hW' (hs1.trans hs) hdd
 |exit id=>
  intro c hc ts S K r hv fr q C a w Q hnr hW hT hk
  cases c<;>simp[cCode,strip] at hc
  subst hc
  simp only[lvl,ev] at hv
  exact wpIn_exit (hk (.exit id) ts S C a w _ hv rfl hT hW (.refl C w) (.refl rfl))
 |ret=>
  intro c hc ts S K r hv fr q C a w Q hnr hW hT hk
  cases c<;>simp[cCode,strip] at hc
  simp only[lvl,ev] at hv
  exact wpIn_ret (hk .ret ts S C a w _ hv rfl hT hW (.refl C w) (.refl rfl))
 |label l=>
  intro c hc ts S K r hv fr q C a w Q hnr hW hT hk
  cases c<;>simp[cCode,strip] at hc
  simp only[lvl,ev] at hv
  exact wpIn_label (hk .normal ts S C a w _ hv rfl hT hW (.refl C w) (.refl rfl))
 |scope x ih=>
  intro c hc ts S K r hv fr q C a w Q hnr hW hT hk
  simp only[cCode] at hc
  refine wpIn_scope (ih c hc ts S K r hv fr q C a w _ hnr hW hT fun x ts' S' C' a' w' e h1 h2 h3 h4 h5 h6=> ?_)
  have:=hk x ts' S' C' a' w' e h1 h2 h3 h4 h5 h6
  cases x with
  |normal=>cases (show e= .normal from h2);exact this
  |exit id=>cases (show e= .exit id from h2);exact this
  |ret=>cases (show e= .ret from h2);exact this
  |pan v=>obtain ⟨u,hu,rfl⟩:=h2;exact this
 |rangeFunc g ps asg bd iha ihb=>
  intro c hc ts S K r hv fr q C a w Q hnr hW hT hk
  simp only[cCode] at hc
  split at hc
  ·cases hc
  rename_i hps
  simp only[Option.bind_eq_some_iff] at hc
  obtain ⟨eg',hg,ca',ha,cb',hb,hc⟩:=hc
  split at hc
  ·rename_i hnn
   injection hc with hc
   cases c<;>simp[strip] at hc
   rename_i keep eg ps' ca cb
   obtain ⟨rfl,rfl,rfl,rfl⟩:=hc
   rw[nr_strip,nr_strip] at hnn
   have hnn:ca.nr=true∧cb.nr=true:=by simpa using hnn
   have hfr:fr=none:=by
    cases fr with
    |none=>rfl
    |some l=>have:=hnr (by simp);simp[EC.nr] at this
   subst hfr
   simp only[lvl,ev] at hv
   split at hv
   ·rename_i f first caps hgv
    split at hv
    ·rename_i rv S2 hcall
     split at hv
     ·rename_i rl hrl
      split at hv
      ·cases hv
      ·rename_i hst
       have hflt:=fn_lt hW hT hg hgv
       obtain ⟨hEn,hSpec⟩:=ihC.fn _ _ _ _ _ hflt hcall
       have rf:=opd_rep hW hT hg hgv
       generalize eu:a.eval g=u at rf
       cases rf with|fn f first caps first' caps' hf0 e1 e2 r1 r2=>
       refine wpIn_rangeFunc fun fn _=> ?_
       have hba:=below_push w (.deferred (some []))
       generalize hwa:({w with heap:=w.heap.push (.deferred (some []))}:World)=wa at hba
       have hwas:wa.heap.size=w.heap.size+1:=by rw[←hwa];simp
       have hWa:=hW.of_below hba
       have hsa:=Step.of_below hba C
       let Lr:Loop:={state:= .ready,pending:=none,fn:=fn,tmps:=a.tmps,params:=ps,assign:=asg,body:=bd,defers:=w.heap.size}
       have hbb:=below_push wa (.loop Lr)
       generalize hwb:({wa with heap:=wa.heap.push (.loop Lr)}:World)=wb at hbb
       have hwbs:wb.heap.size=wa.heap.size+1:=by rw[←hwb];simp
       have hwbL:wb.heap[wa.heap.size]?=some (.loop Lr):=by rw[←hwb];simp
       have hsb:=step_add hWa hbb 0
       have hWb:=wrel_add hWa hbb (by omega) (z:=0) (ob:= .loop ⟨ps.toList,ca,cb,sel keep ts,0,none⟩) (by simp)
        ⟨Lr,nt,hwbL,rfl,rfl,rfl,⟨fun t ht=>by
         have:=hps
         simp only[Bool.not_eq_true',Bool.not_eq_false,List.all_eq_true,decide_eq_true_eq] at this
         exact this t ht,hnn⟩,by rw[hE.prog];exact ha,by rw[hE.prog];exact hb,((hT.sel keep).step hsa).step hsb⟩
       have hm1:(C.add S.obs.length wa.heap.size 0).m S.obs.length=some wa.heap.size:=by rw[Ctx.add_m,if_pos rfl]
       have rfirst:RepL C w first first'.toList:=⟨by simpa using e1,fun i p v hp hv=>r1 i p v hp (by simpa using hv)⟩
       have rcaps:RepL C w caps caps'.toList:=⟨by simpa using e2,fun i p v hp hv=>r2 i p v hp (by simpa using hv)⟩
       have stL: ∀ {l:List PV} {vs:List Value},RepL C w l vs→RepL (C.add S.obs.length wa.heap.size 0) wb l vs:=fun h=>⟨h.1,fun i p v hp hv=>((h.2 i p v hp hv).step hsa).step hsb⟩
       have ryld:RepL (C.add S.obs.length wa.heap.size 0) wb [.yld S.obs.length] [.func (.yield wa.heap.size) #[] #[]]:=⟨rfl,fun i p v hp hv=>by
        cases i with
        |zero=>simp at hp hv;subst hp hv;exact .yld _ _ (.inl hm1)
        |succ i=>simp at hp⟩
       have rall:=((stL rfirst).append ryld).append (stL rcaps)
       have hcalls:=hSpec _ wb _ hWb rall
       refine ⟨wa.heap.size,[{target:= .collected w.heap.size,args:= #[]}],wb,{target:= .fn (.func f) caps',args:=first'++ #[.func (.yield wa.heap.size) #[] #[]]},wb,f,first'++ #[.func (.yield wa.heap.size) #[] #[]]++caps',wb, ?_, ?_,fun _ _=>trivial, ?_,fun h=>(by cases h), ?_⟩
       ·show (Instr.enterLoop fn a.tmps ps asg bd none).run P w=_
        rw[run_enterLoop,←hwb,hwas]
        subst hwa
        rfl
       ·simp only[resolve,rangeCall,eu,Sem.run_bind,Sem.run_pure,Result.andThen_ok,Deferred.ofValue]
        simp[Act.eval]
       ·simp only[invoke,callFunc_run hEn]
       ·have harr:(first'.toList++[Value.func (.yield wa.heap.size) #[] #[]]++caps'.toList).toArray=first'++ #[.func (.yield wa.heap.size) #[] #[]]++caps':=by
         rw[←Array.toList_inj];simp
        rw[harr] at hcalls
        refine callsFF (hcalls.mono fun e w2 h=> ?_)
        obtain ⟨C2,v2,rfl,hr2,hW2,hs2⟩:=h
        have hm2:=hs2.le.m1 _ _ hm1
        obtain ⟨hm2,hlt2,L2,nt2,g1,g2,g3,g4,g5,g6,g7,g8⟩:=hW2.loopAt hrl hm2
        have hend:=run_endLoop (P:=P) g1 (by rw[g2];exact lst_busy hst)
        obtain ⟨hs3,hW3⟩:=loop_turn hW2 hm2 g1 g4 g5 g6 g7 g8 3 rl.pend .exhausted L2.pending rfl g3
        have hs3':Step C2 w2 C2 (w2.putObj wa.heap.size (.loop {L2 with state:= .exhausted})):=hs3
        have hW3':WRel E.G C2 {S2 with obs:=S2.obs.set S.obs.length (.loop {rl with st:=3})} (w2.putObj wa.heap.size (.loop {L2 with state:= .exhausted})):=hW3
        generalize (w2.putObj wa.heap.size (.loop {L2 with state:= .exhausted}))=wf at hs3' hW3' hend
        generalize ({S2 with obs:=S2.obs.set S.obs.length (.loop {rl with st:=3})}:St)=Sf at hW3' hv
        refine ⟨L2.pending,wf,hend, ?_⟩
        have hsall:Step C w C2 wf:=((hsa.trans hsb).trans hs2).trans hs3'
        have hTall:TR nt C2 wf (sel keep ts) a.tmps:=(hT.sel keep).step hsall
        have hWall:WRel E.G C2 Sf wf:=hW3'
        have hD0:wb.heap[w.heap.size]?=some (.deferred (some [])):=by
         rw[←hwb,←hwa]
         simp only[Array.getElem?_push,Array.size_push]
         rw[if_neg (by omega)];simp
        have hDm: ∀ l,(C.add S.obs.length wa.heap.size 0).m l≠some w.heap.size:=by
         intro l hl
         rw[Ctx.add_m] at hl
         split at hl
         ·injection hl with hl;omega
         ·have:=hW.m_lt hl;omega
        have hDo: ∀ k fr,(C.add S.obs.length wa.heap.size 0).o k≠some (w.heap.size,fr):=by
         intro k fr hk
         have:=(hW.odom k _ fr hk).2;omega
        have hmk:Marks w.heap.size C2 wf [{target:= .collected w.heap.size,args:= #[]}]:=by
         have h0:Marks w.heap.size (C.add S.obs.length wa.heap.size 0) wb [{target:= .collected w.heap.size,args:= #[]}]:=⟨⟨_,rfl,Nat.le_refl _,hD0,hDm,hDo,by simp⟩,trivial⟩
         exact (h0.step hs2).step hs3'
        have hdf:Df (EC.rangeF keep eg' ps.toList ca cb).nr w.heap.size C2 wf a.defers ([{target:= .collected w.heap.size,args:= #[]}]++a.defers):=⟨_,rfl,hmk,fun h=>by simp[EC.nr] at h⟩
        cases hpd:rl.pend with
        |none=>
         rw[hpd] at hv g3
         rw[show L2.pending=none from g3]
         exact hk .normal _ _ C2 _ _ _ hv rfl hTall hWall hsall hdf
        |some pd=>
         cases pd with
         |none=>
          rw[hpd] at hv g3
          rw[show L2.pending=some .ret from g3]
          exact wpIn_ret (hk .ret _ _ C2 _ _ _ hv rfl hTall hWall hsall hdf)
         |some id=>
          rw[hpd] at hv g3
          rw[show L2.pending=some (.exit id) from g3]
          exact wpIn_exit (hk (.exit id) _ _ C2 _ _ _ hv rfl hTall hWall hsall hdf)
     ·cases hv
    ·cases hv
   ·cases hv
  ·cases hc
 |_=>intro c hc;simp[cCode] at hc
theorem look_frameOf: ∀ (l:List PV) (i d:Nat) (p:PV),look (frameOf i l) d=some p→i≤d∧l[d - i]?=some p
 |[],i,d,p,h=>by simp[frameOf,look] at h
 |v::l,i,d,p,h=>by
  simp only[frameOf,look] at h
  split at h
  ·rename_i e;subst e;simp at h;subst h;simp
  ·rename_i e
   obtain ⟨h1,h2⟩:=look_frameOf l (i+1) d p h
   refine ⟨by omega, ?_⟩
   rw[show d - i=(d - (i+1))+1 from by omega]
   simpa using h2
theorem resVs_run {nt:Nat} {P:Program} {G:Glob} {C:Ctx} {S:St} {w:World} {ts:Tmps} {tmps:Array Value} (hW:WRel G C S w) (hT:TR nt C w ts tmps): ∀ {rs:List ResultVar} {es:List ERes} {vs:List PV},rs.mapM (cRes P)=some es→resVs ts S es=some vs→
  ∃ us:List Value,(rs.mapM (m:=Sem) fun| .tmp t=>pure (tmps.getD t undef)| .cell a t=>do loadVar t (←asAddr (tmps.getD a undef))).run P w= .ok us w∧RepL C w vs us
 |[],es,vs,h,hv=>by
  simp at h;subst h
  simp[resVs] at hv;subst hv
  exact ⟨[],rfl,rfl,by simp⟩
 |x::rs,es,vs,h,hv=>by
  rw[List.mapM_cons] at h
  simp only[bind,Option.bind_eq_some_iff,pure,Option.some.injEq] at h
  obtain ⟨e,he,es',hes,rfl⟩:=h
  simp only[resVs,Option.bind_eq_some_iff,Option.map_eq_some_iff] at hv
  obtain ⟨p,hp,ps,hps,rfl⟩:=hv
  obtain ⟨us,hus,hr⟩:=resVs_run hW hT hes hps
  have key: ∃ u,((match x with| .tmp t=>pure (tmps.getD t undef)| .cell a t=>do loadVar t (←asAddr (tmps.getD a undef)):Sem Value)).run P w= .ok u w∧Rep C w p u:=by
   cases x with
   |tmp t=>
    simp[cRes] at he;subst he
    exact ⟨_,rfl,hT.getD hp⟩
   |cell ad t=>
    simp only[cRes,Option.map_eq_some_iff] at he
    obtain ⟨n,hn,rfl⟩:=he
    simp only[resV,Option.bind_eq_some_iff] at hp
    obtain ⟨q,hq,cs,hcs,hp⟩:=hp
    obtain ⟨b,off,e,v',h1,h2⟩:=ld_run (P:=P) hW hn (hT.getD hq) hcs hp
    exact ⟨v',by simp[e,asAddr,h1],h2⟩
  obtain ⟨u,hu,hru⟩:=key
  refine ⟨u::us, ?_,by simp[hr.1],fun i q v hq hv=> ?_⟩
  ·rw[List.mapM_cons]
   simp only[Sem.run_bind]
   rw[hu]
   simp only[Result.andThen_ok,hus,Sem.run_pure]
  ·cases i with
   |zero=>simp at hq hv;subst hq hv;exact hru
   |succ i=>exact hr.2 i q v (by simpa using hq) (by simpa using hv)
theorem oneOrTup_rep {C:Ctx} {w:World} {vs:List PV} {us:List Value} (h:RepL C w vs us):Rep C w (oneOrTup vs) (if h:us.toArray.size=1 then us.toArray[0] else .tuple us.toArray):=by
 have hl:=h.1
 match vs,us,h with
 |[],[],h=>simp[oneOrTup];exact .un C w
 |[v],[u],h=>simp[oneOrTup];exact h.2 0 v u rfl rfl
 |v1::v2::vs,u1::u2::us,h=>
  simp only[oneOrTup,List.size_toArray,List.length_cons]
  rw[dif_neg (by omega)]
  exact .tup _ _ (by simpa using hl) (fun i p v hp hv=>h.2 i p v hp (by simpa using hv))
 |[],u::us,h=>simp at hl
 |[v],[],h=>simp at hl
 |[v],u::u2::us,h=>simp at hl
 |v1::v2::vs,[],h=>simp at hl
 |v1::v2::vs,[u],h=>simp at hl
theorem cell?_same {w w':World} (h: ∀ (b:Nat) arr e z,w.heap[b]?=some (.cells arr e z)→w'.heap[b]?=some (.cells arr e z)) {b i:Nat} {v:Value} (hc:w.cell? ⟨b,i,none⟩=some v):w'.cell? ⟨b,i,none⟩=some v:=by
 obtain ⟨arr,e,z,h1,h2⟩:=cell?_some hc
 exact cell?_of (h b arr e z h1) h2
theorem Rep.same {C:Ctx} {w w':World} (hsz:w'.heap.size=w.heap.size) (hh: ∀ (b:Nat) arr e z,w.heap[b]?=some (.cells arr e z)→w'.heap[b]?=some (.cells arr e z)) {p:PV} {u:Value} (h:Rep C w p u):Rep C w' p u:=by
 induction h with
 |bool b=>exact .bool b
 |int k n=>exact .int k n
 |str s=>exact .str s
 |nilp=>exact .nilp
 |nilfn=>exact .nilfn
 |nilifc=>exact .nilifc
 |nilm=>exact .nilm
 |ref l o b h=>exact .ref l o b h
 |yld l b h=>exact .yld l b h
 |mp l b h=>exact .mp l b h
 |msl l o n sz b off cap hn ho h=>exact .msl l o n sz b off cap hn ho h
 |at_ cs b off hb hi ha hc h ih=>
  refine .at_ cs b off (by omega) hi ha (fun i p hp=> ?_) (fun i p v hp hv=> ?_)
  ·obtain ⟨v,hv⟩:=hc i p hp;exact ⟨v,cell?_same hh hv⟩
  ·obtain ⟨u,hu⟩:=hc i p hp
   have:=cell?_same hh hu
   rw[this] at hv;injection hv with hv;subst hv
   exact ih i p u hp hu
 |sl g xs a n cap sz hn hcap hsz' hnull hexact hrow ha hc h hown ih=>
  refine .sl g xs a n cap sz hn hcap hsz' hnull hexact (fun hne=> ?_) ha (fun b off j r i p e hj hi=> ?_) (fun b off j r i p v e hj hi hv=> ?_) (fun k el hg=> ?_)
  ·obtain ⟨b,off,e,hb,him⟩:=hrow hne;exact ⟨b,off,e,by omega,him⟩
  ·obtain ⟨v,hv⟩:=hc b off j r i p e hj hi;exact ⟨v,cell?_same hh hv⟩
  ·obtain ⟨u,hu⟩:=hc b off j r i p e hj hi
   have:=cell?_same hh hu
   rw[this] at hv;injection hv with hv;subst hv
   exact ih b off j r i p u e hj hi hu
  ·obtain ⟨hne,b,fr,h1,h2,h3⟩:=hown k el hg
   refine ⟨hne,b,fr,h1,h2,fun e=> ?_⟩
   obtain ⟨q1,arr,q2,q3⟩:=h3 e
   exact ⟨q1,arr,hh _ _ _ _ q2,q3⟩
 |row g xs a n cap h ih=>exact .row g xs a n cap ih
 |fn f first caps first' caps' hf0 h1 h2 hf hc ihf ihc=>exact .fn f first caps first' caps' hf0 h1 h2 ihf ihc
 |ifc t p v h ih=>exact .ifc t p v ih
 |agg cs vs hl ha h ih=>exact .agg cs vs hl ha ih
 |tup cs vs hl h ih=>exact .tup cs vs hl ih
theorem TR.same {nt:Nat} {C:Ctx} {w w':World} (hsz:w'.heap.size=w.heap.size) (hh: ∀ (b:Nat) arr e z,w.heap[b]?=some (.cells arr e z)→w'.heap[b]?=some (.cells arr e z)) {ts:Tmps} {tmps:Array Value} (h:TR nt C w ts tmps):TR nt C w' ts tmps:=
 ⟨h.size,fun d p hp=>let ⟨v,h1,h2⟩:=h.get d p hp;⟨v,h1,h2.same hsz hh⟩⟩
theorem off_cells {w:World} {D:Nat} (hD:w.heap[D]?=some (.deferred (some []))): ∀ (b:Nat) arr e z,w.heap[b]?=some (.cells arr e z)→(w.putObj D (.deferred none)).heap[b]?=some (.cells arr e z):=by
 intro b arr e z h
 have hne:b≠D:=by intro e;subst e;rw[hD] at h;cases h
 rw[World.putObj_heap_other hne];exact h
theorem WRel.off {G:Glob} {C:Ctx} {S:St} {w:World} {D:Nat} (hW:WRel G C S w) (hD:w.heap[D]?=some (.deferred (some []))) (hm: ∀ l,C.m l≠some D) (hg: ∀ o,G.blk D≠some o):WRel G C S (w.putObj D (.deferred none)):=by
 have hsz:(w.putObj D (.deferred none)).heap.size=w.heap.size:=World.putObj_size
 have hh:=off_cells hD
 have ho: ∀ {b:Nat},b≠D→(w.putObj D (.deferred none)).heap[b]?=w.heap[b]?:=fun h=>World.putObj_heap_other h
 refine ⟨fun l ob hl hd=> ?_,hW.dd,hW.nd,hW.dom,hW.inj,hW.own,fun k b fr hk=> ?_,hW.oinj,hW.disj,fun g cs hg=>(hW.glob g cs hg).same hsz hh,fun g o hgo=> ?_⟩
 ·obtain ⟨b,h1,h2,h3⟩:=hW.ob l ob hl hd
  have hb:(w.putObj D (.deferred none)).heap[b]?=w.heap[b]?:=ho fun e=>hm l (by rw[←e];exact h1)
  refine ⟨b,h1,by omega, ?_⟩
  cases ob with
  |cells t cs=>obtain ⟨arr,q1,q2,q3,q4⟩:=h3;exact ⟨arr,by rw[hb];exact q1,q2,q3,fun i p v hp hv=>(q4 i p v hp hv).same hsz hh⟩
  |iter s pos=>show _=_;rw[hb];exact h3
  |dead=>trivial
  |row t cs=>obtain ⟨arr,q1,q2,q3,q4,q5⟩:=h3;exact ⟨arr,by rw[hb];exact q1,q2,q3,q4,fun i p v hp hv=>(q5 i p v hp hv).same hsz hh⟩
  |map es c=>obtain ⟨arr,q1,q2,q3⟩:=h3;exact ⟨arr,by rw[hb];exact q1,q2,fun i k v n m he hm=>let ⟨a,b,c⟩:=q3 i k v n m he hm;⟨a,b,c.same hsz hh⟩⟩
  |loop r=>obtain ⟨L,nt,q1,q2,q3,q4,q5,q6,q7,q8⟩:=h3;exact ⟨L,nt,by rw[hb];exact q1,q2,q3,q4,q5,q6,q7,q8.same hsz hh⟩
 ·obtain ⟨h1,h2⟩:=hW.odom k b fr hk
  exact ⟨h1,by omega⟩
 ·obtain ⟨h1,h2,h3⟩:=hW.blk g o hgo
  exact ⟨by rw[ho (fun e=>hg o (by rw[←e];exact hgo))];exact h1,h2,h3⟩
theorem Step.off {C0 C:Ctx} {w0 w:World} {D:Nat} (hs:Step C0 w0 C w) (hD:w.heap[D]?=some (.deferred (some []))) (hle:w0.heap.size≤D):Step C0 w0 C (w.putObj D (.deferred none)):=by
 have ho: ∀ {b:Nat},b<w0.heap.size→(w.putObj D (.deferred none)).heap[b]?=w.heap[b]?:=fun h=>World.putObj_heap_other (by omega)
 refine ⟨⟨hs.ext.os,hs.ext.tape,hs.ext.output,by rw[World.putObj_size];exact hs.ext.size,fun b hb hm hoo=>by rw[ho hb];exact hs.ext.same b hb hm hoo,fun b hi hb him arr e z ha=> ?_⟩,hs.le,fun k b fr h1 h2 arr e z ha=> ?_⟩
 ·obtain ⟨arr',z',q1,q2,q3⟩:=hs.ext.imm b hi hb him arr e z ha
  exact ⟨arr',z',by rw[ho hb];exact q1,q2,q3⟩
 ·obtain ⟨arr',q⟩:=hs.own k b fr h1 h2 arr e z ha
  exact ⟨arr',by rw[ho (Array.getElem?_eq_some_iff.1 ha).1];exact q⟩
theorem leaves_marks {F:Fence} {q:Nat} {P:Program} {fn:Func} {tmps:Array Value} {R:Ending→World→Prop} {G:Glob} {C0 C:Ctx} {S:St} {w0:World} (h0b: ∀ g o,G.blk g=some o→g<w0.heap.size) {u:FrameMode} (hu:u≠ .run) {rest:List Deferred}:
  ∀ (ms:List Deferred) (w:World),Marks w0.heap.size C w ms→WRel G C S w→Step C0 w0 C w→
   (∀ w',WRel G C S w'→Step C0 w0 C w'→w'.heap.size=w.heap.size→(∀ (b:Nat) arr e z,w.heap[b]?=some (.cells arr e z)→w'.heap[b]?=some (.cells arr e z))→LeavesInM F q P fn tmps R rest u w')→LeavesInM F q P fn tmps R (ms++rest) u w
 |[],w,_,hW,hs,hk=>hk w hW hs rfl fun _ _ _ _ h=>h
 |d::ms,w,hM,hW,hs,hk=>by
  obtain ⟨⟨D,e1,h2,h3,h4,h5,h6⟩,h7⟩:=hM
  subst e1
  rw[List.cons_append]
  unfold LeavesInM
  refine ⟨hu,.inl ⟨D,_,rfl,run_takeDeferred h3, ?_⟩⟩
  refine leaves_marks h0b hu ms _ ?_ (hW.off h3 h4 fun o ho=>by have:=h0b D o ho;omega) (hs.off h3 h2) fun w' g1 g2 g3 g4=>hk w' g1 g2 (by rw[g3,World.putObj_size]) fun b arr e z h=>g4 b arr e z (off_cells h3 b arr e z h)
  have mk: ∀ {ds:List Deferred},(∀ d'∈ds,d'.target≠ .collected D)→Marks w0.heap.size C w ds→Marks w0.heap.size C (w.putObj D (.deferred none)) ds:=by
   intro ds
   induction ds with
   |nil=>intro _ _;trivial
   |cons x ds ih=>
    intro hx hM
    obtain ⟨⟨D',q1,q2,q3,q4,q5,q6⟩,q7⟩:=hM
    have hne:D'≠D:=by
     intro e;subst e
     exact hx x (by simp) (by rw[q1])
    exact ⟨⟨D',q1,q2,by rw[World.putObj_heap_other hne];exact q3,q4,q5,q6⟩,ih (fun d' hd'=>hx d' (by simp[hd'])) q7⟩
  exact mk h6 h7
theorem body_core {P:Program} {E:Env} {n:Nat} (ihE:EvOk P E n) {nt:Nat} {code:Code} {c:EC} (hc:cCode P nt code=some (strip c)) {fn:Func} {R:Ending→World→Prop} {ts:Tmps} {S S1:St} {K:Kont (PV×St)} {r:PV×St} (hv:(lvl E n).ev c ts S1 K=some r)
  {C0 C1:Ctx} {w0 w1:World} {a:Act} (hW0:WRel E.G C0 S w0) (hW:WRel E.G C1 S1 w1) (hs:Step C0 w0 C1 w1) (hT:TR nt C1 w1 ts a.tmps) (q:Nat)
  (hx: ∀ id ts S,K (.exit id) ts S≠some r)
  (hr: ∀ x ts' S' C' w' tmps',(x= .normal∨x= .ret)→K x ts' S'=some r→TR nt C' w' ts' tmps'→WRel E.G C' S' w'→Step C0 w0 C' w'→Step C1 w1 C' w'→LeavesInM (FF none) q P fn tmps' R a.defers .returning w')
  (hp: ∀ v ts' S' C' w' tmps' u,K (.pan v) ts' S'=some r→Rep C' w' v u→TR nt C' w' ts' tmps'→WRel E.G C' S' w'→Step C0 w0 C' w'→Step C1 w1 C' w'→LeavesInM (FF none) q P fn tmps' R a.defers (.panicking [{v:=u,recovered:=false}]) w'):
  code.wpIn (FF none) q P (bodyPostM (FF none) q P fn R) a w1:=by
 have h0b: ∀ g o,E.G.blk g=some o→g<w1.heap.size:=fun g o h=>(Array.getElem?_eq_some_iff.1 (hW.blk g o h).1).1
 refine ihE nt code c hc ts S1 K r hv none q C1 a w1 _ (fun h=>absurd rfl h) hW hT fun x ts' S' C' a' w' e hK hX hT' hW' hs' hd=> ?_
 obtain ⟨ms,hms,hM,_⟩:=hd
 cases x with
 |exit id=>exact absurd hK (hx id ts' S')
 |normal=>
  cases (show e= .normal from hX)
  show LeavesInM _ _ _ _ _ _ _ _ _
  rw[hms]
  exact leaves_marks h0b (by simp) ms w' hM hW' hs' fun w'' g1 g2 g3 g4=>hr .normal ts' S' C' w'' a'.tmps (.inl rfl) hK (hT'.same g3 g4) g1 (hs.trans g2) g2
 |ret=>
  cases (show e= .ret from hX)
  show LeavesInM _ _ _ _ _ _ _ _ _
  rw[hms]
  exact leaves_marks h0b (by simp) ms w' hM hW' hs' fun w'' g1 g2 g3 g4=>hr .ret ts' S' C' w'' a'.tmps (.inr rfl) hK (hT'.same g3 g4) g1 (hs.trans g2) g2
 |pan v=>
  obtain ⟨u,hu,rfl⟩:=hX
  show LeavesInM _ _ _ _ _ _ _ _ _
  rw[hms]
  exact leaves_marks h0b (by simp) ms w' hM hW' hs' fun w'' g1 g2 g3 g4=>hp v ts' S' C' w'' a'.tmps u hK (hu.same g3 g4) (hT'.same g3 g4) g1 (hs.trans g2) g2
def RetR (G:Glob) (C:Ctx) (w:World) (r:PV) (S':St):Ending→World→Prop:=fun e w'=> ∃ C' v,e= .returned v∧Rep C' w' r v∧WRel G C' S' w'∧Step C w C' w'
def PanR (G:Glob) (C:Ctx) (w:World) (r:PV) (S':St):Ending→World→Prop:=fun e w'=> ∃ C' v,e= .panicked [{v:=v,recovered:=false}]∧Rep C' w' r v∧WRel G C' S' w'∧Step C w C' w'
theorem ret_end {P:Program} {G:Glob} {nt:Nat} {fn:Func} {rs:List ERes} (hrs:fn.results.toList.mapM (cRes P)=some rs) {S S1 S':St} {C C1:Ctx} {w w1:World} {ts:Tmps} {tmps:Array Value} {r:PV} (h:(resVs ts S1 rs).map (fun vs=>close S S1 (oneOrTup vs))=some (r,S')) (hW0:WRel G C S w) (hT1:TR nt C1 w1 ts tmps) (hW1:WRel G C1 S1 w1) (hs1:Step C w C1 w1):
  ∃ v,(results fn tmps).run P w1= .ok v w1∧RetR G C w r S' (.returned v) w1:=by
 simp only[Option.map_eq_some_iff] at h
 obtain ⟨pvs,hp,hcl⟩:=h
 obtain ⟨us,hus,hru⟩:=resVs_run hW1 hT1 hrs hp
 have hres:(results fn tmps).run P w1= .ok (if h:us.toArray.size=1 then us.toArray[0] else .tuple us.toArray) w1:=by
  unfold results
  rw[Array.mapM_eq_mapM_toList]
  simp only[Sem.run_bind,Sem.run_map,Sem.run_pure]
  exact congrArg (fun r:Result (List Value)=>(r.andThen fun a w'=>Result.ok a.toArray w').andThen fun a w'=>Result.ok (if h:a.size=1 then a[0] else Value.tuple a) w') hus
 obtain ⟨C',g1,g2,g3⟩:=close_rep hW0 hW1 hs1 (oneOrTup_rep hru)
 rw[hcl] at g1 g2
 exact ⟨_,hres,C',_,rfl,g1,g2,g3⟩
theorem frame_start {P:Program} {C:Ctx} {w:World} {args args':List PV} {vs:List Value} {np nt:Nat} (hR:RepL C w args vs) (hR':RepL C w args' vs) (hlen:args.length=np) (hle:np≤nt):
  TR nt C w (frameOf 0 args') (vs.toArray++Array.replicate (nt - vs.toArray.size) undef):=by
 have hl:vs.length=args.length:=hR.1
 have hl':vs.length=args'.length:=hR'.1
 refine ⟨by simp;omega,fun d p hp=> ?_⟩
 obtain ⟨_,h2⟩:=look_frameOf args' 0 d p hp
 rw[Nat.sub_zero] at h2
 have hd:=getElem?_lt h2
 have hd':d<vs.length:=by omega
 refine ⟨vs[d], ?_,hR'.2 d p _ h2 (List.getElem?_eq_getElem hd')⟩
 rw[Array.getElem?_append_left (by simpa using hd')]
 simp[hd']
theorem noY_ok {P:Program} {G:Glob} {call:CallFn} (h:CallOk P G call):CallOk P G (noY call):=by
 refine ⟨fun f args S r S' hf hv=> ?_,fun f args S r S' hv=> ?_,fun args S r S' hv=> ?_⟩
 ·unfold noY at hv;split at hv
  ·cases hv
  ·exact h.fn _ _ _ _ _ hf hv
 ·unfold noY at hv;split at hv
  ·cases hv
  ·exact h.al _ _ _ _ _ hv
 ·simp[noY] at hv
theorem evOps_wpS {P:Program} {G:Glob} {nt:Nat} {call:CallFn} (hC:CallOk P G call) {ops:Array Oper} {Q:Exit→Act→List Frame→World→Prop} {cs:List Frame}: ∀ (es:List EI) (k:Nat) (C:Ctx) (ts:Tmps) (S:St) (a:Act) (w:World) (ts':Tmps) (S':St),
  k+es.length=ops.size→(∀ (i:Nat) o e,ops.toList[k+i]?=some o→es[i]?=some e→EIof P ops.toList o e)→(∀ e∈es,∀ d,e.dst=some d→d<nt)→WRel G C S w→TR nt C w ts a.tmps→evOps G (noY call) es ts S=some (ts',S')→
  (∀ C' a' w',TR nt C' w' ts' a'.tmps→WRel G C' S' w'→Step C w C' w'→a'.defers=a.defers→Q .normal a' cs w')→wpOpsS P ops Q (List.range' k es.length) a cs w
 |[],k,C,ts,S,a,w,ts',S',_,_,_,hW,hT,hv,hk=>by
  simp only[evOps,Option.some.injEq,Prod.mk.injEq] at hv
  obtain ⟨rfl,rfl⟩:=hv
  exact hk C a w hT hW (.refl C w) rfl
 |e::es,k,C,ts,S,a,w,ts',S',hl,hof,hds,hW,hT,hv,hk=>by
  simp only[List.length_cons] at hl
  have hkl:k<ops.size:=by omega
  have ho:ops[k]?=some ops[k]:=Array.getElem?_eq_getElem hkl
  have he:=hof 0 ops[k] e (by rw[Nat.add_zero,Array.getElem?_toList];exact ho) rfl
  have hrest: ∀ (i:Nat) o' e',ops.toList[k+1+i]?=some o'→es[i]?=some e'→EIof P ops.toList o' e':=fun i o' e' h1 h2=>hof (i+1) o' e' (by rw[show k+(i+1)=k+1+i from by omega];exact h1) (by simpa using h2)
  have hds': ∀ e∈es,∀ d,e.dst=some d→d<nt:=fun e he=>hds e (by simp[he])
  have hd0: ∀ d,(ops[k]).dst=some d→d<nt:=fun d hd=>hds e (by simp) d (by rw[he.dst];exact hd)
  simp only[evOps] at hv
  rw[List.length_cons,List.range'_succ]
  unfold wpOpsS
  simp only[ho]
  split at hv
  ·rename_i hwant
   rw[wanted_iff (ops:=ops) hT he.guard hwant,if_pos rfl]
   split at hv
   ·rename_i p S1 hop
    split at hv
    ·cases hv
    ·have hny: ∀ f xs l,e.op= .call f xs→f.val G ts≠some (.yld l):=by
      intro f xs l h1 h2
      rw[h1] at hop
      simp only[evOp,h2] at hop
      split at hop
      ·rename_i h3 _;cases h3
      ·simp[noY] at hop
      ·cases hop
     have hdo:=op_does1 hW hT (noY_ok hC) he.op hop hny (fun a' w'=>wpOpsS P ops Q (List.range' (k+1) es.length) a' cs w') (fun e a' w'=>Q e a' cs w') fun C1 w1 v1 hr hW1 hs=>by
      refine evOps_wpS hC es (k+1) C1 _ S1 _ w1 ts' S' (by omega) hrest hds' hW1 ?_ hv fun C' a' w' h1 h2 h3 h4=> ?_
      ·have:=(hT.step hs).put (ds:=a.defers) hd0 (q:=some p) (v:=v1) (fun q hq=>by injection hq with hq;subst hq;exact hr)
       rw[he.dst]
       exact this
      ·refine hk C' a' w' h1 h2 (hs.trans h3) (h4.trans ?_)
       cases (ops[k]).dst<;>rfl
     unfold Oper.wp at hdo
     split
     ·rename_i w' hrun
      rw[hrun] at hdo
      exact hdo.elim
     ·exact hdo
   ·cases hv
  ·rename_i hwant
   rw[wanted_iff (ops:=ops) hT he.guard hwant,if_neg (by simp)]
   refine evOps_wpS hC es (k+1) C _ S _ w ts' S' (by omega) hrest hds' hW ?_ hv fun C' a' w' h1 h2 h3 h4=> ?_
   ·have:=hT.put (ds:=a.defers) hd0 (q:=some .un) (v:=undef) (fun q hq=>by injection hq with hq;subst hq;exact .un C w)
    rw[he.dst]
    exact this
   ·refine hk C' a' w' h1 h2 h3 (h4.trans ?_)
    cases (ops[k]).dst<;>rfl
  ·cases hv
theorem cOp_rcv {P:Program} {o:Oper} (h:cOp P o=some .rcv): ∃ c,o.op= .call c∧c.callee= .builtin .recover:=by
 cases ho:o.op with
 |call c=>
  refine ⟨c,rfl, ?_⟩
  simp only[cOp,ho] at h
  (repeat' split at h)<;>simp_all [bind,Option.bind_eq_some_iff,Option.map_eq_some_iff]<;>(try (obtain ⟨_,_,h⟩:=h;(repeat' split at h)<;>simp_all [bind,Option.bind_eq_some_iff]))<;>(try grind)
 |_=>
  exfalso
  simp only[cOp,ho,cEq] at h
  (repeat' split at h)<;>simp_all [bind,Option.bind_eq_some_iff,Option.map_eq_some_iff]<;>(try (obtain ⟨_,_,h⟩:=h;(repeat' split at h)<;>simp_all [bind,Option.bind_eq_some_iff]))<;>(try grind)
def Mode (C:Ctx) (w:World):Option PV→FrameMode→Prop
 |none,u=>u= .returning
 |some p,u=> ∃ v,Rep C w p v∧u= .panicking [{v:=v,recovered:=false}]
theorem callsDFF_of_wpS {P:Program} {q:Nat} {f:FuncId} {fn:Func} {c:Code} {args:Array Value} {u:FrameMode} {w:World} {R:Ending→FrameMode→World→Prop}
  (hf:P.funcs[f]?=some fn) (hb:fn.body=some c)
  (h: ∀ (c₀:Frame) (cs:List Frame),c₀.mode=u→
   c.wpS P (bodyPostS P fn c₀ cs R) {tmps:=args++Array.replicate (fn.ntmps - args.size) undef,defers:=[]} (c₀::cs) w):
  CallsDIn (FF none) q P f args u w R:=by
 refine ⟨trivial,fun c₀ cs hu _=> ?_⟩
 let b:Frame:={(default:Frame) with fn:=f,kind:= .deferred}
 have henter:Frame.enter P f args .deferred=
   b.at {tmps:=args++Array.replicate (fn.ntmps - args.size) undef,defers:=[]} [.code c]:=by
  simp[Frame.enter,Frame.at,hf,hb,b]
 have wide: ∀ {m m':Machine} {e:Ending},Comes P m m' e→ComesIn (Machine.fenced P (FF none)) P m m' e:=fun h=>comesIn_wide.2 h
 obtain ⟨e,a',cs',w',hq,harr⟩:=h c₀ cs hu b [] rfl rfl
 rw[←henter] at harr
 cases e with
 |normal=>
  obtain ⟨hd,u',rfl,v,hr,hR⟩:=hq
  exact ⟨.returned v,u',w',_,hR,wide (Steps.trans harr (.one step_end)),rfl,rfl,rfl,hd,fn,hf,hr⟩
 |ret=>
  obtain ⟨hd,u',rfl,v,hr,hR⟩:=hq
  obtain ⟨todo,hs⟩:=harr
  exact ⟨.returned v,u',w',_,hR,wide hs,rfl,rfl,rfl,hd,fn,hf,hr⟩
 |panic chain=>
  obtain ⟨hd,u',rfl,hR⟩:=hq
  obtain ⟨todo,hs⟩:=harr
  exact ⟨.panicked chain,u',w',_,hR,wide hs,rfl,rfl,rfl,hd,fn,hf⟩
 |exit id=>exact hq.elim
 |goto l=>exact hq.elim
 |outgrown=>
  obtain ⟨u',hR⟩:=hq
  exact ⟨.outgrown,u',w',b,hR,wide (harr.resolve_left (by simp[b])),rfl,rfl,trivial⟩
theorem dcl_ok {P:Program} {E:Env} (hE:EnvOk P E) {n:Nat} (ihC:CallOk P E.G (lvl E n).call) (ihE:EvOk P E n) {h:FuncId} {args:List PV} {pv:Option PV} {S S':St} (hv:dcl E (lvl E n) h args pv S=some S') {C:Ctx} {w:World} {vs:List Value} (hW:WRel E.G C S w) (hR:RepL C w args vs) {u:FrameMode} (hu:Mode C w pv u) (q:Nat):
  Enter P h∧CallsDIn (FF none) q P h vs.toArray u w fun e u' w'=>(∃ v,e= .returned v)∧settle u'= .returning∧ ∃ C',WRel E.G C' S' w'∧Step C w C' w':=by
 unfold dcl at hv
 split at hv
 ·rename_i c hc
  split at hv
  ·rename_i id d rops ks rest hbody
   split at hv
   ·rename_i hcnd
    obtain ⟨hnp,hle,hres,hdfr,hrc,hnr⟩:=hcnd
    simp only[Option.bind_eq_some_iff] at hv
    obtain ⟨args',ha,hv⟩:=hv
    obtain ⟨_,fn,hf,hcf,hname⟩:=hE.tab h c hc
    have hR':=askD_rep hR ha
    simp only[cFn,bind,Option.bind_eq_some_iff] at hcf
    obtain ⟨body,hb,rs,hrs,hcf⟩:=hcf
    split at hcf
    ·simp only[Option.bind_eq_some_iff,Option.some.injEq] at hcf
     obtain ⟨_,_,_,_,_,_,_,_,hcf⟩:=hcf
     have:=congrArg EFn.rc hcf
     simp[EFn.strip,hrc] at this
    ·simp only[Option.bind_eq_some_iff,Option.some.injEq] at hcf
     obtain ⟨cb',hcb,hcf⟩:=hcf
     have e1:fn.params.size+fn.nfree=c.np:=congrArg EFn.np hcf
     have e2:fn.ntmps=c.ntmps:=congrArg EFn.ntmps hcf
     have e3:rs=c.res:=congrArg EFn.res hcf
     have e4:cb'=strip c.body:=congrArg EFn.body hcf
     have e5:=congrArg EFn.rc hcf
     simp only[EFn.strip,hrc] at e5
     refine ⟨⟨fn,hf,hname,by rw[hb];rfl⟩, ?_⟩
     split at e5
     ·rename_i idr ops' y hcdf
      rw[e4,hbody] at hcb
      simp only[cCode,strip,Option.bind_eq_some_iff,Option.map_eq_some_iff] at hcb
      obtain ⟨cx,⟨l0,hl0,hcx⟩,cy,hy,hseq⟩:=hcb
      subst hcx
      injection hseq with hs1 hs2
      injection hs1 with q1 q2 q3 q4
      subst q1 hs2
      rw[q2] at hl0
      obtain ⟨g1,g2,g3,_⟩:=cOps_spec hl0
      simp only[List.length_cons] at g1
      have hsz:ops'.size=rops.length+1:=by simpa using g1.symm
      have h00:ops'[0]?=some ops'[0]:=Array.getElem?_eq_getElem (by omega)
      have hE0:=g2 0 ops'[0] _ (by rw[Array.getElem?_toList];exact h00) rfl
      obtain ⟨cc,ho0,hcal0⟩:=cOp_rcv (show cOp P ops'[0]=some .rcv from hE0.op)
      have hgd:ops'[0].guard=none:=by
       have:=hE0.guard
       unfold cGuard at this
       cases hg:ops'[0].guard with
       |none=>rfl
       |some jw=>
        rw[hg] at this
        simp only[Option.map_eq_some_iff] at this
        obtain ⟨_,_,h⟩:=this;cases h
      refine callsDFF_of_wpS hf hb fun c₀ cs hc0=> ?_
      refine wpS_seq (wpS_region ?_)
      rw[hsz,List.range_eq_range',List.range'_succ]
      unfold wpOpsS
      simp only[h00]
      rw[show Region.wanted ops'[0] (yielded ops' _)=true from by simp[Region.wanted,hgd],if_pos rfl]
      have hrun: ∀ ρ,(execOp ρ ops'[0]).run P w= .ok .recover w:=by
       intro ρ
       simp[execOp,ho0,resolve,hcal0,invoke,Go.builtin]
      simp only[hrun]
      have hT0:=frame_start (P:=P) (nt:=fn.ntmps) hR hR' (show args.length=c.np from hnp) (by omega)
      have hdst:=hE0.dst
      simp only at hdst
      have hd0: ∀ dd,ops'[0].dst=some dd→dd<fn.ntmps:=fun dd hd=>g3 ⟨id,.rcv,none,d⟩ (by simp) dd (by rw[←hd];exact hE0.dst)
      have tail: ∀ (v0:Value) (cs':List Frame) (u':FrameMode),Rep C w (pv.getD .nilifc) v0→cs'={c₀ with mode:=u'}::cs→settle u'= .returning→
        wpOpsS P ops' (Exit.thenS (y.wpS P (bodyPostS P fn c₀ cs fun e u' w'=>(∃ v,e= .returned v)∧settle u'= .returning∧ ∃ C',WRel E.G C' S' w'∧Step C w C' w')) (bodyPostS P fn c₀ cs fun e u' w'=>(∃ v,e= .returned v)∧settle u'= .returning∧ ∃ C',WRel E.G C' S' w'∧Step C w C' w'))
         (List.range' (0+1) rops.length) (Act.put {tmps:=vs.toArray++Array.replicate (fn.ntmps - vs.toArray.size) undef,defers:=[]} ops'[0].dst v0) cs' w:=by
       intro v0 cs' u' hv0 hcs' hset
       split at hv
       ·rename_i ts1 S1 hops
        simp only[Option.map_eq_some_iff] at hv
        obtain ⟨rr,hev,hrr⟩:=hv
        have hTp:=hT0.put (ds:=[]) hd0 (q:=some (pv.getD .nilifc)) (v:=v0) (fun p hp=>by injection hp with hp;subst hp;exact hv0)
        rw[←hdst] at hTp
        refine evOps_wpS ihC rops (0+1) C _ S _ w ts1 S1 (by omega) (fun i o e h1 h2=>g2 (i+1) o e (by rw[show i+1=0+1+i from by omega];exact h1) (by simpa using h2)) (fun e he=>g3 e (by simp[he])) hW (by rw[←hdst];exact hTp) hops fun C1 a1 w1 k1 k2 k3 k4=> ?_
        show y.wpS P _ a1 cs' w1
        refine wpS_of_wp (wpIn_wide (n:=q).1 ?_)
        have hdd:a1.defers=[]:=by rw[k4];cases ops'[0].dst<;>rfl
        refine ihE fn.ntmps y rest hy _ S1 finV rr hev none q C1 a1 w1 _ (fun h=>absurd rfl h) k2 (k1.sel ks) fun x ts' S2 C2 a2 w2 e2 hK hX hT2 hW2 hs2 hd2=> ?_
        obtain ⟨ms,hms,_,hn⟩:=hd2
        have hms0:=hn hnr
        subst hms0
        have hd2':a2.defers=[]:=by rw[hms,hdd];rfl
        have hres0:fn.results= #[]:=by
         have hr0:rs=[]:=by rw[e3];simpa using hres
         rw[hr0] at hrs
         have:=(mapM_some hrs).1
         simpa using this.symm
        have hfin: ∀ S3,some (PV.un,S3)=some rr→S3=S':=fun S3 h=>by injection h with h;rw[←hrr,←h]
        cases x with
        |normal=>
         cases (show e2= .normal from hX)
         have:=hfin S2 hK;subst this
         exact ⟨hd2',u',hcs',_,results_none hres0 _ _ _,⟨_,rfl⟩,hset,C2,hW2,k3.trans hs2⟩
        |ret=>
         cases (show e2= .ret from hX)
         have:=hfin S2 hK;subst this
         exact ⟨hd2',u',hcs',_,results_none hres0 _ _ _,⟨_,rfl⟩,hset,C2,hW2,k3.trans hs2⟩
        |exit id=>simp[finV] at hK
        |pan v=>simp[finV] at hK
       ·cases hv
      cases pv with
      |none=>
       cases (show u= .returning from hu)
       simp only[recoverD,hc0]
       exact tail .nilIface (c₀::cs) .returning .nilifc (by rw[←hc0]) rfl
      |some p=>
       obtain ⟨v0,hr0,rfl⟩:=hu
       simp only[recoverD,hc0]
       exact tail v0 _ _ hr0 rfl rfl
     ·cases e5
   ·cases hv
  ·cases hv
 ·cases hv
theorem bindP_tr {nt:Nat} {C:Ctx} {w:World}: ∀ (ps:List Nat) (vs:List PV) (us:List Value) (ts:Tmps) (tmps:Array Value),vs.length=ps.length→RepL C w vs us→(∀ t∈ps,t<nt)→TR nt C w ts tmps→
  TR nt C w (bindP ps vs ts) ((ps.zip us).foldl (fun tmps (t,a)=>tmps.setIfInBounds t a) tmps)
 |[],[],us,ts,tmps,_,hR,_,hT=>by
  have:us=[]:=by simpa using hR.1
  subst this;exact hT
 |[],_::_,_,_,_,h,_,_,_=>by simp at h
 |_::_,[],_,_,_,h,_,_,_=>by simp at h
 |t::ps,v::vs,[],ts,tmps,_,hR,_,_=>by have:=hR.1;simp at this
 |t::ps,v::vs,u::us,ts,tmps,hl,hR,hps,hT=>by
  have hput:TR nt C w ((t,some v)::ts) (tmps.setIfInBounds t u):=hT.put (ds:=[]) (dst:=some t) (fun d hd=>by injection hd with hd;subst hd;exact hps t (by simp)) (q:=some v) (v:=u) (fun p hp=>by injection hp with hp;subst hp;exact hR.2 0 v u rfl rfl)
  exact bindP_tr ps vs us _ _ (by simpa using hl) ⟨by have:=hR.1;simpa using this,fun i p x hp hx=>hR.2 (i+1) p x (by simpa using hp) (by simpa using hx)⟩ (fun x hx=>hps x (by simp[hx])) hput
theorem setLoop_some {S S':St} {l st:Nat} {pend:Option (Option Nat)} (h:setLoop S l st pend=some S'): ∃ r,S.obs[l]?=some (.loop r)∧S'={S with obs:=S.obs.set l (.loop {r with st:=st,pend:=pend})}:=by
 unfold setLoop at h
 split at h
 ·rename_i r hr
  injection h with h
  exact ⟨r,hr,h.symm⟩
 ·cases h
theorem round_ok {P:Program} {E:Env} (hE:EnvOk P E) (n:Nat) (ihE:EvOk P E n) {args:List PV} {S S':St} {r:PV} (hv:round (lvl E n).ev args S=some (r,S')):RoundSpec P E.G args S r S':=by
 intro q qr C w b vs hW hR
 unfold round at hv
 split at hv
 ·rename_i l avs
  split at hv
  ·rename_i rl hrl
   split at hv
   ·rename_i hlen
    simp only[Option.bind_eq_some_iff] at hv
    obtain ⟨avs',ha,hv⟩:=hv
    have hy:=hR.2 0 _ _ rfl rfl
    cases hy with|yld l b hb=>
    obtain ⟨hm,hlt,L,nt,g1,g2,g3,g4,g5,g6,g7,g8⟩:=hW.loopAt hrl hb
    have hRt:RepL C w avs vs:=⟨by have:=hR.1;simpa using this,fun i p x hp hx=>hR.2 (i+1) p x (by simpa using hp) (by simpa using hx)⟩
    have hRt':=askD_rep hRt ha
    have hpl:L.params.size=rl.ps.length:=by rw[←g4];simp
    have hlen:=hlen.1
    refine ⟨L,g1,by rw[hRt.1,hlen,hpl], ?_⟩
    have hfold:(L.params.zip vs.toArray).foldl (fun tmps (t,a)=>tmps.setIfInBounds t a) L.tmps=(rl.ps.zip vs).foldl (fun tmps (t,a)=>tmps.setIfInBounds t a) L.tmps:=by
     rw[←Array.foldl_toList,Array.toList_zip,g4]
    rw[hfold]
    have hT0:=bindP_tr rl.ps avs' vs rl.ts L.tmps (by rw[←hRt'.1,hRt.1];exact hlen) hRt' g5.1 g8
    have hround: ∀ l',(FF qr).inRound l'=FF (some l'):=fun _=>rfl
    refine roundIn_of_wpIn (F:=FF qr) trivial ?_
    rw[hround,hE.prog] at*
    refine ihE nt L.assign rl.asg g6 _ S (rndB (lvl E n).ev l rl.bd) (r,S') hv (some b) q C _ w _ (fun _=>g5.2.1) hW hT0 fun x ts1 S1 C1 a1 w1 e hK hX hT1 hW1 hs1 _=> ?_
    cases x with
    |exit id=>simp[rndB] at hK
    |ret=>simp[rndB] at hK
    |pan v=>simp[rndB] at hK
    |normal=>
     cases (show e= .normal from hX)
     simp only[rndB] at hK
     split at hK
     ·rename_i r1 hr1
      split at hK
      ·rename_i hst
       simp only[Option.bind_eq_some_iff] at hK
       obtain ⟨S2,hS2,hK⟩:=hK
       have hm1:=hs1.le.m1 l b hm
       obtain ⟨hm1,hlt1,L1,nt1,k1,k2,k3,k4,k5,k6,k7,k8⟩:=hW1.loopAt hr1 hm1
       obtain ⟨r1',hr1',rfl⟩:=setLoop_some hS2
       rw[hr1] at hr1';injection hr1' with hr1';injection hr1' with hr1';subst hr1'
       have hrdy:L1.state= .ready:=by rw[k2,hst];rfl
       obtain ⟨hs2,hW2⟩:=loop_turn hW1 hm1 k1 k4 k5 k6 k7 k8 1 r1.pend .busy L1.pending rfl k3
       refine ⟨_,run_beginRound (P:=P) k1 hrdy, ?_⟩
       have hs12:=hs1.trans hs2
       refine ihE nt L.body rl.bd g7 ts1 _ (rndE l) (r,S') hK (some b) q C1 a1 _ _ (fun _=>g5.2.2) hW2 (hT1.step hs2) fun x ts3 S3 C3 a3 w3 e hK3 hX hT3 hW3 hs3 _=> ?_
       have hm3:=hs3.le.m1 l b hm1
       have fin: ∀ (st:Nat) (pend:Option (Option Nat)) (jump:Option Code),jump=pendC pend→(if jump.isNone then LoopState.ready else .done)=lst st→ ∀ S4,setLoop S3 l st pend=some S4→(PV.bool jump.isNone,S4)=(r,S')→
         ∃ v w',(Instr.endRound b jump).run P w3= .ok v w'∧ ∃ C' v',Ending.returned v= .returned v'∧Rep C' w' r v'∧WRel E.G C' S' w'∧Step C w C' w':=by
        intro st pend jump hj hst S4 hS4 hrr
        obtain ⟨r3,hr3,rfl⟩:=setLoop_some hS4
        obtain ⟨hm3,hlt3,L3,nt3,j1,j2,j3,j4,j5,j6,j7,j8⟩:=hW3.loopAt hr3 hm3
        obtain ⟨hs4,hW4⟩:=loop_turn hW3 hm3 j1 j4 j5 j6 j7 j8 st pend (if jump.isNone then .ready else .done) jump hst hj
        injection hrr with h1 h2
        subst h1 h2
        exact ⟨_,_,run_endRound (P:=P) jump j1,C3,_,rfl,.bool _,hW4,(hs12.trans hs3).trans hs4⟩
       cases x with
       |pan v=>simp[rndE] at hK3
       |normal=>
        cases (show e= .normal from hX)
        simp only[rndE,Option.map_eq_some_iff] at hK3
        obtain ⟨S4,hS4,hrr⟩:=hK3
        exact fin 0 none none rfl rfl S4 hS4 hrr
       |ret=>
        cases (show e= .ret from hX)
        simp only[rndE,Option.map_eq_some_iff] at hK3
        obtain ⟨S4,hS4,hrr⟩:=hK3
        exact fin 2 (some none) (some .ret) rfl rfl S4 hS4 hrr
       |exit id=>
        cases (show e= .exit id from hX)
        simp only[rndE,Option.map_eq_some_iff] at hK3
        obtain ⟨S4,hS4,hrr⟩:=hK3
        exact fin 2 (some (some id)) (some (.exit id)) rfl rfl S4 hS4 hrr
      ·cases hK
     ·cases hK
   ·cases hv
  ·cases hv
 ·cases hv
theorem y1 {f g:Nat} (h:yid+1+f=g) (h2:g<yid):False:=by simp only[yid] at*;omega
theorem y2 {f g:Nat} (h:yid+1+f=yid+1+g):f=g:=by omega
theorem y3 {g:Nat} (h:yid=yid+1+g):False:=by omega
theorem y4 {g:Nat} (h:yid=g) (h2:g<yid):False:=by omega
theorem y5 {f:Nat}: ¬ yid+1+f=yid:=by omega
theorem call_ok {P:Program} {E:Env} (hE:EnvOk P E) (n:Nat) (ihC:CallOk P E.G (lvl E n).call) (ihE:EvOk P E n):CallOk P E.G (lvl E (n+1)).call:=by
 have hknown: ∀ f F args S r S',E.known f=some F→(lvl E (n+1)).call f args S=some (r,S')→ ∃ g,(f=g∧g<yid∨f=yid+1+g)∧Enter P g∧CallSpec P E.G g args S r S':=by
  intro f F args S r S' hF hv
  simp only[lvl,hF,Option.bind_eq_some_iff] at hv
  obtain ⟨args',ha,hv⟩:=hv
  obtain ⟨g,h0,h1,h2⟩:=hE.known f F hF
  exact ⟨g,h0,h1,fun C w vs hW hR=>h2 args' S r S' hv C w vs hW (askD_rep hR ha)⟩
 refine ⟨fun f args S r S' hf hv=> ?_,fun f args S r S' hv=> ?_,fun args S r S' hv=> ?_⟩
 ·cases hF:E.known f with
  |some F=>
   obtain ⟨g,h0,h1,h2⟩:=hknown f F args S r S' hF hv
   rcases h0 with ⟨rfl,_⟩|rfl
   ·exact ⟨h1,h2⟩
   ·simp only[yid] at hf;omega
  |none=>
   simp only[lvl,hF] at hv
   split at hv
   ·rename_i c hc
    split at hv
    ·rename_i hnp
     simp only[Option.bind_eq_some_iff] at hv
     obtain ⟨args',ha,hv⟩:=hv
     obtain ⟨_,fn,hf',hcf,hname⟩:=hE.tab f c hc
     obtain ⟨np,ntm,rs',cb,dfr,rc⟩:=c
     simp only[cFn,bind,Option.bind_eq_some_iff] at hcf
     obtain ⟨body,hb,rs,hrs,hcf⟩:=hcf
     refine ⟨⟨fn,hf',hname,by rw[hb];rfl⟩,fun C w vs hW hR=> ?_⟩
     have hR':=askD_rep hR ha
     refine callsOfFF (r:=none) (n:=0) (callsIn_of_wp_marks hf' hb trivial ?_)
     split at hcf
     ·-- a function that has deferred a call
      rename_i pre es g rest hdf
      simp only[Option.bind_eq_some_iff,Option.some.injEq] at hcf
      obtain ⟨cb',hcb,pre',hpre,es',hes,g',hg,hcf⟩:=hcf
      simp only[EFn.strip,EFn.mk.injEq] at hcf
      obtain ⟨rfl,rfl,rfl,rfl,hd,rfl⟩:=hcf
      cases dfr with
      |none=>simp at hd
      |some q3=>
       obtain ⟨pe,ee,ge⟩:=q3
       simp only[Option.map_some,Option.some.injEq,Prod.mk.injEq] at hd
       obtain ⟨rfl,rfl,rfl⟩:=hd
       have hT0:=frame_start (P:=P) (nt:=fn.ntmps) hR hR' hnp.1 hnp.2
       simp only[lvlB] at hv
       split at hv
       ·rename_i ts0 S0 hops0
        split at hv
        ·rename_i ts1 S1 hops1
         split at hv
         ·rename_i h first caps hgv
          unfold cDfr at hdf
          split at hdf
          ·rename_i i0 ops0 i1 ops1 rest'
           split at hdf
           ·rename_i o hlast
            split at hdf
            ·rename_i f0 targs hoop hgd hdst
             injection hdf with hdf
             simp only[Prod.mk.injEq] at hdf
             obtain ⟨rfl,rfl,rfl,rfl⟩:=hdf
             refine wpIn_seq ?_
             obtain ⟨a1,a2,a3,_⟩:=cOps_spec hpre
             have hreg0:=evOps_wp ihC (r:=none) (n:=0) (ops:=ops0) (Q:=Exit.then ((Code.seq (Code.region i1 ops1 false) rest').wpIn (FF none) 0 P (bodyPostM (FF none) 0 P fn (RetR E.G C w r S'))) (bodyPostM (FF none) 0 P fn (RetR E.G C w r S'))) ops0.toList pe C _ S ({tmps:=vs.toArray++Array.replicate (fn.ntmps - vs.toArray.size) undef,defers:=[]}:Act) w ts0 S0 a1 a2 a3 hW hT0 hops0 [] fun C1 b1 w1 k1 k2 k3 k4=>by
              show Code.wpIn _ _ _ _ _ _ _
              refine wpIn_seq (wpIn_region_list ?_)
              obtain ⟨b1',b2',b3',_⟩:=cOps_spec hes
              have hl1:ops1.toList=ops1.toList.dropLast++[o]:=by
               obtain ⟨ys,hys⟩:=List.getLast?_eq_some_iff.1 hlast
               rw[hys];simp
              have hgu: ∀ {oo:Oper} {gg},cGuard ops1.toList.dropLast oo=some gg→cGuard ops1.toList oo=some gg:=by
               intro oo gg h
               unfold cGuard at h ⊢
               cases hgo:oo.guard with
               |none=>rw[hgo] at h;exact h
               |some jw=>
                obtain ⟨j,wt⟩:=jw
                rw[hgo] at h
                simp only[Option.map_eq_some_iff,Option.bind_eq_some_iff] at h ⊢
                obtain ⟨dd,⟨oj,h1,h2⟩,h3⟩:=h
                refine ⟨dd,⟨oj, ?_,h2⟩,h3⟩
                rw[hl1,List.getElem?_append_left (getElem?_lt h1)];exact h1
              have hreg1:=evOps_wp ihC (r:=none) (n:=0) (ops:=ops1) (Q:=Exit.then (rest'.wpIn (FF none) 0 P (bodyPostM (FF none) 0 P fn (RetR E.G C w r S'))) (bodyPostM (FF none) 0 P fn (RetR E.G C w r S'))) ops1.toList.dropLast ee C1 ts0 S0 b1 w1 ts1 S1 b1' (fun i oo ei h1 h2=>let q:=b2' i oo ei h1 h2;⟨q.op,hgu q.guard,q.dst⟩) b3' k2 k1 hops1 [o] fun C2 b2 w2 m1 m2 m3 m4=>by
               have hsall:=k3.trans m3
               have hbd:b2.defers=[]:=by rw[m4,k4]
               have rf:=opd_rep m2 m1 hg hgv
               generalize eu:b2.eval f0=uu at rf
               cases rf with|fn h first caps first' caps' hh0 z1 z2 r1 r2=>
               have rfirst:RepL C2 w2 first first'.toList:=⟨by simpa using z1,fun i p v hp hv=>r1 i p v hp (by simpa using hv)⟩
               have rcaps:RepL C2 w2 caps caps'.toList:=⟨by simpa using z2,fun i p v hp hv=>r2 i p v hp (by simpa using hv)⟩
               have rall:=rfirst.append rcaps
               have hrun:(execOp b2.eval o).run P w2= .ok (.defer {target:= .fn (.func h) caps',args:=first'}) w2:=by
                simp[execOp,hoop,resolve,eu,Deferred.ofValue]
               unfold wpListIn
               rw[show Region.wanted o (yielded ops1 b2.tmps)=true from by simp[Region.wanted,hgd],if_pos rfl]
               refine ⟨fun _ _=>trivial, ?_⟩
               rw[show Oper.semAt (FF none).round b2.eval o=execOp b2.eval o from rfl,hrun]
               simp only[Oper.uponIn,hdst,Act.put,hbd]
               show rest'.wpIn _ _ _ _ _ _
               have dend: ∀ (pv:Option PV) (ts':Tmps) (S2 S3:St) (C':Ctx) (w':World) (tmps':Array Value) (u:FrameMode),dcl E (lvl E n) h (first++caps) pv S2=some S3→(resVs ts' S3 rs).map (fun vs=>close S S3 (oneOrTup vs))=some (r,S')→TR fn.ntmps C' w' ts' tmps'→WRel E.G C' S2 w'→Step C w C' w'→Step C2 w2 C' w'→Mode C' w' pv u→u≠ .run→
                 LeavesInM (FF none) 0 P fn tmps' (RetR E.G C w r S') [{target:= .fn (.func h) caps',args:=first'}] u w':=by
                intro pv ts' S2 S3 C' w' tmps' u hd hres hT' hW' hsC hs2 hmode hu
                have rall':RepL C' w' (first++caps) (first'.toList++caps'.toList):=⟨rall.1,fun i p v hp hv=>(rall.2 i p v hp hv).step hs2⟩
                obtain ⟨hEn,hcd⟩:=dcl_ok hE ihC ihE hd hW' rall' hmode 0
                have harr:(first'.toList++caps'.toList).toArray=first'++caps':=by rw[←Array.toList_inj];simp
                rw[harr] at hcd
                unfold LeavesInM
                refine ⟨hu,.inr ⟨fun h=>(by cases h),.func h,caps',h,first'++caps',rfl,by simp only[invoke,callFunc_run hEn],fun _ _=>trivial, ?_⟩⟩
                refine ⟨trivial,fun c0 cs hc hroom=> ?_⟩
                obtain ⟨e,u',w'',frr,⟨⟨v,rfl⟩,hset,C3,hW3,hs3⟩,hcm,hkd,hfn,hgo⟩:=hcd.2 c0 cs hc hroom
                refine ⟨.returned v,u',w'',frr, ?_,hcm,hkd,hfn,hgo⟩
                show LeavesInM _ _ _ _ _ _ _ _ _
                rw[hset]
                exact ret_end hrs hres hW (hT'.step hs3) hW3 (hsC.trans hs3)
               refine body_core (a:={tmps:=b2.tmps,defers:=[{target:= .fn (.func h) caps',args:=first'}]}) ihE hcb hv hW m2 hsall m1 0 (fun id ts S=>by simp[finishD]) (fun x ts' S2 C' w' tmps' hx hK hT' hW' hs' hs2=> ?_) (fun v ts' S2 C' w' tmps' u hK hru hT' hW' hs' hs2=> ?_)
               ·have hK':(dcl E (lvl E n) h (first++caps) none S2).bind (fun S'=>(resVs ts' S' rs).map fun vs=>close S S' (oneOrTup vs))=some (r,S'):=by
                 rcases hx with rfl|rfl<;>exact hK
                simp only[Option.bind_eq_some_iff] at hK'
                obtain ⟨S3,hd3,hres⟩:=hK'
                exact dend none ts' S2 S3 C' w' tmps' .returning hd3 hres hT' hW' hs' hs2 rfl (by simp)
               ·have hK':(dcl E (lvl E n) h (first++caps) (some v) S2).bind (fun S'=>(resVs ts' S' rs).map fun vs=>close S S' (oneOrTup vs))=some (r,S'):=hK
                simp only[Option.bind_eq_some_iff] at hK'
                obtain ⟨S3,hd3,hres⟩:=hK'
                exact dend (some v) ts' S2 S3 C' w' tmps' _ hd3 hres hT' hW' hs' hs2 ⟨u,hru,rfl⟩ (by simp)
              rw[hl1]
              exact hreg1
             have:=wpIn_region_list (F:=FF none) (n:=0) (id:=i0) (by simpa using hreg0)
             exact this
            ·cases hdf
           ·cases hdf
          ·cases hdf
         ·cases hv
        ·cases hv
       ·cases hv
     ·simp only[Option.bind_eq_some_iff,Option.some.injEq] at hcf
      obtain ⟨cb',hcb,hcf⟩:=hcf
      simp only[EFn.strip,EFn.mk.injEq] at hcf
      obtain ⟨rfl,rfl,rfl,rfl,hd,_⟩:=hcf
      have hd':dfr=none:=by cases dfr with
       |none=>rfl
       |some _=>simp at hd
      subst hd'
      simp only[lvlB] at hv
      have hT0:=frame_start (P:=P) (nt:=fn.ntmps) hR hR' hnp.1 hnp.2
      refine body_core ihE hcb hv hW hW (.refl C w) hT0 0 (fun id ts S=>by simp[finish]) (fun x ts' S1 C' w' tmps' hx hK hT' hW' hs' _=> ?_) (fun v ts' S1 C' w' tmps' u hK=>by simp[finish] at hK)
      have hK':(resVs ts' S1 rs).map (fun vs=>close S S1 (oneOrTup vs))=some (r,S'):=by
       rcases hx with rfl|rfl<;>exact hK
      exact ret_end hrs hK' hW hT' hW' hs'
    ·cases hv
   ·simp only[yid] at hf
    rw[if_neg (show ¬ f=yid by simp only[yid];omega)] at hv
    cases hv
 ·cases hF:E.known (yid+1+f) with
  |some F=>
   obtain ⟨g,h0,h1,h2⟩:=hknown _ F args S r S' hF hv
   rcases h0 with ⟨h3,h4⟩|h3
   ·exact (y1 h3 h4).elim
   ·have:=y2 h3
    subst this
    exact ⟨h1,h2⟩
  |none=>
   simp only[lvl,hF] at hv
   split at hv
   ·rename_i c hc
    exact (y1 rfl (hE.tab _ c hc).1).elim
   ·rw[if_neg (show ¬ yid+1+f=yid from y5)] at hv;cases hv
 ·cases hF:E.known yid with
  |some F=>
   obtain ⟨g,h0,_⟩:=hknown _ F args S r S' hF hv
   rcases h0 with ⟨h3,h4⟩|h3
   ·exact (y4 h3 h4).elim
   ·exact (y3 h3).elim
  |none=>
   simp only[lvl,hF,if_true] at hv
   split at hv
   ·rename_i c hc
    exact (y4 rfl (hE.tab _ c hc).1).elim
   ·exact round_ok hE n ihE hv
theorem pan_ok {P:Program} {E:Env} (hE:EnvOk P E) (n:Nat) (ihE:EvOk P E n):PanOk P E.G (lvl E (n+1)).pan:=by
 intro f args S r S' hf hv
 simp only[lvl] at hv
 split at hv
 ·cases hv
 ·split at hv
  ·rename_i c hc
   split at hv
   ·rename_i hnp
    simp only[Option.bind_eq_some_iff] at hv
    obtain ⟨args',ha,hv⟩:=hv
    obtain ⟨_,fn,hf',hcf,hname⟩:=hE.tab f c hc
    obtain ⟨np,ntm,rs',cb,dfr,rc⟩:=c
    have hd':dfr=none:=by simpa using hnp.2.2
    subst hd'
    simp only[cFn,bind,Option.bind_eq_some_iff] at hcf
    obtain ⟨body,hb,rs,hrs,hcf⟩:=hcf
    refine ⟨⟨fn,hf',hname,by rw[hb];rfl⟩,fun C w vs hW hR=> ?_⟩
    have hR':=askD_rep hR ha
    refine callsOfFF (r:=none) (n:=0) (callsIn_of_wp_marks hf' hb trivial ?_)
    split at hcf
    ·simp only[Option.bind_eq_some_iff,Option.some.injEq] at hcf
     obtain ⟨_,_,_,_,_,_,_,_,hcf⟩:=hcf
     have:=congrArg EFn.dfr hcf
     simp[EFn.strip] at this
    ·simp only[Option.bind_eq_some_iff,Option.some.injEq] at hcf
     obtain ⟨cb',hcb,hcf⟩:=hcf
     simp only[EFn.strip,EFn.mk.injEq] at hcf
     obtain ⟨rfl,rfl,rfl,rfl,hd,_⟩:=hcf
     have hT0:=frame_start (P:=P) (nt:=fn.ntmps) hR hR' hnp.1 hnp.2.1
     refine body_core ihE hcb hv hW hW (.refl C w) hT0 0 (fun id ts S=>by simp[finishP]) (fun x ts' S1 C' w' tmps' hx hK=> ?_) (fun v ts' S1 C' w' tmps' u hK hru hT' hW' hs' _=> ?_)
     ·rcases hx with rfl|rfl<;>simp[finishP] at hK
     ·simp only[finishP,Option.some.injEq] at hK
      show PanR E.G C w r S' (.panicked [{v:=u,recovered:=false}]) w'
      obtain ⟨C2,g1,g2,g3⟩:=close_rep hW hW' hs' hru
      rw[hK] at g1 g2
      exact ⟨C2,u,rfl,g1,g2,g3⟩
   ·cases hv
  ·cases hv
theorem all_ok {P:Program} {E:Env} (hE:EnvOk P E): ∀ n,(CallOk P E.G (lvl E n).call∧PanOk P E.G (lvl E n).pan)∧EvOk P E n:=by
 intro n
 induction n using Nat.strongRecOn with
 |_ n ih=>
  cases n with
  |zero=>exact ⟨⟨⟨fun f args S r S' _ h=>by simp[lvl] at h,fun f args S r S' h=>by simp[lvl] at h,fun args S r S' h=>by simp[lvl] at h⟩,fun f args S r S' _ h=>by simp[lvl] at h⟩,fun nt code c hc ts S K r h=>by simp[lvl] at h⟩
  |succ n=>
   exact ⟨⟨call_ok hE n (ih n (by omega)).1.1 (ih n (by omega)).2,pan_ok hE n (ih n (by omega)).2⟩,ev_ok hE n (ih n (by omega)).1.1 (ih n (by omega)).1.2 fun m hm=>(ih m (by omega)).2⟩
def St.none:St:=⟨[],[]⟩
def Ctx.none:Ctx:=⟨fun _=> .none,fun _=> .none,fun _=>0⟩
theorem calls_of_ev {P:Program} {E:Env} (hE:EnvOk P E) {f:FuncId} (hfy:f<yid) {args:List PV} {r:PV} {S':St} (h:Ev E f args .none r S') {w:World} {vs:List Value} (hg: ∀ g cs,E.G.tab g=some cs→Rep .none w (.at_ cs) (.pointer (some ⟨g,0,none⟩))) (hbk: ∀ g o,E.G.blk g=some o→w.heap[g]?=some o) (hR:RepL .none w args vs):
  Calls P f vs.toArray w fun e w'=> ∃ C' v,e= .returned v∧Rep C' w' r v∧Below w.heap.size w w':=by
 obtain ⟨N,hN⟩:=h
 have nom: ∀ l b,Ctx.none.m l≠some b:=fun l b h=>by cases h
 have nod: ∀ l,Ctx.none.d l≠true:=fun l h=>by cases h
 have hW:WRel E.G .none .none w:=⟨fun l ob h=>(by simp[St.none] at h),fun l h=>absurd h (nod l),fun l b h=>absurd h (nom l b),fun l b h=>absurd h (nom l b),fun l l' b h=>absurd h (nom l b),fun k fr h=>(by simp[St.none] at h),fun k b fr h=>(by cases h),fun k k' b fr fr' h=>(by cases h),fun l b k fr h=>absurd h (nom l b),hg,fun g o h=>⟨hbk g o h,fun l=>nom l g,fun k fr h=>(by cases h)⟩⟩
 refine (((all_ok hE N).1.1.fn f args .none r S' hfy (hN N (Nat.le_refl _))).2 .none w vs hW hR).mono fun e w' h=> ?_
 obtain ⟨C',v,h1,h2,h3,h4⟩:=h
 exact ⟨C',v,h1,h2,⟨h4.ext.os,h4.ext.tape,h4.ext.output,h4.ext.size,fun k hk=>h4.ext.same k hk (fun l=>nom l k) (fun k fr h=>(by cases h))⟩⟩
end Go.PE
