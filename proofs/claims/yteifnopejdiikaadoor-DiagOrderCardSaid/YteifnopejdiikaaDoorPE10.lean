/-
  Every operation that is compiled does what the evaluator says. Conditions: each law's own.
-/
import Derived.Test.YteifnopejdiikaaDoorPE9
import Derived.CallsIn
import Derived.TacticsIn
namespace Go.PE
open Go Go.RowKit
set_option linter.unusedVariables false
set_option linter.unusedSimpArgs false
def FF (r:Option Nat):Fence:={fn:=fun _=>True,depth:=none,alive:=false,round:=r}
def CallSpec (P:Program) (G:Glob) (f:FuncId) (args:List PV) (S:St) (r:PV) (S':St):Prop:=
 ∀ (C:Ctx) (w:World) (vs:List Value),WRel G C S w→RepL C w args vs→
  Calls P f vs.toArray w fun e w'=> ∃ C' v,e= .returned v∧Rep C' w' r v∧WRel G C' S' w'∧Step C w C' w'
def PanSpec (P:Program) (G:Glob) (f:FuncId) (args:List PV) (S:St) (r:PV) (S':St):Prop:=
 ∀ (C:Ctx) (w:World) (vs:List Value),WRel G C S w→RepL C w args vs→
  Calls P f vs.toArray w fun e w'=> ∃ C' v,e= .panicked [{v:=v,recovered:=false}]∧Rep C' w' r v∧WRel G C' S' w'∧Step C w C' w'
def RoundSpec (P:Program) (G:Glob) (args:List PV) (S:St) (r:PV) (S':St):Prop:=
 ∀ (n:Nat) (q:Option Nat) (C:Ctx) (w:World) (b:Nat) (vs:List Value),WRel G C S w→RepL C w args (.func (.yield b) #[] #[]::vs)→
  ∃ L:Loop,w.heap[b]?=some (.loop L)∧vs.length=L.params.size∧
   RoundIn (FF q) n P b L.fn ((L.params.zip vs.toArray).foldl (fun tmps (t,a)=>tmps.setIfInBounds t a) L.tmps) L.assign L.body w fun e w'=> ∃ C' v,e= .returned v∧Rep C' w' r v∧WRel G C' S' w'∧Step C w C' w'
def Enter (P : Program) (f : FuncId) : Prop := ∃ fn, P.funcs[f]? = some fn ∧ (fn.name == "runtime.NumGoroutine") = false ∧ fn.body.isNone = false
structure CallOk (P:Program) (G:Glob) (call:CallFn):Prop where
 fn: ∀ f args S r S',f<yid→call f args S=some (r,S')→Enter P f∧CallSpec P G f args S r S'
 al: ∀ f args S r S',call (yid+1+f) args S=some (r,S')→Enter P f∧CallSpec P G f args S r S'
 rnd: ∀ args S r S',call yid args S=some (r,S')→RoundSpec P G args S r S'
def PanOk (P:Program) (G:Glob) (pan:CallFn):Prop:= ∀ f args S r S',f<yid→pan f args S=some (r,S')→Enter P f∧PanSpec P G f args S r S'
section
variable {nt:Nat} {P:Program} {G:Glob} {C:Ctx} {S:St} {w:World} {ts:Tmps} {a:Act} {o:Oper} {v:PV}
theorem RepL.append {l m:List PV} {us vs:List Value} (h:RepL C w l us) (k:RepL C w m vs):RepL C w (l++m) (us++vs):=by
 refine ⟨by simp[h.1,k.1],fun i p u hp hu=> ?_⟩
 by_cases hi:i<l.length
 ·rw[List.getElem?_append_left hi] at hp
  rw[List.getElem?_append_left (by rw[h.1];exact hi)] at hu
  exact h.2 i p u hp hu
 ·rw[List.getElem?_append_right (by omega)] at hp
  rw[List.getElem?_append_right (by rw[h.1];omega),h.1] at hu
  exact k.2 _ p u hp hu
theorem callFunc_run {f:FuncId} (h:Enter P f) (args:Array Value):(callFunc f args).run P w= .ok (.enter f args) w:=by
 obtain ⟨fn,h1,h2,h3⟩:=h
 unfold callFunc
 simp only[Sem.run_bind,run_program,Result.andThen_ok,h1,h2,h3,Bool.false_eq_true,if_false,Sem.run_pure]
theorem does_spec (hW:WRel G C S w) (hT:TR nt C w ts a.tmps) {c:Call} {f:Operand} {ef:EOpd} {es:List EOpd} (ho:o.op= .call c) (hc:c.callee= .value f) (hf:cOpd f=some ef) (hes:c.args.toList.mapM cOpd=some es) {g:FuncId} {first caps vs:List PV} {S':St}
  (hp:ef.val G ts=some (.fn g first caps)) (hvs:vals G ts es=some vs) (hE:Enter P g) (hS:CallSpec P G g (first++vs++caps) S v S'):Does P G C w S' v o a:=by
 have rf:=opd_rep hW hT hf hp
 have ra:=vals_rep hW hT hes hvs
 generalize eu:a.eval f=u at rf
 cases rf with|fn g first caps first' caps' hf0 e1 e2 r1 r2=>
 have rfirst:RepL C w first first'.toList:=⟨by simpa using e1,fun i p v hp hv=>r1 i p v hp (by simpa using hv)⟩
 have rcaps:RepL C w caps caps'.toList:=⟨by simpa using e2,fun i p v hp hv=>r2 i p v hp (by simpa using hv)⟩
 have rall:=(rfirst.append ra).append rcaps
 intro K Q hk
 have hrun:(execOp a.eval o).run P w= .ok (.enter g (first'++c.args.map a.eval++caps')) w:=by
  simp only[execOp,ho,resolve,hc,eu,Deferred.ofValue,invoke,Sem.run_bind,Sem.run_pure,Result.andThen_ok,callFunc_run hE]
 have harr:(first'.toList++c.args.toList.map a.eval++caps'.toList).toArray=first'++c.args.map a.eval++caps':=by
  rw[←Array.toList_inj];simp
 have:=hS C w _ hW rall
 rw[harr] at this
 unfold Oper.wp
 rw[hrun]
 refine this.mono fun e w' h=> ?_
 obtain ⟨C',v',rfl,g1,g2,g3⟩:=h
 exact hk C' w' v' g1 g2 g3
theorem fn_lt (hW:WRel G C S w) (hT:TR nt C w ts a.tmps) {f:Operand} {ef:EOpd} (hf:cOpd f=some ef) {g:FuncId} {first caps:List PV} (hp:ef.val G ts=some (.fn g first caps)):g<yid:=by
 have rf:=opd_rep hW hT hf hp
 generalize a.eval f=u at rf
 cases rf with|fn g first caps first' caps' hf0 e1 e2 r1 r2=>exact hf0
theorem does_call (hW:WRel G C S w) (hT:TR nt C w ts a.tmps) {call:CallFn} (hC:CallOk P G call) {c:Call} {f:Operand} {ef:EOpd} {es:List EOpd} (ho:o.op= .call c) (hc:c.callee= .value f) (hf:cOpd f=some ef) (hes:c.args.toList.mapM cOpd=some es) {g:FuncId} {first caps vs:List PV} {S':St}
  (hp:ef.val G ts=some (.fn g first caps)) (hvs:vals G ts es=some vs) (hv:call g (first++vs++caps) S=some (v,S')):Does P G C w S' v o a:=
 let ⟨hE,hS⟩:=hC.fn _ _ _ _ _ (fn_lt hW hT hf hp) hv
 does_spec hW hT ho hc hf hes hp hvs hE hS
theorem does_callM (hW:WRel G C S w) (hT:TR nt C w ts a.tmps) {call:CallFn} (hC:CallOk P G call) {c:Call} {f:Operand} {ef:EOpd} {es:List EOpd} (ho:o.op= .call c) (hc:c.callee= .value f) (hf:cOpd f=some ef) (hes:c.args.toList.mapM cOpd=some es) {S':St}
  (hv:evOp G call ts S (.callM ef es)=some (v,S')):Does P G C w S' v o a:=by
 simp only[evOp] at hv
 split at hv
 ·rename_i g first caps vs hp hvs
  obtain ⟨hE,hS⟩:=hC.al _ _ _ _ _ hv
  exact does_spec hW hT ho hc hf hes hp hvs hE hS
 ·cases hv
def DoesIn (P:Program) (G:Glob) (C:Ctx) (w:World) (S':St) (v:PV) (o:Oper) (a:Act):Prop:=
 ∀ (r:Option Nat) (n:Nat) (K:Act→World→Prop) (Q:Exit→Act→World→Prop),
  (∀ C' w' v',Rep C' w' v v'→WRel G C' S' w'→Step C w C' w'→K (a.put o.dst v') w')→o.wpIn (FF r) n P a w K Q
theorem callsFF {r:Option Nat} {n:Nat} {f:FuncId} {args:Array Value} {R:Ending→World→Prop} (h:Calls P f args w R):CallsIn (FF r) n P f args w R:=(callsIn_wide (n:=n)).2 h
theorem callsOfFF {r:Option Nat} {n:Nat} {f:FuncId} {args:Array Value} {R:Ending→World→Prop} (h:CallsIn (FF r) n P f args w R):Calls P f args w R:=(callsIn_wide (n:=n)).1 h
theorem rowsFF {r:Option Nat} {n:Nat} {row:String} {args:Array Value} {R:Value→World→Prop} (h:Rows P row args w R):RowsIn (FF r) n P row args w R:=
 fun c cs _=>let ⟨v,w',hr,hs⟩:=h c cs;⟨v,w',hr,stepsIn_wide.2 hs⟩
theorem wpIn_of_wp (hnd: ∀ c,o.op≠ .defer c) {r:Option Nat} {n:Nat} {K:Act→World→Prop} {Q:Exit→Act→World→Prop} (h:o.wp P a w K Q):o.wpIn (FF r) n P a w K Q:=by
 refine ⟨fun f _=>trivial, ?_⟩
 rw[Oper.semAt_eq _ _ _ hnd]
 unfold Oper.wp at h
 generalize (execOp a.eval o).run P w=res at h ⊢
 cases res with
 |ok x w'=>
  cases x<;>simp only[Oper.upon,Oper.uponIn] at h ⊢ <;>
   first
    |exact h
    |exact ⟨fun h=>(by cases h),callsFF h⟩
    |exact ⟨fun h=>(by cases h),rowsFF h⟩
 |halt x w'=>cases x<;>simp only[Oper.upon,Oper.uponIn] at h ⊢ <;>exact h
theorem cOp_nd {e:EOp} (h:cOp P o=some e): ∀ c,o.op≠ .defer c:=by
 intro c hc
 simp[cOp,hc] at h
theorem does_yld (hW:WRel G C S w) (hT:TR nt C w ts a.tmps) {call:CallFn} (hC:CallOk P G call) {c:Call} {f:Operand} {ef:EOpd} {es:List EOpd} (ho:o.op= .call c) (hc:c.callee= .value f) (hf:cOpd f=some ef) (hes:c.args.toList.mapM cOpd=some es) {l:Nat} {vs:List PV} {S':St}
  (hp:ef.val G ts=some (.yld l)) (hvs:vals G ts es=some vs) (hv:call yid (.yld l::vs) S=some (v,S')):DoesIn P G C w S' v o a:=by
 have hS:=hC.rnd _ _ _ _ hv
 have rf:=opd_rep hW hT hf hp
 have ra:=vals_rep hW hT hes hvs
 generalize eu:a.eval f=u at rf
 cases rf with|yld l b hb=>
 have rall:RepL C w (.yld l::vs) (.func (.yield b) #[] #[]::c.args.toList.map a.eval):=by
  refine ⟨by simpa using ra.1,fun i p u hp hu=> ?_⟩
  cases i with
  |zero=>simp at hp hu;subst hp hu;exact .yld l b hb
  |succ i=>exact ra.2 i p u (by simpa using hp) (by simpa using hu)
 intro r n K Q hk
 obtain ⟨L,hL,hlen,hR⟩:=hS (n - 1) r C w b _ hW rall
 have hsz:(c.args.map a.eval).size=L.params.size:=by simpa using hlen
 have harr:(c.args.toList.map a.eval).toArray=c.args.map a.eval:=by rw[←Array.toList_inj];simp
 rw[harr] at hR
 have hrun:(execOp a.eval o).run P w= .ok (.round b L.fn ((L.params.zip (c.args.map a.eval)).foldl (fun tmps (t,a)=>tmps.setIfInBounds t a) L.tmps) L.assign L.body) w:=by
  simp only[execOp,ho,resolve,hc,eu,Deferred.ofValue,invoke,Sem.run_bind,Sem.run_pure,Result.andThen_ok,Array.append_empty,Array.empty_append]
  simp only[Instr.yield,Instr.getLoop,getObj,Sem.run_bind,Sem.run,hL,Result.andThen_ok]
  simp[hsz]
 refine ⟨fun f _=>trivial, ?_⟩
 rw[Oper.semAt_eq _ _ _ (by intro c' h;rw[ho] at h;cases h),hrun]
 refine ⟨fun h=>(by cases h),hR.mono fun e w' h=> ?_⟩
 obtain ⟨C',v',rfl,g1,g2,g3⟩:=h
 exact hk C' w' v' g1 g2 g3
theorem does_boxI (hW:WRel G C S w) (hT:TR nt C w ts a.tmps) {t:TypeId} {x:Operand} {ex:EOpd} (ho:o.op= .box t x) (hx:cOpd x=some ex) {p:PV} (hp:ex.val G ts=some p) (hok:p.okc=true):Does P G C w S (.at_ p.cells) o a:=by
 have hr:=opd_rep hW hT hx hp
 have hb:=below_push w (.cells (a.eval x).cells t)
 refine Does.below hW hb (v':= .pointer (some ⟨w.heap.size,0,none⟩)) (by simp[execOp,ho,Instr.box,newVar,newRow]) ?_
 have hc:=(hr.step (.of_below hb C)).cells hok
 have hnb:({w with heap:=w.heap.push (.cells (a.eval x).cells t)}:World).heap[w.heap.size]?=some (.cells (a.eval x).cells t (0,0)):=by simp
 have get: ∀ {i:Nat} {q:PV},p.cells[i]?=some q→ ∃ v,({w with heap:=w.heap.push (.cells (a.eval x).cells t)}:World).cell? ⟨w.heap.size,0+i,none⟩=some v∧Rep C {w with heap:=w.heap.push (.cells (a.eval x).cells t)} q v:=fun {i q} hq=>by
  have hi:i<(a.eval x).cells.toList.length:=by rw[hc.1];exact getElem?_lt hq
  have hu:=List.getElem?_eq_getElem hi
  refine ⟨_, ?_,hc.2.2 i q _ hq hu⟩
  rw[Nat.zero_add]
  exact cell?_of hnb (by rw[←Array.getElem?_toList];exact hu)
 refine .at_ _ _ 0 (by simp) ⟨fun l hl=>by have:=hW.m_lt hl;omega,fun k fr hk=>by have:=(hW.odom k _ fr hk).2;omega⟩ hc.2.1 (fun i q hq=> ?_) (fun i q v hq hv=> ?_)
 ·obtain ⟨v,hv,_⟩:=get hq;exact ⟨v,hv⟩
 ·obtain ⟨v',hv',hr'⟩:=get hq
  rw[hv'] at hv;injection hv with hv;subst hv;exact hr'
theorem cOp_box {t0:TypeId} {x:EOpd} (h:cOp P o=some (.box t0 x)): ∃ t y,o.op= .box t y:=by
 cases ho:o.op with
 |box t y=>exact ⟨t,y,rfl⟩
 |_=>
  exfalso
  simp only[cOp,ho,cEq] at h
  (repeat' split at h)<;>simp_all [bind,Option.bind_eq_some_iff,Option.map_eq_some_iff]<;>(try (obtain ⟨_,_,h⟩:=h;(repeat' split at h)<;>simp_all [bind,Option.bind_eq_some_iff]))<;>(try grind)
theorem op_does0 (hW:WRel G C S w) (hT:TR nt C w ts a.tmps) {call:CallFn} (hC:CallOk P G call) {e:EOp} (hc:cOp P o=some e) {S':St} (hv:evOp G call ts S e=some (v,S')) (hny: ∀ f xs l,e= .call f xs→f.val G ts≠some (.yld l)):Does P G C w S' v o a:=by
 cases ho:o.op with
 |move x=>
  simp only[cOp,ho,Option.map_eq_some_iff] at hc
  obtain ⟨ex,hx,rfl⟩:=hc
  simp only[evOp,Option.map_eq_some_iff] at hv
  obtain ⟨q,hq,hv⟩:=hv
  injection hv with e1 e2;subst e1 e2
  exact does_mv hW hT (.inl ho) hx hq
 |assign x=>
  simp only[cOp,ho,Option.map_eq_some_iff] at hc
  obtain ⟨ex,hx,rfl⟩:=hc
  simp only[evOp,Option.map_eq_some_iff] at hv
  obtain ⟨q,hq,hv⟩:=hv
  injection hv with e1 e2;subst e1 e2
  exact does_mv hW hT (.inr ho) hx hq
 |pick c x y=>
  simp only[cOp,ho,bind,Option.bind_eq_some_iff,Option.some.injEq] at hc
  obtain ⟨ec,h1,ex,h2,ey,h3,rfl⟩:=hc
  simp only[evOp] at hv
  split at hv
  ·rename_i t ht
   simp only[Option.map_eq_some_iff] at hv
   obtain ⟨q,hq,hv⟩:=hv
   injection hv with e1 e2;subst e1 e2
   exact does_pick hW hT ho h1 h2 h3 ht hq
  ·cases hv
 |alloc t=>
  simp only[cOp,ho,bind,Option.bind_eq_some_iff,Option.some.injEq] at hc
  obtain ⟨z,hz,rfl⟩:=hc
  simp only[evOp,Option.some.injEq,Prod.mk.injEq] at hv
  obtain ⟨rfl,rfl⟩:=hv
  exact does_new hW ho hz
 |box t x=>
  simp only[cOp,ho,bind,Option.bind_eq_some_iff,Option.some.injEq] at hc
  obtain ⟨ex,hx,rfl⟩:=hc
  simp only[evOp,Option.bind_eq_some_iff] at hv
  obtain ⟨q,hq,hv⟩:=hv
  split at hv
  ·cases hv
  ·rename_i hok
   simp at hok
   injection hv with hv;injection hv with e1 e2;subst e1 e2
   exact does_box hW hT ho hx hq hok
 |build t parts=>
  simp only[cOp,ho,bind,Option.bind_eq_some_iff] at hc
  obtain ⟨z,hz,hc⟩:=hc
  split at hc
  ·rename_i fs ht
   split at hc
   ·cases hc
   ·rename_i hall
    simp only[Option.bind_eq_some_iff,Option.some.injEq] at hc
    obtain ⟨ps,hps,rfl⟩:=hc
    simp only[evOp,Option.map_eq_some_iff] at hv
    obtain ⟨cs,hcs,hv⟩:=hv
    injection hv with e1 e2;subst e1 e2
    obtain ⟨m1,m2⟩:=mapM_some hps
    refine does_buildS hW hT ho hz ht ?_ ⟨m1,fun i x y hx hy=> ?_⟩ hcs
    ·intro f hf
     obtain ⟨i,hi,rfl⟩:=Array.mem_iff_getElem.1 hf
     have hall': ∀ (i:Nat) (h:i<fs.size),¬ sizeP P fs[i].type=none:=by simpa using hall
     have:=hall' i hi
     cases h:sizeP P fs[i].type with
     |none=>exact absurd h this
     |some _=>rfl
    ·have:=m2 i x y hx hy
     simp only[bind,Option.bind_eq_some_iff,Option.some.injEq] at this
     obtain ⟨f,hf,s,hs,e',he,rfl⟩:=this
     exact ⟨f,hf,rfl,hs,he⟩
  ·rename_i n e' ht
   simp only[Option.bind_eq_some_iff,Option.some.injEq] at hc
   obtain ⟨sz,hsz,ps,hps,rfl⟩:=hc
   simp only[evOp,Option.map_eq_some_iff] at hv
   obtain ⟨cs,hcs,hv⟩:=hv
   injection hv with e1 e2;subst e1 e2
   obtain ⟨m1,m2⟩:=mapM_some hps
   refine does_buildA hW hT ho hz ht hsz ⟨m1,fun i x y hx hy=> ?_⟩ hcs
   have:=m2 i x y hx hy
   simp only[bind,Option.bind_eq_some_iff,Option.some.injEq] at this
   obtain ⟨e',he,rfl⟩:=this
   exact ⟨rfl,rfl,he⟩
  ·cases hc
 |buildSlice t n parts=>
  simp only[cOp,ho] at hc
  split at hc
  ·rename_i e' ht
   simp only[bind,Option.bind_eq_some_iff] at hc
   obtain ⟨sz,hsz,hc⟩:=hc
   split at hc
   ·cases hc
   ·rename_i hlim
    simp only[Option.bind_eq_some_iff] at hc
    obtain ⟨z,hz,hc⟩:=hc
    split at hc
    ·cases hc
    ·rename_i hzl
     simp only[Option.bind_eq_some_iff,Option.some.injEq] at hc
     obtain ⟨ps,hps,rfl⟩:=hc
     simp only[evOp,Option.bind_eq_some_iff] at hv
     obtain ⟨cs,hcs,hv⟩:=hv
     split at hv
     ·rename_i hlen
      injection hv with hv;injection hv with e1 e2;subst e1 e2
      obtain ⟨m1,m2⟩:=mapM_some hps
      simp at hlim hzl
      refine does_rows hW hT ho ht hsz (by omega) hlim.2 hz hzl ⟨m1,fun i x y hx hy=> ?_⟩ hcs hlen
      have:=m2 i x y hx hy
      simp only[Option.map_eq_some_iff] at this
      obtain ⟨e',he,rfl⟩:=this
      exact ⟨rfl,he⟩
     ·cases hv
  ·cases hc
 |makeSlice t n c=>
  simp only[cOp,ho] at hc
  split at hc
  ·rename_i e' ht
   simp only[bind,Option.bind_eq_some_iff] at hc
   obtain ⟨i,hi,z,hz,hc⟩:=hc
   split at hc
   ·cases hc
   ·rename_i hlim
    simp only[Option.bind_eq_some_iff,Option.some.injEq] at hc
    obtain ⟨en,hn,ec,hcc,rfl⟩:=hc
    simp only[evOp] at hv
    split at hv
    ·rename_i kl m kc m' hp hq
     split at hv
     ·rename_i hh
      obtain ⟨h1,rfl,h3,h4⟩:=hh
      injection hv with hv;injection hv with e1 e2;subst e1 e2
      exact does_mks hW hT ho ht hi hz (by omega) (by omega) hn hcc hp hq h1 h3 h4
     ·cases hv
    ·cases hv
  ·cases hc
 |load t x=>
  simp only[cOp,ho,bind,Option.bind_eq_some_iff,Option.some.injEq] at hc
  obtain ⟨n,hn,ex,hx,rfl⟩:=hc
  simp only[evOp,Option.bind_eq_some_iff,Option.map_eq_some_iff] at hv
  obtain ⟨p,hp,cs,hcs,q,hq,hv⟩:=hv
  injection hv with e1 e2;subst e1 e2
  exact does_ld hW hT ho hn hx hp hcs hq
 |store t x y=>
  simp only[cOp,ho,bind,Option.bind_eq_some_iff,Option.some.injEq] at hc
  obtain ⟨n,hn,ex,hx,ey,hy,rfl⟩:=hc
  simp only[evOp] at hv
  split at hv
  ·rename_i l q p hp hq
   split at hv
   ·rename_i ct cs hcs
    split at hv
    ·rename_i hcnd
     injection hv with hv;injection hv with e1 e2;subst e1 e2
     exact does_st hW hT ho hn hx hy hp hq hcs hcnd.1 hcnd.2.1 hcnd.2.2
    ·cases hv
   ·rename_i ct cs hcs
    split at hv
    ·rename_i hcnd
     injection hv with hv;injection hv with e1 e2;subst e1 e2
     exact does_stR hW hT ho hn hx hy hp hq hcs hcnd.1 hcnd.2.1 hcnd.2.2
    ·cases hv
   ·cases hv
  ·cases hv
 |nilCheck x=>
  simp only[cOp,ho,bind,Option.bind_eq_some_iff,Option.some.injEq] at hc
  obtain ⟨ex,hx,rfl⟩:=hc
  simp only[evOp] at hv
  split at hv
  ·rename_i l q hp
   injection hv with hv;injection hv with e1 e2;subst e1 e2
   exact does_nck hW hT ho hx hp (.inl ⟨_,_,rfl⟩)
  ·rename_i cs hp
   injection hv with hv;injection hv with e1 e2;subst e1 e2
   exact does_nck hW hT ho hx hp (.inr ⟨_,rfl⟩)
  ·cases hv
 |binOp op t x y t'=>
  have bin: ∀ {op:BinOp} {ex ey:EOpd},o.op= .binOp op t x y t'→cOpd x=some ex→cOpd y=some ey→evOp G call ts S (.bin op ex ey)=some (v,S')→Does P G C w S' v o a:=by
   intro op ex ey ho hx hy hv
   simp only[evOp] at hv
   split at hv
   ·rename_i p q hp hq
    simp only[Option.map_eq_some_iff] at hv
    obtain ⟨r,hr,hv⟩:=hv
    injection hv with e1 e2;subst e1 e2
    exact does_bin hW hT ho hx hy hp hq hr
   ·cases hv
  have eq: ∀ (neg:Bool) {ex ey:EOpd},o.op= .binOp (if neg then .neq else .eql) t x y t'→cOpd x=some ex→cOpd y=some ey→cEq P neg t ex ey=some e→Does P G C w S' v o a:=by
   intro neg ex ey ho hx hy hc
   unfold cEq at hc
   split at hc
   ·injection hc with hc;subst hc;exact bin ho hx hy hv
   ·injection hc with hc;subst hc;exact bin ho hx hy hv
   ·rename_i ht
    injection hc with hc;subst hc
    simp only[evOp] at hv
    split at hv
    ·rename_i p q hp hq
     injection hv with hv;injection hv with e1 e2;subst e1 e2
     exact does_eqB hW hT ho ht hx hy hp hq
    ·cases hv
   ·rename_i el ht
    split at hc
    ·injection hc with hc;subst hc
     have hS:S'=S:=by
      simp only[evOp] at hv
      split at hv<;>first|(injection hv with hv;injection hv with e1 e2;exact e2.symm)|cases hv
     subst hS
     exact does_eqP hW hT ho ht hx hy call hv
    ·cases hc
   ·rename_i ms ht
    injection hc with hc;subst hc
    have hS:S'=S:=by
     simp only[evOp] at hv
     (repeat' split at hv)<;>first|(injection hv with hv;injection hv with e1 e2;exact e2.symm)|cases hv
    subst hS
    exact does_eqI hW hT ho ht hx hy call hv
   ·rename_i el ht
    injection hc with hc;subst hc
    have hS:S'=S:=by
     simp only[evOp] at hv
     split at hv<;>first|(injection hv with hv;injection hv with e1 e2;exact e2.symm)|cases hv
    subst hS
    exact does_eqL hW hT ho ht hx hy call hv
   ·rename_i fs ht
    split at hc
    ·cases hc
    ·rename_i hg
     simp only[Option.bind_eq_some_iff,Option.map_eq_some_iff] at hc
     obtain ⟨n,hn,offs,hoffs,rfl⟩:=hc
     simp only[evOp] at hv
     split at hv
     ·rename_i l m hp hq
      split at hv
      ·rename_i hlen
       simp only[Option.map_eq_some_iff] at hv
       obtain ⟨r,hr,hv⟩:=hv
       injection hv with e1 e2;subst e1 e2
       exact does_eqG hW hT ho ht hn hoffs (by simpa using hg) hx hy hp hq hlen.1 hlen.2 hr
      ·cases hv
     ·cases hv
   ·cases hc
  by_cases h1:op= .eql
  ·subst h1
   simp only[cOp,ho,bind,Option.bind_eq_some_iff] at hc
   obtain ⟨ex,hx,ey,hy,hc⟩:=hc
   exact eq false ho hx hy hc
  ·by_cases h2:op= .neq
   ·subst h2
    simp only[cOp,ho,bind,Option.bind_eq_some_iff] at hc
    obtain ⟨ex,hx,ey,hy,hc⟩:=hc
    exact eq true ho hx hy hc
   ·have hc':(do some (EOp.bin op (←cOpd x) (←cOpd y)))=some e:=by
     cases op<;>first|exact absurd rfl h1|exact absurd rfl h2|simpa [cOp,ho] using hc
    simp only[bind,Option.bind_eq_some_iff,Option.some.injEq] at hc'
    obtain ⟨ex,hx,ey,hy,rfl⟩:=hc'
    exact bin ho hx hy hv
 |unOp op t x=>
  simp only[cOp,ho,bind,Option.bind_eq_some_iff,Option.some.injEq] at hc
  obtain ⟨ex,hx,rfl⟩:=hc
  have hS:S'=S:=by
   simp only[evOp] at hv
   split at hv<;>first|(injection hv with hv;injection hv with e1 e2;exact e2.symm)|cases hv
  subst hS
  exact does_un hW hT ho hx hv
 |convert s d x=>
  simp only[cOp,ho,bind,Option.bind_eq_some_iff] at hc
  obtain ⟨ex,hx,hc⟩:=hc
  split at hc
  ·rename_i j k hs hd
   injection hc with hc;subst hc
   simp only[evOp] at hv
   split at hv
   ·rename_i l n hp
    injection hv with hv;injection hv with e1 e2;subst e1 e2
    exact does_cvI hW hT ho hs hd hx hp
   ·cases hv
  ·rename_i hs hd
   injection hc with hc;subst hc
   simp only[evOp] at hv
   split at hv
   ·rename_i r hp
    injection hv with hv;injection hv with e1 e2;subst e1 e2
    exact does_cvS hW hT ho hs hd hx hp
   ·cases hv
  ·rename_i el hs hd
   split at hc
   ·rename_i he
    injection hc with hc;subst hc
    simp only[evOp] at hv
    split at hv
    ·rename_i r hp
     injection hv with hv;injection hv with e1 e2;subst e1 e2
     exact does_s2b hW hT ho hs hd he hx hp
    ·cases hv
   ·cases hc
  ·rename_i el hs hd
   split at hc
   ·rename_i he
    injection hc with hc;subst hc
    simp only[evOp] at hv
    split at hv
    ·rename_i g xs hp
     simp only[Option.map_eq_some_iff] at hv
     obtain ⟨l,hl,hv⟩:=hv
     injection hv with e1 e2;subst e1 e2
     exact does_b2s hW hT ho hs hd he hx hp hl
    ·cases hv
   ·cases hc
  ·cases hc
 |makeInterface t x=>
  simp only[cOp,ho] at hc
  split at hc
  ·cases hc
  ·rename_i d hni hd
   simp only[bind,Option.bind_eq_some_iff,Option.some.injEq] at hc
   obtain ⟨ex,hx,rfl⟩:=hc
   simp only[evOp,Option.map_eq_some_iff] at hv
   obtain ⟨p,hp,hv⟩:=hv
   injection hv with e1 e2;subst e1 e2
   exact does_ifc hW hT ho hd (fun ms h=>hni ms (by rw[h])) hx hp
  ·cases hc
 |makeFunc fn first caps=>
  cases fn with
  |func f=>
   simp only[cOp,ho] at hc
   split at hc
   ·cases hc
   ·rename_i hf0
    simp only[bind,Option.bind_eq_some_iff,Option.some.injEq] at hc
    obtain ⟨e1,h1,e2,h2,rfl⟩:=hc
    simp only[evOp] at hv
    split at hv
    ·rename_i p q hp hq
     injection hv with hv;injection hv with e1 e2;subst e1 e2
     exact does_fnv hW hT (by simpa using hf0) ho h1 h2 hp hq
    ·cases hv
  |_=>simp[cOp,ho] at hc
 |slice t x lo hi mx=>
  simp only[cOp,ho] at hc
  split at hc
  ·rename_i ht
   split at hc
   ·cases hc
   ·rename_i hmx
    have:mx=none:=by simpa using hmx
    subst this
    simp only[bind,Option.bind_eq_some_iff,Option.some.injEq] at hc
    obtain ⟨ex,hx,el,hl,eh,hh,rfl⟩:=hc
    simp only[evOp] at hv
    split at hv
    ·rename_i s pl ph hp hpl hph
     simp only[Option.bind_eq_some_iff,Option.some.injEq] at hv
     obtain ⟨h,bh,l,bl,hv⟩:=hv
     injection hv with e1 e2;subst e1 e2
     exact does_slS hW hT ho ht hx hl hh hp hpl hph bh bl
    ·cases hv
  ·rename_i e' ht
   simp only[bind,Option.bind_eq_some_iff,Option.some.injEq] at hc
   obtain ⟨sz,hsz,ex,hx,el,hl,eh,hh,em,hm,rfl⟩:=hc
   simp only[evOp] at hv
   split at hv
   ·rename_i g xs pl ph pm hp hpl hph hpm
    split at hv
    ·cases hv
    ·rename_i hcnd
     simp only[Bool.or_eq_true,Bool.and_eq_true,Bool.not_eq_true',not_or,not_and,Bool.not_eq_false] at hcnd
     simp only[Option.bind_eq_some_iff,Option.some.injEq] at hv
     obtain ⟨m,bm,h,bh,l,bl,hv⟩:=hv
     injection hv with e1 e2;subst e1 e2
     exact does_slL hW hT ho ht hsz hx hl hh hm hp hpl hph hpm (fun h=>hcnd.1 h.1 h.2) bm bh bl hcnd.2
   ·rename_i k q n s pl ph hp hpl hph hpm
    split at hv
    ·cases hv
    ·rename_i hs
     simp only[ne_eq,Decidable.not_not] at hs;subst hs
     have hmx:mx=none:=by
      cases mx with
      |none=>rfl
      |some mx=>
       simp only[cOpt,Option.map_eq_some_iff] at hm
       obtain ⟨em',_,rfl⟩:=hm
       simp only[optVal,Option.map_eq_some_iff] at hpm
       obtain ⟨_,_,h⟩:=hpm
       cases h
     subst hmx
     simp only[Option.bind_eq_some_iff,Option.some.injEq] at hv
     obtain ⟨h,bh,l,bl,hv⟩:=hv
     injection hv with e1 e2;subst e1 e2
     exact does_slM hW hT ho ht hsz hx hl hh hp hpl hph bh bl
   ·cases hv
  ·cases hc
 |fieldAddr t x f=>
  simp only[cOp,ho,bind,Option.bind_eq_some_iff] at hc
  obtain ⟨fs,hfs,fd,hf,hc⟩:=hc
  split at hc
  ·cases hc
  ·rename_i hn
   simp only[Option.bind_eq_some_iff,Option.some.injEq] at hc
   obtain ⟨ex,hx,rfl⟩:=hc
   simp only[not_or] at hn
   have hS:S'=S:=by
    simp only[evOp] at hv
    split at hv
    ·injection hv with hv;injection hv with e1 e2;exact e2.symm
    ·split at hv
     ·injection hv with hv;injection hv with e1 e2;exact e2.symm
     ·cases hv
    ·cases hv
   subst hS
   cases hsz:sizeP P fd.type with
   |none=>exact absurd hsz hn.2
   |some n=>
    have ht:P.underlying t=some (.struct fs):=by
     unfold structP at hfs;split at hfs
     ·rename_i fs' h;injection hfs with hfs;rw[h,hfs]
     ·cases hfs
    exact does_fA hW hT ho ht hf hsz (fun h=>hn.1 (by rw[hsz,h])) hx call hv
 |field t x f=>
  simp only[cOp,ho,bind,Option.bind_eq_some_iff,Option.some.injEq] at hc
  obtain ⟨fs,hfs,fd,hf,n,hn,ex,hx,rfl⟩:=hc
  have ht:P.underlying t=some (.struct fs):=by
   unfold structP at hfs;split at hfs
   ·rename_i fs' h;injection hfs with hfs;rw[h,hfs]
   ·cases hfs
  simp only[evOp] at hv
  split at hv
  ·rename_i cs hp
   simp only[Option.map_eq_some_iff] at hv
   obtain ⟨q,hq,hv⟩:=hv
   injection hv with e1 e2;subst e1 e2
   exact does_fld hW hT ho ht hf hn hx hp hq
  ·cases hv
 |indexAddr t x i=>
  simp only[cOp,ho] at hc
  split at hc
  ·rename_i e' ht
   simp only[bind,Option.bind_eq_some_iff,Option.some.injEq] at hc
   obtain ⟨sz,hsz,ex,hx,ei,hi,rfl⟩:=hc
   simp only[evOp] at hv
   split at hv
   ·rename_i g xs iv hp hq
    simp only[Option.bind_eq_some_iff] at hv
    obtain ⟨j,hj,r,hr,hv⟩:=hv
    split at hv
    ·rename_i hlen
     injection hv with hv;injection hv with e1 e2;subst e1 e2
     exact does_ixL hW hT ho ht hsz hx hi hp hq hj hr hlen
    ·cases hv
   ·rename_i l q n s iv hp hq
    split at hv
    ·cases hv
    ·rename_i hs
     simp only[ne_eq,Decidable.not_not] at hs;subst hs
     simp only[Option.map_eq_some_iff] at hv
     obtain ⟨j,hj,hv⟩:=hv
     injection hv with e1 e2;subst e1 e2
     exact does_ixM hW hT ho ht hsz hx hi hp hq hj
   ·cases hv
  ·rename_i n e' ht
   simp only[bind,Option.bind_eq_some_iff,Option.some.injEq] at hc
   obtain ⟨sz,hsz,ex,hx,ei,hi,rfl⟩:=hc
   have hS:S'=S:=by
    simp only[evOp] at hv
    split at hv
    ·simp only[Option.map_eq_some_iff] at hv
     obtain ⟨j,_,hv⟩:=hv
     injection hv with e1 e2;exact e2.symm
    ·simp only[Option.bind_eq_some_iff] at hv
     obtain ⟨j,_,hv⟩:=hv
     split at hv
     ·injection hv with hv;injection hv with e1 e2;exact e2.symm
     ·cases hv
    ·cases hv
   subst hS
   exact does_ixP hW hT ho ht hsz hx hi call hv
  ·cases hc
 |index t x i=>
  simp only[cOp,ho] at hc
  split at hc
  ·rename_i ht
   simp only[bind,Option.bind_eq_some_iff,Option.some.injEq] at hc
   obtain ⟨ex,hx,ei,hi,rfl⟩:=hc
   simp only[evOp] at hv
   split at hv
   ·rename_i s iv hp hq
    simp only[Option.bind_eq_some_iff,Option.map_eq_some_iff] at hv
    obtain ⟨j,hj,b,hb,hv⟩:=hv
    injection hv with e1 e2;subst e1 e2
    exact does_ixS hW hT ho ht hx hi hp hq hj hb
   ·cases hv
  ·rename_i n e' ht
   simp only[bind,Option.bind_eq_some_iff,Option.some.injEq] at hc
   obtain ⟨sz,hsz,m,hm,ex,hx,ei,hi,rfl⟩:=hc
   simp only[evOp] at hv
   split at hv
   ·rename_i cs iv hp hq
    simp only[Option.bind_eq_some_iff,Option.map_eq_some_iff] at hv
    obtain ⟨j,hj,q,hq',hv⟩:=hv
    injection hv with e1 e2;subst e1 e2
    exact does_ixG hW hT ho ht hsz hm hx hi hp hq hj hq'
   ·cases hv
  ·cases hc
 |range t x=>
  simp only[cOp,ho] at hc
  split at hc
  ·rename_i ht
   simp only[bind,Option.bind_eq_some_iff,Option.some.injEq] at hc
   obtain ⟨ex,hx,rfl⟩:=hc
   simp only[evOp] at hv
   split at hv
   ·rename_i s hp
    injection hv with hv;injection hv with e1 e2;subst e1 e2
    exact does_rng hW hT ho ht hx hp
   ·cases hv
  ·cases hc
 |next x str=>
  cases str with
  |false=>simp[cOp,ho] at hc
  |true=>
   simp only[cOp,ho,bind,Option.bind_eq_some_iff,Option.some.injEq] at hc
   obtain ⟨ex,hx,rfl⟩:=hc
   simp only[evOp] at hv
   split at hv
   ·rename_i l hp
    split at hv
    ·rename_i s pos hob
     have:=does_nxt (P:=P) hW hT ho hx hp hob
     split at hv
     ·rename_i hlt
      injection hv with hv;injection hv with e1 e2;subst e1 e2
      rwa[if_pos hlt] at this
     ·rename_i hlt
      injection hv with hv;injection hv with e1 e2;subst e1 e2
      rwa[if_neg hlt] at this
    ·cases hv
   ·cases hv
 |extract x i=>
  simp only[cOp,ho,bind,Option.bind_eq_some_iff,Option.some.injEq] at hc
  obtain ⟨ex,hx,rfl⟩:=hc
  simp only[evOp] at hv
  split at hv
  ·rename_i l hp
   simp only[Option.map_eq_some_iff] at hv
   obtain ⟨q,hq,hv⟩:=hv
   injection hv with e1 e2;subst e1 e2
   exact does_ext hW hT ho hx hp hq
  ·cases hv
 |call c=>
  simp only[cOp,ho] at hc
  split at hc
  ·rename_i f hcal
   simp only[bind,Option.bind_eq_some_iff,Option.some.injEq] at hc
   obtain ⟨ef,hf,es,hes,rfl⟩:=hc
   simp only[evOp] at hv
   split at hv
   ·rename_i g first caps vs hp hvs
    exact does_call hW hT hC ho hcal hf hes hp hvs hv
   ·rename_i l vs hp hvs
    exact absurd hp (hny _ _ _ rfl)
   ·cases hv
  ·rename_i hcal
   split at hc
   ·rename_i x hargs
    have hargs':c.args= #[x]:=by rw[←Array.toList_inj];exact hargs
    split at hc
    ·rename_i t ht
     split at hc
     ·rename_i hu
      simp only[bind,Option.bind_eq_some_iff,Option.some.injEq] at hc
      obtain ⟨ex,hx,rfl⟩:=hc
      simp only[evOp] at hv
      split at hv
      ·rename_i r hp
       simp only[if_true,Option.some.injEq,Prod.mk.injEq] at hv
       obtain ⟨rfl,rfl⟩:=hv
       exact does_lenS hW hT ho hcal hargs' ht hu hx hp
      ·simp at hv
      ·simp at hv
      ·cases hv
     ·rename_i el hu
      simp only[bind,Option.bind_eq_some_iff,Option.some.injEq] at hc
      obtain ⟨ex,hx,rfl⟩:=hc
      simp only[evOp] at hv
      split at hv
      ·simp at hv
      ·rename_i g xs hp
       simp only[Bool.false_eq_true,if_false,Option.some.injEq,Prod.mk.injEq] at hv
       obtain ⟨rfl,rfl⟩:=hv
       exact does_lenL hW hT ho hcal hargs' ht hu hx hp
      ·rename_i l q n sz hp
       simp only[Bool.false_eq_true,if_false,Option.some.injEq,Prod.mk.injEq] at hv
       obtain ⟨rfl,rfl⟩:=hv
       exact does_lenM hW hT ho hcal hargs' ht hu hx hp
      ·cases hv
     ·cases hc
    ·cases hc
   ·cases hc
  ·rename_i hcal
   split at hc
   ·rename_i x y hargs
    have hargs':c.args= #[x,y]:=by rw[←Array.toList_inj];exact hargs
    split at hc
    ·rename_i t ht
     split at hc
     ·rename_i u hu
      split at hc
      ·rename_i el hte
       split at hc
       ·rename_i el' hue
        simp only[bind,Option.bind_eq_some_iff] at hc
        obtain ⟨i,hi,hc⟩:=hc
        split at hc
        ·cases hc
        ·simp only[Option.bind_eq_some_iff] at hc
         obtain ⟨z,hz,hc⟩:=hc
         split at hc
         ·cases hc
         ·rename_i hzs
          simp only[Option.bind_eq_some_iff,Option.some.injEq] at hc
          obtain ⟨ex,hx,ey,hy,rfl⟩:=hc
          simp only[evOp] at hv
          split at hv
          ·rename_i g xs g' ys hp hq
           exact does_app hW hT ho hcal hargs' ht hu hte hue hi hz (by simpa using hzs) hx hy hp hq hv
          ·cases hv
       ·rename_i hue
        simp only[bind,Option.bind_eq_some_iff] at hc
        obtain ⟨i,hi,hc⟩:=hc
        split at hc
        ·rename_i hz
         split at hc
         ·rename_i hs
          simp only[Option.bind_eq_some_iff,Option.some.injEq] at hc
          obtain ⟨ex,hx,ey,hy,rfl⟩:=hc
          simp only[evOp] at hv
          split at hv
          ·rename_i g xs s hp hq
           exact does_apS hW hT ho hcal hargs' ht hu hte hue hi hz hs.1 hs.2 hx hy hp hq hv
          ·cases hv
         ·cases hc
        ·cases hc
       ·cases hc
      ·cases hc
     ·cases hc
    ·cases hc
   ·cases hc
  ·rename_i hcal
   split at hc
   ·rename_i x hargs
    have hargs':c.args= #[x]:=by rw[←Array.toList_inj];exact hargs
    simp only[bind,Option.bind_eq_some_iff,Option.some.injEq] at hc
    obtain ⟨ex,hx,rfl⟩:=hc
    simp only[evOp] at hv
    split at hv
    ·rename_i xs hp
     injection hv with hv;injection hv with e1 e2;subst e1 e2
     exact does_usd hW hT ho hcal hargs' hx hp (.inl rfl)
    ·rename_i k el xs hp
     injection hv with hv;injection hv with e1 e2;subst e1 e2
     exact does_usd hW hT ho hcal hargs' hx hp (.inr ⟨_,_,rfl⟩)
    ·cases hv
   ·cases hc
  ·rename_i hcal
   split at hc
   ·rename_i x y hargs
    have hargs':c.args= #[x,y]:=by rw[←Array.toList_inj];exact hargs
    split at hc
    ·rename_i t ht
     split at hc
     ·rename_i u hu
      split at hc
      ·cases hc
      ·rename_i h2
       split at hc
       ·rename_i el hte
        split at hc
        ·rename_i hce
         simp only[bind,Option.bind_eq_some_iff,Option.some.injEq] at hc
         obtain ⟨ex,hx,ey,hy,rfl⟩:=hc
         simp only[evOp] at hv
         split at hv
         ·rename_i hp hq
          injection hv with hv;injection hv with e1 e2;subst e1 e2
          exact does_ust0 hW hT ho hcal hargs' ht hu (by simpa using h2) hx hy hp hq
         ·rename_i k e' xs n hp hq
          split at hv
          ·rename_i hcnd
           obtain ⟨rfl,rfl,h63,hown⟩:=hcnd
           simp only[Option.map_eq_some_iff] at hv
           obtain ⟨l,hl,hv⟩:=hv
           injection hv with e1 e2;subst e1 e2
           exact does_ust hW hT ho hcal hargs' ht hu (by simpa using h2) hte hce hx hy hp hq h63 hown hl
          ·cases hv
         ·cases hv
        ·cases hc
       ·cases hc
     ·cases hc
    ·cases hc
   ·cases hc
  ·rename_i hcal
   injection hc with hc;subst hc
   simp[evOp] at hv
  ·rename_i hcal
   split at hc
   ·rename_i x y hargs
    have hargs':c.args= #[x,y]:=by rw[←Array.toList_inj];exact hargs
    split at hc
    ·rename_i t ht
     split at hc
     ·rename_i kt e' htt
      split at hc
      ·rename_i hk
       simp only[bind,Option.bind_eq_some_iff,Option.some.injEq] at hc
       obtain ⟨ex,hx,ey,hy,rfl⟩:=hc
       exact does_mdl hW hT ho hcal hargs' ht htt hk hx hy hv
      ·cases hc
     ·cases hc
    ·cases hc
   ·cases hc
  ·rename_i hcal
   split at hc
   ·rename_i x y hargs
    have hargs':c.args= #[x,y]:=by rw[←Array.toList_inj];exact hargs
    simp only[bind,Option.bind_eq_some_iff,Option.some.injEq] at hc
    obtain ⟨ex,hx,ey,hy,rfl⟩:=hc
    simp only[evOp] at hv
    split at hv
    ·rename_i k m k' n hp hq
     injection hv with hv;injection hv with e1 e2;subst e1 e2
     exact does_mx (mn:=false) hW hT ho hcal hargs' hx hy hp hq
    ·cases hv
   ·cases hc
  ·rename_i hcal
   split at hc
   ·rename_i x y hargs
    have hargs':c.args= #[x,y]:=by rw[←Array.toList_inj];exact hargs
    simp only[bind,Option.bind_eq_some_iff,Option.some.injEq] at hc
    obtain ⟨ex,hx,ey,hy,rfl⟩:=hc
    simp only[evOp] at hv
    split at hv
    ·rename_i k m k' n hp hq
     injection hv with hv;injection hv with e1 e2;subst e1 e2
     exact does_mx (mn:=true) hW hT ho hcal hargs' hx hy hp hq
    ·cases hv
   ·cases hc
  ·rename_i hcal
   split at hc
   ·rename_i x hargs
    have hargs':c.args= #[x]:=by rw[←Array.toList_inj];exact hargs
    split at hc
    ·rename_i t ht
     split at hc
     ·rename_i e' hte
      simp only[bind,Option.bind_eq_some_iff] at hc
      obtain ⟨z,hz,hc⟩:=hc
      split at hc
      ·cases hc
      ·rename_i hz0
       simp only[Option.bind_eq_some_iff,Option.some.injEq] at hc
       obtain ⟨ex,hx,rfl⟩:=hc
       simp only[evOp] at hv
       split at hv
       ·rename_i l q n s hp
        split at hv
        ·rename_i ct cs hob
         split at hv
         ·rename_i hh
          obtain ⟨rfl,h1,h2⟩:=hh
          injection hv with hv;injection hv with e1 e2;subst e1 e2
          exact does_clr hW hT ho hcal hargs' ht hte hz rfl hx hp hob (by omega) h1 h2
         ·cases hv
        ·cases hv
       ·cases hv
     ·cases hc
    ·cases hc
   ·cases hc
  ·cases hc
 |typeAssert x xt t ok=>
  simp only[cOp,ho] at hc
  split at hc
  ·cases hc
  ·rename_i d hni hd
   simp only[bind,Option.bind_eq_some_iff,Option.some.injEq] at hc
   obtain ⟨z,hz,ex,hx,rfl⟩:=hc
   have hS:S'=S:=by
    simp only[evOp] at hv
    (repeat' split at hv)<;>first|(injection hv with hv;injection hv with e1 e2;exact e2.symm)|cases hv
   subst hS
   exact does_tas hW hT ho hd (fun ms h=>hni ms (by rw[h])) hz hx hv
  ·cases hc
 |makeMap t r=>
  cases r with
  |none=>
   simp only[cOp,ho,Option.some.injEq] at hc;subst hc
   simp only[evOp,Option.some.injEq,Prod.mk.injEq] at hv
   obtain ⟨rfl,rfl⟩:=hv
   exact does_mkm hW ho
  |some _=>simp[cOp,ho] at hc
 |lookup t x y ok=>
  simp only[cOp,ho] at hc
  split at hc
  ·rename_i kt e' ht
   split at hc
   ·rename_i hk
    simp only[bind,Option.bind_eq_some_iff,Option.some.injEq] at hc
    obtain ⟨z,hz,ex,hx,ey,hy,rfl⟩:=hc
    have hS:S'=S:=by
     simp only[evOp] at hv
     (repeat' split at hv)<;>first|(injection hv with hv;injection hv with e1 e2;exact e2.symm)|cases hv
    subst hS
    exact does_lkp hW hT ho ht hk hz hx hy hv
   ·cases hc
  ·cases hc
 |mapUpdate t x y z=>
  simp only[cOp,ho] at hc
  split at hc
  ·rename_i kt e' ht
   split at hc
   ·rename_i hk
    simp only[bind,Option.bind_eq_some_iff,Option.some.injEq] at hc
    obtain ⟨ex,hx,ey,hy,ez,hz,rfl⟩:=hc
    exact does_mup hW hT (.inl ho) ht hk hx hy hz hv
   ·cases hc
  ·cases hc
 |insert t x y z=>
  simp only[cOp,ho] at hc
  split at hc
  ·rename_i kt e' ht
   split at hc
   ·rename_i hk
    simp only[bind,Option.bind_eq_some_iff,Option.some.injEq] at hc
    obtain ⟨ex,hx,ey,hy,ez,hz,rfl⟩:=hc
    exact does_mup hW hT (.inr ho) ht hk hx hy hz hv
   ·cases hc
  ·cases hc
 |mapEntry t x y=>
  simp only[cOp,ho] at hc
  split at hc
  ·rename_i kt e' ht
   split at hc
   ·rename_i hk
    simp only[bind,Option.bind_eq_some_iff,Option.some.injEq] at hc
    obtain ⟨z,hz,ex,hx,ey,hy,rfl⟩:=hc
    exact does_men hW hT ho ht hk hz hx hy hv
   ·cases hc
  ·cases hc
 |entryStore t x y z=>
  simp only[cOp,ho,bind,Option.bind_eq_some_iff,Option.some.injEq] at hc
  obtain ⟨ex,hx,ey,hy,ez,hz,rfl⟩:=hc
  exact does_mst hW hT ho hx hy hz hv
 |panic x=>
  simp only[cOp,ho,bind,Option.bind_eq_some_iff,Option.some.injEq] at hc
  obtain ⟨ex,hx,rfl⟩:=hc
  simp[evOp] at hv
 |_=>simp[cOp,ho] at hc
theorem cOp_call {ef:EOpd} {es:List EOpd} (h:cOp P o=some (.call ef es)): ∃ c f,o.op= .call c∧c.callee= .value f∧cOpd f=some ef∧c.args.toList.mapM cOpd=some es:=by
 cases ho:o.op with
 |call c=>
  refine ⟨c, ?_⟩
  cases hc:c.callee with
  |value f=>
   simp only[cOp,ho,hc,bind,Option.bind_eq_some_iff,Option.some.injEq] at h
   obtain ⟨ef',hf,es',hes,h⟩:=h
   injection h with e1 e2;subst e1 e2
   exact ⟨f,rfl,rfl,hf,hes⟩
  |_=>
   exfalso
   simp only[cOp,ho,hc] at h
   (repeat' split at h)<;>simp_all [bind,Option.bind_eq_some_iff,Option.map_eq_some_iff]<;>(try (obtain ⟨_,_,h⟩:=h;(repeat' split at h)<;>simp_all [bind,Option.bind_eq_some_iff]))<;>(try grind)
 |_=>
  exfalso
  simp only[cOp,ho,cEq] at h
  (repeat' split at h)<;>simp_all [bind,Option.bind_eq_some_iff,Option.map_eq_some_iff]<;>(try (obtain ⟨_,_,h⟩:=h;(repeat' split at h)<;>simp_all [bind,Option.bind_eq_some_iff]))<;>(try grind)
theorem cOp_mks {e sz by_:Nat} {z:List PV} {x y:EOpd} (h:cOp P o=some (.mks e sz by_ z x y)): ∃ t n c,o.op= .makeSlice t n c:=by
 cases ho:o.op with
 |makeSlice t n c=>exact ⟨t,n,c,rfl⟩
 |_=>
  exfalso
  simp only[cOp,ho,cEq] at h
  (repeat' split at h)<;>simp_all [bind,Option.bind_eq_some_iff,Option.map_eq_some_iff]<;>(try (obtain ⟨_,_,h⟩:=h;(repeat' split at h)<;>simp_all [bind,Option.bind_eq_some_iff]))<;>(try grind)
theorem cOp_app {e sz by_:Nat} {x y:EOpd} (h:cOp P o=some (.app e sz by_ x y)): ∃ c,o.op= .call c∧c.callee= .builtin .append:=by
 cases ho:o.op with
 |call c=>
  refine ⟨c,rfl, ?_⟩
  cases hc:c.callee with
  |builtin b=>
   cases b with
   |append=>rfl
   |_=>
    exfalso
    simp only[cOp,ho,hc] at h
    (repeat' split at h)<;>simp_all [bind,Option.bind_eq_some_iff,Option.map_eq_some_iff]<;>(try (obtain ⟨_,_,h⟩:=h;(repeat' split at h)<;>simp_all [bind,Option.bind_eq_some_iff]))<;>(try grind)
  |_=>
   exfalso
   simp only[cOp,ho,hc] at h
   (repeat' split at h)<;>simp_all [bind,Option.bind_eq_some_iff,Option.map_eq_some_iff]<;>(try (obtain ⟨_,_,h⟩:=h;(repeat' split at h)<;>simp_all [bind,Option.bind_eq_some_iff]))<;>(try grind)
 |_=>
  exfalso
  simp only[cOp,ho,cEq] at h
  (repeat' split at h)<;>simp_all [bind,Option.bind_eq_some_iff,Option.map_eq_some_iff]<;>(try (obtain ⟨_,_,h⟩:=h;(repeat' split at h)<;>simp_all [bind,Option.bind_eq_some_iff]))<;>(try grind)
theorem does_appM' (hW:WRel G C S w) (hT:TR nt C w ts a.tmps) {e sz by_:Nat} {x y:EOpd} {c:Call} (ho:o.op= .call c) (hcal:c.callee= .builtin .append) (hc:cOp P o=some (.app e sz by_ x y)) {call:CallFn} {S':St} (hv:evOp G call ts S (.appM e sz by_ x y)=some (v,S')):Does P G C w S' v o a:=by
 simp only[evOp] at hv
 split at hv
 rotate_left
 ·cases hv
 rename_i p g' ys hp hq
 simp only[cOp,ho,hcal] at hc
 split at hc
 ·rename_i x' y' hargs
  have hargs':c.args= #[x',y']:=by rw[←Array.toList_inj];exact hargs
  split at hc
  ·rename_i t ht
   split at hc
   ·rename_i u hu
    split at hc
    ·rename_i el hte
     split at hc
     ·rename_i el' hue
      simp only[bind,Option.bind_eq_some_iff] at hc
      obtain ⟨i,hi,hc⟩:=hc
      split at hc
      ·cases hc
      ·simp only[Option.bind_eq_some_iff] at hc
       obtain ⟨z,hz,hc⟩:=hc
       split at hc
       ·cases hc
       ·rename_i hzs
        simp only[Option.bind_eq_some_iff,Option.some.injEq] at hc
        obtain ⟨ex,hx,ey,hy,hc⟩:=hc
        injection hc with q1 q2 q3 q4 q5;subst q1 q2 q3 q4 q5
        exact does_appM hW hT ho hcal hargs' ht hu hte hue hi hz (by simpa using hzs) hx hy hp hq hv
     ·simp only[bind,Option.bind_eq_some_iff] at hc
      obtain ⟨i,hi,hc⟩:=hc
      split at hc
      ·split at hc
       ·simp only[Option.bind_eq_some_iff] at hc
        obtain ⟨_,_,_,_,hc⟩:=hc
        cases hc
       ·cases hc
      ·cases hc
     ·cases hc
    ·cases hc
   ·cases hc
  ·cases hc
 ·cases hc
theorem does_mksM (hW:WRel G C S w) (hT:TR nt C w ts a.tmps) {e sz by_:Nat} {z:List PV} {x y:EOpd} {tt:TypeId} {n c:Operand} (ho:o.op= .makeSlice tt n c) (hc:cOp P o=some (.mks e sz by_ z x y)) {call:CallFn} {S':St} (hv:evOp G call ts S (.mksM e sz by_ z x y)=some (v,S')):Does P G C w S' v o a:=by
 simp only[cOp,ho] at hc
 split at hc
 ·rename_i e' ht
  simp only[bind,Option.bind_eq_some_iff] at hc
  obtain ⟨i,hi,z0,hz,hc⟩:=hc
  split at hc
  ·cases hc
  ·rename_i hlim
   simp only[Option.bind_eq_some_iff,Option.some.injEq] at hc
   obtain ⟨en,hn,ec,hcc,hc⟩:=hc
   injection hc with q1 q2 q3 q4 q5 q6;subst q1 q2 q3 q4 q5 q6
   have hz':=hz
   unfold zeroP at hz'
   rw[hi] at hz'
   simp only[Option.bind_some,Option.bind_eq_some_iff] at hz'
   obtain ⟨q,⟨zv,hiz,z2⟩,hz'⟩:=hz'
   split at hz'
   rotate_left
   ·cases hz'
   rename_i z3
   injection hz' with hz';subst hz'
   have hzl:q.cells.length=i.size:=by omega
   have hzs: ∀ C' w',zv.cells.size=i.size:=fun C' w'=>by have:=((ofV_rep (C:=C') (w:=w') z2).cells z3).1;simpa [hzl] using this
   simp only[evOp] at hv
   split at hv
   ·rename_i kl m kc m' hp hq
    split at hv
    ·rename_i hh
     obtain ⟨h1,rfl,h3,h4⟩:=hh
     injection hv with hv;injection hv with e1 e2;subst e1 e2
     have e1:=(opd_rep hW hT hn hp).int_inv
     have e2:=(opd_rep hW hT hcc hq).int_inv
     have hb':(i.bytes:Int)*m≤281474976710656:=by rw[Int.mul_comm];omega
     have hr:=run_make (P:=P) w tt e' i zv ht hi hiz kl kc m m h1 (Int.le_refl _) hb' h4
     refine Does.made' hW (z:=m.toNat*i.size) (obj:= .cells (madeCells zv.cells (m.toNat*i.size)) e') (u:= .slice (some ⟨w.heap.size,0,none⟩) m.toNat m.toNat) (by simp) (fun C' w' hs hcz hb=> ?_) (fun C' w' hm hcz=> ?_) ?_
     ·have hzc:=(ofV_rep (C:=C') (w:=w') z2).cells z3
      refine ⟨_,hb,by rw[hcz];simp[madeCells],by rw[repRow_length,hzl];simp[madeCells],fun j p hp=>hzc.2.1 _ p (repRow_get _ m.toNat j p hp),fun j p u hp hu=> ?_⟩
      have hj:j<m.toNat*i.size:=by have:=getElem?_lt hp;rwa[repRow_length,hzl] at this
      have hp':=repRow_get _ m.toNat j p hp
      rw[hzl] at hp'
      have hmod:j % i.size<zv.cells.size:=by rw[hzs C w];exact Nat.mod_lt _ (by omega)
      refine hzc.2.2 _ p u hp' ?_
      rw[←hu]
      simp only[madeCells,Array.getElem?_map,hzs C w]
      rw[Array.getElem?_eq_getElem (by simpa using hj)]
      simp[getElem!_pos,hmod]
     ·exact .msl _ 0 _ _ _ 0 _ (Nat.le_refl _) (fun _=>rfl) (.inl ⟨hm,by rw[hcz];simp⟩)
     ·simp only[execOp,ho,e1,e2,Sem.run_bind,hr,Result.andThen_ok,Sem.run_pure]
      rfl
    ·cases hv
   ·cases hv
 ·cases hc
theorem op_does1 (hW:WRel G C S w) (hT:TR nt C w ts a.tmps) {call:CallFn} (hC:CallOk P G call) {e:EOp} (hc:cOp P o=some e.strip) {S':St} (hv:evOp G call ts S e=some (v,S')) (hny: ∀ f xs l,e= .call f xs→f.val G ts≠some (.yld l)):Does P G C w S' v o a:=by
 by_cases hcm: ∃ f xs,e= .callM f xs
 ·obtain ⟨f,xs,rfl⟩:=hcm
  obtain ⟨c,f',ho,hcal,hf,hes⟩:=cOp_call hc
  exact does_callM hW hT hC ho hcal hf hes hv
 by_cases hmk: ∃ t sz b z x y,e= .mksM t sz b z x y
 ·obtain ⟨t,sz,b,z,x,y,rfl⟩:=hmk
  obtain ⟨tt,n,c,ho⟩:=cOp_mks hc
  exact does_mksM hW hT ho hc hv
 by_cases hap: ∃ t sz b x y,e= .appM t sz b x y
 ·obtain ⟨t,sz,b,x,y,rfl⟩:=hap
  obtain ⟨c,ho,hcal⟩:=cOp_app hc
  exact does_appM' hW hT ho hcal hc hv
 by_cases hb: ∃ t x,e= .boxI t x
 ·obtain ⟨t0,x,rfl⟩:=hb
  simp only[EOp.strip] at hc
  simp only[evOp,Option.bind_eq_some_iff] at hv
  obtain ⟨q,hq,hv⟩:=hv
  split at hv
  ·cases hv
  ·rename_i hok
   simp at hok
   injection hv with hv;injection hv with e1 e2;subst e1 e2
   cases ho:o.op with
   |box t y=>
    simp only[cOp,ho,bind,Option.bind_eq_some_iff,Option.some.injEq] at hc
    obtain ⟨ex,hx,he⟩:=hc
    injection he with _ he;subst he
    exact does_boxI hW hT ho hx hq hok
   |_=>
    exfalso
    have key: ∀ e',cOp P o=some e'→(∀ t y,o.op≠ .box t y)→ ∀ t x,e'≠ .box t x:=by
     intro e' he' hn t x hx
     subst hx
     exact absurd (cOp_box he') (by rintro ⟨t,y,h⟩;exact hn t y h)
    exact key _ hc (fun t y h=>by rw[ho] at h;cases h) t0 x rfl
 ·have hs:e.strip=e:=by cases e<;>first|rfl|exact absurd ⟨_,_,rfl⟩ hb|exact absurd ⟨_,_,rfl⟩ hcm|exact absurd ⟨_,_,_,_,_,_,rfl⟩ hmk|exact absurd ⟨_,_,_,_,_,rfl⟩ hap
  rw[hs] at hc
  exact op_does0 hW hT hC hc hv hny
theorem op_does (hW:WRel G C S w) (hT:TR nt C w ts a.tmps) {call:CallFn} (hC:CallOk P G call) {e:EOp} (hc:cOp P o=some e.strip) {S':St} (hv:evOp G call ts S e=some (v,S')):DoesIn P G C w S' v o a:=by
 by_cases hy: ∃ f xs l,e= .call f xs∧f.val G ts=some (.yld l)
 ·obtain ⟨f,xs,l,rfl,hl⟩:=hy
  obtain ⟨c,f',ho,hcal,hf,hes⟩:=cOp_call hc
  simp only[evOp,hl] at hv
  split at hv
  ·rename_i h1 h2;cases h1
  ·rename_i l' vs h1 hvs
   injection h1 with h1;injection h1 with h1;subst h1
   exact does_yld hW hT hC ho hcal hf hes hl hvs hv
  ·cases hv
 ·intro r n K Q hk
  exact wpIn_of_wp (cOp_nd hc) (op_does1 hW hT hC hc hv (fun f xs l h1 h2=>hy ⟨f,xs,l,h1,h2⟩) K Q hk)
end
end Go.PE
