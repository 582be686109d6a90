/-
  Private objects, bytes and texts, appends. Conditions: each law's own.
-/
import Derived.Test.YteifnopejdiikaaDoorPE6
namespace Go.PE
open Go Go.RowKit
set_option linter.unusedVariables false
set_option linter.unusedSimpArgs false
section
variable {nt:Nat} {P:Program} {G:Glob} {C:Ctx} {S:St} {w:World} {ts:Tmps} {a:Act} {o:Oper} {v:PV}
def Ctx.add (C:Ctx) (l b:Nat) (z:Nat:=0):Ctx:=⟨fun k=>if k=l then some (some b) else C.p k,C.o,fun k=>if k=l then z else C.c k⟩
theorem Ctx.add_m (C:Ctx) (l b z k:Nat):(C.add l b z).m k=if k=l then some b else C.m k:=by
 simp only[Ctx.add,Ctx.m];split<;>rfl
theorem Ctx.add_d (C:Ctx) (l b z k:Nat):(C.add l b z).d k=if k=l then false else C.d k:=by
 simp only[Ctx.add,Ctx.d];split<;>rfl
theorem m_none (hW:WRel G C S w):C.m S.obs.length=none:=by
 cases h:C.m S.obs.length with
 |none=>rfl
 |some b=>have:=hW.dom _ b h;omega
theorem step_add (hW:WRel G C S w) {w':World} (hb:Below w.heap.size w w') (z:Nat):Step C w (C.add S.obs.length w.heap.size z) w':=by
 have hne: ∀ {l b},C.m l=some b→l≠S.obs.length:=by intro l b h e;subst e;rw[m_none hW] at h;cases h
 refine ⟨.of_below hb C,⟨fun l b h=> ?_,fun l b h=> ?_,fun l h=> ?_,fun l b h _=> ?_,fun k b fr h=> .inr ⟨fr,h,Nat.le_refl _⟩,fun k b fr h=>⟨b,fr,h,Nat.le_refl _,fun _=>rfl⟩⟩,(Step.of_below hb C).own⟩
 ·rw[Ctx.add_m,if_neg (hne h)];exact .inl h
 ·rw[Ctx.add_m] at h
  split at h
  ·injection h with h;exact .inr (.inl (by omega))
  ·exact .inl h
 ·have:l≠S.obs.length:=by have:=getElem?_lt (hW.dd l h);omega
  rw[Ctx.add_d,if_neg this];exact h
 ·simp[Ctx.add,hne h]
theorem wrel_add (hW:WRel G C S w) {w':World} (hb:Below w.heap.size w w') (hlt:w.heap.size<w'.heap.size) {z:Nat} {ob:Ob} (hnd:ob≠ .dead) (ho:ObAt G (C.add S.obs.length w.heap.size z) w' S.obs.length w.heap.size ob):
  WRel G (C.add S.obs.length w.heap.size z) {S with obs:=S.obs++[ob]} w':=by
 have hs:=step_add hW hb z
 have hmlt: ∀ {l b},C.m l=some b→b<w.heap.size:=fun h=>hW.m_lt h
 refine ⟨fun l ob' hl hd=> ?_,fun l h=> ?_,fun l b h=> ?_,fun l b h=> ?_,fun l l' b h h'=> ?_,hW.own,fun k b fr h=> ?_,hW.oinj,fun l b k fr h=> ?_,fun g cs hg=>(hW.glob g cs hg).step hs,fun g o hg=> ?_⟩
 ·by_cases hll:l<S.obs.length
  ·rw[List.getElem?_append_left hll] at hl
   obtain ⟨b,h1,h2,h3⟩:=hW.ob l ob' hl hd
   have h1':(C.add S.obs.length w.heap.size z).m l=some b:=by rw[Ctx.add_m,if_neg (by omega)];exact h1
   exact ⟨b,h1',Nat.lt_of_lt_of_le h2 hb.size,h3.step hs h1 h1' (hb.block b h2)⟩
  ·rw[List.getElem?_append_right (by omega)] at hl
   have:l=S.obs.length:=by have:=getElem?_lt hl;simp at this;omega
   subst this
   simp at hl;subst hl
   exact ⟨w.heap.size,by rw[Ctx.add_m,if_pos rfl],hlt,ho⟩
 ·rw[Ctx.add_d] at h
  split at h
  ·cases h
  ·have:=hW.dd l h
   rw[List.getElem?_append_left (getElem?_lt this)];exact this
 ·rw[Ctx.add_m] at h
  split at h
  ·rename_i e;subst e;simp[hnd]
  ·have h1:=hW.dom l b h
   rw[List.getElem?_append_left h1];exact hW.nd l b h
 ·rw[Ctx.add_m] at h
  split at h
  ·rename_i e;subst e;simp
  ·have:=hW.dom l b h;simp;omega
 ·rw[Ctx.add_m] at h h'
  split at h
  ·rename_i e
   split at h'
   ·rename_i e';omega
   ·injection h with h;subst h
    have:=hmlt h';omega
  ·split at h'
   ·injection h' with h';subst h'
    have:=hmlt h;omega
   ·exact hW.inj l l' b h h'
 ·obtain ⟨h1,h2⟩:=hW.odom k b fr h
  exact ⟨h1,Nat.lt_of_lt_of_le h2 hb.size⟩
 ·rw[Ctx.add_m] at h
  split at h
  ·injection h with h;subst h
   intro hk
   have:=(hW.odom k _ fr hk).2;omega
  ·exact hW.disj l b k fr h
 ·obtain ⟨h1,h2,h3⟩:=hW.blk g o hg
  have hg:=(Array.getElem?_eq_some_iff.1 h1).1
  refine ⟨by rw[hb.block g hg];exact h1,fun l hl=> ?_,h3⟩
  rw[Ctx.add_m] at hl
  split at hl
  ·injection hl with hl;omega
  ·exact h2 l hl
theorem Does.made' (hW:WRel G C S w) {ob:Ob} {obj:Obj} {z:Nat} {u:Value} (hnd:ob≠ .dead) (ho: ∀ C' w',Step C w C' w'→C'.c S.obs.length=z→w'.heap[w.heap.size]?=some obj→ObAt G C' w' S.obs.length w.heap.size ob)
  (hr: ∀ C' w',C'.m S.obs.length=some w.heap.size→C'.c S.obs.length=z→Rep C' w' v u)
  (h:(execOp a.eval o).run P w= .ok (.value u) {w with heap:=w.heap.push obj}):Does P G C w {S with obs:=S.obs++[ob]} v o a:=by
 intro K Q hk
 have hb:=below_push w obj
 have hc:(C.add S.obs.length w.heap.size z).c S.obs.length=z:=by simp[Ctx.add]
 refine wp_value h (hk (C.add S.obs.length w.heap.size z) _ _ (hr _ _ (by rw[Ctx.add_m,if_pos rfl]) hc) (wrel_add hW hb (by simp) hnd (ho _ _ (step_add hW hb z) hc (by simp))) (step_add hW hb z))
theorem Does.made (hW:WRel G C S w) {ob:Ob} {obj:Obj} (hnd:ob≠ .dead) (ho: ∀ C' w',Step C w C' w'→w'.heap[w.heap.size]?=some obj→ObAt G C' w' S.obs.length w.heap.size ob)
  (h:(execOp a.eval o).run P w= .ok (.value (.pointer (some ⟨w.heap.size,0,none⟩))) {w with heap:=w.heap.push obj}):Does P G C w {S with obs:=S.obs++[ob]} (.ref S.obs.length 0) o a:=
 Does.made' hW (z:=0) hnd (fun C' w' hs _ hb=>ho C' w' hs hb) (fun C' w' hm _=> .ref _ 0 _ (.inl hm)) h
theorem does_new (hW:WRel G C S w) {t:TypeId} {z:PV} (ho:o.op= .alloc t) (hz:zeroP P t=some z):Does P G C w {S with obs:=S.obs++[.cells t z.cells]} (.ref S.obs.length 0) o a:=by
 obtain ⟨zv,z1,z2,z3⟩:=zeroValue_run hz w
 refine Does.made hW (by simp) (obj:= .cells zv.cells t) (fun C' w' hs hb=> ?_) ?_
 ·have hc:=(ofV_rep (C:=C') (w:=w') z2).cells z3
  exact ⟨zv.cells,hb,by simpa using hc.1,hc.2.1,fun i p v hp hv=>hc.2.2 i p v hp (by simpa using hv)⟩
 ·simp[execOp,ho,Instr.alloc,z1,newVar,newRow]
theorem does_box (hW:WRel G C S w) (hT:TR nt C w ts a.tmps) {t:TypeId} {x:Operand} {ex:EOpd} (ho:o.op= .box t x) (hx:cOpd x=some ex) {p:PV} (hp:ex.val G ts=some p) (hok:p.okc=true):Does P G C w {S with obs:=S.obs++[.cells t p.cells]} (.ref S.obs.length 0) o a:=by
 have hr:=opd_rep hW hT hx hp
 refine Does.made hW (by simp) (obj:= .cells (a.eval x).cells t) (fun C' w' hs hb=> ?_) ?_
 ·have hc:=(hr.step hs).cells hok
  exact ⟨_,hb,by simpa using hc.1,hc.2.1,fun i p v hp hv=>hc.2.2 i p v hp (by simpa using hv)⟩
 ·simp[execOp,ho,Instr.box,newVar,newRow]
theorem does_rng (hW:WRel G C S w) (hT:TR nt C w ts a.tmps) {t:TypeId} {x:Operand} {ex:EOpd} (ho:o.op= .range t x) (ht:P.underlying t=some .string) (hx:cOpd x=some ex) {s:ByteArray} (hp:ex.val G ts=some (.str s)):Does P G C w {S with obs:=S.obs++[.iter s 0]} (.ref S.obs.length 0) o a:=by
 have e:=(opd_rep hW hT hx hp).str_inv
 refine Does.made hW (by simp) (obj:= .stringIter s 0) (fun C' w' hs hb=>hb) ?_
 simp[execOp,ho,Instr.range,e,underlying_run ht]
theorem step_turn (hW:WRel G C S w) {l b:Nat} (hl:C.m l=some b) {w':World} (h1:w'.os=w.os) (h2:w'.tape=w.tape) (h3:w'.output=w.output) (h4:w'.heap.size=w.heap.size) (h5: ∀ k,k≠b→w'.heap[k]?=w.heap[k]?):Step C w C w':=by
 refine ⟨⟨h1,h2,h3,by omega,fun k hk hm _=>h5 k fun e=>hm l (by rw[e];exact hl),fun k hi hk him arr e z ha=> ?_⟩,.refl _ _,fun k b' fr hk _ arr e z ha=>⟨arr, ?_⟩⟩
 ·have hne:k≠b:=fun e=>him.1 l (by rw[e];exact hl)
  exact ⟨arr,z,by rw[h5 k hne];exact ha,rfl,fun _ _=>rfl⟩
 ·rw[h5 b' fun e=>hW.disj l b k fr hl (by rw[←e];exact hk)];exact ha
theorem wrel_turn (hW:WRel G C S w) {l b:Nat} (hl:C.m l=some b) {w':World} (hs:Step C w C w') (h4:w'.heap.size=w.heap.size) (h5: ∀ k,k≠b→w'.heap[k]?=w.heap[k]?) {ob:Ob} (hnd:ob≠ .dead) (ho:ObAt G C w' l b ob):
  WRel G C {S with obs:=S.obs.set l ob} w':=by
 have hlt:=hW.dom l b hl
 refine ⟨fun l' ob' hl' hd=> ?_,fun l' hd=> ?_,fun l' b' h=> ?_,fun l' b' h=>by simpa using hW.dom l' b' h,hW.inj,hW.own,fun k b' fr h=> ?_,hW.oinj,hW.disj,fun g cs hg=>(hW.glob g cs hg).step hs,fun g o hg=> ?_⟩
 ·by_cases he:l=l'
  ·subst he
   rw[List.getElem?_set_self hlt] at hl'
   simp at hl';subst hl'
   exact ⟨b,hl,by rw[h4];exact hW.m_lt hl,ho⟩
  ·rw[List.getElem?_set_ne he] at hl'
   obtain ⟨b',k1,k2,k3⟩:=hW.ob l' ob' hl' hd
   have hne:b'≠b:=by intro e;subst e;exact he (hW.inj _ _ _ hl k1)
   exact ⟨b',k1,by rw[h4];exact k2,k3.step hs k1 k1 (h5 b' hne)⟩
 ·have hne:l≠l':=by intro e;subst e;rw[Ctx.dm hd] at hl;cases hl
  rw[List.getElem?_set_ne hne];exact hW.dd l' hd
 ·by_cases he:l=l'
  ·subst he;rw[List.getElem?_set_self hlt];simp[hnd]
  ·rw[List.getElem?_set_ne he];exact hW.nd l' b' h
 ·obtain ⟨q1,q2⟩:=hW.odom k b' fr h
  exact ⟨q1,by rw[h4];exact q2⟩
 ·obtain ⟨q1,q2,q3⟩:=hW.blk g o hg
  exact ⟨by rw[h5 g fun e=>q2 l (by rw[e];exact hl)];exact q1,q2,q3⟩
theorem oneCell_of_atom {p:PV} {u:Value} (h:Rep C w p u) (ha:p.atom=true):u.oneCell'=true:=by
 cases h<;>first|rfl|(simp[PV.atom] at ha)
theorem setRowV_eq: ∀ (us vs:List Value) (off:Nat),off+us.length≤vs.length→setRowV vs off us=vs.take off++us++vs.drop (off+us.length)
 |[],vs,off,h=>by simp[setRowV]
 |u::us,vs,off,h=>by
  simp only[List.length_cons] at h
  rw[setRowV,setRowV_eq us _ (off+1) (by simp;omega)]
  have h1:(vs.set off u).take (off+1)=vs.take off++[u]:=by
   have hm:min off vs.length=off:=by omega
   rw[List.set_eq_take_append_cons_drop,if_pos (by omega),List.take_append]
   simp[hm]
   exact List.take_of_length_le (by simp;omega)
  have h2:(vs.set off u).drop (off+1+us.length)=vs.drop (off+(us.length+1)):=by
   rw[List.drop_set_of_lt (by omega)]
   congr 1;omega
  rw[h1,h2]
  simp
theorem does_st (hW:WRel G C S w) (hT:TR nt C w ts a.tmps) {t:TypeId} {x y:Operand} {ex ey:EOpd} {n:Nat} (ho:o.op= .store t x y) (hn:sizeP P t=some n) (hx:cOpd x=some ex) (hy:cOpd y=some ey) {l q:Nat} {p:PV} {ct:TypeId} {cs:List PV}
  (hp:ex.val G ts=some (.ref l q)) (hq:ey.val G ts=some p) (hob:S.obs[l]?=some (.cells ct cs)) (hok:p.okc=true) (hlen:p.cells.length=n) (hle:q+n≤cs.length):Does P G C w {S with obs:=S.obs.set l (.cells ct (setRow cs q p.cells))} .un o a:=by
 have rp:=opd_rep hW hT hx hp
 have rq:=(opd_rep hW hT hy hq).cells hok
 generalize e:a.eval x=u at rp
 cases rp with|ref l q b hm=>
 ·obtain ⟨hm,hlt,arr,h1,h2,h3,h4⟩:=hW.live hob (by simp) hm
  have hvl:(a.eval y).cells.toList.length=n:=by rw[rq.1,hlen]
  have hst:=run_storeCells_at P b q ct (a.eval y).cells.toList 0 arr w h1 (by rw[hvl,h2];omega) (fun v hv=>by
   obtain ⟨i,hi⟩:=List.getElem?_of_mem hv
   have hil:i<p.cells.length:=by rw[hlen,←hvl];exact getElem?_lt hi
   exact oneCell_of_atom (rq.2.2 i _ v (List.getElem?_eq_getElem hil) hi) (rq.2.1 i _ (List.getElem?_eq_getElem hil)))
  simp only[Nat.add_zero] at hst
  rw[←setRowV_eq _ _ _ (by rw[hvl];simp[h2];omega)] at hst
  intro K Q hk
  have hrun:(execOp a.eval o).run P w= .ok .skip (w.setRow b (setRowV arr.toList q (a.eval y).cells.toList).toArray):=by
   have hsz:(a.eval y).cells.size=n:=by simpa using hvl
   simp[execOp,ho,e,Instr.storeAt,Instr.sureAddr,storeVar,sizeOf_run hn,hsz,hst]
  have hh:=setRow_heap w b arr (setRowV arr.toList q (a.eval y).cells.toList).toArray ct (0,0) h1
  have h5: ∀ k,k≠b→(w.setRow b (setRowV arr.toList q (a.eval y).cells.toList).toArray).heap[k]?=w.heap[k]?:=fun k hk=>setRow_other w b k _ hk
  have hsize:(w.setRow b (setRowV arr.toList q (a.eval y).cells.toList).toArray).heap.size=w.heap.size:=by simp[World.setRow]
  have hs:Step C w C (w.setRow b (setRowV arr.toList q (a.eval y).cells.toList).toArray):=step_turn hW hm rfl rfl rfl hsize h5
  refine wp_skip' hrun (hk C _ _ (.un C _) (wrel_turn hW hm hs hsize h5 (by simp) ?_) hs)
  have hrc:RepC C w cs arr.toList:=⟨by simpa using h2,h3,fun i p v hp hv=>h4 i p v hp (by simpa using hv)⟩
  have hrr:=(RepC.setRow q hrc rq).step hs
  exact ⟨_,hh,by simpa using hrr.1,hrr.2.1,fun i p v hp hv=>hrr.2.2 i p v hp (by simpa using hv)⟩
theorem does_stR (hW:WRel G C S w) (hT:TR nt C w ts a.tmps) {t:TypeId} {x y:Operand} {ex ey:EOpd} {n:Nat} (ho:o.op= .store t x y) (hn:sizeP P t=some n) (hx:cOpd x=some ex) (hy:cOpd y=some ey) {l q:Nat} {p:PV} {ct:TypeId} {cs:List PV}
  (hp:ex.val G ts=some (.ref l q)) (hq:ey.val G ts=some p) (hob:S.obs[l]?=some (.row ct cs)) (hok:p.okc=true) (hlen:p.cells.length=n) (hle:q+n≤cs.length):Does P G C w {S with obs:=S.obs.set l (.row ct (setRow cs q p.cells))} .un o a:=by
 have rp:=opd_rep hW hT hx hp
 have rq:=(opd_rep hW hT hy hq).cells hok
 generalize e:a.eval x=u at rp
 cases rp with|ref l q b hm=>
 obtain ⟨hm,hlt,arr,h1,h20,h2,h3,h4⟩:=hW.live hob (by simp) hm
 have hvl:(a.eval y).cells.toList.length=n:=by rw[rq.1,hlen]
 have hst:=run_storeCells_at P b q ct (a.eval y).cells.toList 0 arr w h1 (by rw[hvl];omega) (fun v hv=>by
  obtain ⟨i,hi⟩:=List.getElem?_of_mem hv
  have hil:i<p.cells.length:=by rw[hlen,←hvl];exact getElem?_lt hi
  exact oneCell_of_atom (rq.2.2 i _ v (List.getElem?_eq_getElem hil) hi) (rq.2.1 i _ (List.getElem?_eq_getElem hil)))
 simp only[Nat.add_zero] at hst
 have hset:=setRowV_eq (a.eval y).cells.toList arr.toList q (by rw[hvl];simp;omega)
 rw[←hset] at hst
 intro K Q hk
 have hrun:(execOp a.eval o).run P w= .ok .skip (w.setRow b (setRowV arr.toList q (a.eval y).cells.toList).toArray):=by
  have hsz:(a.eval y).cells.size=n:=by simpa using hvl
  simp[execOp,ho,e,Instr.storeAt,Instr.sureAddr,storeVar,sizeOf_run hn,hsz,hst]
 have hh:=setRow_heap w b arr (setRowV arr.toList q (a.eval y).cells.toList).toArray ct (0,0) h1
 have h5: ∀ k,k≠b→(w.setRow b (setRowV arr.toList q (a.eval y).cells.toList).toArray).heap[k]?=w.heap[k]?:=fun k hk=>setRow_other w b k _ hk
 have hsize:(w.setRow b (setRowV arr.toList q (a.eval y).cells.toList).toArray).heap.size=w.heap.size:=by simp[World.setRow]
 have hs:Step C w C (w.setRow b (setRowV arr.toList q (a.eval y).cells.toList).toArray):=step_turn hW hm rfl rfl rfl hsize h5
 have hsl:(setRowV arr.toList q (a.eval y).cells.toList).length=arr.size:=by
  have hsz:(a.eval y).cells.size=n:=by simpa using hvl
  rw[hset];simp;omega
 refine wp_skip' hrun (hk C _ _ (.un C _) (wrel_turn hW hm hs hsize h5 (by simp) ?_) hs)
 have hrc:RepC C w cs (arr.toList.take cs.length):=⟨by simp;omega,h3,fun i p v hp hv=>by
  rw[List.getElem?_take] at hv;split at hv
  ·exact h4 i p v hp (by simpa using hv)
  ·cases hv⟩
 have hrr:=(RepC.setRow q hrc rq).step hs
 have htk: ∀ (us vs:List Value) (off:Nat),off+us.length≤cs.length→(setRowV (vs.take cs.length) off us)=(setRowV vs off us).take cs.length:=by
  intro us
  induction us with
  |nil=>intro vs off _;rfl
  |cons u us ih=>
   intro vs off h
   simp only[List.length_cons] at h
   simp only[setRowV]
   rw[←ih _ (off+1) (by omega)]
   congr 1
   rw[List.take_set]
 rw[htk _ _ _ (by rw[hvl];omega)] at hrr
 refine ⟨_,hh,by rw[List.size_toArray,hsl];exact h20,by rw[List.size_toArray,hsl,setRow_length];exact h2,hrr.2.1,fun i p v hp hv=>hrr.2.2 i p v hp ?_⟩
 rw[List.getElem?_take,if_pos (by have:=getElem?_lt hp;rwa[setRow_length] at this)]
 simpa using hv
theorem does_nxt (hW:WRel G C S w) (hT:TR nt C w ts a.tmps) {x:Operand} {ex:EOpd} (ho:o.op= .next x true) (hx:cOpd x=some ex) {l:Nat} {s:ByteArray} {pos:Nat} (hp:ex.val G ts=some (.ref l 0)) (hob:S.obs[l]?=some (.iter s pos)):
  if pos<s.size then Does P G C w {S with obs:=S.obs.set l (.iter s (pos+(Utf8.decode s pos).2))} (.tup [.bool true,.int .i64 pos,.int .i32 (Utf8.decode s pos).1]) o a else Does P G C w S (.tup [.bool false]) o a:=by
 have rp:=opd_rep hW hT hx hp
 generalize e:a.eval x=u at rp
 cases rp with|ref l q b hm=>
 obtain ⟨hm,hlt,h1⟩:=hW.live hob (by simp) hm
 have hh:w.heap[b]?=some (.stringIter s pos):=h1
 split
 ·rename_i hlt'
  intro K Q hk
  have hrun:(execOp a.eval o).run P w= .ok (.value (.tuple #[.bool true,.int .i64 pos,.int .i32 (Utf8.decode s pos).1])) {w with heap:=w.heap.setIfInBounds b (.stringIter s (pos+(Utf8.decode s pos).2))}:=by
   simp[execOp,ho,e,Instr.next,getObj,setObj,Sem.run,hh,hlt',goInt]
  have h5: ∀ k,k≠b→({w with heap:=w.heap.setIfInBounds b (.stringIter s (pos+(Utf8.decode s pos).2))}:World).heap[k]?=w.heap[k]?:=fun k hk=>Array.getElem?_setIfInBounds_ne (by omega)
  have hs:Step C w C {w with heap:=w.heap.setIfInBounds b (.stringIter s (pos+(Utf8.decode s pos).2))}:=step_turn hW hm rfl rfl rfl (by simp) h5
  refine wp_value hrun (hk C _ _ (.tup _ _ rfl fun i p v hp hv=> ?_) (wrel_turn hW hm hs (by simp) h5 (by simp) (by show _=_;simp[hlt])) hs)
  match i,hp,hv with
  |0,hp,hv=>simp at hp hv;subst hp hv;exact .bool _
  |1,hp,hv=>simp at hp hv;subst hp hv;exact .int _ _
  |2,hp,hv=>simp at hp hv;subst hp hv;exact .int _ _
 ·rename_i hlt'
  refine Does.pure hW (v':= .tuple #[.bool false]) (by simp[execOp,ho,e,Instr.next,getObj,Sem.run,hh,hlt']) (.tup _ _ rfl fun i p v hp hv=> ?_)
  match i,hp,hv with
  |0,hp,hv=>simp at hp hv;subst hp hv;exact .bool _
end
end Go.PE
