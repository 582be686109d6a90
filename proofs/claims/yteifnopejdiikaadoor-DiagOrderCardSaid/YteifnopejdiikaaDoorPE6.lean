/-
  Operations that make memory, or turn private memory. Conditions: each law's own.
-/
import Derived.Test.YteifnopejdiikaaDoorPE5
import Derived.Laws.CopyRow
import Derived.Laws.MakeOwn
import Derived.Laws.BytesString
import Derived.Lib.ConvBytes
namespace Go.PE
open Go Go.RowKit
set_option linter.unusedVariables false
set_option linter.unusedSimpArgs false
section
variable {nt:Nat} {P:Program} {G:Glob} {C:Ctx} {S:St} {w:World} {ts:Tmps} {a:Act} {o:Oper} {v:PV}
theorem Ext.of_below {w':World} (h:Below w.heap.size w w') (C:Ctx):Ext C w w':=
 ⟨h.os,h.tape,h.output,h.size,fun b hb _ _=>h.block b hb,fun b hi hb _ arr e z ha=>⟨arr,z,by rw[h.block b hb];exact ha,rfl,fun _ _=>rfl⟩⟩
theorem Step.of_below {w':World} (h:Below w.heap.size w w') (C:Ctx):Step C w C w':=⟨.of_below h C,.refl _ _,fun k b fr _ _ arr e z ha=>⟨arr,by rw[h.block b (Array.getElem?_eq_some_iff.1 ha).1];exact ha⟩⟩
theorem ObAt.step {C':Ctx} {w':World} (hs:Step C w C' w') {l b:Nat} {ob:Ob} (h:ObAt G C w l b ob) (hm:C.m l=some b) (hm':C'.m l=some b) (hb:w'.heap[b]?=w.heap[b]?):ObAt G C' w' l b ob:=by
 cases ob with
 |cells t cs=>
  obtain ⟨arr,h1,h2,h3,h4⟩:=h
  exact ⟨arr,by rw[hb];exact h1,h2,h3,fun i p v hp hv=>(h4 i p v hp hv).step hs⟩
 |iter s pos=>show _=_;rw[hb];exact h
 |loop r=>
  obtain ⟨L,nt,h1,h2,h3,h4,h5,h6,h7,h8⟩:=h
  exact ⟨L,nt,by rw[hb];exact h1,h2,h3,h4,h5,h6,h7,h8.step hs⟩
 |map es c=>
  obtain ⟨arr,h1,h2,h3⟩:=h
  exact ⟨arr,by rw[hb];exact h1,h2,fun i k v n m he hm=>let ⟨a,b,c⟩:=h3 i k v n m he hm;⟨a,b,c.step hs⟩⟩
 |row t cs=>
  obtain ⟨arr,h1,h2,h3,h4,h5⟩:=h
  exact ⟨arr,by rw[hb];exact h1,by rw[hs.le.c1 l b hm hm'];exact h2,h3,h4,fun i p v hp hv=>(h5 i p v hp hv).step hs⟩
 |dead=>trivial
theorem WRel.of_below (hW:WRel G C S w) {w':World} (h:Below w.heap.size w w'):WRel G C S w':=by
 have hs:=Step.of_below h C
 refine ⟨fun l ob ho hd=> ?_,hW.dd,hW.nd,hW.dom,hW.inj,hW.own,fun k b fr hk=> ?_,hW.oinj,hW.disj,fun g cs hg=>(hW.glob g cs hg).step hs,fun g o hg=> ?_⟩
 ·obtain ⟨b,h1,h2,h3⟩:=hW.ob l ob ho hd
  exact ⟨b,h1,Nat.lt_of_lt_of_le h2 h.size,h3.step hs h1 h1 (h.block b h2)⟩
 ·obtain ⟨h1,h2⟩:=hW.odom k b fr hk
  exact ⟨h1,Nat.lt_of_lt_of_le h2 h.size⟩
 ·obtain ⟨h1,h2,h3⟩:=hW.blk g o hg
  exact ⟨by rw[h.block g (Array.getElem?_eq_some_iff.1 h1).1];exact h1,h2,h3⟩
theorem Does.below (hW:WRel G C S w) {w':World} (hb:Below w.heap.size w w') {v':Value}
  (h:(execOp a.eval o).run P w= .ok (.value v') w') (hr:Rep C w' v v'):Does P G C w S v o a:=
 fun K Q hk=>wp_value h (hk C w' v' hr (hW.of_below hb) (.of_below hb C))
theorem below_push (w:World) (ob:Obj):Below w.heap.size w {w with heap:=w.heap.push ob}:=(Below.refl _ _).alloc (Nat.le_refl _) _
def RepC (C:Ctx) (w:World) (cs:List PV) (vs:List Value):Prop:=
 vs.length=cs.length∧(∀ (i:Nat) p,cs[i]?=some p→p.atom=true)∧ ∀ (i:Nat) p v,cs[i]?=some p→vs[i]?=some v→Rep C w p v
theorem Rep.cells {p:PV} {u:Value} (h:Rep C w p u) (hok:p.okc=true):RepC C w p.cells u.cells.toList:=by
 cases h with
 |agg cs vs hl ha h=>exact ⟨(by show vs.toList.length=cs.length;simpa using hl),ha,fun i p v hp hv=>h i p v hp (by rw[←Array.getElem?_toList];exact hv)⟩
 |tup cs vs hl h=>simp[PV.okc] at hok
 |_=>
  refine ⟨rfl,fun i p hp=> ?_,fun i p v hp hv=> ?_⟩
  ·cases i<;>simp[PV.cells] at hp;subst hp;rfl
  ·cases i<;>simp[PV.cells,Value.cells] at hp hv;subst hp hv;(first|assumption|(constructor<;>assumption))
theorem RepC.step {C':Ctx} {w':World} (hs:Step C w C' w') {cs:List PV} {vs:List Value} (h:RepC C w cs vs):RepC C' w' cs vs:=
 ⟨h.1,h.2.1,fun i p v hp hv=>(h.2.2 i p v hp hv).step hs⟩
theorem RepC.set {cs:List PV} {vs:List Value} (h:RepC C w cs vs) (i:Nat) {p:PV} {u:Value} (hp:p.atom=true) (hr:Rep C w p u):RepC C w (cs.set i p) (vs.set i u):=by
 refine ⟨by simp[h.1],fun j q hq=> ?_,fun j q x hq hx=> ?_⟩
 ·rw[List.getElem?_set] at hq
  split at hq
  ·split at hq
   ·simp at hq;subst hq;exact hp
   ·cases hq
  ·exact h.2.1 j q hq
 ·rw[List.getElem?_set] at hq hx
  split at hq
  ·rename_i e
   rw[if_pos e] at hx
   split at hq
   ·rename_i hlt
    rw[if_pos (by rw[h.1];exact hlt)] at hx
    simp at hq hx;subst hq hx;exact hr
   ·cases hq
  ·rename_i e
   rw[if_neg e] at hx
   exact h.2.2 j q x hq hx
def setRowV (cs:List Value) (off:Nat):List Value→List Value
 |[]=>cs
 |v::l=>setRowV (cs.set off v) (off+1) l
theorem RepC.setRow: ∀ {ps:List PV} {us:List Value} {cs:List PV} {vs:List Value} (off:Nat),RepC C w cs vs→RepC C w ps us→RepC C w (setRow cs off ps) (setRowV vs off us)
 |[],[],cs,vs,off,h,_=>h
 |[],u::us,cs,vs,off,h,h'=>by have:=h'.1;simp at this
 |p::ps,[],cs,vs,off,h,h'=>by have:=h'.1;simp at this
 |p::ps,u::us,cs,vs,off,h,h'=>by
  refine RepC.setRow (off+1) (h.set off (h'.2.1 0 p rfl) (h'.2.2 0 p u rfl rfl)) ⟨by simpa using h'.1,fun i q hq=>h'.2.1 (i+1) q (by simpa using hq),fun i q x hq hx=>h'.2.2 (i+1) q x (by simpa using hq) (by simpa using hx)⟩
theorem setRow_length: ∀ (ps cs:List PV) (off:Nat),(setRow cs off ps).length=cs.length
 |[],cs,off=>rfl
 |p::ps,cs,off=>by rw[setRow,setRow_length ps];simp
theorem foldl_cells: ∀ (l:List Value) (k off:Nat) (arr:Array Value),((l.zipIdx k).foldl (fun cs (x:Value×Nat)=>cs.setIfInBounds (off+x.2) x.1) arr).toList=setRowV arr.toList (off+k) l
 |[],k,off,arr=>rfl
 |v::l,k,off,arr=>by
  rw[List.zipIdx_cons,List.foldl_cons,foldl_cells l (k+1) off,Array.toList_setIfInBounds,setRowV,Nat.add_assoc]
theorem fill_rep (hW:WRel G C S w) (hT:TR nt C w ts a.tmps) {place:Nat→Option (Nat×Nat)}: ∀ {parts:List (Nat×Operand)} {ps:List (Nat×Nat×EOpd)} {cs cs':List PV} {arr:Array Value},
  ps.length=parts.length→(∀ (i:Nat) x y,parts[i]?=some x→ps[i]?=some y→place x.1=some (y.1,y.2.1)∧cOpd x.2=some y.2.2)→RepC C w cs arr.toList→fillP G ts cs ps=some cs'→
  ∃ arr',Instr.fill place arr (parts.map fun (i,x)=>(i,a.eval x))=some arr'∧RepC C w cs' arr'.toList
 |[],[],cs,cs',arr,_,_,h,hf=>by simp[fillP] at hf;subst hf;exact ⟨arr,rfl,h⟩
 |[],y::ps,cs,cs',arr,hl,_,h,hf=>by simp at hl
 |x::parts,[],cs,cs',arr,hl,_,h,hf=>by simp at hl
 |(i,x)::parts,(off,size,e)::ps,cs,cs',arr,hl,hp,h,hf=>by
  obtain ⟨h1,h2⟩:=hp 0 _ _ rfl rfl
  simp only[fillP,Option.bind_eq_some_iff] at hf
  obtain ⟨q,hq,hf⟩:=hf
  split at hf
  ·cases hf
  ·rename_i hc
   simp only[Bool.or_eq_true,Bool.not_eq_true',decide_eq_true_eq,not_or,Bool.not_eq_false,ne_eq,Decidable.not_not] at hc
   obtain ⟨⟨hok,hsz⟩,hle⟩:=hc
   have hr:=opd_rep hW hT h2 hq
   have hrc:=hr.cells hok
   have hlen:(a.eval x).cells.size=size:=by have:=hrc.1;simpa [hsz] using this
   have harr:arr.size=cs.length:=by simpa using h.1
   have hfold:((a.eval x).cells.zipIdx.foldl (fun cs (c,j)=>cs.setIfInBounds (off+j) c) arr).toList=setRowV arr.toList off (a.eval x).cells.toList:=by
    rw[←Array.foldl_toList,Array.toList_zipIdx]
    exact foldl_cells _ 0 off arr
   have hrec:RepC C w (PE.setRow cs off q.cells) ((a.eval x).cells.zipIdx.foldl (fun cs (c,j)=>cs.setIfInBounds (off+j) c) arr).toList:=by
    rw[hfold];exact RepC.setRow off h hrc
   obtain ⟨arr',g1,g2⟩:=fill_rep hW hT (place:=place) (parts:=parts) (ps:=ps) (by simpa using hl) (fun i x y hx hy=>hp (i+1) x y (by simpa using hx) (by simpa using hy)) hrec hf
   refine ⟨arr', ?_,g2⟩
   simp only[List.map_cons,Instr.fill,h1]
   rw[if_neg,g1]
   intro hbad
   simp only[Bool.or_eq_true,decide_eq_true_eq] at hbad
   rcases hbad with hbad|hbad
   ·exact hbad hlen
   ·rw[hlen,harr] at hbad
    rw[hsz] at hle
    omega
theorem RepC.agg {cs:List PV} {arr:Array Value} (h:RepC C w cs arr.toList):Rep C w (.agg cs) (.agg arr):=
 .agg cs arr (by simpa using h.1) h.2.1 (fun i p v hp hv=>h.2.2 i p v hp (by simpa using hv))
theorem run_mapM {α β:Type} {f:α→Sem β} {g:α→β}: ∀ {l:List α},(∀ x∈l,(f x).run P w= .ok (g x) w)→(l.mapM f).run P w= .ok (l.map g) w
 |[],_=>rfl
 |x::l,h=>by
  have ih:=run_mapM (l:=l) (f:=f) (g:=g) (fun y hy=>h y (List.mem_cons_of_mem _ hy))
  rw[List.mapM_cons]
  simp only[Sem.run_bind,h x List.mem_cons_self,ih,Result.andThen_ok,Sem.run_pure,List.map_cons]
theorem does_buildS (hW:WRel G C S w) (hT:TR nt C w ts a.tmps) {t:TypeId} {parts:Array (Nat×Operand)} {z:PV} {fs:Array Field} {ps:List (Nat×Nat×EOpd)} (ho:o.op= .build t parts) (hz:zeroP P t=some z) (ht:P.underlying t=some (.struct fs)) (hall: ∀ f∈fs,(sizeP P f.type).isSome=true)
  (hps:ps.length=parts.toList.length∧ ∀ (i:Nat) x y,parts.toList[i]?=some x→ps[i]?=some y→ ∃ f,fs[x.1]?=some f∧y.1=f.offset∧sizeP P f.type=some y.2.1∧cOpd x.2=some y.2.2) {cs:List PV} (hf:fillP G ts z.cells ps=some cs):Does P G C w S (.agg cs) o a:=by
 obtain ⟨zv,z1,z2,z3⟩:=zeroValue_run hz w
 let g:Field→Nat×Nat:=fun f=>(f.offset,(sizeP P f.type).getD 0)
 have hm:(fs.toList.mapM (m:=Sem) fun f=>do pure (f.offset,←Go.sizeOf f.type)).run P w= .ok (fs.toList.map g) w:=by
  refine run_mapM fun f hf=> ?_
  have:=hall f (by simpa using hf)
  obtain ⟨s,hs⟩:=Option.isSome_iff_exists.1 this
  simp[sizeOf_run hs,g,hs]
 have hm':(fs.mapM (m:=Sem) fun f=>do pure (f.offset,←Go.sizeOf f.type)).run P w= .ok (fs.map g) w:=by
  rw[Array.mapM_eq_mapM_toList,Sem.run_map,hm,Result.andThen_ok,←Array.toList_map,Array.toArray_toList]
 obtain ⟨arr,h1,h2⟩:=fill_rep (place:=fun i=>(fs.map g)[i]?) hW hT hps.1 (fun i x y hx hy=>by
  obtain ⟨f,e1,e2,e3,e4⟩:=hps.2 i x y hx hy
  refine ⟨?_,e4⟩
  simp[e1,g,e3,←e2]) ((ofV_rep (C:=C) (w:=w) z2).cells z3) hf
 refine Does.pure hW (v':= .agg arr) ?_ h2.agg
 have hpl:(parts.map fun (i,x)=>(i,a.eval x)).toList=parts.toList.map fun (i,x)=>(i,a.eval x):=by simp
 simp only[execOp,ho,Instr.build,Sem.run_bind,z1,Result.andThen_ok,underlying_run ht,hm',hpl,h1,Sem.run_pure]
theorem does_buildA (hW:WRel G C S w) (hT:TR nt C w ts a.tmps) {t e:TypeId} {parts:Array (Nat×Operand)} {z:PV} {n sz:Nat} {ps:List (Nat×Nat×EOpd)} (ho:o.op= .build t parts) (hz:zeroP P t=some z) (ht:P.underlying t=some (.array n e)) (hsz:sizeP P e=some sz)
  (hps:ps.length=parts.toList.length∧ ∀ (i:Nat) x y,parts.toList[i]?=some x→ps[i]?=some y→y.1=x.1*sz∧y.2.1=sz∧cOpd x.2=some y.2.2) {cs:List PV} (hf:fillP G ts z.cells ps=some cs):Does P G C w S (.agg cs) o a:=by
 obtain ⟨zv,z1,z2,z3⟩:=zeroValue_run hz w
 obtain ⟨arr,h1,h2⟩:=fill_rep (place:=fun i=>some (i*sz,sz)) hW hT hps.1 (fun i x y hx hy=>by
  obtain ⟨e1,e2,e3⟩:=hps.2 i x y hx hy
  exact ⟨by rw[e1,e2],e3⟩) ((ofV_rep (C:=C) (w:=w) z2).cells z3) hf
 refine Does.pure hW (v':= .agg arr) ?_ h2.agg
 have hpl:(parts.map fun (i,x)=>(i,a.eval x)).toList=parts.toList.map fun (i,x)=>(i,a.eval x):=by simp
 simp only[execOp,ho,Instr.build,Sem.run_bind,z1,Result.andThen_ok,underlying_run ht,sizeOf_run hsz,hpl,h1,Sem.run_pure]
theorem chunk_length (sz:Nat): ∀ (n:Nat) (cs:List PV),(chunk sz n cs).length=n
 |0,cs=>rfl
 |n+1,cs=>by simp[chunk,chunk_length sz n]
theorem chunk_get (sz:Nat): ∀ (n:Nat) (cs:List PV) (j:Nat) (r:List PV),(chunk sz n cs)[j]?=some r→r=(cs.drop (j*sz)).take sz
 |0,cs,j,r,h=>by simp[chunk] at h
 |n+1,cs,0,r,h=>by simp[chunk] at h;simp[←h]
 |n+1,cs,j+1,r,h=>by
  simp only[chunk,List.getElem?_cons_succ] at h
  have:=chunk_get sz n _ j r h
  rw[this,List.drop_drop,Nat.succ_mul,Nat.add_comm]
theorem rep_newRow {sz n cap:Nat} {cs:List PV} {arr:Array Value} {e:TypeId} {z:Nat×Nat} {w':World} (hb:w'.heap[w.heap.size]?=some (.cells arr e z)) (hsize:w.heap.size<w'.heap.size) (hlen:cs.length=n*sz) (hcap:n≤cap) (hsz: ∀ k,C.m k≠some w.heap.size) (ho: ∀ k fr,C.o k≠some (w.heap.size,fr))
  (hr: ∀ (i:Nat) p,cs[i]?=some p→p.atom=true∧ ∃ v,arr[i]?=some v∧Rep C w' p v) (g:Tag) (hg:g= .ro∨(g= .exact∧cap=n)):Rep C w' (.sl g (chunk sz n cs)) (.slice (some ⟨w.heap.size,0,none⟩) n cap):=by
 have get: ∀ {j:Nat} {r:List PV} {i:Nat} {p:PV},(chunk sz n cs)[j]?=some r→r[i]?=some p→cs[j*sz+i]?=some p:=by
  intro j r i p hj hi
  have e1:=chunk_get sz n cs j r hj
  subst e1
  rw[List.getElem?_take] at hi
  split at hi
  ·rwa[List.getElem?_drop] at hi
  ·cases hi
 have cell: ∀ {i:Nat} {p:PV},cs[i]?=some p→ ∃ v,w'.cell? ⟨w.heap.size,i,none⟩=some v∧Rep C w' p v:=by
  intro i p hp
  obtain ⟨_,v,hv,hr⟩:=hr i p hp
  exact ⟨v,cell?_of hb hv,hr⟩
 refine .sl g _ _ _ _ sz (chunk_length sz n cs).symm (by rw[chunk_length];exact hcap) ?_ ?_ ?_ ?_ ?_ ?_ ?_ ?_
 ·intro j r hj
  have e1:=chunk_get sz n cs j r hj
  have hjn:j<n:=by have:=getElem?_lt hj;rwa[chunk_length] at this
  subst e1
  have:(j+1)*sz≤n*sz:=Nat.mul_le_mul_right _ hjn
  rw[Nat.succ_mul] at this
  simp;omega
 ·intro h;rcases hg with rfl|⟨rfl,_⟩<;>cases h
 ·intro h;rw[chunk_length];rcases hg with rfl|⟨_,h'⟩
  ·cases h
  ·exact h'
 ·exact fun _=>⟨_,0,rfl,hsize,fun k hk=>hsz k hk,fun k fr hk=>absurd hk (ho k fr)⟩
 ·exact fun j r i p hj hi=>(hr _ p (get hj hi)).1
 ·intro b off j r i p e hj hi
  simp at e;obtain ⟨rfl,rfl⟩:=e
  obtain ⟨v,hv,_⟩:=cell (get hj hi)
  exact ⟨v,by rw[Nat.zero_add];exact hv⟩
 ·intro b off j r i p v e hj hi hv
  simp at e;obtain ⟨rfl,rfl⟩:=e
  obtain ⟨u,hu,hru⟩:=cell (get hj hi)
  rw[Nat.zero_add,hu] at hv
  injection hv with hv;subst hv
  exact hru
 ·intro k ek h;rcases hg with rfl|⟨rfl,_⟩<;>cases h
theorem WRel.m_lt (hW:WRel G C S w) {l b:Nat} (h:C.m l=some b):b<w.heap.size:=by
 have hl:=hW.dom l b h
 obtain ⟨b',h1,h2,_⟩:=hW.ob l _ (List.getElem?_eq_getElem hl) (fun e=>hW.nd l b h (by rw[List.getElem?_eq_getElem hl,e]))
 rw[h] at h1;injection h1 with h1;subst h1;exact h2
theorem repRow_get (z:List PV): ∀ (n i:Nat) p,(repRow z n)[i]?=some p→z[i % z.length]?=some p
 |0,i,p,h=>by simp[repRow] at h
 |n+1,i,p,h=>by
  simp only[repRow] at h
  by_cases hi:i<z.length
  ·rw[List.getElem?_append_left hi] at h
   rw[Nat.mod_eq_of_lt hi];exact h
  ·rw[List.getElem?_append_right (by omega)] at h
   have:=repRow_get z n _ p h
   rwa[←Nat.mod_eq_sub_mod (by omega)] at this
theorem repRow_length (z:List PV): ∀ n,(repRow z n).length=n*z.length
 |0=>by simp[repRow]
 |n+1=>by simp[repRow,repRow_length z n,Nat.succ_mul,Nat.add_comm]
theorem does_rows (hW:WRel G C S w) (hT:TR nt C w ts a.tmps) {t e:TypeId} {parts:Array (Nat×Operand)} {z:PV} {n sz:Nat} {ps:List (Nat×EOpd)} (ho:o.op= .buildSlice t n parts) (ht:P.underlying t=some (.slice e)) (hsz:sizeP P e=some sz) (hlim:n*sz≤2 ^ 24) (h0:sz≠0) (hz:zeroP P e=some z) (hzl:z.cells.length=sz)
  (hps:ps.length=parts.toList.length∧ ∀ (i:Nat) x y,parts.toList[i]?=some x→ps[i]?=some y→y.1=x.1∧cOpd x.2=some y.2) {cs:List PV} (hf:fillP G ts (repRow z.cells n) (ps.map fun (i,x)=>(i*sz,sz,x))=some cs) (hl:cs.length=n*sz):Does P G C w S (.sl .exact (chunk sz n cs)) o a:=by
 obtain ⟨zv,z1,z2,z3⟩:=zeroValue_run hz w
 have hzc:=(ofV_rep (C:=C) (w:=w) z2).cells z3
 have hzs:zv.cells.size=sz:=by have:=hzc.1;simpa [hzl] using this
 let za:Array Value:=if n*sz=0 then #[] else zv.cells
 have hbase:RepC C w (repRow z.cells n) ((Array.range (n*sz)).map (za[· % za.size]!)).toList:=by
  refine ⟨by simp[repRow_length,hzl],fun i p hp=>hzc.2.1 _ p (repRow_get _ n i p hp),fun i p u hp hu=> ?_⟩
  have hi:i<n*sz:=by have:=getElem?_lt hp;rwa[repRow_length,hzl] at this
  have hza:za=zv.cells:=if_neg (by omega)
  have hp':=repRow_get _ n i p hp
  simp[hi,hza,hzs] at hu
  rw[hzl] at hp'
  have hmod:i % sz<zv.cells.size:=by rw[hzs];exact Nat.mod_lt _ (Nat.pos_of_ne_zero h0)
  rw[getElem!_pos zv.cells (i % sz) hmod] at hu
  refine hzc.2.2 _ p u hp' ?_
  rw[←hu];simp[hmod]
 obtain ⟨arr,h1,h2⟩:=fill_rep (place:=fun i=>some (i*sz,sz)) hW hT (ps:=ps.map fun (i,x)=>(i*sz,sz,x)) (by rw[List.length_map];exact hps.1) (fun i x y hx hy=>by
  rw[List.getElem?_map,Option.map_eq_some_iff] at hy
  obtain ⟨y',hy',rfl⟩:=hy
  obtain ⟨e1,e2⟩:=hps.2 i x y' hx hy'
  exact ⟨by simp[e1],e2⟩) hbase hf
 have hb:=below_push w (.cells arr e)
 refine Does.below hW hb (v':= .slice (some ⟨w.heap.size,0,none⟩) n n) ?_ ?_
 ·have hpl:(parts.map fun (i,x)=>(i,a.eval x)).toList=parts.toList.map fun (i,x)=>(i,a.eval x):=by simp
  simp only[execOp,ho,Instr.buildSlice,Sem.run_bind,underlying_run ht,Result.andThen_ok,sizeOf_run hsz]
  rw[if_neg (by simpa using hlim)]
  by_cases hc:n*sz=0
  ·have hza:za= #[]:=if_pos hc
   rw[hza] at h1
   simp only[if_pos hc,Sem.run_bind,Sem.run_pure,Result.andThen_ok,hpl,h1,newRow,run_newObj]
  ·have hza:za=zv.cells:=if_neg hc
   rw[hza] at h1
   simp only[if_neg hc,Sem.run_bind,z1,Sem.run_pure,Result.andThen_ok,hpl,h1,newRow,run_newObj]
 ·refine rep_newRow (w':={w with heap:=w.heap.push (.cells arr e)}) (arr:=arr) (e:=e) (z:=(0,0)) (by simp) (by simp) hl (Nat.le_refl _) (fun k hk=>by have:=hW.m_lt hk;omega) (fun k fr hk=>by have:=(hW.odom k _ fr hk).2;omega) ?_ _ (.inr ⟨rfl,rfl⟩)
  intro i p hp
  refine ⟨h2.2.1 i p hp, ?_⟩
  have hi:i<arr.size:=by have:=getElem?_lt hp;have:=h2.1;simp at this;omega
  exact ⟨arr[i],Array.getElem?_eq_getElem hi,(h2.2.2 i p _ hp (by simp[hi])).step (.of_below hb C)⟩
theorem does_mks (hW:WRel G C S w) (hT:TR nt C w ts a.tmps) {t e:TypeId} {i:TypeInfo} {n c:Operand} {z:PV} {en ec:EOpd} {kl kc:IntKind} {m:Int} (ho:o.op= .makeSlice t n c) (ht:P.underlying t=some (.slice e)) (hi:P.info? e=some i) (hz:zeroP P e=some z) (h0:i.size≠0) (hzl:z.cells.length=i.size)
  (hn:cOpd n=some en) (hc:cOpd c=some ec) (hp:en.val G ts=some (.int kl m)) (hq:ec.val G ts=some (.int kc m)) (hm:0≤m) (hb:m*i.bytes≤140737488355328) (h63:m≤9223372036854775807):Does P G C w S (.sl .exact (chunk i.size m.toNat (repRow z.cells m.toNat))) o a:=by
 have hz':=hz
 unfold zeroP at hz'
 rw[hi] at hz'
 simp only[Option.bind_some,Option.bind_eq_some_iff] at hz'
 obtain ⟨q,⟨zv,hiz,z2⟩,hz'⟩:=hz'
 split at hz'
 rotate_left
 ·cases hz'
 rename_i z3
 injection hz' with hz';subst hz'
 have hzc:=(ofV_rep (C:=C) (w:=w) z2).cells z3
 have hzs:zv.cells.size=i.size:=by have:=hzc.1;simpa [hzl] using this
 have e1:=(opd_rep hW hT hn hp).int_inv
 have e2:=(opd_rep hW hT hc hq).int_inv
 have hb':(i.bytes:Int)*m≤281474976710656:=by rw[Int.mul_comm];omega
 have hr:=run_make (P:=P) w t e i zv ht hi hiz kl kc m m hm (Int.le_refl _) hb' h63
 have hbl:=below_push w (.cells (madeCells zv.cells (m.toNat*i.size)) e)
 refine Does.below hW hbl (v':= .slice (some ⟨w.heap.size,0,none⟩) m.toNat m.toNat) ?_ ?_
 ·simp only[execOp,ho,e1,e2,Sem.run_bind,hr,Result.andThen_ok,Sem.run_pure]
  rfl
 ·refine rep_newRow (w':={w with heap:=w.heap.push (.cells (madeCells zv.cells (m.toNat*i.size)) e)}) (arr:=madeCells zv.cells (m.toNat*i.size)) (e:=e) (z:=(0,0)) (by simp) (by simp) (by rw[repRow_length,hzl]) (Nat.le_refl _) (fun k hk=>by have:=hW.m_lt hk;omega) (fun k fr hk=>by have:=(hW.odom k _ fr hk).2;omega) ?_ _ (.inr ⟨rfl,rfl⟩)
  intro q p hp
  have hq':q<m.toNat*i.size:=by have:=getElem?_lt hp;rwa[repRow_length,hzl] at this
  have hp':=repRow_get _ m.toNat q p hp
  rw[hzl] at hp'
  have hmod:q % i.size<zv.cells.size:=by rw[hzs];exact Nat.mod_lt _ (Nat.pos_of_ne_zero h0)
  refine ⟨hzc.2.1 _ p hp',zv.cells[q % i.size], ?_,(hzc.2.2 _ p _ hp' (by simp[hmod])).step (.of_below hbl C)⟩
  simp only[madeCells,Array.getElem?_map,hzs]
  rw[Array.getElem?_eq_getElem (by simpa using hq')]
  simp[getElem!_pos,hmod]
end
end Go.PE
