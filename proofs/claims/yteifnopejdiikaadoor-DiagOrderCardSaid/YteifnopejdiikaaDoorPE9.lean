/-
  Bytes and texts; every operation; a region in the order of the text. Conditions: each law's own.
-/
import Derived.Test.YteifnopejdiikaaDoorPE8
namespace Go.PE
open Go Go.RowKit
set_option linter.unusedVariables false
set_option linter.unusedSimpArgs false
section
variable {nt:Nat} {P:Program} {G:Glob} {C:Ctx} {S:St} {w:World} {ts:Tmps} {a:Act} {o:Oper} {v:PV}
theorem chunk_one: ∀ l:List PV,chunk 1 l.length l=l.map ([·])
 |[]=>rfl
 |x::l=>by simp[chunk,chunk_one l]
theorem does_s2b (hW:WRel G C S w) (hT:TR nt C w ts a.tmps) {s d e:TypeId} {x:Operand} {ex:EOpd} (ho:o.op= .convert s d x) (hs:P.underlying s=some .string) (hd:P.underlying d=some (.slice e)) (he:P.underlying e=some (.int .u8)) (hx:cOpd x=some ex) {r:ByteArray}
  (hp:ex.val G ts=some (.str r)):Does P G C w S (.sl .ro (rowsOfBytes r.data.toList)) o a:=by
 have e1:=(opd_rep hW hT hx hp).str_inv
 have hb:Below w.heap.size w (Lib.bytesWorld w e r):=⟨rfl,rfl,rfl,by rw[Lib.bytesWorld_size];omega,fun k hk=>Lib.bytesWorld_at_old w e r k hk⟩
 refine Does.below hW hb (v':= .slice (some ⟨w.heap.size,0,none⟩) r.size (grownCap w r.size 0 e)) ?_ ?_
 ·simp only[execOp,ho,e1,Sem.run_bind,Lib.run_convert_string_bytes w s d e r hs hd he,Result.andThen_ok,Sem.run_pure]
 ·have hrows:rowsOfBytes r.data.toList=chunk 1 r.size (r.data.toList.map fun b=>PV.int .u8 (b.toNat:Int)):=by
   have:=chunk_one (r.data.toList.map fun b=>PV.int .u8 (b.toNat:Int))
   have hsz:(r.data.toList.map fun b=>PV.int .u8 (b.toNat:Int)).length=r.size:=by simp
   rw[hsz] at this
   rw[this,rowsOfBytes,List.map_map];rfl
  rw[hrows]
  refine rep_newRow (Lib.bytesWorld_at_new w e r) (by rw[Lib.bytesWorld_size];omega) (by simp) (grownCap_ge w _ _ _) (fun k hk=>by have:=hW.m_lt hk;omega) (fun k fr hk=>by have:=(hW.odom k _ fr hk).2;omega) (fun i p hp=> ?_) _ (.inl rfl)
  rw[List.getElem?_map,Option.map_eq_some_iff] at hp
  obtain ⟨b,hb,rfl⟩:=hp
  refine ⟨rfl,.int .u8 b.toNat, ?_,.int _ _⟩
  have hi:i<r.data.size:=by have:=getElem?_lt hb;simpa using this
  rw[Array.getElem?_toList] at hb
  have hi':i<r.size:=hi
  simp[Lib.bytesCells,Array.getElem?_append,hi,hb]
  omega
theorem bytesOf_get: ∀ {xs:List (List PV)} {l:List UInt8},bytesOf xs=some l→l.length=xs.length∧ ∀ (j:Nat) r,xs[j]?=some r→ ∃ n:Int,r=[.int .u8 n]∧l[j]?=some (UInt8.ofNat n.toNat)
 |[],l,h=>by simp[bytesOf] at h;subst h;simp
 |[]::xs,l,h=>by simp[bytesOf] at h
 |(p::q::r)::xs,l,h=>by unfold bytesOf at h;split at h<;>simp_all
 |[p]::xs,l,h=>by
  cases p<;>try (simp[bytesOf] at h;done)
  rename_i k n
  cases k<;>try (simp[bytesOf] at h;done)
  simp only[bytesOf] at h
  split at h
  ·simp only[Option.map_eq_some_iff] at h
   obtain ⟨m,hm,rfl⟩:=h
   obtain ⟨h1,h2⟩:=bytesOf_get hm
   refine ⟨by simp[h1],fun j r hj=> ?_⟩
   cases j with
   |zero=>simp at hj;subst hj;exact ⟨n,rfl,by simp⟩
   |succ j=>exact h2 j r (by simpa using hj)
  ·cases h
theorem foldl_push (l:List Int) (s:ByteArray):l.foldl (fun r n=>r.push (UInt8.ofNat n.toNat)) s=⟨s.data++(l.map fun n=>UInt8.ofNat n.toNat).toArray⟩:=by
 induction l generalizing s with
 |nil=>simp
 |cons n l ih=>
  rw[List.foldl_cons,ih]
  simp[ByteArray.push]
theorem does_b2s (hW:WRel G C S w) (hT:TR nt C w ts a.tmps) {s d e:TypeId} {x:Operand} {ex:EOpd} (ho:o.op= .convert s d x) (hs:P.underlying s=some (.slice e)) (hd:P.underlying d=some .string) (he:P.underlying e=some (.int .u8)) (hx:cOpd x=some ex) {g:Tag} {xs:List (List PV)} {l:List UInt8}
  (hp:ex.val G ts=some (.sl g xs)) (hl:bytesOf xs=some l):Does P G C w S (.str ⟨l.toArray⟩) o a:=by
 obtain ⟨hl1,hl2⟩:=bytesOf_get hl
 have hr:=opd_rep hW hT hx hp
 refine Does.pure hW (v':= .string ⟨l.toArray⟩) ?_ (.str _)
 by_cases hne:xs=[]
 ·subst hne
  simp[bytesOf] at hl;subst hl
  generalize eu:a.eval x=u at hr
  cases hr with|sl g xs ad n cap sz hn hcap hsz hnull hexact hrow ha hc hrep hown=>
  simp at hn;subst hn
  have hconv:(Go.convert s d (.slice ad 0 cap)).run P w= .ok (.string ⟨#[]⟩) w:=by
   cases ad<;>simp[Go.convert,underlying_run hs,underlying_run hd,underlying_run he,Conv.bytesToString,loadCells,loadCellsFrom]<;>rfl
  simp[execOp,ho,eu,hconv]
 ·have hhd:headOk 1 xs=true:=by
   cases xs with
   |nil=>exact absurd rfl hne
   |cons r xs=>
    obtain ⟨n,e,_⟩:=hl2 0 r rfl
    subst e;rfl
  obtain ⟨b,off,cap,eu,hb,him,hsz,us,hul,huc,hur⟩:=row_cells hr (Nat.one_pos) hhd hne
  let ns:List Int:=us.map fun v=>match v with| .int _ n=>n|_=>0
  have hus:us=ns.map (Value.int .u8):=by
   apply List.ext_getElem?
   intro j
   by_cases hj:j<xs.length
   ·have hx1:=List.getElem?_eq_getElem hj
    obtain ⟨n,e,_⟩:=hl2 j _ hx1
    have hj':j<us.length:=by omega
    have hu1:=List.getElem?_eq_getElem hj'
    have:=(hur j _ 0 (.int .u8 n) us[j] hx1 (by rw[e];rfl) (by rw[Nat.mul_one,Nat.add_zero];exact hu1)).2.int_inv
    simp[ns,hu1,this]
   ·rw[List.getElem?_eq_none (by omega),List.getElem?_eq_none (by simp[ns];omega)]
  have hload:(loadCells ⟨b,off,none⟩ xs.length).run P w= .ok (ns.map (Value.int .u8)).toArray w:=by
   have:=run_loadCells_list (P:=P) w ⟨b,off,none⟩ us (fun j v hv=>by rw[addr_add];exact (huc j v hv).1)
   rw[hul,Nat.mul_one] at this
   rw[this,hus]
  have hstr:ns.foldl (fun r n=>r.push (UInt8.ofNat n.toNat)) ByteArray.empty=⟨l.toArray⟩:=by
   rw[foldl_push]
   have:(ns.map fun n=>UInt8.ofNat n.toNat)=l:=by
    apply List.ext_getElem?
    intro j
    by_cases hj:j<xs.length
    ·have hx1:=List.getElem?_eq_getElem hj
     obtain ⟨n,e,h2⟩:=hl2 j _ hx1
     have hj':j<us.length:=by omega
     have hu1:=List.getElem?_eq_getElem hj'
     have:=(hur j _ 0 (.int .u8 n) us[j] hx1 (by rw[e];rfl) (by rw[Nat.mul_one,Nat.add_zero];exact hu1)).2.int_inv
     rw[h2]
     simp[ns,hu1,this]
    ·rw[List.getElem?_eq_none (by simp[ns];omega),List.getElem?_eq_none (by omega)]
   rw[this];simp
  have hrun:=run_bytesToString (P:=P) w ⟨b,off,none⟩ xs.length cap ns hload
  rw[hstr] at hrun
  simp[execOp,ho,eu,Go.convert,underlying_run hs,underlying_run hd,underlying_run he,hrun]
def MRel (C:Ctx) (w:World) (es:List (ByteArray×PV×Nat)) (l:List MapEntry):Prop:=
 l.length=es.length∧ ∀ (i:Nat) k v n m,es[i]?=some (k,v,n)→l[i]?=some m→m.key= .string k∧m.born=n∧Rep C w v m.val
theorem sameNow_str (s k:ByteArray):Instr.sameNow .string (.string s) (.string k)=some (strEq s k):=by
 show some (s==k)=_
 rw[ba_beq,strEq_eq]
theorem findM_spec (s:ByteArray): ∀ (es:List (ByteArray×PV×Nat)),
  (∀ v n,findM s es=some (v,n)→ ∃ j,es[j]?=some (s,v,n)∧(∀ x,setM s x es=es.set j (s,x,n))∧delM s es=es.eraseIdx j∧
   ∀ (C:Ctx) (w:World) (l:List MapEntry) (i0:Nat),MRel C w es l→ ∃ m,l[j]?=some m∧Instr.findNow .string (.string s) l i0=some (some (i0+j,m.val)))∧
  (findM s es=none→delM s es=es∧ ∀ (C:Ctx) (w:World) (l:List MapEntry) (i0:Nat),MRel C w es l→Instr.findNow .string (.string s) l i0=some none)
 |[]=>by
  refine ⟨fun v n h=>by simp[findM] at h,fun _=>⟨rfl,fun C w l i0 hl=> ?_⟩⟩
  have:l=[]:=by simpa using hl.1
  subst this;rfl
 |(k,v,n)::es=>by
  obtain ⟨ih1,ih2⟩:=findM_spec s es
  refine ⟨fun v' n' h=> ?_,fun h=> ?_⟩
  ·simp only[findM] at h
   split at h
   ·rename_i he
    have:=strEq_iff.1 he;subst this
    simp at h;obtain ⟨rfl,rfl⟩:=h
    refine ⟨0,rfl,fun x=>by simp[setM,strEq_refl],by simp[delM,strEq_refl],fun C w l i0 hl=> ?_⟩
    cases l with
    |nil=>have:=hl.1;simp at this
    |cons m l=>
     obtain ⟨hk,_,_⟩:=hl.2 0 _ _ _ m rfl rfl
     exact ⟨m,rfl,by simp[Instr.findNow,hk,sameNow_str,strEq_refl]⟩
   ·rename_i he
    obtain ⟨j,h1,h2,h3,h4⟩:=ih1 v' n' h
    refine ⟨j+1,by simpa using h1,fun x=>by simp[setM,he,h2 x],by simp[delM,he,h3],fun C w l i0 hl=> ?_⟩
    cases l with
    |nil=>have:=hl.1;simp at this
    |cons m l=>
     obtain ⟨hk,_,_⟩:=hl.2 0 _ _ _ m rfl rfl
     obtain ⟨m',g1,g2⟩:=h4 C w l (i0+1) ⟨by have:=hl.1;simpa using this,fun i k v n m hi hm=>hl.2 (i+1) k v n m (by simpa using hi) (by simpa using hm)⟩
     refine ⟨m',by simpa using g1, ?_⟩
     simp only[Instr.findNow,hk,sameNow_str,Bool.eq_false_iff.2 he,g2]
     congr 3;omega
  ·simp only[findM] at h
   split at h
   ·cases h
   ·rename_i he
    obtain ⟨h3,h4⟩:=ih2 h
    refine ⟨by simp[delM,he,h3],fun C w l i0 hl=> ?_⟩
    cases l with
    |nil=>have:=hl.1;simp at this
    |cons m l=>
     obtain ⟨hk,_,_⟩:=hl.2 0 _ _ _ m rfl rfl
     have g2:=h4 C w l (i0+1) ⟨by have:=hl.1;simpa using this,fun i k v n m hi hm=>hl.2 (i+1) k v n m (by simpa using hi) (by simpa using hm)⟩
     simp only[Instr.findNow,hk,sameNow_str,Bool.eq_false_iff.2 he,g2]
theorem checkKey_run {t:TypeId} (h:P.underlying t=some .string) (e:Bool) (s:ByteArray):(Instr.checkKey e 10000 t (.string s)).run P w= .ok () w:=by
 show (Instr.checkKey e (9999+1) t (.string s)).run P w=_
 unfold Instr.checkKey
 simp[underlying_run h]
theorem findKey_run {t:TypeId} (h:P.underlying t=some .string) {s:ByteArray} {l:List MapEntry} {r:Option (Nat×Value)} (hf:Instr.findNow .string (.string s) l 0=some r):(Instr.findKey t (.string s) l).run P w= .ok r w:=by
 unfold Instr.findKey
 simp[underlying_run h,hf]
theorem keyStays_run (s:ByteArray):(Instr.keyThatStays (.string s) (.string s)).run P w= .ok (.string s) w:=by
 have:Instr.sameBits 10000 (.string s) (.string s)=true:=by
  show (s==s)=true
  rw[ba_beq];simp
 unfold Instr.keyThatStays
 simp[this]
theorem getMap_run {b:Nat} {arr:Array MapEntry} {c:Nat} (h:w.heap[b]?=some (.map arr c)):(getObj b).run P w= .ok (.map arr c) w:=by simp[getObj,Sem.run,h]
theorem setMap_run {b:Nat} {arr:Array MapEntry} {c:Nat} (h:w.heap[b]?=some (.map arr c)) (ob:Obj):(setObj b ob).run P w= .ok () {w with heap:=w.heap.setIfInBounds b ob}:=by simp[setObj,Sem.run,h]
theorem mapAt (hW:WRel G C S w) (hT:TR nt C w ts a.tmps) {x:Operand} {ex:EOpd} (hx:cOpd x=some ex) {l:Nat} {es:List (ByteArray×PV×Nat)} {c:Nat} (hp:ex.val G ts=some (.mp l)) (hob:S.obs[l]?=some (.map es c)):
  ∃ b arr,a.eval x= .map (some b)∧C.m l=some b∧b<w.heap.size∧w.heap[b]?=some (.map arr c)∧MRel C w es arr.toList:=by
 have r:=opd_rep hW hT hx hp
 generalize e:a.eval x=u at r
 cases r with|mp l b hm=>
 obtain ⟨hm,hlt,arr,h1,h2,h3⟩:=hW.live hob (by simp) hm
 exact ⟨b,arr,rfl,hm,hlt,h1,by simpa using h2,fun i k v n m hi hm=>h3 i k v n m hi (by simpa using hm)⟩
theorem map_turn (hW:WRel G C S w) {l b:Nat} (hl:C.m l=some b) {arr:Array MapEntry} {es':List (ByteArray×PV×Nat)} {c':Nat} (hr:MRel C w es' arr.toList):
  Step C w C {w with heap:=w.heap.setIfInBounds b (.map arr c')}∧WRel G C {S with obs:=S.obs.set l (.map es' c')} {w with heap:=w.heap.setIfInBounds b (.map arr c')}:=by
 have hlt:=hW.m_lt hl
 have h5: ∀ k,k≠b→({w with heap:=w.heap.setIfInBounds b (.map arr c')}:World).heap[k]?=w.heap[k]?:=fun k hk=>Array.getElem?_setIfInBounds_ne (by omega)
 have hs:Step C w C {w with heap:=w.heap.setIfInBounds b (.map arr c')}:=step_turn hW hl rfl rfl rfl (by simp) h5
 refine ⟨hs,wrel_turn hW hl hs (by simp) h5 (by simp) ⟨arr,by simp[hlt],by simpa using hr.1,fun i k v n m hi hm=> ?_⟩⟩
 obtain ⟨q1,q2,q3⟩:=hr.2 i k v n m hi (by simpa using hm)
 exact ⟨q1,q2,q3.step hs⟩
theorem does_mkm (hW:WRel G C S w) {t:TypeId} (ho:o.op= .makeMap t none):Does P G C w {S with obs:=S.obs++[.map [] 0]} (.mp S.obs.length) o a:=by
 refine Does.made' hW (z:=0) (obj:= .map #[] 0) (u:= .map (some w.heap.size)) (by simp) (fun C' w' hs _ hb=>⟨#[],hb,rfl,fun i k v n m h=>by simp at h⟩) (fun C' w' hm _=> .mp _ _ (.inl hm)) ?_
 simp[execOp,ho,Instr.makeMap,run_newObj]
theorem MRel.get {es:List (ByteArray×PV×Nat)} {l:List MapEntry} (h:MRel C w es l) {i:Nat} {k:ByteArray} {v:PV} {n:Nat} (hi:es[i]?=some (k,v,n)): ∃ m,l[i]?=some m∧m.key= .string k∧m.born=n∧Rep C w v m.val:=by
 have hl:i<l.length:=by rw[h.1];exact getElem?_lt hi
 exact ⟨_,List.getElem?_eq_getElem hl,h.2 i k v n _ hi (List.getElem?_eq_getElem hl)⟩
theorem MRel.set {es:List (ByteArray×PV×Nat)} {l:List MapEntry} (h:MRel C w es l) {i:Nat} {k:ByteArray} {v x:PV} {n:Nat} (hi:es[i]?=some (k,v,n)) {m:MapEntry} (hk:m.key= .string k) (hb:m.born=n) (hr:Rep C w x m.val):MRel C w (es.set i (k,x,n)) (l.set i m):=by
 refine ⟨by simp[h.1],fun j k' v' n' m' hj hm=> ?_⟩
 by_cases e:i=j
 ·subst e
  have hl:=getElem?_lt hi
  rw[List.getElem?_set_self hl] at hj
  rw[List.getElem?_set_self (by rw[h.1];exact hl)] at hm
  simp at hj hm;obtain ⟨rfl,rfl,rfl⟩:=hj;subst hm
  exact ⟨hk,hb,hr⟩
 ·rw[List.getElem?_set_ne e] at hj hm
  exact h.2 j k' v' n' m' hj hm
theorem MRel.push {es:List (ByteArray×PV×Nat)} {l:List MapEntry} (h:MRel C w es l) {k:ByteArray} {x:PV} {n:Nat} {m:MapEntry} (hk:m.key= .string k) (hb:m.born=n) (hr:Rep C w x m.val):MRel C w (es++[(k,x,n)]) (l++[m]):=by
 refine ⟨by simp[h.1],fun j k' v' n' m' hj hm=> ?_⟩
 rw[set_append_length] at hj hm
 split at hj
 ·rename_i e;subst e
  rw[if_pos h.1.symm] at hm
  simp at hj hm;obtain ⟨rfl,rfl,rfl⟩:=hj;subst hm
  exact ⟨hk,hb,hr⟩
 ·rename_i e
  rw[if_neg (by rw[h.1];exact e)] at hm
  exact h.2 j k' v' n' m' hj hm
theorem modify_toList {α:Type} (arr:Array α) (f:α→α) {i:Nat} {x:α} (h:arr.toList[i]?=some x):(arr.modify i f).toList=arr.toList.set i (f x):=by
 apply List.ext_getElem?
 intro j
 rw[Array.getElem?_toList,Array.getElem?_modify]
 rw[Array.getElem?_toList] at h
 by_cases e:i=j
 ·subst e
  rw[if_pos rfl,h,List.getElem?_set_self (by have:=(Array.getElem?_eq_some_iff.1 h).1;simpa using this)];rfl
 ·rw[if_neg e,List.getElem?_set_ne e,Array.getElem?_toList]
theorem set_same {α:Type} {l:List α} {i:Nat} {x:α} (h:l[i]?=some x):l.set i x=l:=by
 apply List.ext_getElem?
 intro j
 by_cases e:i=j
 ·subst e;rw[List.getElem?_set_self (getElem?_lt h),h]
 ·rw[List.getElem?_set_ne e]
theorem does_lkp (hW:WRel G C S w) (hT:TR nt C w ts a.tmps) {t kt e:TypeId} {x y:Operand} {ex ey:EOpd} {ok:Bool} {z:PV} (ho:o.op= .lookup t x y ok) (ht:P.underlying t=some (.map kt e)) (hk:P.underlying kt=some .string) (hz:zeroP P e=some z) (hx:cOpd x=some ex) (hy:cOpd y=some ey)
  {call:CallFn} (hv:evOp G call ts S (.lkp z ok ex ey)=some (v,S)):Does P G C w S v o a:=by
 obtain ⟨zv,z1,z2,z3⟩:=zeroValue_run hz w
 simp only[evOp] at hv
 split at hv
 ·rename_i l s h1 h2
  split at hv
  ·rename_i es c hob
   obtain ⟨b,arr,e1,hm,hlt,hb,hr⟩:=mapAt hW hT hx h1 hob
   have e2:=(opd_rep hW hT hy h2).str_inv
   obtain ⟨f1,f2⟩:=findM_spec s es
   cases hf:findM s es with
   |none=>
    rw[hf] at hv
    simp only[Option.some.injEq,Prod.mk.injEq,and_true] at hv
    obtain ⟨_,f3⟩:=f2 hf
    have hfk:=findKey_run (P:=P) (w:=w) hk (f3 C w arr.toList 0 hr)
    cases ok with
    |true=>
     simp only[if_true] at hv;subst hv
     exact Does.pure hW (v':= .tuple #[zv,.bool false]) (by simp[execOp,ho,Instr.lookup,underlying_run ht,e1,e2,getMap_run hb,checkKey_run hk,hfk,z1]) ((ofV_rep z2).two (.bool false))
    |false=>
     simp only[Bool.false_eq_true,if_false] at hv;subst hv
     exact Does.pure hW (v':=zv) (by simp[execOp,ho,Instr.lookup,underlying_run ht,e1,e2,getMap_run hb,checkKey_run hk,hfk,z1]) (ofV_rep z2)
   |some q=>
    obtain ⟨v0,n⟩:=q
    rw[hf] at hv
    simp only[Option.some.injEq,Prod.mk.injEq,and_true] at hv
    obtain ⟨j,g1,_,_,g2⟩:=f1 v0 n hf
    obtain ⟨m,g3,g4⟩:=g2 C w arr.toList 0 hr
    have hfk:=findKey_run (P:=P) (w:=w) hk g4
    have hm':=(hr.2 j _ _ _ m g1 g3).2.2
    cases ok with
    |true=>
     simp only[if_true] at hv;subst hv
     exact Does.pure hW (v':= .tuple #[m.val,.bool true]) (by simp[execOp,ho,Instr.lookup,underlying_run ht,e1,e2,getMap_run hb,checkKey_run hk,hfk]) (hm'.two (.bool true))
    |false=>
     simp only[Bool.false_eq_true,if_false] at hv;subst hv
     exact Does.pure hW (v':=m.val) (by simp[execOp,ho,Instr.lookup,underlying_run ht,e1,e2,getMap_run hb,checkKey_run hk,hfk]) hm'
  ·cases hv
 ·cases hv
theorem does_mup (hW:WRel G C S w) (hT:TR nt C w ts a.tmps) {t kt e:TypeId} {x y z:Operand} {ex ey ez:EOpd} (ho:o.op= .mapUpdate t x y z∨o.op= .insert t x y z) (ht:P.underlying t=some (.map kt e)) (hk:P.underlying kt=some .string) (hx:cOpd x=some ex) (hy:cOpd y=some ey) (hz:cOpd z=some ez)
  {call:CallFn} {S':St} (hv:evOp G call ts S (.mup ex ey ez)=some (v,S')):Does P G C w S' v o a:=by
 simp only[evOp] at hv
 split at hv
 ·rename_i l s q h1 h2 h3
  split at hv
  ·rename_i es c hob
   obtain ⟨b,arr,e1,hm,hlt,hb,hr⟩:=mapAt hW hT hx h1 hob
   have e2:=(opd_rep hW hT hy h2).str_inv
   have rz:=opd_rep hW hT hz h3
   obtain ⟨f1,f2⟩:=findM_spec s es
   cases hf:findM s es with
   |none=>
    rw[hf] at hv
    simp only[Option.some.injEq,Prod.mk.injEq] at hv
    obtain ⟨rfl,rfl⟩:=hv
    obtain ⟨_,f3⟩:=f2 hf
    have hfk:=findKey_run (P:=P) (w:=w) hk (f3 C w arr.toList 0 hr)
    have hpush:MRel C w (es++[(s,q,c)]) (arr.push {key:= .string s,val:=a.eval z,born:=c}).toList:=by
     rw[Array.toList_push];exact hr.push rfl rfl rz
    obtain ⟨hs,hw'⟩:=map_turn hW hm (c':=c+1) hpush
    intro K Q hK
    refine wp_skip' ?_ (hK C _ _ (.un _ _) hw' hs)
    rcases ho with ho|ho<;>simp[execOp,ho,Instr.mapUpdate,underlying_run ht,e1,e2,getMap_run hb,checkKey_run hk,hfk,setMap_run hb]
   |some q0=>
    obtain ⟨v0,n⟩:=q0
    rw[hf] at hv
    simp only[Option.some.injEq,Prod.mk.injEq] at hv
    obtain ⟨rfl,rfl⟩:=hv
    obtain ⟨j,g1,g5,_,g2⟩:=f1 v0 n hf
    obtain ⟨m,g3,g4⟩:=g2 C w arr.toList 0 hr
    have hfk:=findKey_run (P:=P) (w:=w) hk g4
    obtain ⟨hmk,hmb,_⟩:=hr.2 j _ _ _ m g1 g3
    have g3':arr[j]?=some m:=by simpa using g3
    have hset:MRel C w (setM s q es) (arr.modify j fun e=>{e with key:= .string s,val:=a.eval z}).toList:=by
     rw[g5,modify_toList _ _ g3]
     exact hr.set g1 rfl hmb rz
    obtain ⟨hs,hw'⟩:=map_turn hW hm (c':=c) hset
    intro K Q hK
    refine wp_skip' ?_ (hK C _ _ (.un _ _) hw' hs)
    rcases ho with ho|ho<;>simp[execOp,ho,Instr.mapUpdate,underlying_run ht,e1,e2,getMap_run hb,checkKey_run hk,hfk,g3',hmk,keyStays_run,setMap_run hb]
  ·cases hv
 ·cases hv
theorem does_men (hW:WRel G C S w) (hT:TR nt C w ts a.tmps) {t kt e:TypeId} {x y:Operand} {ex ey:EOpd} {z:PV} (ho:o.op= .mapEntry t x y) (ht:P.underlying t=some (.map kt e)) (hk:P.underlying kt=some .string) (hz:zeroP P e=some z) (hx:cOpd x=some ex) (hy:cOpd y=some ey)
  {call:CallFn} {S':St} (hv:evOp G call ts S (.men z ex ey)=some (v,S')):Does P G C w S' v o a:=by
 obtain ⟨zv,z1,z2,z3⟩:=zeroValue_run hz w
 simp only[evOp] at hv
 split at hv
 ·rename_i l s h1 h2
  split at hv
  ·rename_i es c hob
   obtain ⟨b,arr,e1,hm,hlt,hb,hr⟩:=mapAt hW hT hx h1 hob
   have e2:=(opd_rep hW hT hy h2).str_inv
   obtain ⟨f1,f2⟩:=findM_spec s es
   cases hf:findM s es with
   |none=>
    rw[hf] at hv
    simp only[Option.some.injEq,Prod.mk.injEq] at hv
    obtain ⟨rfl,rfl⟩:=hv
    obtain ⟨_,f3⟩:=f2 hf
    have hfk:=findKey_run (P:=P) (w:=w) hk (f3 C w arr.toList 0 hr)
    have hpush:MRel C w (es++[(s,z,c)]) (arr.push {key:= .string s,val:=zv,born:=c}).toList:=by
     rw[Array.toList_push];exact hr.push rfl rfl (ofV_rep z2)
    obtain ⟨hs,hw'⟩:=map_turn hW hm (c':=c+1) hpush
    intro K Q hK
    refine wp_value (v:= .tuple #[zv,.int .i64 c]) ?_ (hK C _ _ ((ofV_rep z2).two (.int _ _)) hw' hs)
    simp[execOp,ho,Instr.mapEntry,underlying_run ht,e1,e2,getMap_run hb,checkKey_run hk,hfk,setMap_run hb,z1,goInt]
   |some q0=>
    obtain ⟨v0,n⟩:=q0
    rw[hf] at hv
    simp only[Option.some.injEq,Prod.mk.injEq] at hv
    obtain ⟨rfl,rfl⟩:=hv
    obtain ⟨j,g1,g5,_,g2⟩:=f1 v0 n hf
    obtain ⟨m,g3,g4⟩:=g2 C w arr.toList 0 hr
    have hfk:=findKey_run (P:=P) (w:=w) hk g4
    obtain ⟨hmk,hmb,hmr⟩:=hr.2 j _ _ _ m g1 g3
    have g3':arr[j]?=some m:=by simpa using g3
    have hset:MRel C w es (arr.modify j fun e=>{e with key:= .string s}).toList:=by
     rw[modify_toList _ _ g3]
     have:=hr.set g1 (m:={m with key:= .string s}) rfl hmb hmr
     rwa[show es.set j (s,v0,n)=es from set_same g1] at this
    obtain ⟨hs,hw'⟩:=map_turn hW hm (c':=c) hset
    have hSS:({S with obs:=S.obs.set l (.map es c)}:St)=S:=by
     rw[show S.obs.set l (.map es c)=S.obs from set_same hob]
    rw[hSS] at hw'
    intro K Q hK
    refine wp_value (v:= .tuple #[m.val,.int .i64 n]) ?_ (hK C _ _ ((hmr.step hs).two (.int _ _)) hw' hs)
    simp[execOp,ho,Instr.mapEntry,underlying_run ht,e1,e2,getMap_run hb,checkKey_run hk,hfk,g3',hmk,hmb,keyStays_run,setMap_run hb,goInt]
  ·cases hv
 ·cases hv
theorem setB_spec (x:PV) (b:Int): ∀ {es es':List (ByteArray×PV×Nat)} {l:List MapEntry},setB b x es=some es'→MRel C w es l→ ∃ j k v n m,es[j]?=some (k,v,n)∧l[j]?=some m∧es'=es.set j (k,x,n)∧l.findIdx? (fun e=>(e.born:Int)==b)=some j
 |[],es',l,h,hr=>by simp[setB] at h
 |(k,v,n)::es,es',[],h,hr=>by have:=hr.1;simp at this
 |(k,v,n)::es,es',m::l,h,hr=>by
  obtain ⟨hk,hb,_⟩:=hr.2 0 _ _ _ m rfl rfl
  simp only[setB] at h
  split at h
  ·rename_i e
   injection h with h;subst h
   exact ⟨0,k,v,n,m,rfl,rfl,rfl,by simp[List.findIdx?_cons,hb,e]⟩
  ·rename_i e
   simp only[Option.map_eq_some_iff] at h
   obtain ⟨es2,h2,rfl⟩:=h
   obtain ⟨j,k',v',n',m',g1,g2,g3,g4⟩:=setB_spec x b h2 (l:=l) ⟨by have:=hr.1;simpa using this,fun i k v n m hi hm=>hr.2 (i+1) k v n m (by simpa using hi) (by simpa using hm)⟩
   refine ⟨j+1,k',v',n',m',by simpa using g1,by simpa using g2,by simp[g3], ?_⟩
   have he:((m.born:Int)==b)=false:=by simp[hb,e]
   simp[List.findIdx?_cons,he,g4]
theorem does_mst (hW:WRel G C S w) (hT:TR nt C w ts a.tmps) {t:TypeId} {x y z:Operand} {ex ey ez:EOpd} (ho:o.op= .entryStore t x y z) (hx:cOpd x=some ex) (hy:cOpd y=some ey) (hz:cOpd z=some ez)
  {call:CallFn} {S':St} (hv:evOp G call ts S (.mst ex ey ez)=some (v,S')):Does P G C w S' v o a:=by
 simp only[evOp] at hv
 split at hv
 ·rename_i l n q h1 h2 h3
  split at hv
  ·rename_i es c hob
   obtain ⟨b,arr,e1,hm,hlt,hb,hr⟩:=mapAt hW hT hx h1 hob
   have e2:=(opd_rep hW hT hy h2).int_inv
   have rz:=opd_rep hW hT hz h3
   simp only[Option.map_eq_some_iff,Prod.mk.injEq] at hv
   obtain ⟨es',hes,rfl,rfl⟩:=hv
   obtain ⟨j,k,v0,n0,m,g1,g2,rfl,g4⟩:=setB_spec q n hes hr
   obtain ⟨hmk,hmb,_⟩:=hr.2 j _ _ _ m g1 g2
   have hset:MRel C w (es.set j (k,q,n0)) (arr.modify j fun e=>{e with val:=a.eval z}).toList:=by
    rw[modify_toList _ _ g2]
    exact hr.set g1 hmk hmb rz
   obtain ⟨hs,hw'⟩:=map_turn hW hm (c':=c) hset
   have g4':arr.findIdx? (fun e=>(e.born:Int)==n)=some j:=by rw[show arr=arr.toList.toArray from by simp,List.findIdx?_toArray];exact g4
   intro K Q hK
   refine wp_skip' ?_ (hK C _ _ (.un _ _) hw' hs)
   simp[execOp,ho,Instr.entryStore,e1,e2,getMap_run hb,asInt,asIntOf,g4',setMap_run hb]
  ·cases hv
 ·cases hv
theorem does_mdl (hW:WRel G C S w) (hT:TR nt C w ts a.tmps) {c0:Call} {t kt e:TypeId} {x y:Operand} {ex ey:EOpd} (ho:o.op= .call c0) (hc:c0.callee= .builtin .delete) (hargs:c0.args= #[x,y]) (h0:c0.argTypes[0]?=some t) (ht:P.underlying t=some (.map kt e)) (hk:P.underlying kt=some .string) (hx:cOpd x=some ex) (hy:cOpd y=some ey)
  {call:CallFn} {S':St} (hv:evOp G call ts S (.mdl ex ey)=some (v,S')):Does P G C w S' v o a:=by
 simp only[evOp] at hv
 split at hv
 ·rename_i l s h1 h2
  split at hv
  ·rename_i es c hob
   obtain ⟨b,arr,e1,hm,hlt,hb,hr⟩:=mapAt hW hT hx h1 hob
   have e2:=(opd_rep hW hT hy h2).str_inv
   simp only[Option.some.injEq,Prod.mk.injEq] at hv
   obtain ⟨rfl,rfl⟩:=hv
   obtain ⟨f1,f2⟩:=findM_spec s es
   cases hf:findM s es with
   |none=>
    obtain ⟨f4,f3⟩:=f2 hf
    have hfk:=findKey_run (P:=P) (w:=w) hk (f3 C w arr.toList 0 hr)
    rw[f4]
    obtain ⟨hs,hw'⟩:=map_turn hW hm (c':=c) hr
    intro K Q hK
    refine wp_value (v:= .tuple #[]) ?_ (hK C _ _ (.un _ _) hw' hs)
    simp[execOp,ho,resolve,hc,hargs,invoke,Go.builtin,Builtin.delete_,h0,underlying_run ht,e1,e2,getMap_run hb,checkKey_run hk,hfk,setMap_run hb]
   |some q0=>
    obtain ⟨v0,n⟩:=q0
    obtain ⟨j,g1,_,g5,g2⟩:=f1 v0 n hf
    obtain ⟨m,g3,g4⟩:=g2 C w arr.toList 0 hr
    have hfk:=findKey_run (P:=P) (w:=w) hk g4
    have hset:MRel C w (delM s es) (arr.eraseIdxIfInBounds j).toList:=by
     have hjl:j<arr.size:=by have:=getElem?_lt g3;simpa using this
     rw[g5,show (arr.eraseIdxIfInBounds j).toList=arr.toList.eraseIdx j from by simp[Array.eraseIdxIfInBounds,hjl]]
     refine ⟨by simp[List.length_eraseIdx,hr.1],fun i k v n m hi hm=> ?_⟩
     rw[List.getElem?_eraseIdx] at hi hm
     split at hi
     ·rename_i hij;rw[if_pos hij] at hm;exact hr.2 i k v n m hi hm
     ·rename_i hij;rw[if_neg hij] at hm;exact hr.2 (i+1) k v n m hi hm
    obtain ⟨hs,hw'⟩:=map_turn hW hm (c':=c) hset
    intro K Q hK
    refine wp_value (v:= .tuple #[]) ?_ (hK C _ _ (.un _ _) hw' hs)
    simp[execOp,ho,resolve,hc,hargs,invoke,Go.builtin,Builtin.delete_,h0,underlying_run ht,e1,e2,getMap_run hb,checkKey_run hk,hfk,setMap_run hb]
  ·cases hv
 ·cases hv
end
end Go.PE
