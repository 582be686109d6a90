/-
  Appends; bytes and texts. Conditions: each law's own.
-/
import Derived.Test.YteifnopejdiikaaDoorPE7
import Derived.Lib.AppendStr
import Derived.Lib.UnsafeStr
namespace Go.PE
open Go Go.RowKit
set_option linter.unusedVariables false
set_option linter.unusedSimpArgs false
section
variable {nt:Nat} {P:Program} {G:Glob} {C:Ctx} {S:St} {w:World} {ts:Tmps} {a:Act} {o:Oper} {v:PV}
theorem row_cells {g:Tag} {xs:List (List PV)} {u:Value} (h:Rep C w (.sl g xs) u) {sz:Nat} (hsz:0<sz) (hd:headOk sz xs=true) (hne:xs≠[]):
  ∃ b off cap,u= .slice (some ⟨b,off,none⟩) xs.length cap∧b<w.heap.size∧C.imm b (off+xs.length*sz)∧(∀ (j:Nat) r,xs[j]?=some r→r.length=sz)∧
   ∃ us:List Value,us.length=xs.length*sz∧(∀ (q:Nat) v,us[q]?=some v→w.cell? ⟨b,off+q,none⟩=some v∧v.oneCell'=true)∧
    ∀ (j:Nat) r (i:Nat) p v,xs[j]?=some r→r[i]?=some p→us[j*sz+i]?=some v→p.atom=true∧Rep C w p v:=by
 cases h with|sl g xs ad n cap sz' hn hcap hsz' hnull hexact hrow ha hc hrep hown=>
 obtain ⟨b,off,rfl,hb,him⟩:=hrow hne
 have es:sz'=sz:=by
  cases xs with
  |nil=>exact absurd rfl hne
  |cons r0 xs=>
   have h0:=hsz' 0 r0 rfl
   simp[headOk] at hd
   omega
 subst es
 have cell: ∀ q,q<xs.length*sz'→ ∃ v,w.cell? ⟨b,off+q,none⟩=some v∧v.oneCell'=true:=by
  intro q hq
  have hj:q / sz'<xs.length:=(Nat.div_lt_iff_lt_mul hsz).2 hq
  have hx:=List.getElem?_eq_getElem hj
  have hi:q % sz'<(xs[q / sz']).length:=by rw[hsz' _ _ hx];exact Nat.mod_lt _ hsz
  have hp:=List.getElem?_eq_getElem hi
  obtain ⟨v,hv⟩:=hc b off _ _ _ _ rfl hx hp
  have e:q / sz'*sz'+q % sz'=q:=by rw[Nat.mul_comm];exact Nat.div_add_mod q sz'
  rw[e] at hv
  exact ⟨v,hv,oneCell_of_atom (hrep b off _ _ _ _ v rfl hx hp (by rw[e];exact hv)) (ha _ _ _ _ hx hp)⟩
 refine ⟨b,off,cap,by rw[hn],hb,him,hsz',(List.range (xs.length*sz')).map fun q=>(w.cell? ⟨b,off+q,none⟩).getD undef,by simp,fun q v hv=> ?_,fun j r i p v hj hi hv=> ?_⟩
 ·have hq:q<xs.length*sz':=by have:=getElem?_lt hv;simpa using this
  obtain ⟨u,hu,h1⟩:=cell q hq
  simp[hq,hu] at hv
  subst hv
  exact ⟨hu,h1⟩
 ·have hq:j*sz'+i<xs.length*sz':=by have:=getElem?_lt hv;simpa using this
  obtain ⟨u,hu⟩:=hc b off j r i p rfl hj hi
  simp[hq,hu] at hv
  subst hv
  exact ⟨ha j r i p hj hi,hrep b off j r i p _ rfl hj hi hu⟩
theorem append_types {ty t u e e':TypeId} {types:Array TypeId} (h0:types[0]?=some t) (h1:types[1]?=some u) (ht:P.underlying t=some (.slice e)) (hu:P.underlying u=some (.slice e')) (args:Array Value):
  (Builtin.append_ types ty args).run P w=(Builtin.append_ #[t,t] ty args).run P w:=by
 unfold Builtin.append_
 simp only[h0,h1,List.getElem?_toArray,List.getElem?_cons_zero,List.getElem?_cons_succ]
 cases args[0]? with
 |none=>rfl
 |some s=>
  cases args[1]? with
  |none=>rfl
  |some x=>
   simp only[Sem.run_bind,underlying_run ht,underlying_run hu,Result.andThen_ok]
   cases s<;>simp[underlying_run ht,underlying_run hu]
def Ctx.grow (C:Ctx) (k b fr:Nat):Ctx:=⟨C.p,fun k'=>if k'=k then some (b,fr) else C.o k',C.c⟩
theorem set_append_length {α:Type} (l:List α) (x:α) (k:Nat):(l++[x])[k]?=if k=l.length then some x else l[k]?:=by
 rw[List.getElem?_append]
 split
 ·rename_i h;rw[if_neg (by omega)]
 ·rename_i h
  by_cases e:k=l.length
  ·subst e;simp
  ·rw[if_neg e,List.getElem?_eq_none (by simp;omega),List.getElem?_eq_none (by omega)]
theorem grow_new (hW:WRel G C S w) {w':World} (hb:Below w.heap.size w w') (hlt:w.heap.size<w'.heap.size) {k fr:Nat} {own':List Nat} (hown: ∀ k',own'[k']?=if k'=k then some fr else S.own[k']?) (hfr: ∀ b fr0,C.o k=some (b,fr0)→fr0<fr):
  Step C w (C.grow k w.heap.size fr) w'∧WRel G (C.grow k w.heap.size fr) {S with own:=own'} w':=by
 have hs:Step C w (C.grow k w.heap.size fr) w':=by
  refine ⟨.of_below hb C,⟨fun l b h=> .inl h,fun l b h=> .inl h,fun l h=>h,fun l b _ _=>rfl,fun k' b f h=> ?_,fun k' b f h=> ?_⟩,(fun k' b f _ _ arr e z ha=>⟨arr,by rw[hb.block b (Array.getElem?_eq_some_iff.1 ha).1];exact ha⟩)⟩
  ·simp only[Ctx.grow] at h
   split at h
   ·injection h with h;injection h with h1 h2;exact .inl (by omega)
   ·exact .inr ⟨f,h,Nat.le_refl _⟩
  ·by_cases e:k'=k
   ·subst e
    have:=hfr b f h
    exact ⟨w.heap.size,fr,by simp[Ctx.grow],by omega,fun e=>by omega⟩
   ·exact ⟨b,f,by simp[Ctx.grow,e,h],Nat.le_refl _,fun _=>rfl⟩
 refine ⟨hs,fun l ob hl hd=> ?_,hW.dd,hW.nd,hW.dom,hW.inj,fun k' f h=> ?_,fun k' b f h=> ?_,fun k1 k2 b f1 f2 h1 h2=> ?_,fun l b k' f h h'=> ?_,fun g cs hg=>(hW.glob g cs hg).step hs,fun g o hg=> ?_⟩
 ·obtain ⟨b,h1,h2,h3⟩:=hW.ob l ob hl hd
  exact ⟨b,h1,Nat.lt_of_lt_of_le h2 hb.size,h3.step hs h1 h1 (hb.block b h2)⟩
 ·simp only at h
  rw[hown] at h
  split at h
  ·rename_i e;subst e
   simp at h;subst h
   exact ⟨w.heap.size,by simp[Ctx.grow]⟩
  ·rename_i e
   obtain ⟨b,hb⟩:=hW.own k' f h
   exact ⟨b,by simp[Ctx.grow,e,hb]⟩
 ·simp only[Ctx.grow] at h
  split at h
  ·rename_i e;subst e
   injection h with h;injection h with h1 h2;subst h1 h2
   exact ⟨by rw[hown,if_pos rfl],hlt⟩
  ·rename_i e
   obtain ⟨h1,h2⟩:=hW.odom k' b f h
   exact ⟨by rw[hown,if_neg e];exact h1,Nat.lt_of_lt_of_le h2 hb.size⟩
 ·simp only[Ctx.grow] at h1 h2
  split at h1
  ·rename_i e1
   split at h2
   ·rename_i e2;omega
   ·injection h1 with h1;injection h1 with h1 _;subst h1
    have:=(hW.odom k2 _ f2 h2).2;omega
  ·split at h2
   ·injection h2 with h2;injection h2 with h2 _;subst h2
    have:=(hW.odom k1 _ f1 h1).2;omega
   ·exact hW.oinj k1 k2 b f1 f2 h1 h2
 ·simp only[Ctx.grow] at h'
  split at h'
  ·injection h' with h';injection h' with h' _;subst h'
   have:=hW.m_lt h;omega
  ·exact hW.disj l b k' f h h'
 ·obtain ⟨h1,h2,h3⟩:=hW.blk g o hg
  have hg:=(Array.getElem?_eq_some_iff.1 h1).1
  refine ⟨by rw[hb.block g hg];exact h1,h2,fun k' f h=> ?_⟩
  simp only[Ctx.grow] at h
  split at h
  ·injection h with h;injection h with h _;omega
  ·exact h3 k' f h
theorem grow_old (hW:WRel G C S w) {k b fr fr':Nat} (hk:C.o k=some (b,fr)) (hle:fr<fr') {arr arr':Array Value} {e:TypeId} {z z':Nat×Nat} {w':World} (h0:w.heap[b]?=some (.cells arr e z)) (h1:w'.os=w.os) (h2:w'.tape=w.tape) (h3:w'.output=w.output) (h4:w'.heap.size=w.heap.size)
  (h5: ∀ j,j≠b→w'.heap[j]?=w.heap[j]?) (h6:w'.heap[b]?=some (.cells arr' e z')) (h7:arr'.size=arr.size) (h8: ∀ i,i<fr→arr'[i]?=arr[i]?):Step C w (C.grow k b fr') w'∧WRel G (C.grow k b fr') {S with own:=S.own.set k fr'} w':=by
 have hkl:k<S.own.length:=getElem?_lt (hW.odom k b fr hk).1
 have hs:Step C w (C.grow k b fr') w':=by
  refine ⟨⟨h1,h2,h3,by omega,fun j hj hm ho=>h5 j fun e=>ho k fr (by rw[e];exact hk),fun j hi hj him ar el zz ha=> ?_⟩,⟨fun l b h=> .inl h,fun l b h=> .inl h,fun l h=>h,fun l b _ _=>rfl,fun k' b' f h=> ?_,fun k' b' f h=> ?_⟩,fun k' b' f hk1 hk2 ar el zz ha=> ?_⟩
  ·by_cases e:j=b
   ·subst e
    have:=him.2 k fr hk
    rw[h0] at ha
    injection ha with ha
    injection ha with e1 e2 e3
    subst e1 e2 e3
    exact ⟨arr',z',h6,h7,fun i hi=>h8 i (by omega)⟩
   ·exact ⟨ar,zz,by rw[h5 j e];exact ha,rfl,fun _ _=>rfl⟩
  ·simp only[Ctx.grow] at h
   split at h
   ·rename_i e;subst e
    injection h with h;injection h with e1 e2;subst e1 e2
    exact .inr ⟨fr,hk,by omega⟩
   ·exact .inr ⟨f,h,Nat.le_refl _⟩
  ·by_cases e:k'=k
   ·subst e
    rw[hk] at h;injection h with h;injection h with e1 e2;subst e1 e2
    exact ⟨b,fr',by simp[Ctx.grow],by omega,fun _=>rfl⟩
   ·exact ⟨b',f,by simp[Ctx.grow,e,h],Nat.le_refl _,fun _=>rfl⟩
  ·have e:b'≠b:=by
    intro e;subst e
    have:=hW.oinj _ _ _ _ _ hk hk1
    subst this
    rw[hk] at hk1;injection hk1 with hk1;injection hk1 with _ e1;subst e1
    simp only[Ctx.grow,if_true] at hk2;injection hk2 with hk2;injection hk2 with _ e2;omega
   exact ⟨ar,by rw[h5 b' e];exact ha⟩
 refine ⟨hs,fun l ob hl hd=> ?_,hW.dd,hW.nd,hW.dom,hW.inj,fun k' f h=> ?_,fun k' b' f h=> ?_,fun k1 k2 b' f1 f2 g1 g2=> ?_,fun l b' k' f h h'=> ?_,fun g cs hg=>(hW.glob g cs hg).step hs,fun g o hg=> ?_⟩
 ·obtain ⟨b',g1,g2,g3⟩:=hW.ob l ob hl hd
  have hne:b'≠b:=by intro e;subst e;exact hW.disj l _ k fr g1 hk
  exact ⟨b',g1,by omega,g3.step hs g1 g1 (h5 b' hne)⟩
 ·simp only at h
  by_cases e:k=k'
  ·subst e
   rw[List.getElem?_set_self hkl] at h
   simp at h;subst h
   exact ⟨b,by simp[Ctx.grow]⟩
  ·rw[List.getElem?_set_ne e] at h
   obtain ⟨b',hb⟩:=hW.own k' f h
   exact ⟨b',by simp[Ctx.grow,Ne.symm e,hb]⟩
 ·simp only[Ctx.grow] at h
  split at h
  ·rename_i e;subst e
   injection h with h;injection h with e1 e2;subst e1 e2
   exact ⟨by simp[hkl],by rw[h4];exact (hW.odom _ _ _ hk).2⟩
  ·rename_i e
   obtain ⟨g1,g2⟩:=hW.odom k' b' f h
   exact ⟨by simp only;rw[List.getElem?_set_ne (Ne.symm e)];exact g1,by omega⟩
 ·simp only[Ctx.grow] at g1 g2
  split at g1
  ·rename_i e1
   split at g2
   ·rename_i e2;omega
   ·injection g1 with g1;injection g1 with g1 _;subst g1 e1
    exact hW.oinj _ _ _ _ _ hk g2
  ·split at g2
   ·rename_i e2
    injection g2 with g2;injection g2 with g2 _;subst g2 e2
    exact hW.oinj _ _ _ _ _ g1 hk
   ·exact hW.oinj k1 k2 b' f1 f2 g1 g2
 ·simp only[Ctx.grow] at h'
  split at h'
  ·injection h' with h';injection h' with h' _;subst h'
   exact hW.disj l _ k fr h hk
  ·exact hW.disj l b' k' f h h'
 ·obtain ⟨g1,g2,g3⟩:=hW.blk g o hg
  have hne:g≠b:=fun e=>g3 k fr (by rw[e];exact hk)
  refine ⟨by rw[h5 g hne];exact g1,g2,fun k' f h=> ?_⟩
  simp only[Ctx.grow] at h
  split at h
  ·injection h with h;injection h with h _;exact hne h.symm
  ·exact g3 k' f h
theorem rep_own {C':Ctx} {w':World} {k b cap sz:Nat} {zs:List (List PV)} {arr:Array Value} {el:TypeId} (hW':WRel G C' S w') (hk:C'.o k=some (b,zs.length*sz)) (hb:w'.heap[b]?=some (.cells arr el (0,0))) (hsize:arr.size=cap*sz) (hcap:zs.length≤cap) (hne:zs≠[])
  (hsz: ∀ (j:Nat) r,zs[j]?=some r→r.length=sz) (h: ∀ (j:Nat) r (i:Nat) p,zs[j]?=some r→r[i]?=some p→p.atom=true∧ ∃ v,arr[j*sz+i]?=some v∧Rep C' w' p v):
  Rep C' w' (.sl (.own k el) zs) (.slice (some ⟨b,0,none⟩) zs.length cap):=by
 refine .sl _ _ _ _ _ sz rfl hcap hsz (fun h=>by cases h) (fun h=>by cases h) (fun _=>⟨b,0,rfl,(hW'.odom k b _ hk).2,fun l hl=>hW'.disj l b k _ hl hk,fun k' fr' hk'=> ?_⟩) (fun j r i p hj hi=>(h j r i p hj hi).1) ?_ ?_ ?_
 ·have:=hW'.oinj k' k b fr' _ hk' hk
  subst this
  rw[hk] at hk';injection hk' with hk';injection hk' with _ e;omega
 ·intro b' off j r i p e hj hi
  simp at e;obtain ⟨rfl,rfl⟩:=e
  obtain ⟨_,v,hv,_⟩:=h j r i p hj hi
  exact ⟨v,by rw[Nat.zero_add];exact cell?_of hb hv⟩
 ·intro b' off j r i p v e hj hi hv
  simp at e;obtain ⟨rfl,rfl⟩:=e
  obtain ⟨_,u,hu,hr⟩:=h j r i p hj hi
  rw[Nat.zero_add,cell?_of hb hu] at hv
  injection hv with hv;subst hv;exact hr
 ·intro k' e' e
  injection e with e e2;subst e e2
  exact ⟨hne,b,_,hk,Nat.le_refl _,fun _=>⟨rfl,arr,hb,hsize⟩⟩
theorem run_append_none {t ty e:TypeId} {i:TypeInfo} (ht:P.underlying t=some (.slice e)) (hi:P.info? e=some i) (ad ad':Option Addr) (n cap cap':Nat) (hle:n≤cap):
  (Builtin.append_ #[t,t] ty #[.slice ad n cap,.slice ad' 0 cap']).run P w= .ok (.slice ad n cap) w:=by
 cases ad<;>cases ad'<;>simp[Builtin.append_,underlying_run ht,Go.sizeOf,typeInfo_run hi,Builtin.lenOf,hle,Builtin.firstCells,loadCells,loadCellsFrom,storeCells]
theorem run_append_room' {t ty e el:TypeId} {i:TypeInfo} (ht:P.underlying t=some (.slice e)) (hi:P.info? e=some i)
  (g sLen sCap:Nat) (cur:Array Value) (hg:w.heap[g]?=some (.cells cur el (0,0)))
  (ad:Addr) (m c:Nat) (news:List Value) (hl:news.length=m*i.size) (hnews: ∀ (j:Nat) u,news[j]?=some u→w.cell? (ad.add j)=some u) (h1: ∀ u∈news,u.oneCell'=true)
  (hroom:sLen+m≤sCap) (hfit:sLen*i.size+news.length≤cur.size):
  (Builtin.append_ #[t,t] ty #[.slice (some ⟨g,0,none⟩) sLen sCap,.slice (some ad) m c]).run P w=
   .ok (.slice (some ⟨g,0,none⟩) (sLen+m) sCap) (w.setRow g (cur.toList.take (sLen*i.size)++news++cur.toList.drop (sLen*i.size+news.length)).toArray):=by
 have hf:=run_firstCells_some (P:=P) w i.size m ad m c news hl hnews
 have hst:=run_storeCells_at P g (sLen*i.size) el news 0 cur w hg (by simpa using hfit) h1
 simp only[Nat.add_zero] at hst
 simp[Builtin.append_,run_underlying ht,Go.sizeOf,typeInfo,hi,Builtin.lenOf,hroom,hf,Addr.add_lit,hst]
structure AppY (P:Program) (C:Ctx) (w:World) (a:Act) (o:Oper) (x:Operand) (e:TypeId) (i:TypeInfo) (z:Value) (ys:List (List PV)) (news:List Value):Prop where
 size: ∀ (j:Nat) r,ys[j]?=some r→r.length=i.size
 len:news.length=ys.length*i.size
 one: ∀ u∈news,u.oneCell'=true
 rep: ∀ (j:Nat) r (q:Nat) p v,ys[j]?=some r→r[q]?=some p→news[j*i.size+q]?=some v→p.atom=true∧Rep C w p v
 room: ∀ (g sLen sCap:Nat) (cur:Array Value) (el:TypeId),a.eval x= .slice (some ⟨g,0,none⟩) sLen sCap→w.heap[g]?=some (.cells cur el (0,0))→sLen+ys.length≤sCap→sLen*i.size+news.length≤cur.size→
  (execOp a.eval o).run P w= .ok (.value (.slice (some ⟨g,0,none⟩) (sLen+ys.length) sCap)) (w.setRow g (cur.toList.take (sLen*i.size)++news++cur.toList.drop (sLen*i.size+news.length)).toArray)
 nil:a.eval x= .slice none 0 0→0<ys.length→((ys.length:Nat):Int)≤9223372036854775807→ys.length*i.bytes≤281474976710656→
  (execOp a.eval o).run P w= .ok (.value (.slice (some ⟨w.heap.size,0,none⟩) ys.length (grownCap w ys.length 0 e))) (w.drew.alloc (.cells (news.toArray++Builtin.zeroCells z.cells (grownCap w ys.length 0 e - ys.length)) e))
 grow: ∀ (b:Addr) (sLen sCap:Nat) (olds:List Value),a.eval x= .slice (some b) sLen sCap→olds.length=sLen*i.size→(∀ (j:Nat) v,olds[j]?=some v→w.cell? (b.add j)=some v)→sCap<sLen+ys.length→((sLen+ys.length:Nat):Int)≤9223372036854775807→Builtin.nextslicecap (sLen+ys.length) sCap*i.bytes≤281474976710656→
  (execOp a.eval o).run P w= .ok (.value (.slice (some ⟨w.heap.size,0,none⟩) (sLen+ys.length) (grownCap w (sLen+ys.length) sCap e))) (w.drew.alloc (.cells (olds.toArray++news.toArray++Builtin.zeroCells z.cells (grownCap w (sLen+ys.length) sCap e - (sLen+ys.length))) e))
theorem app_core (hW:WRel G C S w) (hT:TR nt C w ts a.tmps) {x:Operand} {ex:EOpd} {e:TypeId} {i:TypeInfo} {z:Value} (hzs:z.cells.size=i.size) (hx:cOpd x=some ex) {g:Tag} {xs ys:List (List PV)} {S':St}
  (hp:ex.val G ts=some (.sl g xs)) (hempty:ys=[]→ ∀ ad n cap,n≤cap→a.eval x= .slice ad n cap→(execOp a.eval o).run P w= .ok (.value (.slice ad n cap)) w) (hY:ys≠[]→0<i.size→headOk i.size ys=true→ ∃ news,AppY P C w a o x e i z ys news)
  (hv:appP S e i.size i.bytes g xs ys=some (v,S')):Does P G C w S' v o a:=by
 have rp:=opd_rep hW hT hx hp
 unfold appP at hv
 split at hv
 ·rename_i hemp
  have:ys=[]:=by simpa using hemp
  subst this
  simp at hv;obtain ⟨rfl,rfl⟩:=hv
  generalize eu:a.eval x=ux at rp
  have rp':=rp
  cases rp with|sl g xs ad n cap sz hn hcap hsz hnull hexact hrow ha hc' hrep hown=>
  exact Does.pure hW (v':= .slice ad n cap) (hempty rfl ad n cap (by omega) eu) rp'
 ·rename_i hemp
  have hyne:ys≠[]:=by simpa using hemp
  split at hv
  ·rename_i hcnd
   obtain ⟨hb47,h63,hszp,hdx,hdy⟩:=hcnd
   obtain ⟨news,hszy,hnl,hn1,hnr,hroomR,hnilR,hgrowR⟩:=hY hyne hszp hdy
   have hypos:0<ys.length:=List.length_pos_iff.2 hyne
   generalize eu:a.eval x=ux at rp
   have rp':=rp
   cases rp with|sl g xs ad n cap sz hn hcap hsz hnull hexact hrow ha hc' hrep hown=>
   subst hn
   have olds: ∃ us:List Value,us.length=xs.length*i.size∧(∀ b,ad=some b→ ∀ (q:Nat) v,us[q]?=some v→w.cell? (b.add q)=some v)∧(∀ (j:Nat) r (q:Nat) p v,xs[j]?=some r→r[q]?=some p→us[j*i.size+q]?=some v→p.atom=true∧Rep C w p v)∧(∀ (j:Nat) r,xs[j]?=some r→r.length=i.size)∧(∀ b q,ad=some ⟨b,q,none⟩→xs≠[]→ ∀ (j:Nat) v,us[j]?=some v→w.cell? ⟨b,q+j,none⟩=some v):=by
    by_cases hxne:xs=[]
    ·subst hxne
     exact ⟨[],by simp,by simp,by simp,by simp,by simp⟩
    ·obtain ⟨b,off,cap',e1,_,_,hszx,us,hul,huc,hur⟩:=row_cells rp' hszp hdx hxne
     injection e1 with e1 _ _
     subst e1
     refine ⟨us,hul,fun b' hb' q v hv=> ?_,hur,hszx,fun b' q hb' _ j v hv=> ?_⟩
     ·injection hb' with hb';subst hb'
      rw[addr_add];exact (huc q v hv).1
     ·injection hb' with hb';injection hb' with e1 e2;subst e1 e2
      exact (huc j v hv).1
   obtain ⟨us,hul,huc,hur,hszx,huc'⟩:=olds
   have hszz: ∀ (j:Nat) r,(xs++ys)[j]?=some r→r.length=i.size:=by
    intro j r hj
    rw[List.getElem?_append] at hj
    split at hj
    ·exact hszx j r hj
    ·exact hszy _ r hj
   have hlen:(xs++ys).length=xs.length+ys.length:=by simp
   have cellsOk: ∀ {C':Ctx} {w':World} {arr:Array Value},Step C w C' w'→(∀ (q:Nat) v,(us++news)[q]?=some v→arr[q]?=some v)→
     ∀ (j:Nat) r (q:Nat) p,(xs++ys)[j]?=some r→r[q]?=some p→p.atom=true∧ ∃ v,arr[j*i.size+q]?=some v∧Rep C' w' p v:=by
    intro C' w' arr hs harr j r q p hj hq'
    have hql:q<i.size:=by rw[←hszz j r hj];exact getElem?_lt hq'
    rw[List.getElem?_append] at hj
    split at hj
    ·rename_i hlt
     have hle:(j+1)*i.size≤xs.length*i.size:=Nat.mul_le_mul_right _ hlt
     rw[Nat.succ_mul] at hle
     have hlt2:j*i.size+q<us.length:=by omega
     have hg1:=List.getElem?_eq_getElem hlt2
     obtain ⟨h1',h2'⟩:=hur j r q p _ hj hq' hg1
     exact ⟨h1',_,harr _ _ (by rw[List.getElem?_append_left hlt2];exact hg1),h2'.step hs⟩
    ·rename_i hge
     have hjy:=getElem?_lt hj
     have hle:(j - xs.length+1)*i.size≤ys.length*i.size:=Nat.mul_le_mul_right _ hjy
     rw[Nat.succ_mul] at hle
     have hlt2:(j - xs.length)*i.size+q<news.length:=by omega
     have hg1:=List.getElem?_eq_getElem hlt2
     obtain ⟨h1',h2'⟩:=hnr _ r q p _ hj hq' hg1
     have hsplit:j*i.size+q=us.length+((j - xs.length)*i.size+q):=by
      rw[hul]
      have:j=xs.length+(j - xs.length):=by omega
      rw[this,Nat.add_mul];simp;omega
     refine ⟨h1',_,harr _ (news[(j - xs.length)*i.size+q]) ?_,h2'.step hs⟩
     rw[hsplit,List.getElem?_append_right (by omega)]
     simp
   have new: ∀ (k:Nat) (own':List Nat),(∀ k',own'[k']?=if k'=k then some ((xs.length+ys.length)*i.size) else S.own[k']?)→(∀ b fr0,C.o k=some (b,fr0)→fr0<(xs.length+ys.length)*i.size)→v= .sl (.own k e) (xs++ys)→S'={S with own:=own'}→
     (ad=none→xs=[]∧cap=0)→cap<xs.length+ys.length→Does P G C w S' v o a:=by
    rintro k own' hown' hfr rfl rfl hnone hcapl
    let ncap:=grownCap w (xs.length+ys.length) cap e
    let arr:=us.toArray++news.toArray++Builtin.zeroCells z.cells (ncap - (xs.length+ys.length))
    have hrun':(execOp a.eval o).run P w= .ok (.value (.slice (some ⟨w.heap.size,0,none⟩) (xs.length+ys.length) ncap)) (w.drew.alloc (.cells arr e)):=by
     have hfits:=growslice_fits (need:=xs.length+ys.length) (old:=cap) hcapl hb47
     cases ad with
     |none=>
      obtain ⟨hx0,hc0⟩:=hnone rfl
      subst hx0 hc0
      have hu0:us=[]:=List.eq_nil_of_length_eq_zero (by simpa using hul)
      have:=hnilR eu hypos (by simp at h63;omega) (by have:=hb47;simp at this;omega)
      subst hu0
      simpa [arr,ncap] using this
     |some b=>
      exact hgrowR b xs.length cap us eu hul (huc b rfl) hcapl (by omega) hfits
    have hbel:Below w.heap.size w (w.drew.alloc (.cells arr e)):=((Below.refl _ w).drew).alloc (by simp) _
    have hlt:w.heap.size<(w.drew.alloc (.cells arr e)).heap.size:=by simp[World.alloc,World.drew, -World.alloc_eq, -World.drew_eq]
    have hnb:(w.drew.alloc (.cells arr e)).heap[w.heap.size]?=some (.cells arr e (0,0)):=by simp[World.alloc,World.drew, -World.alloc_eq, -World.drew_eq]
    obtain ⟨hs,hW'⟩:=grow_new (own':=own') hW hbel hlt hown' hfr
    have hge:xs.length+ys.length≤ncap:=grownCap_ge w _ cap e
    have harrsize:arr.size=ncap*i.size:=by
     simp only[arr,Array.size_append,List.size_toArray,size_zeroCells,hzs,hul,hnl,←Nat.add_mul]
     congr 1;omega
    intro K Q hk
    refine wp_value hrun' (hk _ _ _ ?_ hW' hs)
    have:=rep_own (G:=G) (k:=k) (cap:=ncap) (sz:=i.size) (zs:=xs++ys) hW' (by simp[Ctx.grow]) hnb harrsize (by omega) (by simp[hyne]) hszz (cellsOk hs (fun q v hq=>by
     simp only[arr]
     rw[←Array.getElem?_toList]
     simp only[Array.toList_append,List.append_assoc]
     rw[←List.append_assoc,List.getElem?_append_left (getElem?_lt hq)]
     exact hq))
    rwa[hlen] at this
   cases g with
   |ro=>cases hv
   |null=>
    simp only at hv
    obtain ⟨e1,e2,e3⟩:=hnull rfl
    injection hv with hv;injection hv with hv1 hv2
    exact new S.own.length (S.own++[(xs.length+ys.length)*i.size]) (set_append_length _ _) (fun b fr0 hb=>by have:=(hW.odom _ _ _ hb).1;simp at this) hv1.symm hv2.symm (fun _=>⟨e2,e3⟩) (by omega)
   |exact=>
    simp only at hv
    have e1:=hexact rfl
    injection hv with hv;injection hv with hv1 hv2
    refine new S.own.length (S.own++[(xs.length+ys.length)*i.size]) (set_append_length _ _) (fun b fr0 hb=>by have:=(hW.odom _ _ _ hb).1;simp at this) hv1.symm hv2.symm (fun e=> ?_) (by omega)
    have:xs=[]:=by
     by_cases hxne:xs=[]
     ·exact hxne
     ·obtain ⟨b,off,e',_⟩:=hrow hxne
      rw[e] at e';cases e'
    subst this
    exact ⟨rfl,by simpa using e1⟩
   |own k e0=>
    simp only at hv
    split at hv
    ·rename_i hown'
     obtain ⟨rfl,hown'⟩:=hown'
     injection hv with hv;injection hv with hv1 hv2
     obtain ⟨hxne,b,fr,hk,hle,hlast⟩:=hown k e0 rfl
     have hfr:=(hW.odom k b fr hk).1
     rw[hown'] at hfr
     injection hfr with hfr
     have hszeq:sz=i.size:=by
      cases xs with
      |nil=>exact absurd rfl hxne
      |cons r0 xs=>rw[←hsz 0 r0 rfl,hszx 0 r0 rfl]
     subst hszeq
     obtain ⟨ead,arr0,hb0,hs0⟩:=hlast hfr.symm
     subst ead
     by_cases hroom:xs.length+ys.length≤cap
     ·have hfit:xs.length*i.size+news.length≤arr0.size:=by rw[hnl,hs0,←Nat.add_mul];exact Nat.mul_le_mul_right _ hroom
      have hrun':=hroomR b xs.length cap arr0 e0 eu hb0 hroom hfit
      let arr:=(arr0.toList.take (xs.length*i.size)++news++arr0.toList.drop (xs.length*i.size+news.length)).toArray
      have hh:=setRow_heap w b arr0 arr e0 (0,0) hb0
      have hsz':arr.size=arr0.size:=by simp[arr];omega
      have hpos:0<ys.length*i.size:=Nat.mul_pos hypos hszp
      obtain ⟨hs,hW'⟩:=grow_old (fr':=(xs.length+ys.length)*i.size) (w':=w.setRow b arr) hW hk (by rw[Nat.add_mul,←hfr];omega) hb0 rfl rfl rfl (by simp[World.setRow]) (fun j hj=>setRow_other w b j _ hj) hh hsz' (fun q hq=>by
       rw[←hfr] at hq
       rw[←Array.getElem?_toList,←Array.getElem?_toList]
       simp only[arr,List.toList_toArray]
       have hl:q<(arr0.toList.take (xs.length*i.size)).length:=by simp;omega
       rw[List.append_assoc,List.getElem?_append_left hl,List.getElem?_take,if_pos hq])
      have hustake:us=arr0.toList.take (xs.length*i.size):=by
       apply List.ext_getElem?
       intro q
       by_cases hq:q<us.length
       ·have hg:=List.getElem?_eq_getElem hq
        have:=huc' b 0 rfl hxne q _ hg
        rw[Nat.zero_add] at this
        obtain ⟨ar2,e2,z2,k1,k2⟩:=cell?_some this
        rw[hb0] at k1;injection k1 with k1;injection k1 with k1 _ _;subst k1
        rw[hg,List.getElem?_take,if_pos (by omega),Array.getElem?_toList,k2]
       ·rw[List.getElem?_eq_none (by omega),List.getElem?_eq_none (by simp;omega)]
      subst hv1 hv2
      intro K Q hk'
      refine wp_value hrun' (hk' _ _ _ ?_ hW' hs)
      have:=rep_own (G:=G) (k:=k) (cap:=cap) (sz:=i.size) (zs:=xs++ys) hW' (by simp[Ctx.grow]) hh (by rw[hsz',hs0]) (by omega) (by simp[hyne]) hszz (cellsOk hs (fun q v hq=>by
       rw[←Array.getElem?_toList]
       simp only[arr,List.toList_toArray]
       rw[←hustake,List.getElem?_append_left (getElem?_lt hq)]
       exact hq))
      rwa[hlen] at this
     ·refine new k (S.own.set k ((xs.length+ys.length)*i.size)) (fun k'=> ?_) (fun b' fr0 hb'=> ?_) hv1.symm hv2.symm (fun e=>by cases e) (by omega)
      ·have hkl:k<S.own.length:=getElem?_lt hown'
       by_cases e:k'=k
       ·subst e;simp[hkl]
       ·rw[List.getElem?_set_ne (Ne.symm e),if_neg e]
      ·rw[hk] at hb';injection hb' with hb';injection hb' with _ e2;subst e2
       have hpos:0<ys.length*i.size:=Nat.mul_pos hypos hszp
       rw[Nat.add_mul];omega
    ·cases hv
  ·cases hv
theorem does_app (hW:WRel G C S w) (hT:TR nt C w ts a.tmps) {c:Call} {x y:Operand} {ex ey:EOpd} {t u e e':TypeId} {i:TypeInfo} {z:Value} (ho:o.op= .call c) (hc:c.callee= .builtin .append) (hargs:c.args= #[x,y]) (h0:c.argTypes[0]?=some t) (h1:c.argTypes[1]?=some u)
  (ht:P.underlying t=some (.slice e)) (hu:P.underlying u=some (.slice e')) (hi:P.info? e=some i) (hz:i.zero=some z) (hzs:z.cells.size=i.size) (hx:cOpd x=some ex) (hy:cOpd y=some ey) {g g':Tag} {xs ys:List (List PV)} {S':St}
  (hp:ex.val G ts=some (.sl g xs)) (hq:ey.val G ts=some (.sl g' ys)) (hv:appP S e i.size i.bytes g xs ys=some (v,S')):Does P G C w S' v o a:=by
 have rq:=opd_rep hW hT hy hq
 have run: ∀ {v:Value} {w':World},(Builtin.append_ #[t,t] o.type #[a.eval x,a.eval y]).run P w= .ok v w'→(execOp a.eval o).run P w= .ok (.value v) w':=by
  intro v w' hr
  have:=append_types (P:=P) (w:=w) (ty:=o.type) h0 h1 ht hu #[a.eval x,a.eval y]
  rw[hr] at this
  simp[execOp,ho,resolve,hc,hargs,invoke,Go.builtin,this]
 refine app_core hW hT (e:=e) hzs hx hp (fun hys ad n cap hle eu=> ?_) (fun hyne hszp hdy=> ?_) hv
 ·subst hys
  generalize ev:a.eval y=uy at rq
  cases rq with|sl g2 xs2 ad2 n2 cap2 sz2 hn2 hcap2 hsz2 hnull2 hexact2 hrow2 ha2 hc2 hrep2 hown2=>
  simp at hn2;subst hn2
  exact run (by rw[eu,ev];exact run_append_none ht hi ad ad2 n cap cap2 hle)
 ·obtain ⟨by_,offy,capy,ey',hby,_,hszy,news,hnl,hnc,hnr⟩:=row_cells rq hszp hdy hyne
  have hnews: ∀ (j:Nat) u,news[j]?=some u→w.cell? ((⟨by_,offy,none⟩:Addr).add j)=some u:=fun j u hj=>by rw[addr_add];exact (hnc j u hj).1
  have hn1: ∀ u∈news,u.oneCell'=true:=fun u hu=>by obtain ⟨j,hj⟩:=List.getElem?_of_mem hu;exact (hnc j u hj).2
  exact ⟨news,hszy,hnl,hn1,hnr,
   fun g sLen sCap cur el eu hg hroom hfit=>run (by rw[eu,ey'];exact run_append_room' ht hi g sLen sCap cur hg _ ys.length capy news hnl hnews hn1 hroom hfit),
   fun eu hp h63 h48=>run (by rw[eu,ey'];exact run_append_nil (P:=P) w t o.type e i z ht hi hz _ ys.length capy news hnl hnews hp h63 h48),
   fun b sLen sCap olds eu hol ho hcap h63 hfit=>run (by rw[eu,ey'];exact run_append_grow (P:=P) w t o.type e i z ht hi hz b sLen sCap olds hol ho _ ys.length capy news hnl hnews hcap h63 hfit)⟩
def Ctx.mv (C:Ctx) (l l' b z:Nat):Ctx:=⟨fun k=>if k=l' then some (some b) else if k=l then some none else C.p k,C.o,fun k=>if k=l' then z else C.c k⟩
theorem Ctx.mv_m (C:Ctx) (l l' b z k:Nat):(C.mv l l' b z).m k=if k=l' then some b else if k=l then none else C.m k:=by
 simp only[Ctx.mv,Ctx.m];split
 ·rfl
 ·split<;>rfl
theorem Ctx.mv_d (C:Ctx) (l l' b z k:Nat):(C.mv l l' b z).d k=if k=l' then false else if k=l then true else C.d k:=by
 simp only[Ctx.mv,Ctx.d];split
 ·rfl
 ·split<;>rfl
theorem step_mv (hW:WRel G C S w) {l b0 b z:Nat} (hl:C.m l=some b0) (hb:b=b0∨w.heap.size≤b) {w':World} (h1:w'.os=w.os) (h2:w'.tape=w.tape) (h3:w'.output=w.output) (h4:w.heap.size≤w'.heap.size) (h5: ∀ k,k<w.heap.size→k≠b0→w'.heap[k]?=w.heap[k]?):Step C w (C.mv l S.obs.length b z) w':=by
 have hll:l<S.obs.length:=hW.dom l b0 hl
 have hnew:C.m S.obs.length=none:=m_none hW
 refine ⟨⟨h1,h2,h3,h4,fun k hk hm _=>h5 k hk fun e=>hm l (by rw[e];exact hl),fun k hi hk him arr e z ha=> ?_⟩,⟨fun k b' h=> ?_,fun k b' h=> ?_,fun k h=> ?_,fun k b' h h'=> ?_,fun k b' fr h=> .inr ⟨fr,h,Nat.le_refl _⟩,fun k b' fr h=>⟨b',fr,h,Nat.le_refl _,fun _=>rfl⟩⟩,fun k b' fr hk _ arr e z ha=>⟨arr, ?_⟩⟩
 ·have hne:k≠b0:=fun e=>him.1 l (by rw[e];exact hl)
  exact ⟨arr,z,by rw[h5 k hk hne];exact ha,rfl,fun _ _=>rfl⟩
 ·have:k≠S.obs.length:=fun e=>by rw[e,hnew] at h;cases h
  rw[Ctx.mv_m,Ctx.mv_d,if_neg this,if_neg this]
  by_cases e:k=l
  ·rw[if_pos e,if_pos e];exact .inr rfl
  ·rw[if_neg e,if_neg e];exact .inl h
 ·rw[Ctx.mv_m] at h
  split at h
  ·injection h with h;subst h
   rcases hb with rfl|hb
   ·exact .inr (.inr ⟨l,hl,by rw[Ctx.mv_d,if_neg (by omega),if_pos rfl]⟩)
   ·exact .inr (.inl hb)
  ·split at h
   ·cases h
   ·exact .inl h
 ·have h':=hW.dd k h
  have hk:=getElem?_lt h'
  have hkl:k≠l:=fun e=>by subst e;rw[Ctx.dm h] at hl;cases hl
  rw[Ctx.mv_d,if_neg (by omega),if_neg hkl];exact h
 ·have:k≠S.obs.length:=fun e=>by rw[e,hnew] at h;cases h
  simp[Ctx.mv,this]
 ·have hne:b'≠b0:=fun e=>hW.disj l b0 k fr hl (by rw[←e];exact hk)
  rw[h5 b' (Array.getElem?_eq_some_iff.1 ha).1 hne];exact ha
theorem wrel_mv (hW:WRel G C S w) {l b0 b z:Nat} (hl:C.m l=some b0) (hb:b=b0∨w.heap.size≤b) {w':World} (hs:Step C w (C.mv l S.obs.length b z) w') (h4:w.heap.size≤w'.heap.size) (h5: ∀ k,k<w.heap.size→k≠b0→w'.heap[k]?=w.heap[k]?) (hbl:b<w'.heap.size) {ob:Ob} (hnd:ob≠ .dead)
  (ho:ObAt G (C.mv l S.obs.length b z) w' S.obs.length b ob):WRel G (C.mv l S.obs.length b z) {S with obs:=S.obs.set l .dead++[ob]} w':=by
 have hll:l<S.obs.length:=hW.dom l b0 hl
 have hnew:C.m S.obs.length=none:=m_none hW
 have hb0:b0<w.heap.size:=hW.m_lt hl
 have hsl:(S.obs.set l .dead).length=S.obs.length:=List.length_set
 refine ⟨fun k ob' hk hd=> ?_,fun k h=> ?_,fun k b' h=> ?_,fun k b' h=> ?_,fun k k' b' h h'=> ?_,hW.own,fun k b' fr h=> ?_,hW.oinj,fun k b' i fr h=> ?_,fun g cs hg=>(hW.glob g cs hg).step hs,fun g o hg=> ?_⟩
 ·by_cases hkl:k<S.obs.length
  ·rw[List.getElem?_append_left (by rw[hsl];exact hkl)] at hk
   by_cases e:k=l
   ·subst e
    rw[List.getElem?_set_self hll] at hk
    injection hk with hk;exact absurd hk.symm hd
   ·rw[List.getElem?_set_ne (Ne.symm e)] at hk
    obtain ⟨b',g1,g2,g3⟩:=hW.ob k ob' hk hd
    have g1':(C.mv l S.obs.length b z).m k=some b':=by rw[Ctx.mv_m,if_neg (by omega),if_neg e];exact g1
    have hne:b'≠b0:=fun e'=>e (hW.inj k l b' g1 (by rw[e'];exact hl))
    exact ⟨b',g1',Nat.lt_of_lt_of_le g2 h4,g3.step hs g1 g1' (h5 b' g2 hne)⟩
  ·rw[List.getElem?_append_right (by rw[hsl];omega)] at hk
   have e:k=S.obs.length:=by have:=getElem?_lt hk;simp at this;omega
   subst e
   simp at hk;subst hk
   exact ⟨b,by rw[Ctx.mv_m,if_pos rfl],hbl,ho⟩
 ·rw[Ctx.mv_d] at h
  split at h
  ·cases h
  ·rename_i e1
   split at h
   ·rename_i e;subst e
    show (S.obs.set k .dead++[ob])[k]?=_
    rw[List.getElem?_append_left (by rw[hsl];exact hll),List.getElem?_set_self hll]
   ·rename_i e
    have h':=hW.dd k h
    have hk:=getElem?_lt h'
    show (S.obs.set l .dead++[ob])[k]?=_
    rw[List.getElem?_append_left (by rw[hsl];exact hk),List.getElem?_set_ne (Ne.symm e)];exact h'
 ·rw[Ctx.mv_m] at h
  show (S.obs.set l .dead++[ob])[k]?≠_
  split at h
  ·rename_i e;subst e
   rw[List.getElem?_append_right (by rw[hsl];omega)]
   simp[hsl,hnd]
  ·split at h
   ·cases h
   ·rename_i e
    have hk:=hW.dom k b' h
    rw[List.getElem?_append_left (by rw[hsl];exact hk),List.getElem?_set_ne (Ne.symm e)]
    exact hW.nd k b' h
 ·rw[Ctx.mv_m] at h
  show k<(S.obs.set l .dead++[ob]).length
  split at h
  ·rename_i e;subst e;simp
  ·split at h
   ·cases h
   ·have:=hW.dom k b' h;simp;omega
 ·rw[Ctx.mv_m] at h h'
  have key: ∀ k2,C.m k2=some b→k2=l:=fun k2 h2=>by
   rcases hb with rfl|hb
   ·exact hW.inj k2 l b h2 hl
   ·have:=hW.m_lt h2;omega
  split at h
  ·rename_i e
   injection h with h;subst h
   split at h'
   ·rename_i e';omega
   ·split at h'
    ·cases h'
    ·rename_i e';exact absurd (key k' h') e'
  ·split at h
   ·cases h
   ·rename_i e
    split at h'
    ·injection h' with h';subst h';exact absurd (key k h) e
    ·split at h'
     ·cases h'
     ·exact hW.inj k k' b' h h'
 ·obtain ⟨g1,g2⟩:=hW.odom k b' fr h
  exact ⟨g1,Nat.lt_of_lt_of_le g2 h4⟩
 ·rw[Ctx.mv_m] at h
  split at h
  ·injection h with h;subst h
   rcases hb with rfl|hb
   ·exact hW.disj l b i fr hl
   ·intro hk;have:=(hW.odom i b fr hk).2;omega
  ·split at h
   ·cases h
   ·exact hW.disj k b' i fr h
 ·obtain ⟨g1,g2,g3⟩:=hW.blk g o hg
  have hgl:=(Array.getElem?_eq_some_iff.1 g1).1
  have hne:g≠b0:=fun e=>g2 l (by rw[e];exact hl)
  refine ⟨by rw[h5 g hgl hne];exact g1,fun k hk=> ?_,g3⟩
  rw[Ctx.mv_m] at hk
  split at hk
  ·injection hk with hk;subst hk
   rcases hb with rfl|hb
   ·exact hne rfl
   ·omega
  ·split at hk
   ·cases hk
   ·exact g2 k hk
theorem flat_get: ∀ (ys:List (List PV)) (sz:Nat),(∀ (j:Nat) r,ys[j]?=some r→r.length=sz)→ ∀ (q:Nat) p,ys.flatten[q]?=some p→ ∃ j r i,q=j*sz+i∧ys[j]?=some r∧r[i]?=some p
 |[],sz,_,q,p,h=>by simp at h
 |r::ys,sz,hs,q,p,h=>by
  rw[List.flatten_cons] at h
  have h0:=hs 0 r rfl
  by_cases hq:q<r.length
  ·rw[List.getElem?_append_left hq] at h
   exact ⟨0,r,q,by omega,rfl,h⟩
  ·rw[List.getElem?_append_right (by omega)] at h
   obtain ⟨j,r',i,h1,h2,h3⟩:=flat_get ys sz (fun j r' hj=>hs (j+1) r' (by simpa using hj)) _ _ h
   exact ⟨j+1,r',i,by rw[Nat.succ_mul];omega,by simpa using h2,h3⟩
theorem flat_len: ∀ (ys:List (List PV)) (sz:Nat),(∀ (j:Nat) r,ys[j]?=some r→r.length=sz)→ys.flatten.length=ys.length*sz
 |[],sz,_=>by simp
 |r::ys,sz,hs=>by
  have h0:=hs 0 r rfl
  rw[List.flatten_cons,List.length_append,flat_len ys sz (fun j r' hj=>hs (j+1) r' (by simpa using hj)),h0,List.length_cons,Nat.succ_mul];omega
theorem appM_core (hW:WRel G C S w) (hT:TR nt C w ts a.tmps) {x:Operand} {ex:EOpd} {e:TypeId} {i:TypeInfo} {z:Value} (hzs:z.cells.size=i.size) (hx:cOpd x=some ex) {p:PV} {ys:List (List PV)} {S':St}
  (hp:ex.val G ts=some p) (hempty:ys=[]→ ∀ ad n cap,n≤cap→a.eval x= .slice ad n cap→(execOp a.eval o).run P w= .ok (.value (.slice ad n cap)) w) (hY:ys≠[]→0<i.size→headOk i.size ys=true→ ∃ news,AppY P C w a o x e i z ys news)
  (hv:appM S e i.size i.bytes p ys=some (v,S')):Does P G C w S' v o a:=by
 have rp:=opd_rep hW hT hx hp
 unfold appM at hv
 split at hv
 ·rename_i hem
  have hys:ys=[]:=by simpa using hem
  split at hv
  ·injection hv with hv;injection hv with e1 e2;subst e1 e2
   have rp':=rp
   generalize eu:a.eval x=ux at rp
   cases rp with|sl g xs ad n cap sz hn hcap=>
   rw[eu] at rp'
   exact Does.pure hW (v':= .slice ad n cap) (hempty hys ad n cap (by omega) eu) rp'
  ·injection hv with hv;injection hv with e1 e2;subst e1 e2
   have rp':=rp
   generalize eu:a.eval x=ux at rp
   cases rp with|msl _ _ _ _ b off cap hn ho hm=>
   rw[eu] at rp'
   exact Does.pure hW (v':= .slice (some ⟨b,off,none⟩) _ cap) (hempty hys _ _ cap hn eu) rp'
  ·cases hv
 rename_i hemp
 split at hv
 rotate_left
 ·cases hv
 rename_i hc
 obtain ⟨hszp,hdy⟩:=hc
 have hyne:ys≠[]:=fun h=>by rw[h] at hemp;exact hemp rfl
 have hypos:0<ys.length:=List.length_pos_iff.2 hyne
 obtain ⟨news,hszy,hnl,hn1,hnr,hroomR,hnilR,hgrowR⟩:=hY hyne hszp hdy
 have hfl:=flat_len ys i.size hszy
 have newOk: ∀ {C':Ctx} {w':World},Step C w C' w'→ ∀ (q:Nat) p,ys.flatten[q]?=some p→p.atom=true∧ ∃ v,news[q]?=some v∧Rep C' w' p v:=fun {C' w'} hs q p hq=>by
  have hql:=getElem?_lt hq
  obtain ⟨j,r,k,e1,e2,e3⟩:=flat_get ys i.size hszy q p hq
  have hg:=List.getElem?_eq_getElem (l:=news) (i:=q) (by omega)
  obtain ⟨h1,h2⟩:=hnr j r k p news[q] e2 e3 (by rw[←e1];exact hg)
  exact ⟨h1,_,hg,h2.step hs⟩
 split at hv
 ·split at hv
  rotate_left
  ·cases hv
  rename_i hb
  obtain ⟨hg0,hb47,h63⟩:=hb
  injection hv with hv;injection hv with e1 e2;subst e1 e2
  generalize eu:a.eval x=ux at rp
  cases rp with|sl g xs ad n cap sz hn hcap hsz hnull hexact hrow ha hc' hrep hown=>
  have hcap0:cap=0:=by
   rcases hg0 with h|h
   ·exact (hnull h).2.2
   ·exact hexact h
  subst hcap0
  simp at hn;subst hn
  have hrun:(execOp a.eval o).run P w= .ok (.value (.slice (some ⟨w.heap.size,0,none⟩) ys.length (grownCap w ys.length 0 e))) (w.drew.alloc (.cells (news.toArray++Builtin.zeroCells z.cells (grownCap w ys.length 0 e - ys.length)) e)):=by
   cases ad with
   |none=>exact hnilR eu hypos (by omega) (by omega)
   |some A=>
    have:=hgrowR A 0 0 [] eu (by simp) (by simp) (by omega) (by omega) (growslice_fits (need:=0+ys.length) (old:=0) (by omega) (by rw[Nat.zero_add];omega))
    simpa using this
  have hbel:Below w.heap.size w (w.drew.alloc (.cells (news.toArray++Builtin.zeroCells z.cells (grownCap w ys.length 0 e - ys.length)) e)):=((Below.refl _ w).drew).alloc (by simp) _
  have hge:ys.length≤grownCap w ys.length 0 e:=grownCap_ge w _ 0 e
  generalize grownCap w ys.length 0 e=ncap at*
  have hsize:(news.toArray++Builtin.zeroCells z.cells (ncap - ys.length)).size=ncap*i.size:=by
   simp only[Array.size_append,List.size_toArray,size_zeroCells,hzs,hnl,←Nat.add_mul]
   congr 1;omega
  generalize harr:news.toArray++Builtin.zeroCells z.cells (ncap - ys.length)=arr at*
  have hget: ∀ (q:Nat) v,news[q]?=some v→arr[q]?=some v:=fun q v hq=>by
   rw[←harr,←Array.getElem?_toList,Array.toList_append,List.getElem?_append_left (by simpa using getElem?_lt hq)]
   simpa using hq
  have hlt:w.heap.size<(w.drew.alloc (.cells arr e)).heap.size:=by simp[World.alloc,World.drew, -World.alloc_eq, -World.drew_eq]
  have hnb:(w.drew.alloc (.cells arr e)).heap[w.heap.size]?=some (.cells arr e (0,0)):=by simp[World.alloc,World.drew, -World.alloc_eq, -World.drew_eq]
  have hs:=step_add hW hbel (ncap*i.size)
  have hcz:(C.add S.obs.length w.heap.size (ncap*i.size)).c S.obs.length=ncap*i.size:=by simp[Ctx.add]
  have hW':=wrel_add hW hbel hlt (z:=ncap*i.size) (ob:= .row e ys.flatten) (by simp) ⟨arr,hnb,by rw[hcz];exact hsize,by rw[hfl,hsize];exact Nat.mul_le_mul_right _ hge,fun q p hq=>(newOk hs q p hq).1,fun q p v hq hv=>by
   obtain ⟨_,u,hu,hr⟩:=newOk hs q p hq
   rw[hget q u hu] at hv
   injection hv with hv;subst hv;exact hr⟩
  intro K Q hk
  refine wp_value hrun (hk _ _ _ ?_ hW' hs)
  exact .msl _ 0 _ _ _ 0 _ hge (fun _=>rfl) (.inl ⟨by rw[Ctx.add_m,if_pos rfl],by rw[hcz];omega⟩)
 ·rename_i l o n s
  split at hv
  rotate_left
  ·cases hv
  rename_i e' cs hob
  split at hv
  rotate_left
  ·cases hv
  rename_i hb
  obtain ⟨⟨rfl,rfl,rfl⟩,hcl,hn0,hb47,h63⟩:=hb
  injection hv with hv;injection hv with e1 e2;subst e1 e2
  generalize eu:a.eval x=ux at rp
  cases rp with|msl _ _ _ _ b off cap hn ho hm=>
  obtain rfl:=ho (by omega)
  have hm':C.m l=some b∨C.d l=true:=by rcases hm with ⟨h,_⟩|h;exact .inl h;exact .inr h
  obtain ⟨hml,hblt,arr0,hb0,hsz0,hle0,hat0,hrep0⟩:=hW.live hob (by simp) hm'
  have hcap:cap*i.size≤arr0.size:=by
   rcases hm with ⟨_,h⟩|h
   ·omega
   ·have:=hW.dd l h;rw[hob] at this;cases this
  have hcs: ∀ {C':Ctx} {w':World} {arr:Array Value},Step C w C' w'→(∀ q,q<n*i.size→arr[q]?=arr0[q]?)→(∀ (q:Nat) v,news[q]?=some v→arr[n*i.size+q]?=some v)→
    (∀ (q:Nat) p,(cs++ys.flatten)[q]?=some p→p.atom=true)∧ ∀ (q:Nat) p v,(cs++ys.flatten)[q]?=some p→arr[q]?=some v→Rep C' w' p v:=fun {C' w' arr} hs h1 h2=>by
   refine ⟨fun q p hq=> ?_,fun q p v hq hv=> ?_⟩
   ·rcases Nat.lt_or_ge q cs.length with h|h
    ·rw[List.getElem?_append_left h] at hq;exact hat0 q p hq
    ·rw[List.getElem?_append_right h] at hq;exact (newOk hs _ p hq).1
   ·rcases Nat.lt_or_ge q cs.length with h|h
    ·rw[List.getElem?_append_left h] at hq
     rw[h1 q (by omega)] at hv
     exact (hrep0 q p v hq hv).step hs
    ·rw[List.getElem?_append_right h] at hq
     obtain ⟨_,u,hu,hr⟩:=newOk hs _ p hq
     have:=h2 _ u hu
     rw[show n*i.size+(q - cs.length)=q by omega,hv] at this
     injection this with this;subst this;exact hr
  by_cases hroom:n+ys.length≤cap
  ·have hfit:n*i.size+news.length≤arr0.size:=by
    rw[hnl,←Nat.add_mul];exact Nat.le_trans (Nat.mul_le_mul_right _ hroom) hcap
   have hrun:=hroomR b n cap arr0 _ eu hb0 hroom hfit
   generalize harr:(arr0.toList.take (n*i.size)++news++arr0.toList.drop (n*i.size+news.length)).toArray=arr at*
   have hh:=setRow_heap w b arr0 arr _ (0,0) hb0
   have hsz':arr.size=arr0.size:=by rw[←harr];simp;omega
   have g1: ∀ q,q<n*i.size→arr[q]?=arr0[q]?:=fun q hq=>by
    rw[←Array.getElem?_toList,←Array.getElem?_toList,←harr]
    simp only[List.toList_toArray]
    have hl:q<(arr0.toList.take (n*i.size)).length:=by simp;omega
    rw[List.append_assoc,List.getElem?_append_left hl,List.getElem?_take,if_pos hq]
   have g2: ∀ (q:Nat) v,news[q]?=some v→arr[n*i.size+q]?=some v:=fun q v hq=>by
    rw[←Array.getElem?_toList,←harr]
    simp only[List.toList_toArray]
    have hl:(arr0.toList.take (n*i.size)).length=n*i.size:=by simp;omega
    rw[List.append_assoc,List.getElem?_append_right (by omega),hl,Nat.add_sub_cancel_left,List.getElem?_append_left (getElem?_lt hq)]
    exact hq
   have hother: ∀ k,k<w.heap.size→k≠b→(w.setRow b arr).heap[k]?=w.heap[k]?:=fun k _ hk=>setRow_other w b k _ hk
   have hsize:(w.setRow b arr).heap.size=w.heap.size:=by simp[World.setRow]
   have hs:=step_mv hW (w':=w.setRow b arr) (z:=arr0.size) hml (.inl rfl) rfl rfl rfl (by omega) hother
   have hcz:(C.mv l S.obs.length b arr0.size).c S.obs.length=arr0.size:=by simp[Ctx.mv]
   obtain ⟨k1,k2⟩:=hcs hs g1 g2
   have hW':=wrel_mv hW hml (.inl rfl) hs (by omega) hother (by omega) (ob:= .row _ (cs++ys.flatten)) (by simp) ⟨arr,hh,by rw[hcz];exact hsz',by rw[List.length_append,hfl,hsz',hcl];omega,k1,k2⟩
   intro K Q hk
   refine wp_value hrun (hk _ _ _ ?_ hW' hs)
   exact .msl _ 0 _ _ _ 0 _ hroom (fun _=>rfl) (.inl ⟨by rw[Ctx.mv_m,if_pos rfl],by rw[hcz];omega⟩)
  ·have hcapl:cap<n+ys.length:=by omega
   have hfits:=growslice_fits (need:=n+ys.length) (old:=cap) hcapl hb47
   have hul:(arr0.toList.take (n*i.size)).length=n*i.size:=by simp;omega
   have hrun:=hgrowR ⟨b,0,none⟩ n cap (arr0.toList.take (n*i.size)) eu hul (fun q v hq=>by
    rw[List.getElem?_take] at hq
    split at hq
    ·rw[addr_add,Nat.zero_add]
     rw[Array.getElem?_toList] at hq
     exact cell?_of hb0 hq
    ·cases hq) hcapl (by omega) hfits
   have hge:n+ys.length≤grownCap w (n+ys.length) cap e':=grownCap_ge w _ cap e'
   have hbel: ∀ arr,Below w.heap.size w (w.drew.alloc (.cells arr e')):=fun arr=>((Below.refl _ w).drew).alloc (by simp) _
   generalize grownCap w (n+ys.length) cap e'=ncap at*
   have hsize:((arr0.toList.take (n*i.size)).toArray++news.toArray++Builtin.zeroCells z.cells (ncap - (n+ys.length))).size=ncap*i.size:=by
    simp only[Array.size_append,List.size_toArray,size_zeroCells,hzs,hnl,hul,←Nat.add_mul]
    congr 1;omega
   generalize harr:(arr0.toList.take (n*i.size)).toArray++news.toArray++Builtin.zeroCells z.cells (ncap - (n+ys.length))=arr at*
   have g1: ∀ q,q<n*i.size→arr[q]?=arr0[q]?:=fun q hq=>by
    rw[←Array.getElem?_toList,←Array.getElem?_toList,←harr]
    simp only[Array.toList_append,List.toList_toArray]
    rw[List.append_assoc,List.getElem?_append_left (by omega),List.getElem?_take,if_pos hq]
   have g2: ∀ (q:Nat) v,news[q]?=some v→arr[n*i.size+q]?=some v:=fun q v hq=>by
    rw[←Array.getElem?_toList,←harr]
    simp only[Array.toList_append,List.toList_toArray]
    rw[List.append_assoc,List.getElem?_append_right (by omega),hul,Nat.add_sub_cancel_left,List.getElem?_append_left (getElem?_lt hq)]
    exact hq
   have hlt:w.heap.size<(w.drew.alloc (.cells arr e')).heap.size:=by simp[World.alloc,World.drew, -World.alloc_eq, -World.drew_eq]
   have hnb:(w.drew.alloc (.cells arr e')).heap[w.heap.size]?=some (.cells arr e' (0,0)):=by simp[World.alloc,World.drew, -World.alloc_eq, -World.drew_eq]
   have hB:=hbel arr
   have hother: ∀ k,k<w.heap.size→k≠b→(w.drew.alloc (.cells arr e')).heap[k]?=w.heap[k]?:=fun k hk _=>hB.block k hk
   have hs:=step_mv hW (z:=ncap*i.size) hml (.inr (Nat.le_refl _)) hB.os hB.tape hB.output hB.size hother
   have hcz:(C.mv l S.obs.length w.heap.size (ncap*i.size)).c S.obs.length=ncap*i.size:=by simp[Ctx.mv]
   obtain ⟨k1,k2⟩:=hcs hs g1 g2
   have hW':=wrel_mv hW hml (.inr (Nat.le_refl _)) hs hB.size hother hlt (ob:= .row _ (cs++ys.flatten)) (by simp) ⟨arr,hnb,by rw[hcz];exact hsize,by rw[List.length_append,hfl,hsize,hcl,←Nat.add_mul];exact Nat.mul_le_mul_right _ hge,k1,k2⟩
   intro K Q hk
   refine wp_value hrun (hk _ _ _ ?_ hW' hs)
   exact .msl _ 0 _ _ _ 0 _ hge (fun _=>rfl) (.inl ⟨by rw[Ctx.mv_m,if_pos rfl],by rw[hcz];omega⟩)
 ·cases hv
theorem does_appM (hW:WRel G C S w) (hT:TR nt C w ts a.tmps) {c:Call} {x y:Operand} {ex ey:EOpd} {t u e e':TypeId} {i:TypeInfo} {z:Value} (ho:o.op= .call c) (hc:c.callee= .builtin .append) (hargs:c.args= #[x,y]) (h0:c.argTypes[0]?=some t) (h1:c.argTypes[1]?=some u)
  (ht:P.underlying t=some (.slice e)) (hu:P.underlying u=some (.slice e')) (hi:P.info? e=some i) (hz:i.zero=some z) (hzs:z.cells.size=i.size) (hx:cOpd x=some ex) (hy:cOpd y=some ey) {p:PV} {g':Tag} {ys:List (List PV)} {S':St}
  (hp:ex.val G ts=some p) (hq:ey.val G ts=some (.sl g' ys)) (hv:appM S e i.size i.bytes p ys=some (v,S')):Does P G C w S' v o a:=by
 have rq:=opd_rep hW hT hy hq
 have run: ∀ {v:Value} {w':World},(Builtin.append_ #[t,t] o.type #[a.eval x,a.eval y]).run P w= .ok v w'→(execOp a.eval o).run P w= .ok (.value v) w':=by
  intro v w' hr
  have:=append_types (P:=P) (w:=w) (ty:=o.type) h0 h1 ht hu #[a.eval x,a.eval y]
  rw[hr] at this
  simp[execOp,ho,resolve,hc,hargs,invoke,Go.builtin,this]
 refine appM_core hW hT (e:=e) hzs hx hp (fun hys ad n cap hle eu=> ?_) (fun hyne hszp hdy=> ?_) hv
 ·subst hys
  generalize ev:a.eval y=uy at rq
  cases rq with|sl g2 xs2 ad2 n2 cap2 sz2 hn2 hcap2 hsz2 hnull2 hexact2 hrow2 ha2 hc2 hrep2 hown2=>
  simp at hn2;subst hn2
  exact run (by rw[eu,ev];exact run_append_none ht hi ad ad2 n cap cap2 hle)
 obtain ⟨by_,offy,capy,ey',hby,_,hszy,news,hnl,hnc,hnr⟩:=row_cells rq hszp hdy hyne
 have hnews: ∀ (j:Nat) u,news[j]?=some u→w.cell? ((⟨by_,offy,none⟩:Addr).add j)=some u:=fun j u hj=>by rw[addr_add];exact (hnc j u hj).1
 have hn1: ∀ u∈news,u.oneCell'=true:=fun u hu=>by obtain ⟨j,hj⟩:=List.getElem?_of_mem hu;exact (hnc j u hj).2
 exact ⟨news,hszy,hnl,hn1,hnr,
  fun g sLen sCap cur el eu hg hroom hfit=>run (by rw[eu,ey'];exact run_append_room' ht hi g sLen sCap cur hg _ ys.length capy news hnl hnews hn1 hroom hfit),
  fun eu hp h63 h48=>run (by rw[eu,ey'];exact run_append_nil (P:=P) w t o.type e i z ht hi hz _ ys.length capy news hnl hnews hp h63 h48),
  fun b sLen sCap olds eu hol ho hcap h63 hfit=>run (by rw[eu,ey'];exact run_append_grow (P:=P) w t o.type e i z ht hi hz b sLen sCap olds hol ho _ ys.length capy news hnl hnews hcap h63 hfit)⟩
theorem zero_cells {z:PV} {zv:Value} (n:Nat) (z2:ofV zv=some z) (z3:z.okc=true) (hl:0<z.cells.length):RepC C w (repRow z.cells n) (Builtin.zeroCells zv.cells n).toList:=by
 have hzc:=(ofV_rep (C:=C) (w:=w) z2).cells z3
 have hzs:zv.cells.size=z.cells.length:=by simpa using hzc.1
 refine ⟨by rw[repRow_length,Array.length_toList,size_zeroCells,hzs],fun j p hp=>hzc.2.1 _ p (repRow_get _ n j p hp),fun j p u hp hu=> ?_⟩
 have hj:j<n*z.cells.length:=by have:=getElem?_lt hp;rwa[repRow_length] at this
 have hp':=repRow_get _ n j p hp
 have hmod:j % z.cells.length<zv.cells.size:=by rw[hzs];exact Nat.mod_lt _ hl
 refine hzc.2.2 _ p u hp' ?_
 rw[←hu]
 simp only[Builtin.zeroCells,Array.getElem?_toList,Array.getElem?_map,hzs]
 have hr:(Array.range (n*z.cells.length))[j]?=some j:=by simp[hj]
 rw[hr]
 simp[getElem!_pos,hmod]
theorem does_clr (hW:WRel G C S w) (hT:TR nt C w ts a.tmps) {c:Call} {x:Operand} {ex:EOpd} {t e:TypeId} {z:PV} {n sz:Nat} (ho:o.op= .call c) (hcal:c.callee= .builtin .clear) (hargs:c.args= #[x]) (h0:c.argTypes[0]?=some t) (ht:P.underlying t=some (.slice e))
  (hz:zeroP P e=some z) (hzl:z.cells.length=sz) (hx:cOpd x=some ex) {l q:Nat} {ct:TypeId} {cs:List PV} (hp:ex.val G ts=some (.msl l q n sz)) (hob:S.obs[l]?=some (.row ct cs)) (hs0:0<sz) (hn0:0<n) (hle:q+n*sz≤cs.length):
  Does P G C w {S with obs:=S.obs.set l (.row ct (setRow cs q (repRow z.cells n)))} .un o a:=by
 have rp:=opd_rep hW hT hx hp
 generalize eu:a.eval x=u at rp
 cases rp with|msl _ _ _ _ b off cap hn hoff hm=>
 obtain rfl:=hoff (by omega)
 have hm':C.m l=some b∨C.d l=true:=by rcases hm with ⟨h,_⟩|h;exact .inl h;exact .inr h
 obtain ⟨hm,hlt,arr,h1,h20,h2,h3,h4⟩:=hW.live hob (by simp) hm'
 obtain ⟨zv,z1,z2,z3⟩:=zeroValue_run hz w
 have rq:=zero_cells (C:=C) (w:=w) n z2 z3 (by omega)
 have hvl:(Builtin.zeroCells zv.cells n).toList.length=n*sz:=by rw[rq.1,repRow_length,hzl]
 generalize hus:(Builtin.zeroCells zv.cells n).toList=us at rq hvl
 have hst:=run_storeCells_at P b off ct us 0 arr w h1 (by rw[hvl];omega) (fun v hv=>by
  obtain ⟨i,hi⟩:=List.getElem?_of_mem hv
  have hil:i<(repRow z.cells n).length:=by rw[←rq.1];exact getElem?_lt hi
  exact oneCell_of_atom (rq.2.2 i _ v (List.getElem?_eq_getElem hil) hi) (rq.2.1 i _ (List.getElem?_eq_getElem hil)))
 simp only[Nat.add_zero] at hst
 have hset:=setRowV_eq us arr.toList off (by rw[hvl];simp;omega)
 rw[←hset] at hst
 intro K Q hk
 have hrun:(execOp a.eval o).run P w= .ok (.value (.tuple #[])) (w.setRow b (setRowV arr.toList off us).toArray):=by
  obtain ⟨m,rfl⟩: ∃ m,n=m+1:=⟨n - 1,by omega⟩
  have hc0:(Builtin.clear_ c.argTypes o.type #[a.eval x]).run P w= .ok (.tuple #[]) (w.setRow b (setRowV arr.toList off us).toArray):=by
   simp[Builtin.clear_,h0,underlying_run ht,eu,z1,hus,hst]
  simp[execOp,ho,resolve,hcal,hargs,invoke,Go.builtin,hc0]
 have hh:=setRow_heap w b arr (setRowV arr.toList off us).toArray ct (0,0) h1
 have h5: ∀ k,k≠b→(w.setRow b (setRowV arr.toList off us).toArray).heap[k]?=w.heap[k]?:=fun k hk=>setRow_other w b k _ hk
 have hsize:(w.setRow b (setRowV arr.toList off us).toArray).heap.size=w.heap.size:=by simp[World.setRow]
 have hs:Step C w C (w.setRow b (setRowV arr.toList off us).toArray):=step_turn hW hm rfl rfl rfl hsize h5
 have hsl:(setRowV arr.toList off us).length=arr.size:=by
  rw[hset];simp;omega
 refine wp_value hrun (hk C _ _ (.un C _) (wrel_turn hW hm hs hsize h5 (by simp) ?_) hs)
 have hrc:RepC C w cs (arr.toList.take cs.length):=⟨by simp;omega,h3,fun i p v hp hv=>by
  rw[List.getElem?_take] at hv;split at hv
  ·exact h4 i p v hp (by simpa using hv)
  ·cases hv⟩
 have hrr:=(RepC.setRow off hrc rq).step hs
 have htk: ∀ (us vs:List Value) (off:Nat),off+us.length≤cs.length→(setRowV (vs.take cs.length) off us)=(setRowV vs off us).take cs.length:=by
  intro us
  induction us with
  |nil=>intro vs off _;rfl
  |cons u us ih=>
   intro vs off h
   simp only[List.length_cons] at h
   simp only[setRowV]
   rw[←ih _ (off+1) (by omega)]
   congr 1
   rw[List.take_set]
 rw[htk _ _ _ (by rw[hvl];omega)] at hrr
 refine ⟨_,hh,by rw[List.size_toArray,hsl];exact h20,by rw[List.size_toArray,hsl,setRow_length];exact h2,hrr.2.1,fun i p v hp hv=>hrr.2.2 i p v hp ?_⟩
 rw[List.getElem?_take,if_pos (by have:=getElem?_lt hp;rwa[setRow_length] at this)]
 simpa using hv
theorem run_append_room_s {t u ty e el:TypeId} {i:TypeInfo} (ht:P.underlying t=some (.slice e)) (hu:P.underlying u=some .string) (hi:P.info? e=some i) (hs1:i.size=1)
  (g sLen sCap:Nat) (cur:Array Value) (hg:w.heap[g]?=some (.cells cur el (0,0))) (s:ByteArray) (hroom:sLen+s.size≤sCap) (hfit:sLen+s.size≤cur.size):
  (Builtin.append_ #[t,u] ty #[.slice (some ⟨g,0,none⟩) sLen sCap,.string s]).run P w=
   .ok (.slice (some ⟨g,0,none⟩) (sLen+s.size) sCap) (w.setRow g (cur.toList.take sLen++Lib.strCells s++cur.toList.drop (sLen+s.size)).toArray):=by
 have hf:=Lib.run_firstCells_string (P:=P) w i.size s
 have hl:=Lib.strCells_length s
 have hst:=run_storeCells_at P g sLen el (Lib.strCells s) 0 cur w hg (by rw[hl];simpa using hfit) (Lib.strCells_oneCell s)
 simp only[Nat.add_zero,hl] at hst
 rw[hs1] at hf
 simp[Builtin.append_,run_underlying ht,run_underlying hu,Go.sizeOf,typeInfo,hi,Builtin.lenOf,hroom,hf,hs1,Addr.add_lit,hst]
theorem does_apS (hW:WRel G C S w) (hT:TR nt C w ts a.tmps) {c:Call} {x y:Operand} {ex ey:EOpd} {t u e:TypeId} {i:TypeInfo} (ho:o.op= .call c) (hc:c.callee= .builtin .append) (hargs:c.args= #[x,y]) (h0:c.argTypes[0]?=some t) (h1:c.argTypes[1]?=some u)
  (ht:P.underlying t=some (.slice e)) (hu:P.underlying u=some .string) (hi:P.info? e=some i) (hz:i.zero=some (.int .u8 0)) (hs1:i.size=1) (hb1:i.bytes=1) (hx:cOpd x=some ex) (hy:cOpd y=some ey) {g:Tag} {xs:List (List PV)} {s:ByteArray} {S':St}
  (hp:ex.val G ts=some (.sl g xs)) (hq:ey.val G ts=some (.str s)) (hv:appP S e 1 1 g xs (rowsOfBytes s.data.toList)=some (v,S')):Does P G C w S' v o a:=by
 have eq:=(opd_rep hW hT hy hq).str_inv
 have run: ∀ {v:Value} {w':World},(Builtin.append_ #[t,u] o.type #[a.eval x,.string s]).run P w= .ok v w'→(execOp a.eval o).run P w= .ok (.value v) w':=by
  intro v w' hr
  have:(Builtin.append_ c.argTypes o.type #[a.eval x,.string s]).run P w= .ok v w':=by
   rw[←hr]
   unfold Builtin.append_
   simp only[h0,h1,List.getElem?_toArray,List.getElem?_cons_zero,List.getElem?_cons_succ]
  simp[execOp,ho,resolve,hc,hargs,invoke,Go.builtin,eq,this]
 have hrl:(rowsOfBytes s.data.toList).length=s.size:=by simp[rowsOfBytes]
 rw[←hs1] at hv
 have hv':appP S e i.size i.bytes g xs (rowsOfBytes s.data.toList)=some (v,S'):=by rw[hb1];rw[hs1] at hv ⊢;exact hv
 refine app_core hW hT (e:=e) (z:= .int .u8 0) (by rw[hs1];rfl) hx hp (fun hys ad n cap hle eu=> ?_) (fun hyne hszp hdy=> ?_) hv'
 ·have hs0:s.size=0:=by rw[←hrl,hys];rfl
  refine run ?_
  rw[eu]
  have hcells:(s.extract 0 0).data= #[]:=by rw[←Array.size_eq_zero_iff];simp
  cases ad<;>simp[Builtin.append_,underlying_run ht,underlying_run hu,Go.sizeOf,typeInfo_run hi,Builtin.lenOf,hs0,hle,Builtin.firstCells,storeCells,hcells]
 ·refine ⟨Lib.strCells s,fun j r hj=> ?_,by rw[Lib.strCells_length,hrl,hs1];omega,Lib.strCells_oneCell s,fun j r q p v hj hq hv=> ?_,fun g sLen sCap cur el eu hg hroom hfit=>run ?_,fun eu hp h63 h48=>run ?_,fun b sLen sCap olds eu hol ho hcap h63 hfit=>run ?_⟩
  ·simp only[rowsOfBytes,List.getElem?_map,Option.map_eq_some_iff] at hj
   obtain ⟨b,_,rfl⟩:=hj
   rw[hs1];rfl
  ·simp only[rowsOfBytes,List.getElem?_map,Option.map_eq_some_iff] at hj
   obtain ⟨b,hb,rfl⟩:=hj
   have hq0:q=0:=by have:=getElem?_lt hq;simp at this;omega
   subst hq0
   simp at hq;subst hq
   rw[hs1,Nat.mul_one,Nat.add_zero] at hv
   simp only[Lib.strCells,List.getElem?_map,hb,Option.map_some,Option.some.injEq] at hv
   subst hv
   exact ⟨rfl,.int _ _⟩
  ·rw[eu,hrl,hs1,Nat.mul_one,Lib.strCells_length]
   rw[hrl] at hroom
   rw[hs1,Nat.mul_one,Lib.strCells_length] at hfit
   exact run_append_room_s ht hu hi hs1 g sLen sCap cur hg s hroom hfit
  ·rw[eu,hrl]
   rw[hrl] at hp h63 h48
   have:=run_append_nil_string (P:=P) w t u o.type e i (.int .u8 0) ht hu hi hz s hp h63 h48
   rw[this]
   have:(Lib.strCells s).toArray=s.data.map fun b=>Value.int .u8 b.toNat:=by rw[←Array.toList_inj];simp[Lib.strCells]
   rw[this]
  ·rw[eu,hrl]
   rw[hrl] at hcap h63 hfit
   exact Lib.run_append_grow_string (P:=P) w t u o.type e i (.int .u8 0) ht hu hi hz b sLen sCap olds hol ho s hcap h63 hfit
theorem bytesOf_cells: ∀ {xs:List (List PV)} {l:List UInt8},bytesOf xs=some l→l.length=xs.length∧ ∀ (j:Nat) x,l[j]?=some x→xs[j]?=some [.int .u8 (x.toNat:Int)]
 |[],l,h=>by simp[bytesOf] at h;subst h;simp
 |r::xs,l,h=>by
  unfold bytesOf at h
  split at h
  ·rename_i heq;cases heq
  ·rename_i n xs' heq
   injection heq with h1 h2;subst h1 h2
   split at h
   ·rename_i hr
    simp only[Option.map_eq_some_iff] at h
    obtain ⟨m,hm,rfl⟩:=h
    obtain ⟨h1,h2⟩:=bytesOf_cells hm
    refine ⟨by simp[h1],fun j x hx=> ?_⟩
    cases j with
    |zero=>
     simp at hx;subst hx
     obtain ⟨k,rfl⟩:=Int.eq_ofNat_of_zero_le hr.1
     have:k<256:=by omega
     simp[UInt8.toNat_ofNat',Nat.mod_eq_of_lt this]
    |succ j=>exact h2 j x (by simpa using hx)
   ·cases h
  ·cases h
theorem does_usd (hW:WRel G C S w) (hT:TR nt C w ts a.tmps) {c:Call} {x:Operand} {ex:EOpd} (ho:o.op= .call c) (hc:c.callee= .builtin .unsafeSliceData) (hargs:c.args= #[x]) (hx:cOpd x=some ex) {g:Tag} {xs:List (List PV)} (hp:ex.val G ts=some (.sl g xs))
  (hg:g= .null∨ ∃ k e,g= .own k e):Does P G C w S (.row g xs) o a:=by
 have rp:=opd_rep hW hT hx hp
 generalize eu:a.eval x=u at rp
 have rp':=rp
 cases rp with|sl g xs ad n cap sz hn hcap hsz hnull hexact hrow ha hc' hrep hown=>
 refine Does.pure hW (v':= .pointer ad) ?_ (.row g xs ad n cap rp')
 rcases hg with rfl|⟨k,e,rfl⟩
 ·obtain ⟨rfl,_,_⟩:=hnull rfl
  have:=Lib.run_unsafeSliceData_nil (P:=P) w c.argTypes o.type n cap
  simp[execOp,ho,resolve,hc,hargs,invoke,Go.builtin,eu,this]
 ·obtain ⟨hne,_⟩:=hown k e rfl
  obtain ⟨b,off,rfl,_⟩:=hrow hne
  have hpos:cap≠0:=by have:=List.length_pos_iff.2 hne;omega
  have:=Lib.run_unsafeSliceData_row (P:=P) w c.argTypes o.type ⟨b,off,none⟩ n cap hpos
  simp[execOp,ho,resolve,hc,hargs,invoke,Go.builtin,eu,this]
theorem ust_types {c:Call} {t u:TypeId} (h0:c.argTypes[0]?=some t) (h1:c.argTypes[1]?=some u) (h2:c.argTypes.size=2):c.argTypes= #[t,u]:=by
 apply Array.ext_getElem?
 intro i
 match i with
 |0=>simpa using h0
 |1=>simpa using h1
 |i+2=>simp;omega
theorem does_ust0 (hW:WRel G C S w) (hT:TR nt C w ts a.tmps) {c:Call} {x y:Operand} {ex ey:EOpd} {t u:TypeId} (ho:o.op= .call c) (hc:c.callee= .builtin .unsafeString) (hargs:c.args= #[x,y]) (h0:c.argTypes[0]?=some t) (h1:c.argTypes[1]?=some u) (h2:c.argTypes.size=2)
  (hx:cOpd x=some ex) (hy:cOpd y=some ey) (hp:ex.val G ts=some (.row .null [])) (hq:ey.val G ts=some (.int .i64 0)):Does P G C w S (.str ⟨#[]⟩) o a:=by
 have rp:=opd_rep hW hT hx hp
 have rq:=opd_rep hW hT hy hq
 generalize eu:a.eval x=ux at rp
 generalize ev:a.eval y=uy at rq
 cases rp with|row g xs ad n cap h=>
 cases rq
 have:=Lib.run_unsafeString_none (P:=P) w t u o.type ad
 refine Does.pure hW (v':= .string .empty) ?_ (.str _)
 simp[execOp,ho,resolve,hc,hargs,invoke,Go.builtin,eu,ev,ust_types h0 h1 h2,this]
theorem does_ust (hW:WRel G C S w) (hT:TR nt C w ts a.tmps) {c:Call} {x y:Operand} {ex ey:EOpd} {t u e:TypeId} (ho:o.op= .call c) (hc:c.callee= .builtin .unsafeString) (hargs:c.args= #[x,y]) (h0:c.argTypes[0]?=some t) (h1:c.argTypes[1]?=some u) (h2:c.argTypes.size=2)
  (ht:P.underlying t=some (.pointer e)) (hce:P.cellsOf e=1) (hx:cOpd x=some ex) (hy:cOpd y=some ey) {k:Nat} {xs:List (List PV)} {l:List UInt8} (hp:ex.val G ts=some (.row (.own k e) xs)) (hq:ey.val G ts=some (.int .i64 (xs.length:Int))) (h63:xs.length≤9223372036854775807)
  (hown':S.own[k]?=some xs.length) (hl:bytesOf xs=some l):Does P G C w {S with own:=S.own.set k (xs.length+1)} (.str ⟨l.toArray⟩) o a:=by
 have rp:=opd_rep hW hT hx hp
 have rq:=opd_rep hW hT hy hq
 generalize eu:a.eval x=ux at rp
 generalize ev:a.eval y=uy at rq
 cases rp with|row g xs ad n cap h=>
 cases h with|sl g xs ad n cap sz hn hcap hsz hnull hexact hrow ha hc' hrep hown=>
 cases rq
 obtain ⟨hne,b,fr,hk,hle,hlast⟩:=hown k e rfl
 obtain ⟨hll,hlx⟩:=bytesOf_cells hl
 have hpos:=List.length_pos_iff.2 hne
 have hs1:sz=1:=by
  have h0:0<l.length:=by omega
  have:=hsz 0 _ (hlx 0 _ (List.getElem?_eq_getElem h0))
  simpa using this.symm
 subst hs1
 have hfr:=(hW.odom k b fr hk).1
 rw[hown'] at hfr
 injection hfr with hfr
 obtain ⟨rfl,arr,hb,hsize⟩:=hlast (by omega)
 have hcell: ∀ j x,l[j]?=some x→w.cell? ((⟨b,0,none⟩:Addr).add j)=some (.int .u8 x.toNat):=by
  intro j x hj
  have hxj:=hlx j x hj
  rw[addr_add]
  obtain ⟨v,hv⟩:=hc' b 0 j _ 0 _ rfl hxj rfl
  have hr:=hrep b 0 j _ 0 _ v rfl hxj rfl hv
  cases hr
  simpa using hv
 have hrun:=Lib.run_unsafeString_row (P:=P) w t u o.type e ht hce b cap (by simp[World.shape?,hb,hsize]) l (by intro h;subst h;simp at hll;omega) (by omega) (by omega) hcell
 rw[hll] at hrun
 intro K Q hk'
 have hh:(w.freeze ⟨b,0,none⟩ xs.length).heap.size=w.heap.size:=by unfold World.freeze;split<;>simp
 have hoth: ∀ j,j≠b→(w.freeze ⟨b,0,none⟩ xs.length).heap[j]?=w.heap[j]?:=by
  intro j hj;unfold World.freeze;split
  ·rfl
  ·simp only[Array.getElem?_modify];rw[if_neg (by simpa using Ne.symm hj)]
 obtain ⟨z',hnb⟩: ∃ z',(w.freeze ⟨b,0,none⟩ xs.length).heap[b]?=some (.cells arr e z'):=by
  unfold World.freeze
  split
  ·exact ⟨_,hb⟩
  ·simp only[Array.getElem?_modify,if_true,hb,Option.map_some]
   exact ⟨_,rfl⟩
 obtain ⟨hs,hW'⟩:=grow_old (fr':=xs.length+1) (w':=w.freeze ⟨b,0,none⟩ xs.length) hW hk (by omega) hb (by unfold World.freeze;split<;>rfl) (by unfold World.freeze;split<;>rfl) (by unfold World.freeze;split<;>rfl) hh hoth hnb rfl (fun _ _=>rfl)
 refine wp_value (w':=w.freeze ⟨b,0,none⟩ xs.length) (v:= .string ⟨l.toArray⟩) ?_ (hk' _ _ _ (.str _) hW' hs)
 simp[execOp,ho,resolve,hc,hargs,invoke,Go.builtin,eu,ev,ust_types h0 h1 h2,hrun]
end
end Go.PE
