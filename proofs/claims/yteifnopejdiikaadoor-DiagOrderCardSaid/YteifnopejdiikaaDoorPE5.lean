/-
  Slices of slices, structs built and held against each other, rows made, bytes. Conditions: each law's own.
-/
import Derived.Test.YteifnopejdiikaaDoorPE4
namespace Go.PE
open Go Go.RowKit
set_option linter.unusedVariables false
set_option linter.unusedSimpArgs false
section
variable {nt:Nat} {P:Program} {G:Glob} {C:Ctx} {S:St} {w:World} {ts:Tmps} {a:Act} {o:Oper} {v:PV}
theorem take_drop_get {α:Type} {xs:List α} {l h i:Nat} {r:α} (he:((xs.take h).drop l)[i]?=some r):xs[l+i]?=some r:=by
 rw[List.getElem?_drop,List.getElem?_take] at he
 split at he
 ·exact he
 ·cases he
theorem does_slL (hW:WRel G C S w) (hT:TR nt C w ts a.tmps) {t e:TypeId} {sz:Nat} {x:Operand} {lo hi mx:Option Operand} {ex:EOpd} {el eh em:Option EOpd} (ho:o.op= .slice t x lo hi mx) (ht:P.underlying t=some (.slice e)) (hsz:sizeP P e=some sz) (hx:cOpd x=some ex) (hl:cOpt lo=some el) (hh:cOpt hi=some eh) (hm:cOpt mx=some em)
  {g:Tag} {xs:List (List PV)} {pl ph pm:Option PV} (hp:ex.val G ts=some (.sl g xs)) (hpl:optVal G ts el=some pl) (hph:optVal G ts eh=some ph) (hpm:optVal G ts em=some pm) (hmh: ¬ (pm.isSome=true∧ph.isNone=true)) {l h m:Nat}
  (bm:boundP pm xs.length xs.length=some m) (bh:boundP ph (min m xs.length) m=some h) (bl:boundP pl 0 h=some l) (hhd:headOk sz xs=true):
  Does P G C w S (.sl (if pm.isSome∧m=h then .exact else if xs.isEmpty then g else .ro) ((xs.take h).drop l)) o a:=by
 have hr:=opd_rep hW hT hx hp
 generalize eu:a.eval x=u at hr
 cases hr with|sl g xs ad n cap sz' hn hcap hsz' hnull hexact hrow' ha hc hrep hown=>
 subst hn
 have hrow: ∀ r∈xs,r.length=sz:=by
  intro r hr
  obtain ⟨j,hj⟩:=List.getElem?_of_mem hr
  cases xs with
  |nil=>simp at hj
  |cons r0 xs=>
   have h0:=hsz' 0 r0 rfl
   simp[headOk] at hhd
   rw[hsz' j r hj];omega
 obtain ⟨r1,r2⟩:=optVal_rep (a:=a) hW hT hl hpl
 obtain ⟨q1,q2⟩:=optVal_rep (a:=a) hW hT hh hph
 obtain ⟨s1,s2⟩:=optVal_rep (a:=a) hW hT hm hpm
 obtain ⟨m1,m2,m3⟩:=bound_run (P:=P) (top':=cap) (code:= .slice3Acap) bm hcap s1
 have hmle:m≤xs.length:=by
  cases pm with
  |none=>exact Nat.le_of_eq (m1 rfl)
  |some _=>exact m3 rfl
 obtain ⟨M,hM,hMrun,hMm⟩: ∃ M,m≤M∧(∀ v,mx.map a.eval=some v→(Instr.sliceBound v cap .slice3Acap).run P w= .ok M w)∧((pm.isSome=true→M=m)∧(mx=none→M=cap)):=by
  cases mx with
  |none=>exact ⟨cap,by omega,fun v hv=>by simp at hv,fun h=>by rw[s2] at h;simp at h,fun _=>rfl⟩
  |some mx=>exact ⟨m,Nat.le_refl _,fun v hv=>m2 v (by rw[s2];rfl) hv,fun _=>rfl,fun h=>by cases h⟩
 obtain ⟨h1,h2,h3⟩:=bound_run (P:=P) (top':=M) (code:= .sliceAcap) bh hM q1
 obtain ⟨_,h2',_⟩:=bound_run (P:=P) (top':=M) (code:= .slice3B) bh hM q1
 obtain ⟨l1,l2,l3⟩:=bound_run (P:=P) (top':=h) (code:= .sliceB) bl (Nat.le_refl _) r1
 obtain ⟨_,l2',_⟩:=bound_run (P:=P) (top':=h) (code:= .slice3C) bl (Nat.le_refl _) r1
 have hhm:h≤m:=by
  cases ph with
  |none=>have:=h1 rfl;omega
  |some _=>exact h3 rfl
 have hlh:l≤h:=by
  cases pl with
  |none=>have:=l1 rfl;omega
  |some _=>exact l3 rfl
 have key:(Instr.sliceBounds true xs.length cap (lo.map a.eval) (hi.map a.eval) (mx.map a.eval)).run P w= .ok (l,h,M) w:=by
  unfold Instr.sliceBounds
  cases mx with
  |none=>
   have hM':=hMm.2 rfl
   subst hM'
   cases hi with
   |none=>
    have e2:=h1 (by cases ph with|none=>rfl|some _=>simp at q2)
    have e3:=m1 (by cases pm with|none=>rfl|some _=>simp at s2)
    have e4:h=xs.length:=by omega
    subst e4
    cases lo with
    |none=>
     have e3:=l1 (by cases pl with|none=>rfl|some _=>simp at r2)
     subst e3
     simp
    |some lo=>
     have:=l2 (a.eval lo) (by rw[r2];rfl) rfl
     simp[this]
   |some hi=>
    have h2':=h2 (a.eval hi) (by rw[q2];rfl) rfl
    cases lo with
    |none=>
     have e3:=l1 (by cases pl with|none=>rfl|some _=>simp at r2)
     subst e3
     simp[h2']
    |some lo=>
     have:=l2 (a.eval lo) (by rw[r2];rfl) rfl
     simp[this,h2']
  |some mx=>
   have hm':=hMrun _ rfl
   cases hi with
   |none=>
    exfalso
    apply hmh
    rw[s2]
    refine ⟨rfl, ?_⟩
    cases ph with
    |none=>rfl
    |some _=>simp at q2
   |some hi=>
    have h2'':=h2' (a.eval hi) (by rw[q2];rfl) rfl
    cases lo with
    |none=>
     have e3:=l1 (by cases pl with|none=>rfl|some _=>simp at r2)
     subst e3
     simp[hm',h2'']
    |some lo=>
     have:=l2' (a.eval lo) (by rw[r2];rfl) rfl
     simp[this,hm',h2'']
 refine Does.pure hW (v':= .slice (if M=l then ad else ad.map (·.add (l*sz))) (h - l) (M - l)) ?_ ?_
 ·simp[execOp,ho,Instr.sliceAt,underlying_run ht,Instr.slice,eu,key,sizeOf_run hsz]
 ·have hlen:((xs.take h).drop l).length=h - l:=by simp;omega
  have hne: ∀ {j:Nat} {r:List PV},((xs.take h).drop l)[j]?=some r→ ∃ b off,ad=some ⟨b,off,none⟩∧b<w.heap.size∧C.imm b (off+xs.length*sz')∧sz'=sz∧l<h:=by
   intro j r hj
   have hj':=take_drop_get hj
   have hx:xs≠[]:=by intro e;subst e;simp at hj'
   obtain ⟨b,off,e,hb,him⟩:=hrow' hx
   refine ⟨b,off,e,hb,him, ?_, ?_⟩
   ·rw[←hsz' _ r hj',hrow r (List.mem_of_getElem? hj')]
   ·have:=getElem?_lt hj;omega
  refine .sl _ _ _ _ _ sz (by omega) (by omega) (fun j r hj=>hrow r (List.mem_of_getElem? (take_drop_get hj))) ?_ ?_ ?_ ?_ ?_ ?_ ?_
  ·intro hg
   split at hg
   ·cases hg
   ·rename_i hc1
    split at hg
    ·rename_i he
     obtain ⟨e1,e2,e3⟩:=hnull hg
     subst e1 e2 e3
     have:M=0:=by
      cases mx with
      |none=>exact hMm.2 rfl
      |some _=>have:=hMm.1 (by rw[s2];rfl);simp at hmle;omega
     subst this
     have:l=0:=by omega
     subst this
     simp
    ·cases hg
  ·intro hg
   split at hg
   ·rename_i hc1
    have:=hMm.1 hc1.1
    omega
   ·split at hg
    ·rename_i he
     have e0:=hexact hg
     have:xs=[]:=by simpa using he
     subst this
     simp at hmle e0
     have:M=0:=by
      cases mx with
      |none=>rw[hMm.2 rfl];exact e0
      |some _=>have:=hMm.1 (by rw[s2];rfl);omega
     simp;omega
    ·cases hg
  ·intro hx
   have hpos:0<((xs.take h).drop l).length:=List.length_pos_iff.2 hx
   obtain ⟨b,off,e,hb,him,es,hlt⟩:=hne (List.getElem?_eq_getElem hpos)
   subst es
   refine ⟨b,off+l*sz', ?_,hb,Ctx.imm_mono him ?_⟩
   ·rw[if_neg (by omega),e];simp[addr_add]
   ·rw[hlen]
    have:(l+(h - l))*sz'≤xs.length*sz':=Nat.mul_le_mul_right _ (by omega)
    rw[Nat.add_mul] at this
    omega
  ·exact fun j r i p hj hi=>ha _ r i p (take_drop_get hj) hi
  ·intro b off j r i p e hj hi
   obtain ⟨b',off',e',hb,him,es,hlt⟩:=hne hj
   subst es
   rw[if_neg (by omega),e'] at e
   simp[addr_add] at e
   obtain ⟨rfl,rfl⟩:=e
   obtain ⟨v,hv⟩:=hc _ _ _ r i p e' (take_drop_get hj) hi
   exact ⟨v,by rw[←hv,Nat.add_mul];congr 2;omega⟩
  ·intro b off j r i p v e hj hi hv
   obtain ⟨b',off',e',hb,him,es,hlt⟩:=hne hj
   subst es
   rw[if_neg (by omega),e'] at e
   simp[addr_add] at e
   obtain ⟨rfl,rfl⟩:=e
   refine hrep _ _ _ r i p v e' (take_drop_get hj) hi ?_
   rw[←hv,Nat.add_mul];congr 2;omega
  ·intro k ek hg
   split at hg
   ·cases hg
   ·split at hg
    ·rename_i he
     have:xs=[]:=by simpa using he
     exact absurd this (hown k ek hg).1
    ·cases hg
theorem eqCells_append (a b:List PV) (l m:List (Nat×Nat)):eqCells a b (l++m)=match eqCells a b l with|some true=>eqCells a b m|r=>r:=by
 induction l with
 |nil=>rfl
 |cons x l ih=>
  obtain ⟨o,k⟩:=x
  simp only[List.cons_append,eqCells]
  split
  ·split
   ·exact ih
   ·rfl
   ·rfl
  ·rfl
theorem part_extract {t:TypeId} {s sz base o:Nat} (hs:sizeP P t=some s) (hle:o+s≤sz) (hatom:aggN P t=some none→s=1) (hn: ∃ n,aggN P t=some n) (xs:Array Value):(part t (xs.extract base (base+sz)) o).run P w=(part t xs (base+o)).run P w:=by
 obtain ⟨n,hn⟩:=hn
 obtain ⟨h1,h2⟩:=aggN_run hn w
 cases n with
 |none=>
  have e1:=hatom hn
  subst e1
  have e:(xs.extract base (base+sz))[o]?=xs[base+o]?:=by
   rw[Array.getElem?_extract]
   split
   ·rfl
   ·rename_i hlt
    rw[Array.getElem?_eq_none]
    omega
  simp only[part,Sem.run_bind,h1,Result.andThen_ok,Option.isSome_none,Bool.false_eq_true,if_false,e]
 |some k=>
  simp only[part,Sem.run_bind,h1,Result.andThen_ok,Option.isSome_some,if_true,h2 k rfl,Sem.run_pure]
  have ek:k=s:=by
   have:=h2 k rfl
   rw[sizeOf_run hs] at this
   simp at this
   exact this.symm
  subst ek
  congr 2
  rw[Array.extract_extract]
  congr 1
  omega
theorem aggN_of {t:TypeId} {d:TypeDesc} {s:Nat} (hd:P.underlying t=some d) (hs:sizeP P t=some s): ∃ n,aggN P t=some n∧(n=none→(∀ fs,d≠ .struct fs)):=by
 simp only[sizeP,Option.map_eq_some_iff] at hs
 obtain ⟨i,hi,_⟩:=hs
 unfold aggN
 rw[hd,hi]
 cases d
 case struct fs=>exact ⟨some i.size,rfl,fun h=>by simp at h⟩
 all_goals exact ⟨_,rfl,fun _ fs h=>by cases h⟩
theorem eqIn_rep {a b:List PV} {xs ys:Array Value} (hx:xs.size=a.length) (hy:ys.size=b.length) (hxr: ∀ (i:Nat) p v,a[i]?=some p→xs[i]?=some v→Rep C w p v) (hyr: ∀ (i:Nat) p v,b[i]?=some p→ys[i]?=some v→Rep C w p v):
  ∀ (d:Nat) (t:TypeId) (base:Nat) (offs:List (Nat×Nat)) (r:Bool),eqOffs P d t base=some offs→eqCells a b offs=some r→
   ∃ vx vy,(part t xs base).run P w= .ok vx w∧(part t ys base).run P w= .ok vy w∧(∀ e,d≤e→(Op.equalIn e t vx vy).run P w= .ok r w)
 |0,t,base,offs,r,h,_=>by simp[eqOffs] at h
 |d+1,t,base,offs,r,h,he=>by
  have atom: ∀ k,offs=[(base,k)]→aggN P t=some none→(∀ p q u u',Rep C w p u→Rep C w q u'→eqAtom k p q=some r→ ∀ e,(Op.equalIn (e+1) t u u').run P w= .ok r w)→
    ∃ vx vy,(part t xs base).run P w= .ok vx w∧(part t ys base).run P w= .ok vy w∧ ∀ e,d+1≤e→(Op.equalIn e t vx vy).run P w= .ok r w:=by
   intro k ho ha hq
   subst ho
   simp only[eqCells] at he
   split at he
   ·rename_i p q hp hqq
    have hxl:base<xs.size:=by rw[hx];exact getElem?_lt hp
    have hyl:base<ys.size:=by rw[hy];exact getElem?_lt hqq
    have hx1:xs[base]?=some xs[base]:=Array.getElem?_eq_getElem hxl
    have hy1:ys[base]?=some ys[base]:=Array.getElem?_eq_getElem hyl
    obtain ⟨h1,_⟩:=aggN_run ha w
    refine ⟨xs[base],ys[base],by simp[part,h1,hx1],by simp[part,h1,hy1],fun e hle=> ?_⟩
    obtain ⟨e,rfl⟩: ∃ e',e=e'+1:=⟨e - 1,by omega⟩
    refine hq p q _ _ (hxr _ p _ hp hx1) (hyr _ q _ hqq hy1) ?_ e
    split at he
    ·rename_i e;simp at he;subst he;exact e
    ·rename_i e;simp at he;subst he;exact e
    ·cases he
   ·cases he
  simp only[eqOffs] at h
  split at h
  ·rename_i k hu hs
   simp at h
   obtain ⟨n,hn,hn'⟩:=aggN_of hu hs
   have:n=none:=by
    unfold aggN at hn;rw[hu] at hn
    simp only[sizeP,Option.map_eq_some_iff] at hs
    obtain ⟨i,hi,_⟩:=hs
    rw[hi] at hn;simp at hn;exact hn.symm
   subst this
   refine atom 0 h.symm hn fun p q u u' hp hq hr e=> ?_
   cases p<;>simp only[eqAtom] at hr<;>try (cases hr;done)
   cases q<;>simp only[eqAtom] at hr<;>try (cases hr;done)
   split at hr
   ·rename_i e'
    simp at hr;subst hr
    rw[hp.int_inv,hq.int_inv,e']
    exact eqIn_int hu _ _ _ _
   ·cases hr
  ·rename_i hu hs
   simp at h
   obtain ⟨n,hn,hn'⟩:=aggN_of hu hs
   have:n=none:=by
    unfold aggN at hn;rw[hu] at hn
    simp only[sizeP,Option.map_eq_some_iff] at hs
    obtain ⟨i,hi,_⟩:=hs
    rw[hi] at hn;simp at hn;exact hn.symm
   subst this
   refine atom 1 h.symm hn fun p q u u' hp hq hr e=> ?_
   cases p<;>simp only[eqAtom] at hr<;>try (cases hr;done)
   cases q<;>simp only[eqAtom] at hr<;>try (cases hr;done)
   simp at hr;subst hr
   rw[hp.str_inv,hq.str_inv,strEq_eq]
   exact eqIn_str hu _ _ _
  ·rename_i hu hs
   simp at h
   obtain ⟨n,hn,hn'⟩:=aggN_of hu hs
   have:n=none:=by
    unfold aggN at hn;rw[hu] at hn
    simp only[sizeP,Option.map_eq_some_iff] at hs
    obtain ⟨i,hi,_⟩:=hs
    rw[hi] at hn;simp at hn;exact hn.symm
   subst this
   refine atom 2 h.symm hn fun p q u u' hp hq hr e=> ?_
   cases p<;>simp only[eqAtom] at hr<;>try (cases hr;done)
   cases q<;>simp only[eqAtom] at hr<;>try (cases hr;done)
   simp at hr;subst hr
   rw[hp.bool_inv,hq.bool_inv]
   exact eqIn_bool hu _ _ _
  ·rename_i fs sz hu hs
   split at h
   ·rename_i hc
    simp only[Bool.and_eq_true,List.all_eq_true,Bool.not_eq_true'] at hc
    obtain ⟨hf,hst⟩:=hc
    simp only[Option.map_eq_some_iff] at h
    obtain ⟨ls,hls,rfl⟩:=h
    obtain ⟨n,hn,hn'⟩:=aggN_of hu hs
    have hsome:n=some sz:=by
     unfold aggN at hn;rw[hu] at hn
     simp only[sizeP,Option.map_eq_some_iff] at hs
     obtain ⟨i,hi,e⟩:=hs
     rw[hi] at hn;simp at hn;rw[←hn,e]
    subst hsome
    obtain ⟨h1,h2⟩:=aggN_run hn w
    refine ⟨.agg (xs.extract base (base+sz)),.agg (ys.extract base (base+sz)),by simp[part,h1,h2 sz rfl],by simp[part,h1,h2 sz rfl],fun e hle=> ?_⟩
    obtain ⟨e,rfl⟩: ∃ e',e=e'+1:=⟨e - 1,by omega⟩
    unfold Op.equalIn
    simp only[Sem.run_bind,underlying_run hu,Result.andThen_ok,run_program,hst,Bool.false_eq_true,if_false]
    have loop: ∀ (l:List Field) (m:List (List (Nat×Nat))) (r:Bool),(∀ f∈l,f∈fs.toList)→(l.mapM fun f=>eqOffs P d f.type (base+f.offset))=some m→eqCells a b m.flatten=some r→
      (forIn l ((none : Option Bool), PUnit.unit) fun f __s => if f.name ≠ "_" then do
         let __do_lift←part f.type (xs.extract base (base+sz)) f.offset
         let __do_lift_1←part f.type (ys.extract base (base+sz)) f.offset
         let __do_lift←Op.equalIn e f.type __do_lift __do_lift_1
         if (!__do_lift)=true then pure (ForInStep.done (some false,PUnit.unit)) else pure (ForInStep.yield (none,PUnit.unit))
        else pure (ForInStep.yield (none,PUnit.unit)):Sem (Option Bool×PUnit)).run P w= .ok (if r then none else some false,PUnit.unit) w:=by
     intro l
     induction l with
     |nil=>intro m r _ hm he;simp at hm;subst hm;simp[eqCells] at he;subst he;rfl
     |cons f l ih=>
      intro m r hsub hm he
      rw[List.mapM_cons] at hm
      simp only[bind,Option.bind_eq_some_iff,pure,Option.some.injEq] at hm
      obtain ⟨o1,ho1,m',hm',rfl⟩:=hm
      rw[List.flatten_cons,eqCells_append] at he
      obtain ⟨hname,hsz⟩:=hf f (hsub f (by simp))
      simp only[bne_iff_ne,ne_eq] at hname
      cases hsf:sizeP P f.type with
      |none=>rw[hsf] at hsz;cases hsz
      |some s=>
       rw[hsf] at hsz
       simp at hsz
       have hag:(∃ n,aggN P f.type=some n)∧(aggN P f.type=some none→s=1):=by
        cases d with
        |zero=>simp[eqOffs] at ho1
        |succ d=>
         simp only[eqOffs] at ho1
         split at ho1<;>first
          |(rename_i hu' hs';obtain ⟨n,hn,_⟩:=aggN_of hu' hs';rw[hsf] at hs';simp at hs';exact ⟨⟨n,hn⟩,fun _=>hs'⟩)
          |(rename_i hu' hs';obtain ⟨n,hn,hnn⟩:=aggN_of hu' hs';refine ⟨⟨n,hn⟩,fun h=> ?_⟩;rw[hn] at h;simp at h;exact absurd rfl (hnn h _))
          |cases ho1
       have ex:=part_extract (w:=w) (base:=base) hsf hsz hag.2 hag.1 xs
       have ey:=part_extract (w:=w) (base:=base) hsf hsz hag.2 hag.1 ys
       rw[List.forIn_cons]
       have hgo: ∀ r1,eqCells a b o1=some r1→ ∃ vx vy,(part f.type (xs.extract base (base+sz)) f.offset).run P w= .ok vx w∧(part f.type (ys.extract base (base+sz)) f.offset).run P w= .ok vy w∧(Op.equalIn e f.type vx vy).run P w= .ok r1 w:=by
        intro r1 hr1
        obtain ⟨vx,vy,g1,g2,g3⟩:=eqIn_rep hx hy hxr hyr d f.type (base+f.offset) o1 r1 ho1 hr1
        exact ⟨vx,vy,ex.trans g1,ey.trans g2,g3 e (by omega)⟩
       cases h1':eqCells a b o1 with
       |none=>rw[h1'] at he;cases he
       |some r1=>
        obtain ⟨vx,vy,g1,g2,g3⟩:=hgo r1 h1'
        rw[h1'] at he
        cases r1 with
        |true=>
         simp only at he
         have:=ih m' r (fun f' hf'=>hsub f' (by simp[hf'])) hm' he
         simp only [Sem.run_bind, if_pos (show f.name ≠ "_" from hname), g1, g2, g3, Result.andThen_ok]
         simpa using this
        |false=>
         simp at he;subst he
         simp only [Sem.run_bind, if_pos (show f.name ≠ "_" from hname), g1, g2, g3, Result.andThen_ok]
         simp
    have:=loop fs.toList ls r (fun f h=>h) hls he
    simp only[←Array.forIn_toList,Sem.run_bind]
    rw[this]
    cases r<;>simp
   ·cases h
  ·cases h
theorem does_eqG (hW:WRel G C S w) (hT:TR nt C w ts a.tmps) {neg:Bool} {t t':TypeId} {fs:Array Field} {n:Nat} {offs:List (Nat×Nat)} {x y:Operand} {ex ey:EOpd} (ho:o.op= .binOp (if neg then .neq else .eql) t x y t') (ht:P.underlying t=some (.struct fs)) (hn:sizeP P t=some n) (hoff:eqOffs P 8 t 0=some offs)
  (hg:P.eqGuardType P.depth t=false) (hx:cOpd x=some ex) (hy:cOpd y=some ey) {l m:List PV} {r:Bool} (hp:ex.val G ts=some (.agg l)) (hq:ey.val G ts=some (.agg m)) (hl:l.length=n) (hm:m.length=n) (hr:eqCells l m offs=some r):Does P G C w S (.bool (neg !=r)) o a:=by
 obtain ⟨xs,e1,x1,x2,x3⟩:=(opd_rep hW hT hx hp).agg_inv
 obtain ⟨ys,e2,y1,y2,y3⟩:=(opd_rep hW hT hy hq).agg_inv
 obtain ⟨vx,vy,g1,g2,g3⟩:=eqIn_rep (P:=P) x1 y1 x3 y3 8 t 0 offs r hoff hr
 obtain ⟨k,hk,_⟩:=aggN_of ht hn
 have hk':k=some n:=by
  unfold aggN at hk;rw[ht] at hk
  simp only[sizeP,Option.map_eq_some_iff] at hn
  obtain ⟨i,hi,e⟩:=hn
  rw[hi] at hk;simp at hk;rw[←hk,e]
 subst hk'
 obtain ⟨h1,h2⟩:=aggN_run hk w
 simp only[part,Sem.run_bind,h1,Result.andThen_ok,Option.isSome_some,if_true,h2 n rfl,Sem.run_pure,Nat.zero_add,Result.ok.injEq,and_true] at g1 g2
 have f1:xs.extract 0 n=xs:=by rw[←Array.toList_inj];simp[Array.toList_extract,x1,hl];rw[List.take_of_length_le (by simp[x1,hl])]
 have f2:ys.extract 0 n=ys:=by rw[←Array.toList_inj];simp[Array.toList_extract,y1,hm];rw[List.take_of_length_le (by simp[y1,hm])]
 rw[f1] at g1;rw[f2] at g2
 subst g1 g2
 have hE:(Op.equal t (.agg xs) (.agg ys)).run P w= .ok r w:=g3 Op.maxDepth (by decide)
 have hgd:(eqGuard (if neg then .neq else .eql) t x y (.agg xs) (.agg ys)).run P w= .ok () w:=by cases neg<;>simp[eqGuard,hg]
 refine Does.pure hW (v':= .bool (neg !=r)) ?_ (.bool _)
 simp only[execOp,ho,e1,e2,Sem.run_bind,hgd,binop_eq neg hE (.inr (.inr (.inl ⟨_,_,rfl,rfl,_,rfl⟩))),Result.andThen_ok,Sem.run_pure]
theorem does_lenM (hW:WRel G C S w) (hT:TR nt C w ts a.tmps) {c:Call} {x:Operand} {ex:EOpd} {t e:TypeId} (ho:o.op= .call c) (hc:c.callee= .builtin .len) (hcx:c.args= #[x]) (ht:c.argTypes[0]?=some t) (hu:P.underlying t=some (.slice e)) (hx:cOpd x=some ex) {l q n sz:Nat}
  (hp:ex.val G ts=some (.msl l q n sz)):Does P G C w S (.int .i64 n) o a:=by
 have hr:=opd_rep hW hT hx hp
 generalize hu':a.eval x=u at hr
 cases hr with|msl l q n sz b off cap hn ho' h=>
 refine Does.pure hW (v':= .int .i64 n) ?_ (.int _ _)
 simp[execOp,ho,resolve,hc,hcx,invoke,Go.builtin,Builtin.len_,ht,hu',underlying_run hu,goInt]
theorem does_ixM (hW:WRel G C S w) (hT:TR nt C w ts a.tmps) {t e:TypeId} {x i:Operand} {ex ei:EOpd} {sz:Nat} (ho:o.op= .indexAddr t x i) (ht:P.underlying t=some (.slice e)) (hsz:sizeP P e=some sz) (hx:cOpd x=some ex) (hi:cOpd i=some ei) {l q n j:Nat} {iv:PV}
  (hp:ex.val G ts=some (.msl l q n sz)) (hq:ei.val G ts=some iv) (hj:idxP iv n=some j):Does P G C w S (.ref l (q+j*sz)) o a:=by
 have hr:=opd_rep hW hT hx hp
 generalize eu:a.eval x=u at hr
 cases hr with|msl l q n sz b off cap hn ho' h=>
 cases iv<;>simp only[idxP] at hj<;>try (cases hj;done)
 rename_i k m
 split at hj
 ·rename_i hcm
  simp at hj;subst hj
  have e2:=(opd_rep hW hT hi hq).int_inv
  have hoff:=ho' (by omega)
  subst hoff
  refine Does.pure hW (v':= .pointer (some ⟨b,off+m.toNat*sz,none⟩)) ?_ (.ref _ _ _ (h.imp (·.1) id))
  simp[execOp,ho,eu,e2,Instr.indexAt,underlying_run ht,asIntOf,sizeOf_run hsz,hcm.1,hcm.2,addr_add]
 ·cases hj
theorem does_slM (hW:WRel G C S w) (hT:TR nt C w ts a.tmps) {t e:TypeId} {sz:Nat} {x:Operand} {lo hi:Option Operand} {ex:EOpd} {el eh:Option EOpd} (ho:o.op= .slice t x lo hi none) (ht:P.underlying t=some (.slice e)) (hsz:sizeP P e=some sz) (hx:cOpd x=some ex) (hl:cOpt lo=some el) (hh:cOpt hi=some eh)
  {k q n:Nat} {pl ph:Option PV} (hp:ex.val G ts=some (.msl k q n sz)) (hpl:optVal G ts el=some pl) (hph:optVal G ts eh=some ph) {l h:Nat} (bh:boundP ph n n=some h) (bl:boundP pl 0 h=some l):Does P G C w S (.msl k (q+l*sz) (h - l) sz) o a:=by
 have hr:=opd_rep hW hT hx hp
 generalize eu:a.eval x=u at hr
 cases hr with|msl k q n sz b off cap hn ho' hb=>
 obtain ⟨r1,r2⟩:=optVal_rep (a:=a) hW hT hl hpl
 obtain ⟨q1,q2⟩:=optVal_rep (a:=a) hW hT hh hph
 obtain ⟨h1,h2,h3⟩:=bound_run (P:=P) (top':=cap) (code:= .sliceAcap) bh hn q1
 obtain ⟨l1,l2,l3⟩:=bound_run (P:=P) (top':=h) (code:= .sliceB) bl (Nat.le_refl _) r1
 have hhn:h≤n:=by
  cases ph with
  |none=>have:=h1 rfl;omega
  |some _=>exact h3 rfl
 have hlh:l≤h:=by
  cases pl with
  |none=>have:=l1 rfl;omega
  |some _=>exact l3 rfl
 have key:(Instr.sliceBounds true n cap (lo.map a.eval) (hi.map a.eval) none).run P w= .ok (l,h,cap) w:=by
  unfold Instr.sliceBounds
  cases hi with
  |none=>
   have e2:=h1 (by cases ph with|none=>rfl|some _=>simp at q2)
   subst e2
   cases lo with
   |none=>
    have e3:=l1 (by cases pl with|none=>rfl|some _=>simp at r2)
    subst e3
    simp
   |some lo=>
    have:=l2 (a.eval lo) (by rw[r2];rfl) rfl
    simp[this]
  |some hi=>
   have h2':=h2 (a.eval hi) (by rw[q2];rfl) rfl
   cases lo with
   |none=>
    have e3:=l1 (by cases pl with|none=>rfl|some _=>simp at r2)
    subst e3
    simp[h2']
   |some lo=>
    have:=l2 (a.eval lo) (by rw[r2];rfl) rfl
    simp[this,h2']
 have hcap:(cap - l)*sz+l*sz=cap*sz:=by rw[←Nat.add_mul];congr 1;omega
 refine Does.pure hW (v':= .slice (some (if cap=l then ⟨b,off,none⟩ else ⟨b,off+l*sz,none⟩)) (h - l) (cap - l)) ?_ ?_
 ·simp[execOp,ho,Instr.sliceAt,underlying_run ht,Instr.slice,eu,key,sizeOf_run hsz,addr_add]
  split<;>rfl
 ·split
  ·rename_i e
   refine .msl _ _ _ _ _ _ _ (by omega) (fun h=>by omega) (hb.imp (fun hb=>⟨hb.1, ?_⟩) id)
   have:cap - l=0:=by omega
   rw[this];have:=hb.2;omega
  ·refine .msl _ _ _ _ _ _ _ (by omega) (fun hne=>by rw[ho' (by omega)]) (hb.imp (fun hb=>⟨hb.1, ?_⟩) id)
   have:=hb.2;omega
end
end Go.PE
