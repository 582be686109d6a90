/-
  What is handed in as data, as values without addresses. Conditions: each law's own (types made of numbers, texts, bools, structs, slices).
-/
import Derived.Test.YteifnopejdiikaaDoorPE16
import Derived.Test.YteifnopejdiikaaDoorRows
import Derived.ChangeArms
import Derived.DataReads
import Derived.OpenShut
namespace Go.PE
open Go Go.RowKit Go.ChangeShapes Go.WideShapes
open Go.Proofs.YteifnopejdiikaaDoor.Rows (uptoBulk uptoBulkAll)
set_option linter.unusedVariables false
set_option linter.unusedSimpArgs false
inductive Fit (P:Program):TypeId→List PV→Prop
 |bool (t:TypeId) (b:Bool) (h:P.underlying t=some .bool):Fit P t [.bool b]
 |int (t:TypeId) (k:IntKind) (n:Int) (h:P.underlying t=some (.int k)) (wf:(Lit.int k n).wf=true):Fit P t [.int k n]
 |str (t:TypeId) (s:ByteArray) (h:P.underlying t=some .string) (hs:s.size≤maxLen):Fit P t [.str s]
 |sl (t e:TypeId) (xs:List (List PV)) (h:P.underlying t=some (.slice e)) (hl:xs.length≤maxLen) (hr: ∀ (j:Nat) r,xs[j]?=some r→Fit P e r):Fit P t [.sl .ro xs]
 |struct (t:TypeId) (fs:Array Field) (cs:List PV) (h:P.underlying t=some (.struct fs)) (hlen:cs.length=P.cellsOf t)
   (hf: ∀ (i:Nat) (f:Field),fs[i]?=some f→Fit P f.type ((cs.drop f.offset).take (P.cellsOf f.type))):Fit P t cs
mutual
def PV.bulk:PV→Nat
 | .str s=>s.size+1
 | .sl _ xs=>bulkLL xs+1
 |_=>1
def bulkL:List PV→Nat
 |[]=>0
 |p::l=>p.bulk+bulkL l
def bulkLL:List (List PV)→Nat
 |[]=>0
 |r::l=>bulkL r+bulkLL l
end
theorem bulkL_append (a b:List PV):bulkL (a++b)=bulkL a+bulkL b:=by
 induction a with
 |nil=>simp[bulkL]
 |cons p a ih=>simp[bulkL,ih];omega
def tightF (P:Program):Nat→List Field→Option Nat
 |o,[]=>some o
 |o,f::l=>if f.offset=o then tightF P (o+P.cellsOf f.type) l else none
def plainTypes (P:Program) (L:List TypeId):Bool:=
 L.all fun t=>match P.underlying t with
  |some .bool|some (.int _)|some .string=>true
  |some (.slice e)=>L.contains e&&decide (0<P.cellsOf e)
  |some (.struct fs)=>tightF P 0 fs.toList==some (P.cellsOf t)&&fs.toList.all fun f=>L.contains f.type
  |_=>false
theorem tight_le {P:Program}: ∀ {l:List Field} {o top:Nat},tightF P o l=some top→o≤top
 |[],o,top,h=>by simp[tightF] at h;omega
 |f::l,o,top,h=>by
  simp only[tightF] at h
  split at h
  ·have:=tight_le h;omega
  ·cases h
theorem tight_cut {P:Program} {w:World} {cs:List Value}: ∀ {fs:List Field} {o top:Nat} {vss:List (List PV)},tightF P o fs=some top→top≤cs.length→vss.length=fs.length→
  (∀ (i:Nat) f vs,fs[i]?=some f→vss[i]?=some vs→vs.length=P.cellsOf f.type∧ ∀ (j:Nat) p v,vs[j]?=some p→cs[f.offset+j]?=some v→p.atom=true∧Rep .none w p v)→
  o≤top∧vss.flatten.length=top - o∧(∀ (j:Nat) p v,vss.flatten[j]?=some p→cs[o+j]?=some v→p.atom=true∧Rep .none w p v)∧
   ∀ (i:Nat) f vs,fs[i]?=some f→vss[i]?=some vs→o≤f.offset∧(vss.flatten.drop (f.offset - o)).take (P.cellsOf f.type)=vs
 |[],o,top,vss,h,hle,hl,hv=>by
  simp[tightF] at h;subst h
  have:vss=[]:=List.eq_nil_of_length_eq_zero hl
  subst this
  simp
 |f::fs,o,top,[],h,hle,hl,hv=>by simp at hl
 |f::fs,o,top,vs::vss,h,hle,hl,hv=>by
  simp only[tightF] at h
  split at h
  ·rename_i ho
   obtain ⟨h1,h2⟩:=hv 0 f vs rfl rfl
   obtain ⟨i1,i2,i3,i4⟩:=tight_cut (vss:=vss) h hle (by simpa using hl) (fun i f' vs' hf hvs=>hv (i+1) f' vs' (by simpa using hf) (by simpa using hvs))
   refine ⟨by omega,by simp[h1] at i2 ⊢;omega,fun j p v hj hc=> ?_,fun i f' vs' hf hvs=> ?_⟩
   ·rw[List.flatten_cons] at hj
    by_cases hjl:j<vs.length
    ·rw[List.getElem?_append_left hjl] at hj
     exact h2 j p v hj (by rw[ho];exact hc)
    ·rw[List.getElem?_append_right (by omega)] at hj
     refine i3 (j - vs.length) p v hj ?_
     rw[←hc];congr 1;omega
   ·cases i with
    |zero=>
     simp at hf hvs;subst hf hvs
     refine ⟨by omega, ?_⟩
     have:f.offset - o=0:=by omega
     rw[this,List.drop_zero,List.flatten_cons,←h1,List.take_append_of_le_length (Nat.le_refl _),List.take_length]
    |succ i=>
     obtain ⟨g1,g2⟩:=i4 i f' vs' (by simpa using hf) (by simpa using hvs)
     refine ⟨by omega, ?_⟩
     rw[List.flatten_cons,List.drop_append,List.drop_eq_nil_of_le (by omega),List.nil_append]
     rw[show f'.offset - o - vs.length=f'.offset - (o+P.cellsOf f.type) by omega]
     exact g2
  ·cases h
theorem bulk_flatten {H:Type}: ∀ {vss:List (List PV)} {ds:List (DataW H)},vss.length=ds.length→(∀ (i:Nat) vs d,vss[i]?=some vs→ds[i]?=some d→bulkL vs≤uptoBulk d)→bulkL vss.flatten≤uptoBulkAll ds
 |[],[],_,_=>by simp[bulkL,uptoBulkAll]
 |[],_::_,h,_=>by simp at h
 |_::_,[],h,_=>by simp at h
 |vs::vss,d::ds,h,hb=>by
  have h1:=hb 0 vs d rfl rfl
  have h2:=bulk_flatten (vss:=vss) (ds:=ds) (by simpa using h) fun i vs d h1 h2=>hb (i+1) vs d (by simpa using h1) (by simpa using h2)
  simp only[List.flatten_cons,bulkL_append,uptoBulkAll]
  omega
theorem bulk_rows {H:Type}: ∀ {vss:List (List PV)} {ds:List (DataW H)},vss.length=ds.length→(∀ (i:Nat) vs d,vss[i]?=some vs→ds[i]?=some d→bulkL vs≤uptoBulk d)→bulkLL vss≤uptoBulkAll ds
 |[],[],_,_=>by simp[bulkLL,uptoBulkAll]
 |[],_::_,h,_=>by simp at h
 |_::_,[],h,_=>by simp at h
 |vs::vss,d::ds,h,hb=>by
  have h1:=hb 0 vs d rfl rfl
  have h2:=bulk_rows (vss:=vss) (ds:=ds) (by simpa using h) fun i vs d h1 h2=>hb (i+1) vs d (by simpa using h1) (by simpa using h2)
  simp only[bulkLL,uptoBulkAll]
  omega
theorem list_of {α:Type} (p:Nat→α→Prop): ∀ (n:Nat),(∀ i,i<n→ ∃ a,p i a)→ ∃ l:List α,l.length=n∧ ∀ (i:Nat) a,l[i]?=some a→p i a
 |0,_=>⟨[],rfl,by simp⟩
 |n+1,h=>by
  obtain ⟨l,h1,h2⟩:=list_of p n fun i hi=>h i (by omega)
  obtain ⟨a,ha⟩:=h n (by omega)
  refine ⟨l++[a],by simp[h1],fun i b hb=> ?_⟩
  rw[List.getElem?_append] at hb
  split at hb
  ·exact h2 i b hb
  ·have:i=n:=by have:=getElem?_lt hb;simp at this;omega
   subst this
   simp[h1] at hb;subst hb;exact ha
theorem fits_of_trod {H:Type} {enc:TypeId×Value→H} {P:Program} {w:World} {spare:Nat→Bool} {held:Bool} {L:List TypeId} (hL:plainTypes P L=true):
  ∀ (fuel:Nat) {t:TypeId} {cs:List Value} {x:DataW H×List MemPlace},t∈L→DataW.trod enc P w 0 spare held fuel t cs=some x→
   ∃ vs:List PV,Fit P t vs∧vs.length=cs.length∧(∀ (i:Nat) p v,vs[i]?=some p→cs[i]?=some v→p.atom=true∧Rep .none w p v)∧bulkL vs≤uptoBulk x.1
 |0,t,cs,x,ht,h=>by simp[DataW.trod] at h
 |fuel+1,t,cs,x,ht,h=>by
  have hLt:=List.all_eq_true.1 hL t ht
  have one: ∀ {p:PV} {v:Value} {d:DataW H},cs=[v]→p.atom=true→Rep .none w p v→Fit P t [p]→p.bulk≤uptoBulk x.1→
    ∃ vs:List PV,Fit P t vs∧vs.length=cs.length∧(∀ (i:Nat) p v,vs[i]?=some p→cs[i]?=some v→p.atom=true∧Rep .none w p v)∧bulkL vs≤uptoBulk x.1:=by
   intro p v d e ha hr hf hb
   subst e
   refine ⟨[p],hf,rfl,fun i q u hq hu=> ?_,by simpa [bulkL] using hb⟩
   cases i with
   |zero=>simp at hq hu;subst hq hu;exact ⟨ha,hr⟩
   |succ i=>simp at hq
  cases hu:P.underlying t with
  |none=>rw[hu] at hLt;cases hLt
  |some d=>
   rw[hu] at hLt
   cases d with
   |bool=>
    obtain ⟨b,rfl,rfl⟩:=DataW.trod_bool hu h
    exact one (d:= .nil) rfl rfl (.bool b) (.bool t b hu) (by simp[PV.bulk,uptoBulk])
   |int k=>
    obtain ⟨n,rfl,rfl,wf⟩:=DataW.trod_int hu h
    exact one (d:= .nil) rfl rfl (.int k n) (.int t k n hu wf) (by simp[PV.bulk,uptoBulk])
   |string=>
    obtain ⟨s,rfl,rfl,hs⟩:=DataW.trod_string hu h
    exact one (d:= .nil) rfl rfl (.str s) (.str t s hu hs) (by simp[PV.bulk,uptoBulk])
   |slice e=>
    simp only[Bool.and_eq_true,List.contains_iff_mem,decide_eq_true_eq] at hLt
    rcases DataW.trod_slice hu h with ⟨rfl,rfl⟩|⟨a,len,cap,elems,rest,n,hn,rfl,rfl,_,hle,hcap,hel,helem,_,_⟩
    ·refine one (d:= .nil) rfl rfl (p:= .sl .ro []) ?_ (.sl t e [] hu (Nat.zero_le _) (by simp)) (by simp[PV.bulk,bulkLL,uptoBulk])
     exact .sl .ro [] none 0 0 0 rfl (Nat.le_refl _) (by simp) (fun h=>by cases h) (fun h=>by cases h) (fun h=>absurd rfl h) (by simp) (by simp) (by simp) (fun k e h=>by cases h)
    ·have hn':n=fuel:=by omega
     subst hn'
     obtain ⟨xs,hxl,hx⟩:=list_of (fun i r=> ∃ cs y,w.cells? 0 (a.add (i*P.cellsOf e)) (P.cellsOf e)=some cs∧elems[i]?=some y∧Fit P e r∧r.length=cs.length∧(∀ (j:Nat) p v,r[j]?=some p→cs[j]?=some v→p.atom=true∧Rep .none w p v)∧bulkL r≤uptoBulk y.1) len (fun i hi=>by
      have h1:=helem i hi
      have h2:elems[i]?=some elems[i]:=List.getElem?_eq_getElem (by omega)
      rw[h2,Option.bind_eq_some_iff] at h1
      obtain ⟨cs,hcs,hd⟩:=h1
      obtain ⟨vs,g1,g2,g3,g4⟩:=fits_of_trod hL n hLt.1 hd
      exact ⟨vs,cs,_,hcs,h2,g1,g2,g3,g4⟩)
     have hsz: ∀ (j:Nat) r,xs[j]?=some r→r.length=P.cellsOf e:=fun j r hj=>by
      obtain ⟨cs,y,hc,_,_,hl,_⟩:=hx j r hj
      rw[hl];exact (World.cells?_some hc).2.1
     have hcell: ∀ (j:Nat) r (i:Nat) p,xs[j]?=some r→r[i]?=some p→ ∃ v,w.cell? ((a.add (j*P.cellsOf e)).add i)=some v∧p.atom=true∧Rep .none w p v:=fun j r i p hj hi=>by
      obtain ⟨cs,y,hc,_,_,hl,hr,_⟩:=hx j r hj
      obtain ⟨_,c2,c3⟩:=World.cells?_some hc
      have hil:=getElem?_lt hi
      have hic:i<cs.length:=by omega
      refine ⟨cs[i], ?_,hr i p _ hi (List.getElem?_eq_getElem hic)⟩
      rw[c3 i (by omega),List.getElem?_eq_getElem hic]
     have hspot:xs≠[]→a.spot=none∧a.block<w.heap.size:=fun hne=>by
      have h0:0<xs.length:=List.length_pos_iff.2 hne
      have hx0:=List.getElem?_eq_getElem h0
      have hl0:=hsz 0 _ hx0
      have hr0:(xs[0])[0]?=some ((xs[0])[0]'(by omega)):=List.getElem?_eq_getElem (by omega)
      obtain ⟨v,hv,_⟩:=hcell 0 _ 0 _ hx0 hr0
      rw[Nat.zero_mul] at hv
      have hv':w.cell? a=some v:=by simpa [Addr.add] using hv
      unfold World.cell? at hv'
      split at hv'
      ·rename_i c _ _ hb
       split at hv'
       ·cases hv'
       ·rename_i hs
        exact ⟨by simpa using hs,(Array.getElem?_eq_some_iff.1 hb).1⟩
      ·cases hv'
     have haddr:xs≠[]→ ∀ j i,(a.add (j*P.cellsOf e)).add i=⟨a.block,a.off+(j*P.cellsOf e+i),none⟩:=fun hne j i=>by
      obtain ⟨hs,_⟩:=hspot hne
      obtain ⟨b,off,spot⟩:=a
      simp only at hs;subst hs
      rw[addr_add,addr_add,Nat.add_assoc]
     have hne: ∀ {j:Nat} {r:List PV},xs[j]?=some r→xs≠[]:=by intro j r hj e;subst e;simp at hj
     refine one (d:= .nil) rfl rfl (p:= .sl .ro xs) ?_ (.sl t e xs hu (by omega) fun j r hj=> ?_) ?_
     ·refine .sl .ro xs (some a) len cap (P.cellsOf e) hxl.symm (by omega) hsz (fun h=>by cases h) (fun h=>by cases h) (fun hx0=> ?_) (fun j r i p hj hi=>(hcell j r i p hj hi).choose_spec.2.1) (fun b off j r i p ea hj hi=> ?_) (fun b off j r i p v ea hj hi hv=> ?_) (fun k e h=>by cases h)
      ·obtain ⟨hs,hb⟩:=hspot hx0
       refine ⟨a.block,a.off,by obtain ⟨b,off,spot⟩:=a;simp only at hs;subst hs;rfl,hb,⟨fun l h=>(by cases h),fun k fr h=>(by cases h)⟩⟩
      ·injection ea with ea;subst ea
       obtain ⟨v,hv,_⟩:=hcell j r i p hj hi
       rw[haddr (hne hj)] at hv
       exact ⟨v,hv⟩
      ·injection ea with ea;subst ea
       obtain ⟨u,hu',_,hr⟩:=hcell j r i p hj hi
       rw[haddr (hne hj)] at hu'
       rw[hu'] at hv
       injection hv with hv;subst hv
       exact hr
     ·obtain ⟨cs,y,_,_,hf,_⟩:=hx j r hj
      exact hf
     ·simp only[PV.bulk,uptoBulk]
      have:=bulk_rows (vss:=xs) (ds:=elems.map (·.1)) (by simp[hxl,hel]) fun i vs d h1 h2=>by
       obtain ⟨cs,y,_,hy,_,_,_,hb⟩:=hx i vs h1
       simp only[List.getElem?_map,hy,Option.map_some,Option.some.injEq] at h2
       subst h2;exact hb
      omega
   |struct fs=>
    simp only[Bool.and_eq_true,beq_iff_eq,List.all_eq_true,List.contains_iff_mem] at hLt
    obtain ⟨xs,n,hn,rfl,hlen,hxl,hx⟩:=DataW.trod_struct hu h
    have hn':n=fuel:=by omega
    subst hn'
    obtain ⟨vss,hvl,hv⟩:=list_of (fun i vs=> ∃ f y,fs[i]?=some f∧xs[i]?=some y∧Fit P f.type vs∧vs.length=((cs.drop f.offset).take (P.cellsOf f.type)).length∧(∀ (j:Nat) p v,vs[j]?=some p→((cs.drop f.offset).take (P.cellsOf f.type))[j]?=some v→p.atom=true∧Rep .none w p v)∧bulkL vs≤uptoBulk y.1) fs.size (fun i hi=>by
     have hf:fs[i]?=some fs[i]:=Array.getElem?_eq_getElem hi
     have hxi:xs[i]?=some xs[i]:=List.getElem?_eq_getElem (by omega)
     have h1:=hx i _ hf
     rw[hxi] at h1
     have hm:fs[i]∈fs.toList:=by simp
     obtain ⟨vs,g1,g2,g3,g4⟩:=fits_of_trod hL n (hLt.2 _ hm) h1
     exact ⟨vs,_,_,hf,hxi,g1,g2,g3,g4⟩)
    have within: ∀ (l:List Field) (o top:Nat),tightF P o l=some top→ ∀ (i:Nat) f,l[i]?=some f→f.offset+P.cellsOf f.type≤top:=by
     intro l
     induction l with
     |nil=>intro o top h i f hf;simp at hf
     |cons f0 l ih=>
      intro o top h i f hf
      simp only[tightF] at h
      split at h
      ·rename_i ho
       cases i with
       |zero=>simp at hf;subst hf;have:=tight_le h;omega
       |succ i=>exact ih _ _ h i f (by simpa using hf)
      ·cases h
    have key:=tight_cut (P:=P) (w:=w) (cs:=cs) (fs:=fs.toList) (o:=0) (top:=P.cellsOf t) (vss:=vss) hLt.1 (by omega) (by simpa using hvl) (fun i f vs hf hvs=>by
     obtain ⟨f',y,hf',_,_,hl,hr,_⟩:=hv i vs hvs
     rw[Array.getElem?_toList] at hf
     rw[hf] at hf';injection hf' with hf';subst hf'
     have hw:=within _ _ _ hLt.1 i f (by rw[Array.getElem?_toList];exact hf)
     have hl':vs.length=P.cellsOf f.type:=by rw[hl];simp;omega
     refine ⟨hl',fun j p v hp hc=>hr j p v hp ?_⟩
     have hj:=getElem?_lt hp
     rw[List.getElem?_take,if_pos (by omega),List.getElem?_drop];exact hc)
    obtain ⟨_,k2,k3,k4⟩:=key
    refine ⟨vss.flatten,.struct t fs _ hu (by simpa using k2) fun i f hf=> ?_,by rw[k2,hlen];rfl,fun i p v hp hv'=>k3 i p v hp (by rw[Nat.zero_add];exact hv'), ?_⟩
    ·have hi:i<vss.length:=by rw[hvl];exact (Array.getElem?_eq_some_iff.1 hf).1
     have hvi:=List.getElem?_eq_getElem hi
     obtain ⟨_,g⟩:=k4 i f _ (by rw[Array.getElem?_toList];exact hf) hvi
     rw[Nat.sub_zero] at g
     rw[g]
     obtain ⟨f',_,hf',_,hfit,_⟩:=hv i _ hvi
     rw[hf] at hf';injection hf' with hf';subst hf'
     exact hfit
    ·simp only[uptoBulk]
     have:=bulk_flatten (vss:=vss) (ds:=xs.map (·.1)) (by simp[hvl,hxl]) fun i vs d h1 h2=>by
      obtain ⟨f,y,_,hy,_,_,_,hb⟩:=hv i vs h1
      simp only[List.getElem?_map,hy,Option.map_some,Option.some.injEq] at h2
      subst h2;exact hb
     omega
   |_=>simp at hLt
end Go.PE
