/-
  How values without addresses stand for values in memory, and what a step may turn. Conditions: each law's own.
-/
import Derived.Laws.AppendOwn
import Derived.Laws.Cells
import Derived.Laws.Entries
import Derived.Laws.Strings
import Derived.Test.YtleggogbmklddaaGreatDoorPE1
namespace Go.PE
set_option linter.unusedVariables false
set_option linter.unusedSimpArgs false
theorem strEq_eq (a b:ByteArray):strEq a b=(a.toList==b.toList):=by simp[strEq,ByteArray.toList_eq]
theorem strLt_eq (a b:ByteArray):strLt a b=Op.bytesLess a.toList b.toList:=by simp[strLt,ByteArray.toList_eq]
theorem strEq_iff {a b:ByteArray}:strEq a b=true↔a=b:=by
 obtain ⟨a⟩:=a;obtain ⟨b⟩:=b
 simp[strEq]
theorem strEq_refl (a:ByteArray):strEq a a=true:=strEq_iff.2 rfl
def PV.atom:PV→Bool
 | .agg _| .tup _=>false
 |_=>true
def vAtom:Value→Bool
 | .agg _| .tuple _=>false
 |_=>true
structure Ctx where
 p:Nat→Option (Option Nat)
 o:Nat→Option (Nat×Nat)
 c:Nat→Nat
def Ctx.m (C:Ctx) (l:Nat):Option Nat:=(C.p l).join
def Ctx.d (C:Ctx) (l:Nat):Bool:=C.p l==some none
theorem Ctx.dm {C:Ctx} {l:Nat} (h:C.d l=true):C.m l=none:=by
 simp only[Ctx.d,beq_iff_eq] at h
 simp[Ctx.m,h]
def Ctx.imm (C:Ctx) (b hi:Nat):Prop:=(∀ l,C.m l≠some b)∧ ∀ k fr,C.o k=some (b,fr)→hi≤fr
inductive Rep (C:Ctx) (w:World):PV→Value→Prop where
 |bool (b:Bool):Rep C w (.bool b) (.bool b)
 |int (k:IntKind) (n:Int):Rep C w (.int k n) (.int k n)
 |str (s:ByteArray):Rep C w (.str s) (.string s)
 |nilp:Rep C w .nilp (.pointer none)
 |ref (l o b:Nat) (h:C.m l=some b∨C.d l=true):Rep C w (.ref l o) (.pointer (some ⟨b,o,none⟩))
 |yld (l b:Nat) (h:C.m l=some b∨C.d l=true):Rep C w (.yld l) (.func (.yield b) #[] #[])
 |mp (l b:Nat) (h:C.m l=some b∨C.d l=true):Rep C w (.mp l) (.map (some b))
 |nilm:Rep C w .nilm (.map none)
 |msl (l o n sz b off cap:Nat) (hn:n≤cap) (ho:n≠0→off=o) (h:(C.m l=some b∧off+cap*sz≤C.c l)∨C.d l=true):Rep C w (.msl l o n sz) (.slice (some ⟨b,off,none⟩) n cap)
 |at_ (cs:List PV) (b off:Nat) (hb:b<w.heap.size) (hi:C.imm b (off+cs.length)) (ha: ∀ (i:Nat) (p:PV),cs[i]?=some p→p.atom=true)
   (hc: ∀ (i:Nat) (p:PV),cs[i]?=some p→ ∃ v,w.cell? ⟨b,off+i,none⟩=some v)
   (h: ∀ (i:Nat) (p:PV) (v:Value),cs[i]?=some p→w.cell? ⟨b,off+i,none⟩=some v→Rep C w p v):Rep C w (.at_ cs) (.pointer (some ⟨b,off,none⟩))
 |sl (g:Tag) (xs:List (List PV)) (a:Option Addr) (n cap sz:Nat) (hn:n=xs.length) (hcap:xs.length≤cap) (hsz: ∀ (j:Nat) (r:List PV),xs[j]?=some r→r.length=sz)
   (hnull:g= .null→a=none∧xs=[]∧cap=0) (hexact:g= .exact→cap=xs.length)
   (hrow:xs≠[]→ ∃ b off,a=some ⟨b,off,none⟩∧b<w.heap.size∧C.imm b (off+xs.length*sz))
   (ha: ∀ (j:Nat) (r:List PV) (i:Nat) (p:PV),xs[j]?=some r→r[i]?=some p→p.atom=true)
   (hc: ∀ (b off:Nat) (j:Nat) (r:List PV) (i:Nat) (p:PV),a=some ⟨b,off,none⟩→xs[j]?=some r→r[i]?=some p→ ∃ v,w.cell? ⟨b,off+(j*sz+i),none⟩=some v)
   (h: ∀ (b off:Nat) (j:Nat) (r:List PV) (i:Nat) (p:PV) (v:Value),a=some ⟨b,off,none⟩→xs[j]?=some r→r[i]?=some p→w.cell? ⟨b,off+(j*sz+i),none⟩=some v→Rep C w p v)
   (hown: ∀ k e,g= .own k e→xs≠[]∧ ∃ b fr,C.o k=some (b,fr)∧xs.length*sz≤fr∧(fr=xs.length*sz→a=some ⟨b,0,none⟩∧ ∃ arr,w.heap[b]?=some (.cells arr e (0,0))∧arr.size=cap*sz)):
   Rep C w (.sl g xs) (.slice a n cap)
 |row (g:Tag) (xs:List (List PV)) (a:Option Addr) (n cap:Nat) (h:Rep C w (.sl g xs) (.slice a n cap)):Rep C w (.row g xs) (.pointer a)
 |fn (f:FuncId) (first caps:List PV) (first' caps':Array Value) (hf0:f<yid) (h1:first'.size=first.length) (h2:caps'.size=caps.length)
   (hf: ∀ (i:Nat) (p:PV) (v:Value),first[i]?=some p→first'[i]?=some v→Rep C w p v) (hc: ∀ (i:Nat) (p:PV) (v:Value),caps[i]?=some p→caps'[i]?=some v→Rep C w p v):
   Rep C w (.fn f first caps) (.func (.func f) first' caps')
 |nilfn:Rep C w .nilfn .nilFunc
 |ifc (t:TypeId) (p:PV) (v:Value) (h:Rep C w p v):Rep C w (.ifc t p) (.iface t v)
 |nilifc:Rep C w .nilifc .nilIface
 |agg (cs:List PV) (vs:Array Value) (hl:vs.size=cs.length) (ha: ∀ (i:Nat) (p:PV),cs[i]?=some p→p.atom=true)
   (h: ∀ (i:Nat) (p:PV) (v:Value),cs[i]?=some p→vs[i]?=some v→Rep C w p v):Rep C w (.agg cs) (.agg vs)
 |tup (cs:List PV) (vs:Array Value) (hl:vs.size=cs.length) (h: ∀ (i:Nat) (p:PV) (v:Value),cs[i]?=some p→vs[i]?=some v→Rep C w p v):Rep C w (.tup cs) (.tuple vs)
def RepL (C:Ctx) (w:World) (ps:List PV) (vs:List Value):Prop:=
 vs.length=ps.length∧ ∀ (i:Nat) (p:PV) (v:Value),ps[i]?=some p→vs[i]?=some v→Rep C w p v
structure Ext (C:Ctx) (w w':World):Prop where
 os:w'.os=w.os
 tape:w'.tape=w.tape
 output:w'.output=w.output
 size:w.heap.size≤w'.heap.size
 same: ∀ b,b<w.heap.size→(∀ l,C.m l≠some b)→(∀ k fr,C.o k≠some (b,fr))→w'.heap[b]?=w.heap[b]?
 imm: ∀ b hi,b<w.heap.size→C.imm b hi→ ∀ arr e z,w.heap[b]?=some (.cells arr e z)→
  ∃ arr' z',w'.heap[b]?=some (.cells arr' e z')∧arr'.size=arr.size∧ ∀ i,i<hi→arr'[i]?=arr[i]?
structure CLe (C C':Ctx) (n:Nat):Prop where
 m1: ∀ l b,C.m l=some b→C'.m l=some b∨C'.d l=true
 m2: ∀ l b,C'.m l=some b→C.m l=some b∨n≤b∨ ∃ l0,C.m l0=some b∧C'.d l0=true
 d1: ∀ l,C.d l=true→C'.d l=true
 c1: ∀ l b,C.m l=some b→C'.m l=some b→C'.c l=C.c l
 o1: ∀ k b fr,C'.o k=some (b,fr)→n≤b∨ ∃ fr0,C.o k=some (b,fr0)∧fr0≤fr
 o2: ∀ k b fr,C.o k=some (b,fr)→ ∃ b' fr',C'.o k=some (b',fr')∧fr≤fr'∧(fr'=fr→b'=b)
structure Step (C:Ctx) (w:World) (C':Ctx) (w':World):Prop where
 ext:Ext C w w'
 le:CLe C C' w.heap.size
 own: ∀ k b fr,C.o k=some (b,fr)→C'.o k=some (b,fr)→ ∀ arr e z,w.heap[b]?=some (.cells arr e z)→ ∃ arr',w'.heap[b]?=some (.cells arr' e z)
theorem Ext.refl (C:Ctx) (w:World):Ext C w w:=
 ⟨rfl,rfl,rfl,Nat.le_refl _,fun _ _ _ _=>rfl,fun _ _ _ _ arr _ z h=>⟨arr,z,h,rfl,fun _ _=>rfl⟩⟩
theorem CLe.refl (C:Ctx) (n:Nat):CLe C C n:=
 ⟨fun _ _ h=> .inl h,fun _ _ h=> .inl h,fun _ h=>h,fun _ _ _ _=>rfl,fun _ _ fr h=> .inr ⟨fr,h,Nat.le_refl _⟩,fun _ b fr h=>⟨b,fr,h,Nat.le_refl _,fun _=>rfl⟩⟩
theorem Step.refl (C:Ctx) (w:World):Step C w C w:=⟨.refl _ _,.refl _ _,fun _ _ _ _ _ arr _ _ h=>⟨arr,h⟩⟩
theorem CLe.imm {C C':Ctx} {n b hi:Nat} (h:CLe C C' n) (hb:b<n) (hi':C.imm b hi):C'.imm b hi:=by
 refine ⟨fun l hl=> ?_,fun k fr hk=> ?_⟩
 ·rcases h.m2 l b hl with h1|h1|h1
  ·exact hi'.1 l h1
  ·omega
  ·obtain ⟨l0,h1,_⟩:=h1;exact hi'.1 l0 h1
 ·rcases h.o1 k b fr hk with h1|⟨fr0,h1,h2⟩
  ·omega
  ·exact Nat.le_trans (hi'.2 k fr0 h1) h2
theorem Step.trans {C C1 C2:Ctx} {w w1 w2:World} (h:Step C w C1 w1) (k:Step C1 w1 C2 w2):Step C w C2 w2:=by
 refine ⟨⟨k.ext.os.trans h.ext.os,k.ext.tape.trans h.ext.tape,k.ext.output.trans h.ext.output,Nat.le_trans h.ext.size k.ext.size, ?_, ?_⟩,⟨?_, ?_, ?_, ?_, ?_, ?_⟩, ?_⟩
 ·intro b hb hm ho
  rw[k.ext.same b (Nat.lt_of_lt_of_le hb h.ext.size),h.ext.same b hb hm ho]
  ·intro l hl
   rcases h.le.m2 l b hl with h1|h1|h1
   ·exact hm l h1
   ·omega
   ·obtain ⟨l0,h1,_⟩:=h1;exact hm l0 h1
  ·intro q fr hq
   rcases h.le.o1 q b fr hq with h1|⟨fr0,h1,_⟩
   ·omega
   ·exact ho q fr0 h1
 ·intro b hi hb him arr e z ha
  obtain ⟨arr1,z1,h1,h2,h3⟩:=h.ext.imm b hi hb him arr e z ha
  obtain ⟨arr2,z2,k1,k2,k3⟩:=k.ext.imm b hi (Nat.lt_of_lt_of_le hb h.ext.size) (h.le.imm hb him) arr1 e z1 h1
  exact ⟨arr2,z2,k1,k2.trans h2,fun i hi=>(k3 i hi).trans (h3 i hi)⟩
 ·intro l b hl
  rcases h.le.m1 l b hl with h1|h1
  ·exact k.le.m1 l b h1
  ·exact .inr (k.le.d1 l h1)
 ·intro l b hl
  rcases k.le.m2 l b hl with h1|h1|⟨l1,h1,hd1⟩
  ·rcases h.le.m2 l b h1 with h2|h2|⟨l0,h2,hd⟩
   ·exact .inl h2
   ·exact .inr (.inl h2)
   ·exact .inr (.inr ⟨l0,h2,k.le.d1 _ hd⟩)
  ·exact .inr (.inl (Nat.le_trans h.ext.size h1))
  ·rcases h.le.m2 l1 b h1 with h2|h2|⟨l0,h2,hd⟩
   ·exact .inr (.inr ⟨l1,h2,hd1⟩)
   ·exact .inr (.inl h2)
   ·exact .inr (.inr ⟨l0,h2,k.le.d1 _ hd⟩)
 ·exact fun l hl=>k.le.d1 l (h.le.d1 l hl)
 ·intro l b hl hl2
  rcases h.le.m1 l b hl with h1|h1
  ·rw[k.le.c1 l b h1 hl2,h.le.c1 l b hl h1]
  ·exact absurd hl2 (by rw[Ctx.dm (k.le.d1 l h1)];simp)
 ·intro q b fr hq
  rcases k.le.o1 q b fr hq with h1|⟨fr1,h1,h2⟩
  ·exact .inl (Nat.le_trans h.ext.size h1)
  ·rcases h.le.o1 q b fr1 h1 with h3|⟨fr0,h3,h4⟩
   ·exact .inl h3
   ·exact .inr ⟨fr0,h3,Nat.le_trans h4 h2⟩
 ·intro q b fr hq
  obtain ⟨b1,fr1,h1,h2,h3⟩:=h.le.o2 q b fr hq
  obtain ⟨b2,fr2,k1,k2,k3⟩:=k.le.o2 q b1 fr1 h1
  refine ⟨b2,fr2,k1,Nat.le_trans h2 k2,fun e=> ?_⟩
  have e1:fr1=fr:=by omega
  rw[k3 (by omega),h3 e1]
 ·intro q b fr hq hq2 arr e z ha
  obtain ⟨b1,fr1,h1,h2,h3⟩:=h.le.o2 q b fr hq
  obtain ⟨b2,fr2,k1,k2,k3⟩:=k.le.o2 q b1 fr1 h1
  rw[hq2] at k1;injection k1 with k1;injection k1 with e1 e2
  have e3:fr1=fr:=by omega
  have e4:=h3 e3
  subst e3 e4
  obtain ⟨arr1,g1⟩:=h.own q _ _ hq h1 arr e z ha
  exact k.own q _ _ h1 hq2 arr1 e z g1
theorem cell?_some {w:World} {b i:Nat} {v:Value} (h:w.cell? ⟨b,i,none⟩=some v): ∃ arr e z,w.heap[b]?=some (.cells arr e z)∧arr[i]?=some v:=by
 unfold World.cell? at h
 simp only at h
 split at h
 ·rename_i c e z hc
  simp at h
  exact ⟨c,e,z,hc,h⟩
 ·cases h
theorem cell?_of {w:World} {b i:Nat} {v:Value} {arr:Array Value} {e:TypeId} {z:Nat×Nat} (h:w.heap[b]?=some (.cells arr e z)) (hi:arr[i]?=some v):w.cell? ⟨b,i,none⟩=some v:=by
 simp[World.cell?,h,hi]
theorem Ext.cell {C:Ctx} {w w':World} (h:Ext C w w') {b hi i:Nat} (him:C.imm b hi) (hlt:i<hi) {v:Value} (hc:w.cell? ⟨b,i,none⟩=some v):w'.cell? ⟨b,i,none⟩=some v:=by
 obtain ⟨arr,e,z,h1,h2⟩:=cell?_some hc
 have hb:b<w.heap.size:=(Array.getElem?_eq_some_iff.1 h1).1
 obtain ⟨arr',z',k1,_,k3⟩:=h.imm b hi hb him arr e z h1
 exact cell?_of k1 ((k3 i hlt).trans h2)
theorem getElem?_lt {α:Type} {l:List α} {i:Nat} {a:α} (h:l[i]?=some a):i<l.length:=(List.getElem?_eq_some_iff.1 h).1
theorem Rep.step {C C':Ctx} {w w':World} (hs:Step C w C' w') {p:PV} {v:Value} (h:Rep C w p v):Rep C' w' p v:=by
 induction h with
 |bool b=>exact .bool b
 |int k n=>exact .int k n
 |str s=>exact .str s
 |nilp=>exact .nilp
 |ref l o b h=>exact .ref l o b (h.elim (hs.le.m1 l b) fun h=> .inr (hs.le.d1 l h))
 |yld l b h=>exact .yld l b (h.elim (hs.le.m1 l b) fun h=> .inr (hs.le.d1 l h))
 |mp l b h=>exact .mp l b (h.elim (hs.le.m1 l b) fun h=> .inr (hs.le.d1 l h))
 |nilm=>exact .nilm
 |msl l o n sz b off cap hn ho h=>
  refine .msl l o n sz b off cap hn ho ?_
  rcases h with ⟨h1,h2⟩|h
  ·rcases hs.le.m1 l b h1 with h3|h3
   ·exact .inl ⟨h3,by rw[hs.le.c1 l b h1 h3];exact h2⟩
   ·exact .inr h3
  ·exact .inr (hs.le.d1 l h)
 |at_ cs b off hb hi ha hc h ih=>
  have key: ∀ i p v,cs[i]?=some p→w.cell? ⟨b,off+i,none⟩=some v→w'.cell? ⟨b,off+i,none⟩=some v:=fun i p v hp hv=>
   hs.ext.cell hi (by have:=getElem?_lt hp;omega) hv
  refine .at_ cs b off (Nat.lt_of_lt_of_le hb hs.ext.size) (hs.le.imm hb hi) ha (fun i p hp=> ?_) (fun i p v hp hv=> ?_)
  ·obtain ⟨v,hv⟩:=hc i p hp
   exact ⟨v,key i p v hp hv⟩
  ·obtain ⟨u,hu⟩:=hc i p hp
   have:=key i p u hp hu
   rw[this] at hv
   injection hv with hv
   subst hv
   exact ih i p u hp hu
 |sl g xs a n cap sz hn hcap hsz hnull hexact hrow ha hc h hown ih=>
  have key: ∀ (b off:Nat) (j:Nat) (r:List PV) (i:Nat) (p:PV) (v:Value),a=some ⟨b,off,none⟩→xs[j]?=some r→r[i]?=some p→w.cell? ⟨b,off+(j*sz+i),none⟩=some v→w'.cell? ⟨b,off+(j*sz+i),none⟩=some v:=by
   intro b off j r i p v e hj hi hv
   have hne:xs≠[]:=by intro e;subst e;simp at hj
   obtain ⟨b',off',e',hb,him⟩:=hrow hne
   rw[e] at e'
   injection e' with e'
   injection e' with e1 e2
   subst e1 e2
   refine hs.ext.cell him ?_ hv
   have h1:=getElem?_lt hj
   have h2:=getElem?_lt hi
   rw[hsz j r hj] at h2
   have h3:(j+1)*sz≤xs.length*sz:=Nat.mul_le_mul_right _ h1
   rw[Nat.succ_mul] at h3
   omega
  refine .sl g xs a n cap sz hn hcap hsz hnull hexact ?_ ha ?_ ?_ ?_
  ·intro hne
   obtain ⟨b,off,e,hb,him⟩:=hrow hne
   exact ⟨b,off,e,Nat.lt_of_lt_of_le hb hs.ext.size,hs.le.imm hb him⟩
  ·intro b off j r i p e hj hi
   obtain ⟨v,hv⟩:=hc b off j r i p e hj hi
   exact ⟨v,key b off j r i p v e hj hi hv⟩
  ·intro b off j r i p v e hj hi hv
   obtain ⟨u,hu⟩:=hc b off j r i p e hj hi
   have:=key b off j r i p u e hj hi hu
   rw[this] at hv
   injection hv with hv
   subst hv
   exact ih b off j r i p u e hj hi hu
  ·intro k el hg
   obtain ⟨hne,b,fr,hk,hle,hfr⟩:=hown k el hg
   obtain ⟨b',fr',k1,k2,k3⟩:=hs.le.o2 k b fr hk
   refine ⟨hne,b',fr',k1,Nat.le_trans hle k2,fun e=> ?_⟩
   have e1:fr'=fr:=by omega
   have e2:=k3 e1
   subst e2
   rw[e1] at k1 e
   obtain ⟨ea,arr,h1,h2⟩:=hfr e
   obtain ⟨b0,off0,e0,hb0,him0⟩:=hrow hne
   rw[ea] at e0
   injection e0 with e0
   injection e0 with e3 e4
   subst e3 e4
   obtain ⟨arr',z',q1,q2,_⟩:=hs.ext.imm _ _ hb0 him0 arr el (0,0) h1
   obtain ⟨arr2,q3⟩:=hs.own k _ _ hk (by rw[k1]) arr el (0,0) h1
   rw[q1] at q3
   injection q3 with q3;injection q3 with e6 _ e7;subst e6 e7
   exact ⟨ea,arr',q1,q2.trans h2⟩
 |row g xs a n cap h ih=>exact .row g xs a n cap ih
 |fn f first caps first' caps' hf0 h1 h2 hf hc ihf ihc=>exact .fn f first caps first' caps' hf0 h1 h2 ihf ihc
 |nilfn=>exact .nilfn
 |ifc t p v h ih=>exact .ifc t p v ih
 |nilifc=>exact .nilifc
 |agg cs vs hl ha h ih=>exact .agg cs vs hl ha ih
 |tup cs vs hl h ih=>exact .tup cs vs hl ih
end Go.PE
namespace Go.PE
open Go Go.RowKit
set_option linter.unusedVariables false
set_option linter.unusedSimpArgs false
structure TR (nt:Nat) (C:Ctx) (w:World) (ts:Tmps) (tmps:Array Value):Prop where
 size:nt≤tmps.size
 get: ∀ d p,look ts d=some p→ ∃ v,tmps[d]?=some v∧Rep C w p v
def lst:Nat→LoopState
 |0=> .ready
 |1=> .busy
 |2=> .done
 |_=> .exhausted
def pendC:Option (Option Nat)→Option Code
 |none=>none
 |some none=>some .ret
 |some (some id)=>some (.exit id)
def ObAt (G:Glob) (C:Ctx) (w:World) (l b:Nat):Ob→Prop
 | .cells t cs=> ∃ arr,w.heap[b]?=some (.cells arr t (0,0))∧arr.size=cs.length∧(∀ (i:Nat) p,cs[i]?=some p→p.atom=true)∧
   ∀ (i:Nat) p v,cs[i]?=some p→arr[i]?=some v→Rep C w p v
 | .iter s pos=>w.heap[b]?=some (.stringIter s pos)
 | .loop r=> ∃ L nt,w.heap[b]?=some (.loop L)∧L.state=lst r.st∧L.pending=pendC r.pend∧L.params.toList=r.ps∧((∀ t∈r.ps,t<nt)∧r.asg.nr=true∧r.bd.nr=true)∧
   cCode G.prog nt L.assign=some (strip r.asg)∧cCode G.prog nt L.body=some (strip r.bd)∧TR nt C w r.ts L.tmps
 | .map es clock=> ∃ arr,w.heap[b]?=some (.map arr clock)∧arr.size=es.length∧
   ∀ (i:Nat) k v n m,es[i]?=some (k,v,n)→arr[i]?=some m→m.key= .string k∧m.born=n∧Rep C w v m.val
 | .row t cs=> ∃ arr,w.heap[b]?=some (.cells arr t (0,0))∧arr.size=C.c l∧cs.length≤arr.size∧(∀ (i:Nat) p,cs[i]?=some p→p.atom=true)∧
   ∀ (i:Nat) p v,cs[i]?=some p→arr[i]?=some v→Rep C w p v
 | .dead=>True
structure WRel (G:Glob) (C:Ctx) (S:St) (w:World):Prop where
 ob: ∀ l ob,S.obs[l]?=some ob→ob≠ .dead→ ∃ b,C.m l=some b∧b<w.heap.size∧ObAt G C w l b ob
 dd: ∀ l,C.d l=true→S.obs[l]?=some .dead
 nd: ∀ l b,C.m l=some b→S.obs[l]?≠some .dead
 dom: ∀ l b,C.m l=some b→l<S.obs.length
 inj: ∀ l l' b,C.m l=some b→C.m l'=some b→l=l'
 own: ∀ k fr,S.own[k]?=some fr→ ∃ b,C.o k=some (b,fr)
 odom: ∀ k b fr,C.o k=some (b,fr)→S.own[k]?=some fr∧b<w.heap.size
 oinj: ∀ k k' b fr fr',C.o k=some (b,fr)→C.o k'=some (b,fr')→k=k'
 disj: ∀ l b k fr,C.m l=some b→C.o k≠some (b,fr)
 glob: ∀ g cs,G.tab g=some cs→Rep C w (.at_ cs) (.pointer (some ⟨g,0,none⟩))
 blk: ∀ g o,G.blk g=some o→w.heap[g]?=some o∧(∀ l,C.m l≠some g)∧ ∀ k fr,C.o k≠some (g,fr)
theorem WRel.live {G:Glob} {C:Ctx} {S:St} {w:World} (hW:WRel G C S w) {l b:Nat} {ob:Ob} (h:S.obs[l]?=some ob) (hd:ob≠ .dead) (hm:C.m l=some b∨C.d l=true):C.m l=some b∧b<w.heap.size∧ObAt G C w l b ob:=by
 obtain ⟨b',h1,h2,h3⟩:=hW.ob l ob h hd
 rcases hm with hm|hm
 ·rw[h1] at hm;injection hm with hm;subst hm;exact ⟨h1,h2,h3⟩
 ·have:=hW.dd l hm;rw[h] at this;injection this with this;exact absurd this hd
theorem WRel.cellsAt {G:Glob} {C:Ctx} {S:St} {w:World} (hW:WRel G C S w) {l b:Nat} {cs:List PV} (h:S.cells l=some cs) (hm:C.m l=some b∨C.d l=true):
  C.m l=some b∧b<w.heap.size∧ ∃ arr t,w.heap[b]?=some (.cells arr t (0,0))∧cs.length≤arr.size∧(∀ (i:Nat) p,cs[i]?=some p→p.atom=true)∧ ∀ (i:Nat) p v,cs[i]?=some p→arr[i]?=some v→Rep C w p v:=by
 unfold St.cells at h
 split at h
 ·rename_i t cs' hob
  injection h with h;subst h
  obtain ⟨h1,h2,arr,g1,g2,g3,g4⟩:=hW.live hob (by simp) hm
  exact ⟨h1,h2,arr,t,g1,by omega,g3,g4⟩
 ·rename_i t cs' hob
  injection h with h;subst h
  obtain ⟨h1,h2,arr,g1,_,g2,g3,g4⟩:=hW.live hob (by simp) hm
  exact ⟨h1,h2,arr,t,g1,g2,g3,g4⟩
 ·cases h
theorem Rep.un (C:Ctx) (w:World):Rep C w .un undef:= .tup [] #[] rfl (fun i p v h=>by simp at h)
theorem TR.step {nt:Nat} {C C':Ctx} {w w':World} {ts:Tmps} {tmps:Array Value} (hs:Step C w C' w') (h:TR nt C w ts tmps):TR nt C' w' ts tmps:=
 ⟨h.size,fun d p hp=>let ⟨v,h1,h2⟩:=h.get d p hp;⟨v,h1,h2.step hs⟩⟩
theorem TR.ext {nt:Nat} {C:Ctx} {w:World} {ts ts':Tmps} {tmps:Array Value} (h:TR nt C w ts tmps) (he: ∀ d p,look ts' d=some p→look ts d=some p):TR nt C w ts' tmps:=
 ⟨h.size,fun d p hp=>h.get d p (he d p hp)⟩
theorem TR.getD {nt:Nat} {C:Ctx} {w:World} {ts:Tmps} {tmps:Array Value} (h:TR nt C w ts tmps) {t:Nat} {p:PV} (hp:look ts t=some p):Rep C w p (tmps.getD t undef):=by
 obtain ⟨v,h1,h2⟩:=h.get t p hp
 rw[Array.getD_eq_getD_getElem?,h1]
 exact h2
theorem look_sel_some {ks:List Nat} {ts:Tmps} {d:Nat} {p:PV} (h:look (sel (some ks) ts) d=some p):look ts d=some p:=by
 simp only[sel] at h
 induction ks with
 |nil=>simp[look] at h
 |cons k ks ih=>
  simp only[List.map_cons,look] at h
  split at h
  ·rename_i e;subst e;exact h
  ·exact ih h
theorem look_sel {ks:Option (List Nat)} {ts:Tmps} {d:Nat} {p:PV} (h:look (sel ks ts) d=some p):look ts d=some p:=by
 cases ks with
 |none=>exact h
 |some ks=>exact look_sel_some h
theorem TR.sel {nt:Nat} {C:Ctx} {w:World} {ts:Tmps} {tmps:Array Value} (h:TR nt C w ts tmps) (ks:Option (List Nat)):TR nt C w (PE.sel ks ts) tmps:=
 h.ext fun _ _=>look_sel
theorem TR.put {nt:Nat} {C:Ctx} {w:World} {ts:Tmps} {tmps:Array Value} {ds:List Deferred} (h:TR nt C w ts tmps) {dst:Option Nat} (hd: ∀ d,dst=some d→d<nt) {q:Option PV} {v:Value} (hr: ∀ p,q=some p→Rep C w p v):
  TR nt C w (PE.put ts dst q) (Act.put ⟨tmps,ds⟩ dst v).tmps:=by
 cases dst with
 |none=>exact h
 |some d=>
  have hlt:d<tmps.size:=Nat.lt_of_lt_of_le (hd d rfl) h.size
  refine ⟨by simpa [Act.put] using h.size,fun i p hp=> ?_⟩
  simp only[PE.put,look] at hp
  simp only[Act.put]
  split at hp
  ·rename_i e;subst e
   exact ⟨v,by simp[hlt],hr p hp⟩
  ·rename_i e
   obtain ⟨u,h1,h2⟩:=h.get i p hp
   exact ⟨u,by rw[Array.getElem?_setIfInBounds_ne (Ne.symm e)];exact h1,h2⟩
theorem atomV_rep {C:Ctx} {w:World}: ∀ {v:Value} {p:PV},atomV v=some p→Rep C w p v
 | .bool b,p,h=>by simp[atomV] at h;subst h;exact .bool b
 | .int k n,p,h=>by simp[atomV] at h;subst h;exact .int k n
 | .string s,p,h=>by simp[atomV] at h;subst h;exact .str s
 | .pointer none,p,h=>by simp[atomV] at h;subst h;exact .nilp
 | .map none,p,h=>by simp[atomV] at h;subst h;exact .nilm
 | .pointer (some a),p,h=>by simp[atomV] at h
 | .slice none 0 0,p,h=>by
  simp[atomV] at h;subst h
  exact .sl .null [] none 0 0 0 rfl (Nat.le_refl _) (by simp) (fun _=>⟨rfl,rfl,rfl⟩) (fun h=>by cases h) (fun h=>absurd rfl h) (by simp) (by simp) (by simp) (fun k e h=>by cases h)
 | .slice (some a) l c,p,h=>by simp[atomV] at h
 | .slice none (l+1) c,p,h=>by simp[atomV] at h
 | .slice none 0 (c+1),p,h=>by simp[atomV] at h
 | .nilFunc,p,h=>by simp[atomV] at h;subst h;exact .nilfn
 | .nilIface,p,h=>by simp[atomV] at h;subst h;exact .nilifc
 | .iface t v,p,h=>by
  simp only[atomV,Option.map_eq_some_iff] at h
  obtain ⟨q,hq,rfl⟩:=h
  exact .ifc t q v (atomV_rep hq)
 | .float _ _,p,h=>by simp[atomV] at h
 | .complex _ _ _,p,h=>by simp[atomV] at h
 | .map (some _),p,h=>by simp[atomV] at h
 | .chan _,p,h=>by simp[atomV] at h
 | .func _ _ _,p,h=>by simp[atomV] at h
 | .agg _,p,h=>by simp[atomV] at h
 | .tuple _,p,h=>by simp[atomV] at h
theorem atomV_atom: ∀ {v:Value} {p:PV},atomV v=some p→p.atom=true∧vAtom v=true:=by
 intro v p h
 unfold atomV at h
 split at h<;>first|(simp at h;subst h;exact ⟨rfl,rfl⟩)|(simp only[Option.map_eq_some_iff] at h;obtain ⟨q,_,rfl⟩:=h;exact ⟨rfl,rfl⟩)|cases h
theorem mapM_some {α β:Type} {f:α→Option β}: ∀ {l:List α} {m:List β},l.mapM f=some m→m.length=l.length∧ ∀ (i:Nat) a b,l[i]?=some a→m[i]?=some b→f a=some b
 |[],m,h=>by simp at h;subst h;exact ⟨rfl,by simp⟩
 |x::l,m,h=>by
  rw[List.mapM_cons] at h
  simp only[bind,Option.bind_eq_some_iff,pure,Option.some.injEq] at h
  obtain ⟨y,hy,m',hm,rfl⟩:=h
  obtain ⟨h1,h2⟩:=mapM_some hm
  refine ⟨by simp[h1],fun i a b ha hb=> ?_⟩
  cases i with
  |zero=>simp at ha hb;subst ha hb;exact hy
  |succ i=>exact h2 i a b (by simpa using ha) (by simpa using hb)
theorem ofV_rep {C:Ctx} {w:World} {v:Value} {p:PV} (h:ofV v=some p):Rep C w p v:=by
 unfold ofV at h
 split at h
 ·rename_i cs
  simp only[Option.map_eq_some_iff] at h
  obtain ⟨l,hl,rfl⟩:=h
  obtain ⟨h1,h2⟩:=mapM_some hl
  have hat: ∀ (i:Nat) q,l[i]?=some q→ ∃ u,cs[i]?=some u∧atomV u=some q:=by
   intro i q hq
   have hi:i<cs.toList.length:=by rw[←h1];exact getElem?_lt hq
   have hu:cs.toList[i]?=some cs.toList[i]:=List.getElem?_eq_getElem hi
   exact ⟨_,by rw[←Array.getElem?_toList];exact hu,h2 i _ _ hu hq⟩
  refine .agg l cs (by simpa using h1.symm) (fun i q hq=> ?_) (fun i q u hq hu=> ?_)
  ·obtain ⟨u,_,hu⟩:=hat i q hq
   exact (atomV_atom hu).1
  ·obtain ⟨u',hu',ha⟩:=hat i q hq
   rw[hu] at hu'
   injection hu' with e
   subst e
   exact atomV_rep ha
 ·rename_i vs
  split at h
  ·rename_i he
   simp at h
   subst h
   have:vs= #[]:=by simpa using he
   subst this
   exact .un C w
  ·cases h
 ·exact atomV_rep h
theorem opd_rep {G:Glob} {C:Ctx} {S:St} {w:World} {nt:Nat} {ts:Tmps} {a:Act} (hW:WRel G C S w) (hT:TR nt C w ts a.tmps) {x:Operand} {e:EOpd} (hc:cOpd x=some e) {p:PV} (hv:e.val G ts=some p):
  Rep C w p (a.eval x):=by
 cases x with
 |tmp t=>
  simp[cOpd] at hc;subst hc
  exact hT.getD hv
 |const v=>
  simp only[cOpd,Option.map_eq_some_iff] at hc
  obtain ⟨q,hq,rfl⟩:=hc
  simp[EOpd.val] at hv;subst hv
  exact ofV_rep hq
 |global g=>
  simp[cOpd] at hc;subst hc
  simp only[EOpd.val,Option.map_eq_some_iff] at hv
  obtain ⟨cs,hg,rfl⟩:=hv
  exact hW.glob g cs hg
 |func f=>
  simp only[cOpd] at hc
  split at hc
  ·rename_i hf;injection hc with hc;subst hc
   simp[EOpd.val] at hv;subst hv
   exact .fn f [] [] #[] #[] hf rfl rfl (by simp) (by simp)
  ·cases hc
theorem vals_rep {G:Glob} {C:Ctx} {S:St} {w:World} {nt:Nat} {ts:Tmps} {a:Act} (hW:WRel G C S w) (hT:TR nt C w ts a.tmps): ∀ {xs:List Operand} {es:List EOpd} {ps:List PV},xs.mapM cOpd=some es→vals G ts es=some ps→
  RepL C w ps (xs.map a.eval)
 |[],es,ps,h,hv=>by
  simp at h;subst h;simp[vals] at hv;subst hv
  exact ⟨rfl,by simp⟩
 |x::xs,es,ps,h,hv=>by
  rw[List.mapM_cons] at h
  simp only[bind,Option.bind_eq_some_iff,pure,Option.some.injEq] at h
  obtain ⟨e,he,es',hes,rfl⟩:=h
  simp only[vals,Option.bind_eq_some_iff,Option.map_eq_some_iff] at hv
  obtain ⟨p,hp,ps',hps,rfl⟩:=hv
  obtain ⟨h1,h2⟩:=vals_rep hW hT hes hps
  refine ⟨by simpa using h1,fun i q u hq hu=> ?_⟩
  cases i with
  |zero=>simp at hq hu;subst hq hu;exact opd_rep hW hT he hp
  |succ i=>exact h2 i q u (by simpa using hq) (by simpa using hu)
theorem wp_value {P:Program} {o:Oper} {a:Act} {w w':World} {v:Value} {K:Act→World→Prop} {Q:Exit→Act→World→Prop}
  (h:(execOp a.eval o).run P w= .ok (.value v) w') (hk:K (a.put o.dst v) w'):o.wp P a w K Q:=by
 unfold Oper.wp;rw[h];exact hk
theorem wp_skip' {P:Program} {o:Oper} {a:Act} {w w':World} {K:Act→World→Prop} {Q:Exit→Act→World→Prop}
  (h:(execOp a.eval o).run P w= .ok .skip w') (hk:K (a.put o.dst undef) w'):o.wp P a w K Q:=by
 unfold Oper.wp;rw[h];exact hk
def Does (P:Program) (G:Glob) (C:Ctx) (w:World) (S':St) (v:PV) (o:Oper) (a:Act):Prop:=
 ∀ (K:Act→World→Prop) (Q:Exit→Act→World→Prop),
  (∀ C' w' v',Rep C' w' v v'→WRel G C' S' w'→Step C w C' w'→K (a.put o.dst v') w')→o.wp P a w K Q
theorem Does.pure {P:Program} {G:Glob} {C:Ctx} {w:World} {S:St} {v:PV} {o:Oper} {a:Act} (hW:WRel G C S w) {v':Value}
  (h:(execOp a.eval o).run P w= .ok (.value v') w) (hr:Rep C w v v'):Does P G C w S v o a:=
 fun K Q hk=>wp_value h (hk C w v' hr hW (.refl C w))
theorem underlying_run {P:Program} {t:TypeId} {d:TypeDesc} (h:P.underlying t=some d) (w:World):(underlying t).run P w= .ok d w:=by
 simp[underlying,h]
theorem typeInfo_run {P:Program} {t:TypeId} {i:TypeInfo} (h:P.info? t=some i) (w:World):(typeInfo t).run P w= .ok i w:=by
 simp[typeInfo,h]
theorem sizeOf_run {P:Program} {t:TypeId} {n:Nat} (h:sizeP P t=some n) (w:World):(Go.sizeOf t).run P w= .ok n w:=by
 simp only[sizeP,Option.map_eq_some_iff] at h
 obtain ⟨i,hi,rfl⟩:=h
 simp[Go.sizeOf,typeInfo_run hi]
theorem zeroValue_run {P:Program} {t:TypeId} {p:PV} (h:zeroP P t=some p) (w:World): ∃ z,(zeroValue t).run P w= .ok z w∧ofV z=some p∧p.okc=true:=by
 simp only[zeroP,Option.bind_eq_some_iff] at h
 obtain ⟨q,⟨z,⟨i,hi,hz⟩,hp⟩,hq⟩:=h
 split at hq
 ·simp at hq;subst hq
  exact ⟨z,by simp[zeroValue,typeInfo_run hi,hz],hp,by assumption⟩
 ·cases hq
theorem aggN_run {P:Program} {t:TypeId} {n:Option Nat} (h:aggN P t=some n) (w:World):(isAgg t).run P w= .ok n.isSome w∧(∀ k,n=some k→(Go.sizeOf t).run P w= .ok k w):=by
 unfold aggN at h
 split at h
 ·rename_i d i hu hi
  simp at h;subst h
  exact ⟨by simp[isAgg,underlying_run hu],fun k hk=>by simp at hk;subst hk;simp[Go.sizeOf,typeInfo_run hi]⟩
 ·rename_i d i hu hi
  simp at h;subst h
  exact ⟨by simp[isAgg,underlying_run hu],fun k hk=>by simp at hk;subst hk;simp[Go.sizeOf,typeInfo_run hi]⟩
 ·rename_i d i h1 h2 hu hi
  simp at h;subst h
  refine ⟨?_,fun k hk=>by cases hk⟩
  simp[isAgg,underlying_run hu]
 ·cases h
end Go.PE
