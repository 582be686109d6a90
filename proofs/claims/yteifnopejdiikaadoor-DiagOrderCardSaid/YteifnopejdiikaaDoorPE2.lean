/-
  How values without addresses stand for values in memory, and what a step may turn. Conditions: each law's own.
-/
import Derived.Test.YteifnopejdiikaaDoorPE1
import Derived.Laws.Strings
namespace Go.PE
set_option linter.unusedVariables false
set_option linter.unusedSimpArgs false
theorem strEq_eq (a b:ByteArray):strEq a b=(a.toList==b.toList):=by simp[strEq,ByteArray.toList_eq]
theorem strLt_eq (a b:ByteArray):strLt a b=Op.bytesLess a.toList b.toList:=by simp[strLt,ByteArray.toList_eq]
theorem strEq_iff {a b:ByteArray}:strEq a b=true↔a=b:=by
 obtain ⟨a⟩:=a;obtain ⟨b⟩:=b
 simp[strEq]
theorem strEq_refl (a:ByteArray):strEq a a=true:=strEq_iff.2 rfl
def PV.atom:PV→Bool
 | .agg _| .tup _=>false
 |_=>true
def vAtom:Value→Bool
 | .agg _| .tuple _=>false
 |_=>true
structure Ctx where
 p:Nat→Option (Option Nat)
 o:Nat→Option (Nat×Nat)
 c:Nat→Nat
def Ctx.m (C:Ctx) (l:Nat):Option Nat:=(C.p l).join
def Ctx.d (C:Ctx) (l:Nat):Bool:=C.p l==some none
theorem Ctx.dm {C:Ctx} {l:Nat} (h:C.d l=true):C.m l=none:=by
 simp only[Ctx.d,beq_iff_eq] at h
 simp[Ctx.m,h]
def Ctx.imm (C:Ctx) (b hi:Nat):Prop:=(∀ l,C.m l≠some b)∧ ∀ k fr,C.o k=some (b,fr)→hi≤fr
inductive Rep (C:Ctx) (w:World):PV→Value→Prop where
 |bool (b:Bool):Rep C w (.bool b) (.bool b)
 |int (k:IntKind) (n:Int):Rep C w (.int k n) (.int k n)
 |str (s:ByteArray):Rep C w (.str s) (.string s)
 |nilp:Rep C w .nilp (.pointer none)
 |ref (l o b:Nat) (h:C.m l=some b∨C.d l=true):Rep C w (.ref l o) (.pointer (some ⟨b,o,none⟩))
 |yld (l b:Nat) (h:C.m l=some b∨C.d l=true):Rep C w (.yld l) (.func (.yield b) #[] #[])
 |mp (l b:Nat) (h:C.m l=some b∨C.d l=true):Rep C w (.mp l) (.map (some b))
 |nilm:Rep C w .nilm (.map none)
 |msl (l o n sz b off cap:Nat) (hn:n≤cap) (ho:n≠0→off=o) (h:(C.m l=some b∧off+cap*sz≤C.c l)∨C.d l=true):Rep C w (.msl l o n sz) (.slice (some ⟨b,off,none⟩) n cap)
 |at_ (cs:List PV) (b off:Nat) (hb:b<w.heap.size) (hi:C.imm b (off+cs.length)) (ha: ∀ (i:Nat) (p:PV),cs[i]?=some p→p.atom=true)
   (hc: ∀ (i:Nat) (p:PV),cs[i]?=some p→ ∃ v,w.cell? ⟨b,off+i,none⟩=some v)
   (h: ∀ (i:Nat) (p:PV) (v:Value),cs[i]?=some p→w.cell? ⟨b,off+i,none⟩=some v→Rep C w p v):Rep C w (.at_ cs) (.pointer (some ⟨b,off,none⟩))
 |sl (g:Tag) (xs:List (List PV)) (a:Option Addr) (n cap sz:Nat) (hn:n=xs.length) (hcap:xs.length≤cap) (hsz: ∀ (j:Nat) (r:List PV),xs[j]?=some r→r.length=sz)
   (hnull:g= .null→a=none∧xs=[]∧cap=0) (hexact:g= .exact→cap=xs.length)
   (hrow:xs≠[]→ ∃ b off,a=some ⟨b,off,none⟩∧b<w.heap.size∧C.imm b (off+xs.length*sz))
   (ha: ∀ (j:Nat) (r:List PV) (i:Nat) (p:PV),xs[j]?=some r→r[i]?=some p→p.atom=true)
   (hc: ∀ (b off:Nat) (j:Nat) (r:List PV) (i:Nat) (p:PV),a=some ⟨b,off,none⟩→xs[j]?=some r→r[i]?=some p→ ∃ v,w.cell? ⟨b,off+(j*sz+i),none⟩=some v)
   (h: ∀ (b off:Nat) (j:Nat) (r:List PV) (i:Nat) (p:PV) (v:Value),a=some ⟨b,off,none⟩→xs[j]?=some r→r[i]?=some p→w.cell? ⟨b,off+(j*sz+i),none⟩=some v→Rep C w p v)
   (hown: ∀ k e,g= .own k e→xs≠[]∧ ∃ b fr,C.o k=some (b,fr)∧xs.length*sz≤fr∧(fr=xs.length*sz→a=some ⟨b,0,none⟩∧ ∃ arr,w.heap[b]?=some (.cells arr e (0,0))∧arr.size=cap*sz)):
   Rep C w (.sl g xs) (.slice a n cap)
 |row (g:Tag) (xs:List (List PV)) (a:Option Addr) (n cap:Nat) (h:Rep C w (.sl g xs) (.slice a n cap)):Rep C w (.row g xs) (.pointer a)
 |fn (f:FuncId) (first caps:List PV) (first' caps':Array Value) (hf0:f<yid) (h1:first'.size=first.length) (h2:caps'.size=caps.length)
   (hf: ∀ (i:Nat) (p:PV) (v:Value),first[i]?=some p→first'[i]?=some v→Rep C w p v) (hc: ∀ (i:Nat) (p:PV) (v:Value),caps[i]?=some p→caps'[i]?=some v→Rep C w p v):
   Rep C w (.fn f first caps) (.func (.func f) first' caps')
 |nilfn:Rep C w .nilfn .nilFunc
 |ifc (t:TypeId) (p:PV) (v:Value) (h:Rep C w p v):Rep C w (.ifc t p) (.iface t v)
 |nilifc:Rep C w .nilifc .nilIface
 |agg (cs:List PV) (vs:Array Value) (hl:vs.size=cs.length) (ha: ∀ (i:Nat) (p:PV),cs[i]?=some p→p.atom=true)
   (h: ∀ (i:Nat) (p:PV) (v:Value),cs[i]?=some p→vs[i]?=some v→Rep C w p v):Rep C w (.agg cs) (.agg vs)
 |tup (cs:List PV) (vs:Array Value) (hl:vs.size=cs.length) (h: ∀ (i:Nat) (p:PV) (v:Value),cs[i]?=some p→vs[i]?=some v→Rep C w p v):Rep C w (.tup cs) (.tuple vs)
def RepL (C:Ctx) (w:World) (ps:List PV) (vs:List Value):Prop:=
 vs.length=ps.length∧ ∀ (i:Nat) (p:PV) (v:Value),ps[i]?=some p→vs[i]?=some v→Rep C w p v
structure Ext (C:Ctx) (w w':World):Prop where
 os:w'.os=w.os
 tape:w'.tape=w.tape
 output:w'.output=w.output
 size:w.heap.size≤w'.heap.size
 same: ∀ b,b<w.heap.size→(∀ l,C.m l≠some b)→(∀ k fr,C.o k≠some (b,fr))→w'.heap[b]?=w.heap[b]?
 imm: ∀ b hi,b<w.heap.size→C.imm b hi→ ∀ arr e z,w.heap[b]?=some (.cells arr e z)→
  ∃ arr' z',w'.heap[b]?=some (.cells arr' e z')∧arr'.size=arr.size∧ ∀ i,i<hi→arr'[i]?=arr[i]?
structure CLe (C C':Ctx) (n:Nat):Prop where
 m1: ∀ l b,C.m l=some b→C'.m l=some b∨C'.d l=true
 m2: ∀ l b,C'.m l=some b→C.m l=some b∨n≤b∨ ∃ l0,C.m l0=some b∧C'.d l0=true
 d1: ∀ l,C.d l=true→C'.d l=true
 c1: ∀ l b,C.m l=some b→C'.m l=some b→C'.c l=C.c l
 o1: ∀ k b fr,C'.o k=some (b,fr)→n≤b∨ ∃ fr0,C.o k=some (b,fr0)∧fr0≤fr
 o2: ∀ k b fr,C.o k=some (b,fr)→ ∃ b' fr',C'.o k=some (b',fr')∧fr≤fr'∧(fr'=fr→b'=b)
structure Step (C:Ctx) (w:World) (C':Ctx) (w':World):Prop where
 ext:Ext C w w'
 le:CLe C C' w.heap.size
 own: ∀ k b fr,C.o k=some (b,fr)→C'.o k=some (b,fr)→ ∀ arr e z,w.heap[b]?=some (.cells arr e z)→ ∃ arr',w'.heap[b]?=some (.cells arr' e z)
theorem Ext.refl (C:Ctx) (w:World):Ext C w w:=
 ⟨rfl,rfl,rfl,Nat.le_refl _,fun _ _ _ _=>rfl,fun _ _ _ _ arr _ z h=>⟨arr,z,h,rfl,fun _ _=>rfl⟩⟩
theorem CLe.refl (C:Ctx) (n:Nat):CLe C C n:=
 ⟨fun _ _ h=> .inl h,fun _ _ h=> .inl h,fun _ h=>h,fun _ _ _ _=>rfl,fun _ _ fr h=> .inr ⟨fr,h,Nat.le_refl _⟩,fun _ b fr h=>⟨b,fr,h,Nat.le_refl _,fun _=>rfl⟩⟩
theorem Step.refl (C:Ctx) (w:World):Step C w C w:=⟨.refl _ _,.refl _ _,fun _ _ _ _ _ arr _ _ h=>⟨arr,h⟩⟩
theorem CLe.imm {C C':Ctx} {n b hi:Nat} (h:CLe C C' n) (hb:b<n) (hi':C.imm b hi):C'.imm b hi:=by
 refine ⟨fun l hl=> ?_,fun k fr hk=> ?_⟩
 ·rcases h.m2 l b hl with h1|h1|h1
  ·exact hi'.1 l h1
  ·omega
  ·obtain ⟨l0,h1,_⟩:=h1;exact hi'.1 l0 h1
 ·rcases h.o1 k b fr hk with h1|⟨fr0,h1,h2⟩
  ·omega
  ·exact Nat.le_trans (hi'.2 k fr0 h1) h2
theorem Step.trans {C C1 C2:Ctx} {w w1 w2:World} (h:Step C w C1 w1) (k:Step C1 w1 C2 w2):Step C w C2 w2:=by
 refine ⟨⟨k.ext.os.trans h.ext.os,k.ext.tape.trans h.ext.tape,k.ext.output.trans h.ext.output,Nat.le_trans h.ext.size k.ext.size, ?_, ?_⟩,⟨?_, ?_, ?_, ?_, ?_, ?_⟩, ?_⟩
 ·intro b hb hm ho
  rw[k.ext.same b (Nat.lt_of_lt_of_le hb h.ext.size),h.ext.same b hb hm ho]
  ·intro l hl
   rcases h.le.m2 l b hl with h1|h1|h1
   ·exact hm l h1
   ·omega
   ·obtain ⟨l0,h1,_⟩:=h1;exact hm l0 h1
  ·intro q fr hq
   rcases h.le.o1 q b fr hq with h1|⟨fr0,h1,_⟩
   ·omega
   ·exact ho q fr0 h1
 ·intro b hi hb him arr e z ha
  obtain ⟨arr1,z1,h1,h2,h3⟩:=h.ext.imm b hi hb him arr e z ha
  obtain ⟨arr2,z2,k1,k2,k3⟩:=k.ext.imm b hi (Nat.lt_of_lt_of_le hb h.ext.size) (h.le.imm hb him) arr1 e z1 h1
  exact ⟨arr2,z2,k1,k2.trans h2,fun i hi=>(k3 i hi).trans (h3 i hi)⟩
 ·intro l b hl
  rcases h.le.m1 l b hl with h1|h1
  ·exact k.le.m1 l b h1
  ·exact .inr (k.le.d1 l h1)
 ·intro l b hl
  rcases k.le.m2 l b hl with h1|h1|⟨l1,h1,hd1⟩
  ·rcases h.le.m2 l b h1 with h2|h2|⟨l0,h2,hd⟩
   ·exact .inl h2
   ·exact .inr (.inl h2)
   ·exact .inr (.inr ⟨l0,h2,k.le.d1 _ hd⟩)
  ·exact .inr (.inl (Nat.le_trans h.ext.size h1))
  ·rcases h.le.m2 l1 b h1 with h2|h2|⟨l0,h2,hd⟩
   ·exact .inr (.inr ⟨l1,h2,hd1⟩)
   ·exact .inr (.inl h2)
   ·exact .inr (.inr ⟨l0,h2,k.le.d1 _ hd⟩)
 ·exact fun l hl=>k.le.d1 l (h.le.d1 l hl)
 ·intro l b hl hl2
  rcases h.le.m1 l b hl with h1|h1
  ·rw[k.le.c1 l b h1 hl2,h.le.c1 l b hl h1]
  ·exact absurd hl2 (by rw[Ctx.dm (k.le.d1 l h1)];simp)
 ·intro q b fr hq
  rcases k.le.o1 q b fr hq with h1|⟨fr1,h1,h2⟩
  ·exact .inl (Nat.le_trans h.ext.size h1)
  ·rcases h.le.o1 q b fr1 h1 with h3|⟨fr0,h3,h4⟩
   ·exact .inl h3
   ·exact .inr ⟨fr0,h3,Nat.le_trans h4 h2⟩
 ·intro q b fr hq
  obtain ⟨b1,fr1,h1,h2,h3⟩:=h.le.o2 q b fr hq
  obtain ⟨b2,fr2,k1,k2,k3⟩:=k.le.o2 q b1 fr1 h1
  refine ⟨b2,fr2,k1,Nat.le_trans h2 k2,fun e=> ?_⟩
  have e1:fr1=fr:=by omega
  rw[k3 (by omega),h3 e1]
 ·intro q b fr hq hq2 arr e z ha
  obtain ⟨b1,fr1,h1,h2,h3⟩:=h.le.o2 q b fr hq
  obtain ⟨b2,fr2,k1,k2,k3⟩:=k.le.o2 q b1 fr1 h1
  rw[hq2] at k1;injection k1 with k1;injection k1 with e1 e2
  have e3:fr1=fr:=by omega
  have e4:=h3 e3
  subst e3 e4
  obtain ⟨arr1,g1⟩:=h.own q _ _ hq h1 arr e z ha
  exact k.own q _ _ h1 hq2 arr1 e z g1
theorem cell?_some {w:World} {b i:Nat} {v:Value} (h:w.cell? ⟨b,i,none⟩=some v): ∃ arr e z,w.heap[b]?=some (.cells arr e z)∧arr[i]?=some v:=by
 unfold World.cell? at h
 simp only at h
 split at h
 ·rename_i c e z hc
  simp at h
  exact ⟨c,e,z,hc,h⟩
 ·cases h
theorem cell?_of {w:World} {b i:Nat} {v:Value} {arr:Array Value} {e:TypeId} {z:Nat×Nat} (h:w.heap[b]?=some (.cells arr e z)) (hi:arr[i]?=some v):w.cell? ⟨b,i,none⟩=some v:=by
 simp[World.cell?,h,hi]
theorem Ext.cell {C:Ctx} {w w':World} (h:Ext C w w') {b hi i:Nat} (him:C.imm b hi) (hlt:i<hi) {v:Value} (hc:w.cell? ⟨b,i,none⟩=some v):w'.cell? ⟨b,i,none⟩=some v:=by
 obtain ⟨arr,e,z,h1,h2⟩:=cell?_some hc
 have hb:b<w.heap.size:=(Array.getElem?_eq_some_iff.1 h1).1
 obtain ⟨arr',z',k1,_,k3⟩:=h.imm b hi hb him arr e z h1
 exact cell?_of k1 ((k3 i hlt).trans h2)
theorem getElem?_lt {α:Type} {l:List α} {i:Nat} {a:α} (h:l[i]?=some a):i<l.length:=(List.getElem?_eq_some_iff.1 h).1
theorem Rep.step {C C':Ctx} {w w':World} (hs:Step C w C' w') {p:PV} {v:Value} (h:Rep C w p v):Rep C' w' p v:=by
 induction h with
 |bool b=>exact .bool b
 |int k n=>exact .int k n
 |str s=>exact .str s
 |nilp=>exact .nilp
 |ref l o b h=>exact .ref l o b (h.elim (hs.le.m1 l b) fun h=> .inr (hs.le.d1 l h))
 |yld l b h=>exact .yld l b (h.elim (hs.le.m1 l b) fun h=> .inr (hs.le.d1 l h))
 |mp l b h=>exact .mp l b (h.elim (hs.le.m1 l b) fun h=> .inr (hs.le.d1 l h))
 |nilm=>exact .nilm
 |msl l o n sz b off cap hn ho h=>
  refine .msl l o n sz b off cap hn ho ?_
  rcases h with ⟨h1,h2⟩|h
  ·rcases hs.le.m1 l b h1 with h3|h3
   ·exact .inl ⟨h3,by rw[hs.le.c1 l b h1 h3];exact h2⟩
   ·exact .inr h3
  ·exact .inr (hs.le.d1 l h)
 |at_ cs b off hb hi ha hc h ih=>
  have key: ∀ i p v,cs[i]?=some p→w.cell? ⟨b,off+i,none⟩=some v→w'.cell? ⟨b,off+i,none⟩=some v:=fun i p v hp hv=>
   hs.ext.cell hi (by have:=getElem?_lt hp;omega) hv
  refine .at_ cs b off (Nat.lt_of_lt_of_le hb hs.ext.size) (hs.le.imm hb hi) ha (fun i p hp=> ?_) (fun i p v hp hv=> ?_)
  ·obtain ⟨v,hv⟩:=hc i p hp
   exact ⟨v,key i p v hp hv⟩
  ·obtain ⟨u,hu⟩:=hc i p hp
   have:=key i p u hp hu
   rw[this] at hv
   injection hv with hv
   subst hv
   exact ih i p u hp hu
 |sl g xs a n cap sz hn hcap hsz hnull hexact hrow ha hc h hown ih=>
  have key: ∀ (b off:Nat) (j:Nat) (r:List PV) (i:Nat) (p:PV) (v:Value),a=some ⟨b,off,none⟩→xs[j]?=some r→r[i]?=some p→w.cell? ⟨b,off+(j*sz+i),none⟩=some v→w'.cell? ⟨b,off+(j*sz+i),none⟩=some v:=by
   intro b off j r i p v e hj hi hv
   have hne:xs≠[]:=by intro e;subst e;simp at hj
   obtain ⟨b',off',e',hb,him⟩:=hrow hne
   rw[e] at e'
   injection e' with e'
   injection e' with e1 e2
   subst e1 e2
   refine hs.ext.cell him ?_ hv
   have h1:=getElem?_lt hj
   have h2:=getElem?_lt hi
   rw[hsz j r hj] at h2
   have h3:(j+1)*sz≤xs.length*sz:=Nat.mul_le_mul_right _ h1
   rw[Nat.succ_mul] at h3
   omega
  refine .sl g xs a n cap sz hn hcap hsz hnull hexact ?_ ha ?_ ?_ ?_
  ·intro hne
   obtain ⟨b,off,e,hb,him⟩:=hrow hne
   exact ⟨b,off,e,Nat.lt_of_lt_of_le hb hs.ext.size,hs.le.imm hb him⟩
  ·intro b off j r i p e hj hi
   obtain ⟨v,hv⟩:=hc b off j r i p e hj hi
   exact ⟨v,key b off j r i p v e hj hi hv⟩
  ·intro b off j r i p v e hj hi hv
   obtain ⟨u,hu⟩:=hc b off j r i p e hj hi
   have:=key b off j r i p u e hj hi hu
   rw[this] at hv
   injection hv with hv
   subst hv
   exact ih b off j r i p u e hj hi hu
  ·intro k el hg
   obtain ⟨hne,b,fr,hk,hle,hfr⟩:=hown k el hg
   obtain ⟨b',fr',k1,k2,k3⟩:=hs.le.o2 k b fr hk
   refine ⟨hne,b',fr',k1,Nat.le_trans hle k2,fun e=> ?_⟩
   have e1:fr'=fr:=by omega
   have e2:=k3 e1
   subst e2
   rw[e1] at k1 e
   obtain ⟨ea,arr,h1,h2⟩:=hfr e
   obtain ⟨b0,off0,e0,hb0,him0⟩:=hrow hne
   rw[ea] at e0
   injection e0 with e0
   injection e0 with e3 e4
   subst e3 e4
   obtain ⟨arr',z',q1,q2,_⟩:=hs.ext.imm _ _ hb0 him0 arr el (0,0) h1
   obtain ⟨arr2,q3⟩:=hs.own k _ _ hk (by rw[k1]) arr el (0,0) h1
   rw[q1] at q3
   injection q3 with q3;injection q3 with e6 _ e7;subst e6 e7
   exact ⟨ea,arr',q1,q2.trans h2⟩
 |row g xs a n cap h ih=>exact .row g xs a n cap ih
 |fn f first caps first' caps' hf0 h1 h2 hf hc ihf ihc=>exact .fn f first caps first' caps' hf0 h1 h2 ihf ihc
 |nilfn=>exact .nilfn
 |ifc t p v h ih=>exact .ifc t p v ih
 |nilifc=>exact .nilifc
 |agg cs vs hl ha h ih=>exact .agg cs vs hl ha ih
 |tup cs vs hl h ih=>exact .tup cs vs hl ih
end Go.PE
