/-
  Reading texts of expressions: words, numbers, quoted texts, types. No conditions.
-/
import Derived.Test.YtleggogbmklddaaGreatDoorEX6
import Derived.Test.YtleggogbmklddaaGreatDoorF5e
namespace Go.PE
open Go Go.RowKit Go.Proofs
set_option linter.unusedVariables false
set_option linter.unusedSimpArgs false
set_option maxRecDepth 100000
def wd:List UInt8→List UInt8×List UInt8
 |[]=>([],[])
 |c::r=>if alnum c then (c::(wd r).1,(wd r).2) else ([],c::r)
theorem wd_app: ∀ {w u:List UInt8},(∀ c∈w,alnum c=true)→outA u→wd (w++u)=(w,u)
 |[],[],_,_=>rfl
 |[],c::u,_,hu=>by
  have:alnum c=false:=hu
  simp[wd,this]
 |c::w,u,h,hu=>by
  have ih:=wd_app (w:=w) (u:=u) (fun x hx=>h x (by simp[hx])) hu
  rw[List.cons_append,wd,h c (by simp),ih];rfl
def eat:List UInt8→List UInt8→Option (List UInt8)
 |[],s=>some s
 |c::p,d::s=>if c=d then eat p s else none
 |_::_,[]=>none
def unhex (c:UInt8):Nat:=if c.toNat<58 then c.toNat - 48 else c.toNat - 87
def unq:List UInt8→Option (UInt8×List UInt8)
 |92::110::r=>some (10,r)
 |92::120::a::b::r=>some (UInt8.ofNat (unhex a*16+unhex b),r)
 |92::c::r=>some (c,r)
 |c::r=>some (c,r)
 |[]=>none
theorem unhex_hx: ∀ k,k<16→unhex (hx k)=k:=by decide
theorem unq_qc (c:UInt8) (r:List UInt8):unq (qc c++r)=some (c,r):=by
 unfold qc
 split
 ·rename_i h
  simp only[Bool.or_eq_true,beq_iff_eq] at h
  have:c=34∨c=92:=by
   rcases h with h|h
   ·exact .inl (UInt8.toNat_inj.1 (by show c.toNat=34;omega))
   ·exact .inr (UInt8.toNat_inj.1 (by show c.toNat=92;omega))
  rcases this with rfl|rfl<;>rfl
 ·split
  ·rename_i h
   have h':(c.toNat:Int)=10:=by simpa using h
   have:c=10:=UInt8.toNat_inj.1 (by show c.toNat=10;omega)
   subst this;rfl
  ·split
   ·have hlt:c.toNat<256:=UInt8.toNat_lt c
    have h1:=unhex_hx (c.toNat / 16) (by omega)
    have h2:=unhex_hx (c.toNat % 16) (by omega)
    show some (UInt8.ofNat (unhex (hx (c.toNat / 16))*16+unhex (hx (c.toNat % 16))),r)=some (c,r)
    rw[h1,h2]
    have:c.toNat / 16*16+c.toNat % 16=c.toNat:=by omega
    rw[this,UInt8.ofNat_toNat]
   ·rename_i h1 h2 h3
    have hn:c≠92:=fun e=>by subst e;exact h1 (by decide)
    show unq (c::r)=_
    unfold unq
    split<;>simp_all
theorem qc_first (c:UInt8): ∃ d r,qc c=d::r∧d≠34:=by
 unfold qc
 split
 ·exact ⟨92,_,rfl,by decide⟩
 ·split
  ·exact ⟨92,_,rfl,by decide⟩
  ·split
   ·exact ⟨92,_,rfl,by decide⟩
   ·rename_i h1 h2 h3
    exact ⟨c,_,rfl,fun e=>by subst e;exact h1 (by decide)⟩
theorem quote_inj: ∀ (l m u v:List UInt8),l.flatMap qc++34::u=m.flatMap qc++34::v→l=m∧u=v
 |[],[],u,v,h=>by simpa using h
 |[],d::m,u,v,h=>by
  obtain ⟨x,r,e,hx⟩:=qc_first d
  rw[List.flatMap_cons,e] at h
  simp at h;exact absurd h.1.symm hx
 |c::l,[],u,v,h=>by
  obtain ⟨x,r,e,hx⟩:=qc_first c
  rw[List.flatMap_cons,e] at h
  simp at h;exact absurd h.1 hx
 |c::l,d::m,u,v,h=>by
  rw[List.flatMap_cons,List.flatMap_cons,List.append_assoc,List.append_assoc] at h
  have h2:=congrArg unq h
  rw[unq_qc,unq_qc] at h2
  injection h2 with h2;injection h2 with h3 h4
  obtain ⟨h5,h6⟩:=quote_inj l m u v h4
  exact ⟨by rw[h3,h5],h6⟩
end Go.PE
namespace Go.PE
open Go Go.RowKit Go.Proofs
set_option linter.unusedVariables false
set_option linter.unusedSimpArgs false
set_option maxRecDepth 100000
open Classical in
noncomputable def rdT (s:List UInt8):Option (GTy×List UInt8):=if h: ∃ q:GTy×List UInt8,rightT q.1=true∧outS q.2∧s=shL q.1++q.2 then some (Classical.choose h) else none
theorem rdT_sh {t:GTy} {u:List UInt8} (ht:rightT t=true) (hu:outS u):rdT (shL t++u)=some (t,u):=by
 have h: ∃ q:GTy×List UInt8,rightT q.1=true∧outS q.2∧shL t++u=shL q.1++q.2:=⟨(t,u),ht,hu,rfl⟩
 unfold rdT
 rw[dif_pos h]
 obtain ⟨h1,h2,h3⟩:=Classical.choose_spec h
 obtain ⟨e1,e2⟩:=(one_both t ht).1 _ _ _ h1 hu h2 h3
 have:Classical.choose h=(t,u):=by rw[Prod.ext_iff];exact ⟨e1.symm,e2.symm⟩
 rw[this]
open Classical in
noncomputable def rdN (s:List UInt8):Option (Nat×List UInt8):=if h: ∃ q:Nat×List UInt8,q.1<10 ^ 20∧outA q.2∧s=digF 20 q.1++q.2 then some (Classical.choose h) else none
theorem rdN_dig {n:Nat} {u:List UInt8} (hn:n<10 ^ 20) (hu:outA u):rdN (digF 20 n++u)=some (n,u):=by
 have h: ∃ q:Nat×List UInt8,q.1<10 ^ 20∧outA q.2∧digF 20 n++u=digF 20 q.1++q.2:=⟨(n,u),hn,hu,rfl⟩
 unfold rdN
 rw[dif_pos h]
 obtain ⟨h1,h2,h3⟩:=Classical.choose_spec h
 obtain ⟨e1,e2⟩:=munch (digF_al 20 n) (digF_al 20 _) hu h2 h3
 have e1:=digF_inj 20 _ _ hn h1 e1
 have:Classical.choose h=(n,u):=by rw[Prod.ext_iff];exact ⟨e1.symm,e2.symm⟩
 rw[this]
open Classical in
noncomputable def rdQ (s:List UInt8):Option (List UInt8×List UInt8):=if h: ∃ q:List UInt8×List UInt8,s=q.1.flatMap qc++34::q.2 then some (Classical.choose h) else none
theorem rdQ_q (l u:List UInt8):rdQ (l.flatMap qc++34::u)=some (l,u):=by
 have h: ∃ q:List UInt8×List UInt8,l.flatMap qc++34::u=q.1.flatMap qc++34::q.2:=⟨(l,u),rfl⟩
 unfold rdQ
 rw[dif_pos h]
 obtain ⟨e1,e2⟩:=quote_inj _ _ _ _ (Classical.choose_spec h)
 have:Classical.choose h=(l,u):=by rw[Prod.ext_iff];exact ⟨e1.symm,e2.symm⟩
 rw[this]
inductive Md where
 |O|C|S|P|F|A|G|L
 |LS (a:List GExp)|LP (a:List GExp)|LF (a:List GExp)
def opC (s:List UInt8):Option (Int×List UInt8):=match eat [32,60,32] s with
 |some r=>some (6,r)
 |none=>(eat [32,61,61,32] s).map fun r=>(7,r)
def opA (s:List UInt8):Option (Int×List UInt8):=match eat [32,43,32] s with
 |some r=>some (1,r)
 |none=>match eat [32,45,32] s with
  |some r=>some (2,r)
  |none=>(eat [32,43,43,32] s).map fun r=>(5,r)
def opM (s:List UInt8):Option (Int×List UInt8):=match eat [32,42,32] s with
 |some r=>some (3,r)
 |none=>(eat [32,47,32] s).map fun r=>(4,r)
noncomputable def bnd (s:List UInt8):Option (List GTy×List UInt8):=match eat [58,32] s with
 |some r=>(rdT r).map fun q=>([q.1],q.2)
 |none=>some ([],s)
noncomputable def rdTs:Nat→List UInt8→Option (List GTy×List UInt8)
 |0,_=>none
 |f+1,s=>(rdT s).bind fun t=>match eat [44,32] t.2 with
  |some r=>(rdTs f r).map fun q=>(t.1::q.1,q.2)
  |none=>some ([t.1],t.2)
def ex (K N:Int) (Name:ByteArray) (Has:Bool) (Types:List GTy) (Labels:List ByteArray) (Kids:List GExp):List GExp×List ByteArray:=([.mk K N Name Has Types Labels Kids],[])
def no:ByteArray:=⟨#[]⟩
noncomputable def rd:Nat→Md→List UInt8→Option ((List GExp×List ByteArray)×List UInt8)
 |0,_,_=>none
 |f+1,.O,s=>
  if (wd s).1=[108,101,116] then (eat [32] (wd s).2).bind fun r=>(bnd (wd r).2).bind fun q=>(eat [32,61,32] q.2).bind fun r1=>(rd f .O r1).bind fun a=>(eat [32,105,110,32] a.2).bind fun r2=>(rd f .O r2).bind fun b=>some (ex 5 0 (txt (wd r).1) false q.1 [] (a.1.1++b.1.1),b.2)
  else if (wd s).1=[105,102] then (eat [32] (wd s).2).bind fun r=>(rd f .O r).bind fun a=>(eat [32,116,104,101,110,32] a.2).bind fun r1=>(rd f .O r1).bind fun b=>(eat [32,101,108,115,101,32] b.2).bind fun r2=>(rd f .O r2).bind fun c=>some (ex 6 0 no false [] [] (a.1.1++(b.1.1++c.1.1)),c.2)
  else if (wd s).1=[102,110] then (eat [32] (wd s).2).bind fun r=>(bnd (wd r).2).bind fun q=>(eat [32,61,62,32] q.2).bind fun r1=>(rd f .O r1).bind fun a=>some (ex 7 0 (txt (wd r).1) false q.1 [] a.1.1,a.2)
  else rd f .C s
 |f+1,.C,s=>(rd f .S s).bind fun a=>match opC a.2 with
  |some q=>(rd f .S q.2).bind fun b=>some (ex 11 q.1 no false [] [] (a.1.1++b.1.1),b.2)
  |none=>some a
 |f+1,.S,s=>(rd f .P s).bind fun a=>rd f (.LS a.1.1) a.2
 |f+1,.LS a,s=>match opA s with
  |some q=>(rd f .P q.2).bind fun b=>rd f (.LS (ex 11 q.1 no false [] [] (a++b.1.1)).1) b.2
  |none=>some ((a,[]),s)
 |f+1,.P,s=>(rd f .F s).bind fun a=>rd f (.LP a.1.1) a.2
 |f+1,.LP a,s=>match opM s with
  |some q=>(rd f .F q.2).bind fun b=>rd f (.LP (ex 11 q.1 no false [] [] (a++b.1.1)).1) b.2
  |none=>some ((a,[]),s)
 |f+1,.F,s=>(rd f .A s).bind fun a=>rd f (.LF a.1.1) a.2
 |f+1,.LF a,s=>match eat [40] s with
  |some r=>(rd f .O r).bind fun b=>(eat [41] b.2).bind fun r1=>rd f (.LF (ex 8 0 no false [] [] (a++b.1.1)).1) r1
  |none=>match eat [46] s with
   |some r=>rd f (.LF (ex 10 0 (txt (wd r).1) false [] [] a).1) (wd r).2
   |none=>some ((a,[]),s)
 |f+1,.G,s=>(rd f .O s).bind fun a=>match eat [44,32] a.2 with
  |some r=>(rd f .G r).bind fun b=>some ((a.1.1++b.1.1,[]),b.2)
  |none=>some ((a.1.1,[]),a.2)
 |f+1,.L,s=>(eat [32,61,32] (wd s).2).bind fun r0=>(rd f .O r0).bind fun a=>match eat [44,32] a.2 with
  |some r=>(rd f .L r).bind fun b=>some ((a.1.1++b.1.1,txt (wd s).1::b.1.2),b.2)
  |none=>some ((a.1.1,[txt (wd s).1]),a.2)
 |f+1,.A,s=>match eat [34] s with
  |some r=>(rdQ r).map fun q=>(ex 3 0 (txt q.1) false [] [] [],q.2)
  |none=>match eat [123] s with
   |some r=>match eat [125] r with
    |some r1=>some (ex 9 0 no false [] [] [],r1)
    |none=>(rd f .L r).bind fun q=>(eat [125] q.2).map fun r1=>(ex 9 0 no false [] q.1.2 q.1.1,r1)
   |none=>match eat [40] s with
    |some r=>(rd f .O r).bind fun a=>match eat [41] a.2 with
     |some r1=>some (a.1,r1)
     |none=>(eat [32,58,32] a.2).bind fun r1=>(rdT r1).bind fun t=>(eat [41] t.2).map fun r2=>(ex 12 0 no false [t.1] [] a.1.1,r2)
    |none=>if (s.head?.map digB).getD false then (rdN s).map fun q=>(ex 1 (q.1:Int) no false [] [] [],q.2)
     else if (wd s).1=[116,114,117,101] then some (ex 2 1 no false [] [] [],(wd s).2)
     else if (wd s).1=[102,97,108,115,101] then some (ex 2 0 no false [] [] [],(wd s).2)
     else if (wd s).1=[99,97,108,108] then (eat [32] (wd s).2).bind fun r=>
      (match eat [91] (wd r).2 with
       |some r1=>(rdTs f r1).bind fun q=>(eat [93,40] q.2).map fun r2=>(true,q.1,r2)
       |none=>(eat [40] (wd r).2).map fun r2=>(false,([]:List GTy),r2)).bind fun h=>
       match eat [41] h.2.2 with
       |some r3=>some (ex 13 0 (txt (wd r).1) h.1 h.2.1 [] [],r3)
       |none=>(rd f .G h.2.2).bind fun b=>(eat [41] b.2).map fun r3=>(ex 13 0 (txt (wd r).1) h.1 h.2.1 [] b.1.1,r3)
     else some (ex 4 0 (txt (wd s).1) false [] [] [],(wd s).2)
end Go.PE
namespace Go.PE
open Go Go.RowKit Go.Proofs
set_option linter.unusedVariables false
set_option linter.unusedSimpArgs false
set_option maxRecDepth 100000
theorem own_more {e:GExp} (h:ownE e=true):(e.K≠3→e.K≠4→e.K≠5→e.K≠7→e.K≠10→e.K≠13→strEq e.Name ⟨#[]⟩=true)∧(e.K=4∨e.K=5∨e.K=7∨e.K=10∨e.K=13→fineS e.Name=true)∧(e.K≠1→e.K≠2→e.K≠11→e.N=0)∧(e.K=11→1≤e.N∧e.N≤7)∧(e.K≠13→e.Has=false)∧
  (e.K≠9→e.Labels.length=0)∧(e.K=9→risingS e.Labels=true)∧(e.K≠5→e.K≠7→e.K≠12→e.K≠13→e.Types.length=0)∧(e.K=13→e.Has=false→e.Types.length=0)∧(e.K=13→e.Has=true→1≤e.Types.length):=by
 rw[own_eq] at h
 have hK:=own_kinds (e:=e) (by rw[own_eq];exact h)
 simp only[wordE,numE,typE,beaE] at h
 generalize strEq e.Name ⟨#[]⟩=sn at*
 generalize fineS e.Name=fn at*
 generalize (e.Name.size:Int)=sz at*
 generalize typesOk e.Types=ty at*
 generalize risingS e.Labels=ri at*
 generalize e.Types.length=t at*
 generalize e.Kids.length=k at*
 generalize e.Labels.length=n at*
 generalize e.K=K at*
 generalize e.N=N at*
 generalize e.Has=H at*
 rcases hK with hK|hK|hK|hK|hK|hK|hK|hK|hK|hK|hK|hK|hK<;>subst hK<;>simp at h<;>grind
end Go.PE
namespace Go.PE
open Go Go.RowKit Go.Proofs
set_option linter.unusedVariables false
set_option linter.unusedSimpArgs false
set_option maxRecDepth 100000
def F3 (u:List UInt8):Prop:=outA u∧eat [40] u=none∧eat [46] u=none
def F2 (u:List UInt8):Prop:=F3 u∧opM u=none
def F1 (u:List UInt8):Prop:=F2 u∧opA u=none
def F0 (u:List UInt8):Prop:=F1 u∧opC u=none
theorem fine_word {s:ByteArray} (h:fineS s=true): ∀ w∈wordsA,s≠w:=fun w hw e=>by
 have h1:kindS s=1:=by simpa [fineS] using h
 obtain ⟨h2,_⟩:=kind_al (.inl h1)
 have:wordsA.any (strEq · s)=true:=by
  rw[List.any_eq_true];exact ⟨w,hw,by rw[e];exact strEq_refl w⟩
 unfold keptS at h2
 rw[if_pos this] at h2
 omega
def eL (e:GExp):List UInt8:=(showE e).data.toList
def aL (e:GExp) (n:Int):List UInt8:=if tightE e<n then 40::(eL e++[41]) else eL e
theorem at_l (e:GExp) (n:Int):(atS e (showE e) n).data.toList=aL e n:=by
 unfold atS aL eL
 by_cases h:tightE e<n
 ·simp[h,append_l]
 ·simp[h]
theorem f_of (c:UInt8) (r:List UInt8) (h1:alnum c=false) (h2:c≠40) (h3:c≠46) (h4:c≠32):F0 (c::r):=by
 refine ⟨⟨⟨⟨h1, ?_, ?_⟩, ?_⟩, ?_⟩, ?_⟩
 ·simp[eat];exact fun h=>absurd h.symm h2
 ·simp[eat];exact fun h=>absurd h.symm h3
 ·have: ¬ (32:UInt8)=c:=fun h=>h4 h.symm
  simp[opM,eat,this]
 ·have: ¬ (32:UInt8)=c:=fun h=>h4 h.symm
  simp[opA,eat,this]
 ·have: ¬ (32:UInt8)=c:=fun h=>h4 h.symm
  simp[opC,eat,this]
theorem f_41 (r:List UInt8):F0 (41::r):=f_of 41 r (by decide) (by decide) (by decide) (by decide)
theorem f_nil:F0 []:=by
 refine ⟨⟨⟨⟨trivial, ?_, ?_⟩, ?_⟩, ?_⟩, ?_⟩<;>simp[eat,opM,opA,opC]
end Go.PE
namespace Go.PE
open Go Go.RowKit Go.Proofs
set_option linter.unusedVariables false
set_option linter.unusedSimpArgs false
set_option maxRecDepth 100000
def HO (e:GExp):Prop:= ∃ F,∀ f,F≤f→ ∀ r,F0 r→rd f .O (eL e++r)=some (([e],[]),r)
def HA (e:GExp):Prop:= ∃ F,∀ f,F≤f→ ∀ r,outA r→rd f .A (eL e++r)=some (([e],[]),r)
def HB (e:GExp):Prop:= ∃ F,∀ f,F≤f→ ∀ r,rd f .A (40::(eL e++41::r))=some (([e],[]),r)
def HF (e:GExp):Prop:= ∃ k F,∀ f,F≤f→ ∀ r,outA r→rd (f+k) .F (aL e 4++r)=rd f (.LF [e]) r
def HP (e:GExp):Prop:= ∃ k F,∀ f,F≤f→ ∀ r,F3 r→rd (f+k) .P (aL e 3++r)=rd f (.LP [e]) r
def HS (e:GExp):Prop:= ∃ k F,∀ f,F≤f→ ∀ r,F2 r→rd (f+k) .S (aL e 2++r)=rd f (.LS [e]) r
theorem eat_no {c d:UInt8} {s:List UInt8} (h:c≠d):eat [c] (d::s)=none:=by simp[eat,h]
theorem eat_yes (c:UInt8) (s:List UInt8):eat [c] (c::s)=some s:=by simp[eat]
theorem HB_of {e:GExp} (h:HO e):HB e:=by
 obtain ⟨F,h⟩:=h
 refine ⟨F+1,fun f hf r=> ?_⟩
 obtain ⟨g,rfl⟩: ∃ g,f=g+1:=⟨f - 1,by omega⟩
 have:=h g (by omega) (41::r) (f_41 r)
 simp only[rd,eat_no (show (34:UInt8)≠40 by decide),eat_no (show (123:UInt8)≠40 by decide),eat_yes,this,Option.bind_some]
theorem LF_stop {f:Nat} {a:List GExp} {r:List UInt8} (h:F3 r):rd (f+1) (.LF a) r=some ((a,[]),r):=by
 simp only[rd,h.2.1,h.2.2]
theorem LP_stop {f:Nat} {a:List GExp} {r:List UInt8} (h:F2 r):rd (f+1) (.LP a) r=some ((a,[]),r):=by
 simp only[rd,h.2]
theorem LS_stop {f:Nat} {a:List GExp} {r:List UInt8} (h:F1 r):rd (f+1) (.LS a) r=some ((a,[]),r):=by
 simp only[rd,h.2]
theorem HF_atom {e:GExp} (ht:tightE e=5) (h:HA e):HF e:=by
 obtain ⟨F,h⟩:=h
 refine ⟨1,F,fun f hf r hr=> ?_⟩
 have e1:aL e 4=eL e:=by unfold aL;rw[if_neg (by omega)]
 rw[e1]
 simp only[rd,h f hf r hr,Option.bind_some]
theorem HF_paren {e:GExp} (ht:tightE e<4) (h:HB e):HF e:=by
 obtain ⟨F,h⟩:=h
 refine ⟨1,F,fun f hf r hr=> ?_⟩
 have e1:aL e 4++r=40::(eL e++41::r):=by unfold aL;rw[if_pos ht];simp
 rw[e1]
 simp only[rd,h f hf r,Option.bind_some]
theorem HP_of {e:GExp} (ht:tightE e≠3) (h:HF e):HP e:=by
 obtain ⟨k,F,h⟩:=h
 refine ⟨1,F+k+1,fun f hf r hr=> ?_⟩
 have e1:aL e 3=aL e 4:=by
  unfold aL
  by_cases h3:tightE e<3
  ·rw[if_pos h3,if_pos (by omega)]
  ·rw[if_neg h3,if_neg (by omega)]
 obtain ⟨g,rfl⟩: ∃ g,f=g+1+k:=⟨f - 1 - k,by omega⟩
 have:=h (g+1) (by omega) r hr.1
 rw[LF_stop hr] at this
 rw[e1]
 simp only[rd,this,Option.bind_some]
theorem HS_of {e:GExp} (ht:tightE e≠2) (h:HP e):HS e:=by
 obtain ⟨k,F,h⟩:=h
 refine ⟨1,F+k+1,fun f hf r hr=> ?_⟩
 have e1:aL e 2=aL e 3:=by
  unfold aL
  by_cases h3:tightE e<2
  ·rw[if_pos h3,if_pos (by omega)]
  ·rw[if_neg h3,if_neg (by omega)]
 obtain ⟨g,rfl⟩: ∃ g,f=g+1+k:=⟨f - 1 - k,by omega⟩
 have:=h (g+1) (by omega) r hr.1
 rw[LP_stop hr] at this
 rw[e1]
 simp only[rd,this,Option.bind_some]
end Go.PE
namespace Go.PE
open Go Go.RowKit Go.Proofs
set_option linter.unusedVariables false
set_option linter.unusedSimpArgs false
set_option maxRecDepth 100000
theorem HF_app {x y:GExp} (hx:HF x) (hy:HO y):HF (.mk 8 0 no false [] [] [x,y]):=by
 obtain ⟨k,F,hx⟩:=hx
 obtain ⟨G,hy⟩:=hy
 have e1:aL (.mk 8 0 no false [] [] [x,y]) 4=aL x 4++(40::(eL y++[41])):=by
  have ht:tightE (.mk 8 0 no false [] [] [x,y])=4:=rfl
  unfold aL
  rw[ht,if_neg (by decide)]
  unfold eL
  rw[showE_8 (x:=x) (y:=y) rfl rfl]
  simp only[append_l,at_l]
  show aL x 4++[40]++(showE y).data.toList++[41]=_
  simp[eL,aL]
 refine ⟨k+1,F+G,fun f hf r hr=> ?_⟩
 have h1:=hx (f+1) (by omega) (40::(eL y++41::r)) (show alnum 40=false by decide)
 have h2:=hy f (by omega) (41::r) (f_41 r)
 have e2:aL (.mk 8 0 no false [] [] [x,y]) 4++r=aL x 4++(40::(eL y++41::r)):=by rw[e1];simp
 have e3:f+(k+1)=f+1+k:=by omega
 rw[e2,e3,h1]
 simp only[rd,eat_yes,h2,Option.bind_some]
 rfl
theorem HF_proj {x:GExp} {s:ByteArray} (hs:fineS s=true) (hx:HF x):HF (.mk 10 0 s false [] [] [x]):=by
 obtain ⟨k,F,hx⟩:=hx
 have e1:aL (.mk 10 0 s false [] [] [x]) 4=aL x 4++(46::s.data.toList):=by
  have ht:tightE (.mk 10 0 s false [] [] [x])=4:=rfl
  unfold aL
  rw[ht,if_neg (by decide)]
  unfold eL
  rw[showE_10 (x:=x) rfl rfl rfl]
  simp only[append_l,at_l]
  show aL x 4++[46]++s.data.toList=_
  simp[aL,eL]
 refine ⟨k+1,F,fun f hf r hr=> ?_⟩
 have h1:=hx (f+1) (by omega) (46::(s.data.toList++r)) (show alnum 46=false by decide)
 have e2:aL (.mk 10 0 s false [] [] [x]) 4++r=aL x 4++(46::(s.data.toList++r)):=by rw[e1];simp
 have e3:f+(k+1)=f+1+k:=by omega
 rw[e2,e3,h1]
 simp only[rd,eat_yes,eat_no (show (40:UInt8)≠46 by decide),wd_app (fine_al hs).1 hr,txt_toList]
 rfl
theorem opM_3 (z:List UInt8):opM (32::42::32::z)=some (3,z):=by simp[opM,eat]
theorem opM_4 (z:List UInt8):opM (32::47::32::z)=some (4,z):=by simp[opM,eat]
theorem opA_1 (z:List UInt8):opA (32::43::32::z)=some (1,z):=by simp[opA,eat]
theorem opA_2 (z:List UInt8):opA (32::45::32::z)=some (2,z):=by simp[opA,eat]
theorem opA_5 (z:List UInt8):opA (32::43::43::32::z)=some (5,z):=by simp[opA,eat]
theorem opC_6 (z:List UInt8):opC (32::60::32::z)=some (6,z):=by simp[opC,eat]
theorem opC_7 (z:List UInt8):opC (32::61::61::32::z)=some (7,z):=by simp[opC,eat]
theorem F3_32 (z:List UInt8):F3 (32::z):=⟨show alnum 32=false by decide,by simp[eat],by simp[eat]⟩
theorem op_l {x y:GExp} {n:Int}:eL (.mk 11 n no false [] [] [x,y])=aL x (max (tightO n) 2)++(32::((opS n).data.toList++32::aL y (tightO n+1))):=by
 unfold eL
 rw[showE_11 (x:=x) (y:=y) rfl rfl]
 simp only[append_l,at_l]
 show aL x (max (tightO n) 2)++[32]++(opS n).data.toList++[32]++aL y (tightO n+1)=_
 simp
theorem HP_mul {x y:GExp} {n:Int} (hn:n=3∨n=4) (hx:HP x) (hy:HF y):HP (.mk 11 n no false [] [] [x,y]):=by
 obtain ⟨k,F,hx⟩:=hx
 obtain ⟨k2,G,hy⟩:=hy
 have tn:tightO n=3:=by rcases hn with rfl|rfl<;>rfl
 have te:tightE (.mk 11 n no false [] [] [x,y])=3:=by rw[←tn];rfl
 have e1:aL (.mk 11 n no false [] [] [x,y]) 3=aL x 3++(32::((opS n).data.toList++32::aL y 4)):=by
  unfold aL
  rw[te,if_neg (by decide),op_l,tn]
  rfl
 have om: ∀ z,opM (32::((opS n).data.toList++32::z))=some (n,z):=fun z=>by
  rcases hn with rfl|rfl
  ·exact opM_3 z
  ·exact opM_4 z
 refine ⟨k+1,F+G+k2+1,fun f hf r hr=> ?_⟩
 have h1:=hx (f+1) (by omega) (32::((opS n).data.toList++32::(aL y 4++r))) (F3_32 _)
 obtain ⟨g,rfl⟩: ∃ g,f=g+1+k2:=⟨f - 1 - k2,by omega⟩
 have h2:=hy (g+1) (by omega) r hr.1
 rw[LF_stop hr] at h2
 have e2:aL (.mk 11 n no false [] [] [x,y]) 3++r=aL x 3++(32::((opS n).data.toList++32::(aL y 4++r))):=by rw[e1];simp
 have e3:g+1+k2+(k+1)=g+1+k2+1+k:=by omega
 rw[e2,e3,h1]
 simp only[rd,om,h2,Option.bind_some]
 rfl
theorem HS_add {x y:GExp} {n:Int} (hn:n=1∨n=2∨n=5) (hx:HS x) (hy:HP y):HS (.mk 11 n no false [] [] [x,y]):=by
 obtain ⟨k,F,hx⟩:=hx
 obtain ⟨k2,G,hy⟩:=hy
 have tn:tightO n=2:=by rcases hn with rfl|rfl|rfl<;>rfl
 have te:tightE (.mk 11 n no false [] [] [x,y])=2:=by rw[←tn];rfl
 have e1:aL (.mk 11 n no false [] [] [x,y]) 2=aL x 2++(32::((opS n).data.toList++32::aL y 3)):=by
  unfold aL
  rw[te,if_neg (by decide),op_l,tn]
  rfl
 have om: ∀ z,opA (32::((opS n).data.toList++32::z))=some (n,z):=fun z=>by
  rcases hn with rfl|rfl|rfl
  ·exact opA_1 z
  ·exact opA_2 z
  ·exact opA_5 z
 have om2: ∀ z,opM (32::((opS n).data.toList++32::z))=none:=fun z=>by
  rcases hn with rfl|rfl|rfl<;>simp[opM,eat,opS]
 refine ⟨k+1,F+G+k2+1,fun f hf r hr=> ?_⟩
 have h1:=hx (f+1) (by omega) (32::((opS n).data.toList++32::(aL y 3++r))) ⟨F3_32 _,om2 _⟩
 obtain ⟨g,rfl⟩: ∃ g,f=g+1+k2:=⟨f - 1 - k2,by omega⟩
 have h2:=hy (g+1) (by omega) r hr.1
 rw[LP_stop hr] at h2
 have e2:aL (.mk 11 n no false [] [] [x,y]) 2++r=aL x 2++(32::((opS n).data.toList++32::(aL y 3++r))):=by rw[e1];simp
 have e3:g+1+k2+(k+1)=g+1+k2+1+k:=by omega
 rw[e2,e3,h1]
 simp only[rd,om,h2,Option.bind_some]
 rfl
end Go.PE
namespace Go.PE
open Go Go.RowKit Go.Proofs
set_option linter.unusedVariables false
set_option linter.unusedSimpArgs false
set_option maxRecDepth 100000
def NK (s:List UInt8):Prop:=(wd s).1≠[108,101,116]∧(wd s).1≠[105,102]∧(wd s).1≠[102,110]
def NW (e:GExp):Prop:= ∀ r,outA r→NK (eL e++r)
theorem nk_no {c:UInt8} {s:List UInt8} (h:alnum c=false):NK (c::s):=by
 unfold NK;simp[wd,h]
theorem nk_at {x:GExp} (n:Int) (h:tightE x<n∨NW x): ∀ r,outA r→NK (aL x n++r):=fun r hr=>by
 unfold aL
 by_cases ht:tightE x<n
 ·rw[if_pos ht];exact nk_no (by decide)
 ·rw[if_neg ht]
  rcases h with h|h
  ·exact absurd h ht
  ·exact h r hr
theorem rd_O {f:Nat} {s:List UInt8} (h:NK s):rd (f+1) .O s=rd f .C s:=by
 simp only[rd,h.1,h.2.1,h.2.2,if_false]
theorem HO_of {e:GExp} (ht:2≤tightE e) (nw:NW e) (hs:HS e):HO e:=by
 obtain ⟨k,F,hs⟩:=hs
 refine ⟨F+k+3,fun f hf r hr=> ?_⟩
 have e1:aL e 2=eL e:=by unfold aL;rw[if_neg (by omega)]
 obtain ⟨g,rfl⟩: ∃ g,f=g+1+k+1+1:=⟨f - 3 - k,by omega⟩
 have h1:=hs (g+1) (by omega) r hr.1.1
 rw[LS_stop hr.1,e1] at h1
 rw[rd_O (nw r hr.1.1.1.1)]
 simp only[rd,h1,Option.bind_some,hr.2]
theorem HO_cmp {x y:GExp} {n:Int} (hn:n=6∨n=7) (nw:tightE x<2∨NW x) (hx:HS x) (hy:HS y):HO (.mk 11 n no false [] [] [x,y]):=by
 obtain ⟨k,F,hx⟩:=hx
 obtain ⟨k2,G,hy⟩:=hy
 have tn:tightO n=1:=by rcases hn with rfl|rfl<;>rfl
 have e1:eL (.mk 11 n no false [] [] [x,y])=aL x 2++(32::((opS n).data.toList++32::aL y 2)):=by
  rw[op_l,tn];rfl
 have oc: ∀ z,opC (32::((opS n).data.toList++32::z))=some (n,z):=fun z=>by
  rcases hn with rfl|rfl
  ·exact opC_6 z
  ·exact opC_7 z
 have om: ∀ z,opM (32::((opS n).data.toList++32::z))=none∧opA (32::((opS n).data.toList++32::z))=none:=fun z=>by
  rcases hn with rfl|rfl<;>simp[opM,opA,eat,opS]
 refine ⟨F+G+k+k2+4,fun f hf r hr=> ?_⟩
 have e2:eL (.mk 11 n no false [] [] [x,y])++r=aL x 2++(32::((opS n).data.toList++32::(aL y 2++r))):=by rw[e1];simp
 obtain ⟨g,rfl⟩: ∃ g,f=g+1+1:=⟨f - 2,by omega⟩
 have h1:=hx (g - k) (by omega) (32::((opS n).data.toList++32::(aL y 2++r))) ⟨F3_32 _,(om _).1⟩
 have h2:=hy (g - k2) (by omega) r hr.1.1
 rw[show g - k+k=g by omega] at h1
 rw[show g - k2+k2=g by omega] at h2
 obtain ⟨a,ha⟩: ∃ a,g - k=a+1:=⟨g - k - 1,by omega⟩
 obtain ⟨b,hb⟩: ∃ b,g - k2=b+1:=⟨g - k2 - 1,by omega⟩
 rw[ha,LS_stop ⟨⟨F3_32 _,(om _).1⟩,(om _).2⟩] at h1
 rw[hb,LS_stop hr.1] at h2
 have nk:=nk_at 2 nw (32::((opS n).data.toList++32::(aL y 2++r))) (show alnum 32=false by decide)
 rw[e2,rd_O nk]
 simp only[rd,h1,h2,Option.bind_some,oc]
 rfl
end Go.PE
