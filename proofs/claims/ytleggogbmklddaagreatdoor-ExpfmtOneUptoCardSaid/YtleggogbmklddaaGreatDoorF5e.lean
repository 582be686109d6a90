/-
  One text, one type. Plain. Conditions: each law's own.
-/
import Derived.Test.YtleggogbmklddaaGreatDoorF5d
namespace Go.PE
open Go Go.RowKit Go.Proofs
set_option linter.unusedVariables false
set_option linter.unusedSimpArgs false
def alnum (c:UInt8):Bool:=lowB c||upB c||digB c
def outA:List UInt8→Prop
 |[]=>True
 |c::_=>alnum c=false
def outS:List UInt8→Prop
 |[]=>True
 |c::r=>alnum c=false∧ ¬(c=32∧r.head?=some 45)
theorem outS.a {u:List UInt8} (h:outS u):outA u:=by
 cases u with
 |nil=>trivial
 |cons c r=>exact h.1
theorem munch: ∀ {w w' u v:List UInt8},(∀ c∈w,alnum c=true)→(∀ c∈w',alnum c=true)→outA u→outA v→w++u=w'++v→w=w'∧u=v
 |[],[],u,v,_,_,_,_,h=>⟨rfl,by simpa using h⟩
 |[],c::w',u,v,_,h',hu,hv,h=>by
  simp only[List.nil_append,List.cons_append] at h
  subst h
  have:=h' c (by simp)
  have h2:alnum c=false:=hu
  rw[this] at h2;cases h2
 |c::w,[],u,v,h',_,hu,hv,h=>by
  simp only[List.nil_append,List.cons_append] at h
  subst h
  have:=h' c (by simp)
  have h2:alnum c=false:=hv
  rw[this] at h2;cases h2
 |c::w,d::w',u,v,h1,h2,hu,hv,h=>by
  simp only[List.cons_append,List.cons.injEq] at h
  obtain ⟨rfl,h⟩:=h
  obtain ⟨rfl,rfl⟩:=munch (fun c hc=>h1 c (by simp[hc])) (fun c hc=>h2 c (by simp[hc])) hu hv h
  exact ⟨rfl,rfl⟩
theorem digF_ne: ∀ (f n:Nat),digF (f+1) n≠[]:=fun f n=>by
 unfold digF;split<;>simp
theorem ofNat_inj {a b:Nat} (ha:a<256) (hb:b<256) (h:UInt8.ofNat a=UInt8.ofNat b):a=b:=by
 have:=congrArg UInt8.toNat h
 simp only[UInt8.toNat_ofNat'] at this
 omega
theorem digF_inj: ∀ (f n m:Nat),n<10 ^ f→m<10 ^ f→digF f n=digF f m→n=m
 |0,n,m,hn,hm,_=>by simp at hn hm;omega
 |f+1,n,m,hn,hm,h=>by
  rw[Nat.pow_succ] at hn hm
  by_cases h1:n<10
  ·rw[digF_one h1] at h
   by_cases h2:m<10
   ·rw[digF_one h2] at h
    injection h with h _
    have:=ofNat_inj (by omega) (by omega) h
    omega
   ·rw[digF_more h2] at h
    cases f with
    |zero=>omega
    |succ f=>
     have:=congrArg List.length h
     simp at this
     exact absurd this (digF_ne _ _)
  ·rw[digF_more h1] at h
   by_cases h2:m<10
   ·rw[digF_one h2] at h
    cases f with
    |zero=>omega
    |succ f=>
     have:=congrArg List.length h
     simp at this
     exact absurd this (digF_ne _ _)
   ·rw[digF_more h2] at h
    obtain ⟨e1,e2⟩:=List.append_inj' h rfl
    injection e2 with e2 _
    have:=digF_inj f (n / 10) (m / 10) (by omega) (by omega) e1
    have:=ofNat_inj (by omega) (by omega) e2
    omega
theorem digF_al: ∀ (f n:Nat),∀ c∈digF f n,alnum c=true
 |0,n,c,h=>by simp[digF] at h
 |f+1,n,c,h=>by
  have key: ∀ k,k<10→alnum (UInt8.ofNat (48+k))=true:=by decide
  unfold digF at h
  split at h
  ·rw[List.mem_singleton] at h;subst h;exact key n (by assumption)
  ·rcases List.mem_append.1 h with h|h
   ·exact digF_al f _ c h
   ·rw[List.mem_singleton] at h;subst h;exact key _ (by omega)
theorem inner_al {k:Int} {c:UInt8} (h:innerB k c=true):alnum c=true:=by
 unfold innerB at h;unfold alnum
 cases q1:lowB c<;>cases q2:upB c<;>cases q3:digB c<;>simp_all
theorem kindL_al {l:List UInt8} (h:kindL l≠0):(∀ c∈l,alnum c=true)∧ ∃ c r,l=c::r∧firstK c=kindL l:=by
 cases l with
 |nil=>simp[kindL] at h
 |cons c r=>
  have e:kindL (c::r)=if (decide (r.length≤7)&&r.all (innerB (firstK c)))=true then firstK c else 0:=rfl
  rw[e] at h ⊢
  split at h
  ·rename_i hh
   rw[if_pos hh]
   simp only[Bool.and_eq_true,List.all_eq_true] at hh
   refine ⟨fun d hd=> ?_,c,r,rfl,rfl⟩
   rcases List.mem_cons.1 hd with rfl|hd
   ·unfold firstK at h;unfold alnum
    cases q1:upB d<;>cases q2:lowB d<;>simp_all
   ·exact inner_al (hh.2 d hd)
  ·exact absurd rfl h
theorem kind_al {s:ByteArray} (h:kindS s=1∨kindS s=2):keptS s=0∧kindL s.data.toList=kindS s:=by
 unfold kindS at h ⊢
 unfold keptS at h ⊢
 by_cases h1:wordsA.any (strEq · s)=true
 ·simp[h1] at h
 ·by_cases h2:wordsB.any (strEq · s)=true
  ·simp[h1,h2] at h
  ·simp[h1,h2]
theorem fine_al {s:ByteArray} (h:fineS s=true):(∀ c∈s.data.toList,alnum c=true)∧ ∃ c r,s.data.toList=c::r∧lowB c=true:=by
 have h1:kindS s=1:=by simpa [fineS] using h
 obtain ⟨_,e⟩:=kind_al (.inl h1)
 rw[h1] at e
 obtain ⟨a,c,r,hc,hf⟩:=kindL_al (l:=s.data.toList) (by omega)
 refine ⟨a,c,r,hc, ?_⟩
 rw[e] at hf
 unfold firstK at hf
 cases hu:upB c<;>cases hl:lowB c<;>simp_all
theorem var_al {s:ByteArray} (h:varS s=true):(∀ c∈s.data.toList,alnum c=true)∧(∃ c r,s.data.toList=c::r∧upB c=true)∧keptS s=0:=by
 have h1:kindS s=2:=by simpa [varS] using h
 obtain ⟨k,e⟩:=kind_al (.inr h1)
 rw[h1] at e
 obtain ⟨a,c,r,hc,hf⟩:=kindL_al (l:=s.data.toList) (by omega)
 refine ⟨a,⟨c,r,hc, ?_⟩,k⟩
 rw[e] at hf
 unfold firstK at hf
 cases hu:upB c<;>cases hl:lowB c<;>simp_all
theorem risF_fine: ∀ {l:List ByteArray} {p:Option ByteArray},risF p l=true→ ∀ s∈l,fineS s=true
 |[],_,_,s,h=>by simp at h
 |x::l,p,h,s,hs=>by
  have h1:fineS x=true∧risF (some x) l=true:=by
   cases p<;>simp only[risF,Bool.and_eq_true] at h
   ·exact h
   ·exact ⟨h.1,h.2.2⟩
  rcases List.mem_cons.1 hs with rfl|hs
  ·exact h1.1
  ·exact risF_fine h1.2 s hs
def shL (t:GTy):List UInt8:=(shownT t).data.toList
def tkL (t:GTy):List UInt8:=(takenT t).data.toList
theorem append_l (a b:ByteArray):(a++b).data.toList=a.data.toList++b.data.toList:=by simp[ByteArray.data_append]
theorem shL_eq (t:GTy):shL t=if t.K==1 then [73,110,116] else if t.K==2 then [66,111,111,108] else if t.K==3 then [83,116,114,105,110,103] else if t.K==4 then [84,111,112] else if t.K==5 then [63] else if t.K==6 then t.Name.data.toList
  else if t.K==9 then 35::(numS t.N).data.toList else if t.K==7 then (funT t.Args).data.toList else 123::(joinL [44,32] (fieldsT t.Labels t.Args)++[125]):=by
 unfold shL
 rw[shownT_eq]
 (repeat' split)<;>first|rfl|(simp[append_l,txt_data];done)
theorem tkL_fun {t:GTy} (h:t.K=7):tkL t=40::(shL t++[41]):=by
 unfold tkL takenT shL
 rw[if_pos (by simp[h])]
 simp[append_l]
theorem tkL_no {t:GTy} (h:t.K≠7):tkL t=shL t:=by
 unfold tkL takenT shL
 rw[if_neg (by simpa using h)]
theorem shL_fun {t a b:GTy} (h:t.K=7) (hab:t.Args=[a,b]):shL t=tkL a++([32,45,62,32]++shL b):=by
 have:shownT t=takenT a++⟨#[32,45,62,32]⟩++shownT b:=by rw[shownT_eq,←funT_two,←hab];simp[h]
 unfold shL tkL
 rw[this,append_l,append_l]
 simp
theorem right_rest {t:GTy} (h:rightT t=true):(t.K≠6→t.Name=⟨#[]⟩)∧(t.K≠9→t.N=0)∧(t.K≠8→t.Labels=[])∧(t.K≠7→t.K≠8→t.Args=[]):=by
 have hh:headT t=true:=by rw[rightT_eq,Bool.and_eq_true] at h;exact h.2
 have hk:=right_kinds h
 unfold headT at hh
 simp only[Bool.and_eq_true,Bool.not_eq_true'] at hh
 have hb:=hh.1
 unfold badT at hb
 simp only[Bool.or_eq_false_iff,Bool.and_eq_false_iff] at hb
 refine ⟨fun h6=> ?_,fun h9=> ?_,fun h8=> ?_,fun h7 h8=> ?_⟩
 ·have:=hb.1.1
  simp[h6] at this
  exact strEq_iff.1 this
 ·have:=hb.1.2
  simp[h9] at this;exact this
 ·have:=hb.2
  cases hl:t.Labels with
  |nil=>rfl
  |cons x r=>simp[h8,hl] at this
 ·have h2:=hh.2
  have:t.Args.length=0:=by
   rcases hk with hk|hk|hk|hk|hk|hk|hk|hk|hk<;>simp[hk] at h2<;>first|omega|(simp_all;done)
  exact List.eq_nil_of_length_eq_zero this
theorem ty_ext {a b:GTy} (h1:a.K=b.K) (h2:a.N=b.N) (h3:a.Name=b.Name) (h4:a.Labels=b.Labels) (h5:a.Args=b.Args):a=b:=by
 cases a;cases b;simp only[GTy.K,GTy.N,GTy.Name,GTy.Labels,GTy.Args] at*;subst h1 h2 h3 h4 h5;rfl
theorem word_al {t:GTy} (hr:rightT t=true) (hk:t.K=1∨t.K=2∨t.K=3∨t.K=4∨t.K=6):(∀ c∈shL t,alnum c=true)∧ ∃ c r,shL t=c::r∧upB c=true:=by
 rcases hk with hk|hk|hk|hk|hk
 ·have e:shL t=[73,110,116]:=by rw[shL_eq];simp[hk]
  rw[e];exact ⟨by decide,73,_,rfl,by decide⟩
 ·have e:shL t=[66,111,111,108]:=by rw[shL_eq];simp[hk]
  rw[e];exact ⟨by decide,66,_,rfl,by decide⟩
 ·have e:shL t=[83,116,114,105,110,103]:=by rw[shL_eq];simp[hk]
  rw[e];exact ⟨by decide,83,_,rfl,by decide⟩
 ·have e:shL t=[84,111,112]:=by rw[shL_eq];simp[hk]
  rw[e];exact ⟨by decide,84,_,rfl,by decide⟩
 ·have hh:headT t=true:=by rw[rightT_eq,Bool.and_eq_true] at hr;exact hr.2
  unfold headT at hh
  simp[hk] at hh
  obtain ⟨h1,h2,_⟩:=var_al hh.2.1
  have e:shL t=t.Name.data.toList:=by rw[shL_eq];simp[hk]
  rw[e];exact ⟨h1,h2⟩
theorem var_of {t:GTy} (hr:rightT t=true) (hk:t.K=6):varS t.Name=true:=by
 have hh:headT t=true:=by rw[rightT_eq,Bool.and_eq_true] at hr;exact hr.2
 unfold headT at hh
 simp[hk] at hh
 exact hh.2.1
theorem word_inj {a b:GTy} (ha:rightT a=true) (hb:rightT b=true) (ka:a.K=1∨a.K=2∨a.K=3∨a.K=4∨a.K=6) (kb:b.K=1∨b.K=2∨b.K=3∨b.K=4∨b.K=6) (h:shL a=shL b):a=b:=by
 obtain ⟨a1,a2,a3,a4⟩:=right_rest ha
 obtain ⟨b1,b2,b3,b4⟩:=right_rest hb
 have hkept: ∀ {t:GTy},rightT t=true→t.K=6→ ∀ l∈[[73,110,116],[66,111,111,108],[83,116,114,105,110,103],[84,111,112]],t.Name.data.toList≠l:=fun {t} hr hk l hl e=>by
  have k:=(var_al (var_of hr hk)).2.2
  unfold keptS at k
  by_cases h1:wordsA.any (strEq · t.Name)=true
  ·simp[h1] at k
  ·have:wordsB.any (strEq · t.Name)=true:=by
    have en:t.Name=txt l:=by rw[←txt_toList t.Name,e]
    rw[en]
    simp only[List.mem_cons,List.not_mem_nil,or_false] at hl
    rcases hl with rfl|rfl|rfl|rfl<;>decide
   simp[h1,this] at k
 have lit: ∀ {t:GTy},(t.K=1∧shL t=[73,110,116])∨(t.K=2∧shL t=[66,111,111,108])∨(t.K=3∧shL t=[83,116,114,105,110,103])∨(t.K=4∧shL t=[84,111,112])∨ ¬ (t.K=1∨t.K=2∨t.K=3∨t.K=4):=fun {t}=>by
  rw[shL_eq]
  by_cases h1:t.K=1
  ·left;simp[h1]
  ·by_cases h2:t.K=2
   ·right;left;simp[h2]
   ·by_cases h3:t.K=3
    ·right;right;left;simp[h3]
    ·by_cases h4:t.K=4
     ·right;right;right;left;simp[h4]
     ·right;right;right;right;omega
 have nam: ∀ {t:GTy},t.K=6→shL t=t.Name.data.toList:=fun {t} h=>by rw[shL_eq];simp[h]
 have e6:a.K=6→b.K=6→a=b:=fun h1 h2=>by
  rw[shL_eq,shL_eq] at h
  simp[h1,h2] at h
  refine ty_ext (by rw[h1,h2]) (by rw[a2 (by omega),b2 (by omega)]) ?_ (by rw[a3 (by omega),b3 (by omega)]) (by rw[a4 (by omega) (by omega),b4 (by omega) (by omega)])
  rw[←txt_toList a.Name,←txt_toList b.Name,h]
 have es:a.K=b.K→a.K≠6→a=b:=fun h1 h2=>ty_ext h1 (by rw[a2 (by omega),b2 (by omega)]) (by rw[a1 h2,b1 (by omega)]) (by rw[a3 (by omega),b3 (by omega)]) (by rw[a4 (by omega) (by omega),b4 (by omega) (by omega)])
 by_cases a6:a.K=6
 ·by_cases b6:b.K=6
  ·exact e6 a6 b6
  ·exfalso
   rw[nam a6] at h
   rcases lit (t:=b) with ⟨_,q⟩|⟨_,q⟩|⟨_,q⟩|⟨_,q⟩|q
   ·exact hkept ha a6 _ (by simp) (h.trans q)
   ·exact hkept ha a6 _ (by simp) (h.trans q)
   ·exact hkept ha a6 _ (by simp) (h.trans q)
   ·exact hkept ha a6 _ (by simp) (h.trans q)
   ·omega
 ·by_cases b6:b.K=6
  ·exfalso
   rw[nam b6] at h
   rcases lit (t:=a) with ⟨_,q⟩|⟨_,q⟩|⟨_,q⟩|⟨_,q⟩|q
   ·exact hkept hb b6 _ (by simp) (h.symm.trans q)
   ·exact hkept hb b6 _ (by simp) (h.symm.trans q)
   ·exact hkept hb b6 _ (by simp) (h.symm.trans q)
   ·exact hkept hb b6 _ (by simp) (h.symm.trans q)
   ·omega
  ·refine es ?_ a6
   rcases lit (t:=a) with ⟨q1,q⟩|⟨q1,q⟩|⟨q1,q⟩|⟨q1,q⟩|q<;>rcases lit (t:=b) with ⟨p1,p⟩|⟨p1,p⟩|⟨p1,p⟩|⟨p1,p⟩|p<;>first
    |omega
    |(rw[q,p] at h;exact absurd h (by decide))
theorem fields_inj (P:GTy→Prop) (hP: ∀ a,P a→rightT a=true∧ ∀ b u v,rightT b=true→outS u→outS v→shL a++u=shL b++v→a=b∧u=v): ∀ (as_ bs:List GTy) (ls ms:List ByteArray) (u v:List UInt8),(∀ a∈as_,P a)→(∀ b∈bs,rightT b=true)→(∀ l∈ls,fineS l=true)→(∀ m∈ms,fineS m=true)→ls.length=as_.length→ms.length=bs.length→
  joinR [44,32] (fieldsT ls as_)++125::u=joinR [44,32] (fieldsT ms bs)++125::v→as_=bs∧ls=ms∧u=v
 |[],[],[],[],u,v,_,_,_,_,_,_,h=>⟨rfl,rfl,by simpa [fieldsT,joinR] using h⟩
 |[],b::bs,[],m::ms,u,v,_,_,_,_,_,_,h=>by simp[fieldsT,joinR] at h
 |a::as_,[],l::ls,[],u,v,_,_,_,_,_,_,h=>by simp[fieldsT,joinR] at h
 |a::as_,b::bs,l::ls,m::ms,u,v,ha,hb,hl,hm,e1,e2,h=>by
  have fl: ∀ (x:ByteArray) (y:GTy),(x++⟨#[58,32]⟩++shownT y).data.toList=x.data.toList++(58::32::shL y):=fun x y=>by simp[append_l,shL]
  simp only[fieldsT,joinR,List.headD_cons,List.tail_cons,fl,List.append_assoc,List.cons_append,List.nil_append,List.cons.injEq,true_and] at h
  have c58:alnum 58=false:=by decide
  obtain ⟨q1,h⟩:=munch (fine_al (hl l (by simp))).1 (fine_al (hm m (by simp))).1 (show outA (58::_) from c58) (show outA (58::_) from c58) h
  simp only[List.cons.injEq,true_and] at h
  have so: ∀ (ts:List ByteArray) (w:List UInt8),outS (joinR [44,32] ts++125::w):=fun ts w=>by
   cases ts with
   |nil=>exact ⟨by decide,fun h=>absurd h.1 (by decide)⟩
   |cons t r=>exact ⟨by decide,fun h=>absurd h.1 (by decide)⟩
  obtain ⟨q2,h⟩:=(hP a (ha a (by simp))).2 b _ _ (hb b (by simp)) (so _ _) (so _ _) h
  obtain ⟨r1,r2,r3⟩:=fields_inj P hP as_ bs ls ms u v (fun x hx=>ha x (by simp[hx])) (fun x hx=>hb x (by simp[hx])) (fun x hx=>hl x (by simp[hx])) (fun x hx=>hm x (by simp[hx])) (by simpa using e1) (by simpa using e2) h
  refine ⟨by rw[q2,r1], ?_,r3⟩
  rw[r2]
  congr 1
  rw[←txt_toList l,←txt_toList m,q1]
def OneS (a:GTy):Prop:= ∀ b u v,rightT b=true→outS u→outS v→shL a++u=shL b++v→a=b∧u=v
def OneT (a:GTy):Prop:= ∀ b u v,rightT b=true→outA u→outA v→tkL a++u=tkL b++v→a=b∧u=v
theorem first_no {t:GTy} (hr:rightT t=true) (h7:t.K≠7): ∃ c r,shL t=c::r∧c≠40∧(upB c=true∧(t.K=1∨t.K=2∨t.K=3∨t.K=4∨t.K=6)∨(c=63∧t.K=5)∨(c=35∧t.K=9)∨(c=123∧t.K=8)):=by
 have hk:=right_kinds hr
 have up: ∀ c:UInt8,upB c=true→c≠40:=fun c h e=>by subst e;revert h;decide
 have wd:(t.K=1∨t.K=2∨t.K=3∨t.K=4∨t.K=6)→ ∃ c r,shL t=c::r∧c≠40∧(upB c=true∧(t.K=1∨t.K=2∨t.K=3∨t.K=4∨t.K=6)∨(c=63∧t.K=5)∨(c=35∧t.K=9)∨(c=123∧t.K=8)):=fun h=>by
  obtain ⟨_,c,r,e,hu⟩:=word_al hr h
  exact ⟨c,r,e,up c hu,.inl ⟨hu,h⟩⟩
 rcases hk with hk|hk|hk|hk|hk|hk|hk|hk|hk
 ·exact wd (by omega)
 ·exact wd (by omega)
 ·exact wd (by omega)
 ·exact wd (by omega)
 ·exact ⟨63,[],by rw[shL_eq];simp[hk],by decide,.inr (.inl ⟨rfl,hk⟩)⟩
 ·exact wd (by omega)
 ·exact ⟨35,_,by rw[shL_eq];simp[hk];rfl,by decide,.inr (.inr (.inl ⟨rfl,hk⟩))⟩
 ·exact absurd hk h7
 ·exact ⟨123,_,by rw[shL_eq];simp[hk];rfl,by decide,.inr (.inr (.inr ⟨rfl,hk⟩))⟩
theorem numS_nn {n:Int} (h:0≤n):(numS n).data.toList=digF 20 n.toNat:=by unfold numS numL;rw[if_neg (by omega)]
theorem atom_inj {a:GTy} (ha:rightT a=true) (h7:a.K≠7) (ihA: ∀ x∈a.Args,OneS x) {b:GTy} {u v:List UInt8} (hb:rightT b=true) (b7:b.K≠7) (hu:outA u) (hv:outA v) (h:shL a++u=shL b++v):a=b∧u=v:=by
 obtain ⟨c,r,ea,_,ca⟩:=first_no ha h7
 obtain ⟨d,s,eb,_,cb⟩:=first_no hb b7
 have hcd:c=d:=by rw[ea,eb] at h;simp only[List.cons_append,List.cons.injEq] at h;exact h.1
 subst hcd
 have n63:upB 63=false:=by decide
 have n35:upB 35=false:=by decide
 have n123:upB 123=false:=by decide
 obtain ⟨a1,a2,a3,a4⟩:=right_rest ha
 obtain ⟨b1,b2,b3,b4⟩:=right_rest hb
 rcases ca with ⟨ca,ka⟩|⟨ca,ka⟩|⟨ca,ka⟩|⟨ca,ka⟩
 ·rcases cb with ⟨cb,kb⟩|⟨cb,kb⟩|⟨cb,kb⟩|⟨cb,kb⟩
  ·obtain ⟨q1,q2⟩:=munch (word_al ha ka).1 (word_al hb kb).1 hu hv h
   exact ⟨word_inj ha hb ka kb q1,q2⟩
  ·rw[cb,n63] at ca;cases ca
  ·rw[cb,n35] at ca;cases ca
  ·rw[cb,n123] at ca;cases ca
 ·have kb:b.K=5:=by
   rcases cb with ⟨cb,kb⟩|⟨cb,kb⟩|⟨cb,kb⟩|⟨cb,kb⟩
   ·rw[ca,n63] at cb;cases cb
   ·exact kb
   ·rw[ca] at cb;exact absurd cb (by decide)
   ·rw[ca] at cb;exact absurd cb (by decide)
  rw[shL_eq,shL_eq] at h
  simp[ka,kb] at h
  exact ⟨ty_ext (by rw[ka,kb]) (by rw[a2 (by omega),b2 (by omega)]) (by rw[a1 (by omega),b1 (by omega)]) (by rw[a3 (by omega),b3 (by omega)]) (by rw[a4 (by omega) (by omega),b4 (by omega) (by omega)]),h⟩
 ·have kb:b.K=9:=by
   rcases cb with ⟨cb,kb⟩|⟨cb,kb⟩|⟨cb,kb⟩|⟨cb,kb⟩
   ·rw[ca,n35] at cb;cases cb
   ·rw[ca] at cb;exact absurd cb (by decide)
   ·exact kb
   ·rw[ca] at cb;exact absurd cb (by decide)
  have na: ∀ {t:GTy},rightT t=true→t.K=9→0≤t.N∧t.N≤1073741824:=fun {t} hr hk=>by
   have hh:headT t=true:=by rw[rightT_eq,Bool.and_eq_true] at hr;exact hr.2
   unfold headT at hh
   simp[hk] at hh;omega
  have ra:=na ha ka
  have rb:=na hb kb
  rw[shL_eq,shL_eq] at h
  simp[ka,kb] at h
  have h:digF 20 a.N.toNat++u=digF 20 b.N.toNat++v:=by rw[←numS_nn ra.1,←numS_nn rb.1];simpa using h
  obtain ⟨q1,q2⟩:=munch (digF_al 20 _) (digF_al 20 _) hu hv h
  have q3:=digF_inj 20 _ _ (by omega) (by omega) q1
  exact ⟨ty_ext (by rw[ka,kb]) (by omega) (by rw[a1 (by omega),b1 (by omega)]) (by rw[a3 (by omega),b3 (by omega)]) (by rw[a4 (by omega) (by omega),b4 (by omega) (by omega)]),q2⟩
 ·have kb:b.K=8:=by
   rcases cb with ⟨cb,kb⟩|⟨cb,kb⟩|⟨cb,kb⟩|⟨cb,kb⟩
   ·rw[ca,n123] at cb;cases cb
   ·rw[ca] at cb;exact absurd cb (by decide)
   ·rw[ca] at cb;exact absurd cb (by decide)
   ·exact kb
  obtain ⟨la,sa⟩:=right_rec ha ka
  obtain ⟨lb,sb⟩:=right_rec hb kb
  have fa:=risF_fine (p:=none) sa
  have fb:=risF_fine (p:=none) sb
  have ha8:shL a=123::(joinL [44,32] (fieldsT a.Labels a.Args)++[125]):=by rw[shL_eq];simp[ka]
  have hb8:shL b=123::(joinL [44,32] (fieldsT b.Labels b.Args)++[125]):=by rw[shL_eq];simp[kb]
  rw[ha8,hb8] at h
  simp only[List.cons_append,List.append_assoc,List.nil_append,List.cons.injEq,true_and] at h
  have pr: ∀ x,x∈a.Args→rightT x=true∧OneS x:=fun x hx=>⟨right_args ha x hx,ihA x hx⟩
  have h2:(joinR [44,32] (fieldsT a.Labels a.Args)++125::u=joinR [44,32] (fieldsT b.Labels b.Args)++125::v):=by
   cases hfa:fieldsT a.Labels a.Args with
   |nil=>
    cases hfb:fieldsT b.Labels b.Args with
    |nil=>rw[hfa,hfb] at h;exact h
    |cons y ys=>
     exfalso
     rw[hfa,hfb] at h
     cases hx:b.Args with
     |nil=>rw[hx] at hfb;simp[fieldsT] at hfb
     |cons z zs=>
      rw[hx] at hfb lb
      cases hm:b.Labels with
      |nil=>rw[hm] at lb;simp at lb
      |cons m ms=>
       rw[hm] at hfb
       simp only[fieldsT,List.headD_cons] at hfb
       injection hfb with hy _
       obtain ⟨_,c2,r2,e2,lo⟩:=fine_al (fb m (by rw[hm];simp))
       rw[←hy] at h
       simp only[joinL,append_l,e2,List.nil_append,List.cons_append,List.append_assoc,List.cons.injEq] at h
       rw[←h.1] at lo
       revert lo;decide
   |cons y ys=>
    cases hfb:fieldsT b.Labels b.Args with
    |nil=>
     exfalso
     rw[hfa,hfb] at h
     cases hx:a.Args with
     |nil=>rw[hx] at hfa;simp[fieldsT] at hfa
     |cons z zs=>
      rw[hx] at hfa la
      cases hm:a.Labels with
      |nil=>rw[hm] at la;simp at la
      |cons m ms=>
       rw[hm] at hfa
       simp only[fieldsT,List.headD_cons] at hfa
       injection hfa with hy _
       obtain ⟨_,c2,r2,e2,lo⟩:=fine_al (fa m (by rw[hm];simp))
       rw[←hy] at h
       simp only[joinL,append_l,e2,List.nil_append,List.cons_append,List.append_assoc,List.cons.injEq] at h
       rw[h.1] at lo
       revert lo;decide
    |cons z zs=>
     rw[hfa,hfb] at h
     simp only[joinL,joinR,List.append_assoc,List.cons_append,List.nil_append,List.cons.injEq,true_and] at h ⊢
     exact h
  obtain ⟨q1,q2,q3⟩:=fields_inj (fun x=>rightT x=true∧OneS x) (fun x hx=>hx) a.Args b.Args a.Labels b.Labels u v pr (right_args hb) fa fb la lb h2
  exact ⟨ty_ext (by rw[ka,kb]) (by rw[a2 (by omega),b2 (by omega)]) (by rw[a1 (by omega),b1 (by omega)]) q2 q1,q3⟩
theorem one_both: ∀ a:GTy,rightT a=true→OneS a∧OneT a:=by
 refine GTy.ind fun a ih ha=> ?_
 have ih': ∀ x∈a.Args,OneS x∧OneT x:=fun x hx=>ih x hx (right_args ha x hx)
 have c41: ∀ r:List UInt8,outS (41::r):=fun r=>⟨by decide,fun h=>absurd h.1 (by decide)⟩
 have S:OneS a:=by
  intro b u v hb hu hv h
  by_cases a7:a.K=7
  ·obtain ⟨x,y,hxy⟩:=right_two ha a7
   rw[shL_fun a7 hxy] at h
   by_cases b7:b.K=7
   ·obtain ⟨z,w,hzw⟩:=right_two hb b7
    rw[shL_fun b7 hzw] at h
    simp only[List.append_assoc,List.cons_append,List.nil_append] at h
    obtain ⟨q1,h⟩:=(ih' x (by rw[hxy];simp)).2 z _ _ (right_args hb z (by rw[hzw];simp)) (by show alnum 32=false;decide) (by show alnum 32=false;decide) h
    simp only[List.cons.injEq,true_and] at h
    obtain ⟨q2,q3⟩:=(ih' y (by rw[hxy];simp)).1 w _ _ (right_args hb w (by rw[hzw];simp)) hu hv h
    obtain ⟨a1,a2,a3,a4⟩:=right_rest ha
    obtain ⟨b1,b2,b3,b4⟩:=right_rest hb
    exact ⟨ty_ext (by rw[a7,b7]) (by rw[a2 (by omega),b2 (by omega)]) (by rw[a1 (by omega),b1 (by omega)]) (by rw[a3 (by omega),b3 (by omega)]) (by rw[hxy,hzw,q1,q2]),q3⟩
   ·exfalso
    rw[←tkL_no b7] at h
    simp only[List.append_assoc,List.cons_append,List.nil_append] at h
    obtain ⟨_,q⟩:=(ih' x (by rw[hxy];simp)).2 b _ v hb (by show alnum 32=false;decide) hv.a h
    rw[←q] at hv
    exact hv.2 ⟨rfl,rfl⟩
  ·by_cases b7:b.K=7
   ·exfalso
    obtain ⟨z,w,hzw⟩:=right_two hb b7
    rw[shL_fun b7 hzw] at h
    simp only[List.append_assoc,List.cons_append,List.nil_append] at h
    have hz:=right_args hb z (by rw[hzw];simp)
    by_cases z7:z.K=7
    ·rw[tkL_fun z7] at h
     obtain ⟨c,r,e,hc,_⟩:=first_no ha a7
     rw[e] at h
     simp only[List.cons_append,List.cons.injEq] at h
     exact hc h.1
    ·rw[tkL_no z7] at h
     obtain ⟨_,q⟩:=atom_inj ha a7 (fun x hx=>(ih' x hx).1) hz z7 hu.a (by show alnum 32=false;decide) h
     rw[q] at hu
     exact hu.2 ⟨rfl,rfl⟩
   ·exact atom_inj ha a7 (fun x hx=>(ih' x hx).1) hb b7 hu.a hv.a h
 refine ⟨S,fun b u v hb hu hv h=> ?_⟩
 by_cases a7:a.K=7
 ·rw[tkL_fun a7] at h
  by_cases b7:b.K=7
  ·rw[tkL_fun b7] at h
   simp only[List.append_assoc,List.cons_append,List.nil_append,List.cons.injEq,true_and] at h
   obtain ⟨q1,q2⟩:=S b _ _ hb (c41 _) (c41 _) h
   simp only[List.cons.injEq,true_and] at q2
   exact ⟨q1,q2⟩
  ·exfalso
   rw[tkL_no b7] at h
   obtain ⟨c,r,e,hc,_⟩:=first_no hb b7
   rw[e] at h
   simp only[List.cons_append,List.cons.injEq] at h
   exact hc h.1.symm
 ·rw[tkL_no a7] at h
  by_cases b7:b.K=7
  ·exfalso
   rw[tkL_fun b7] at h
   obtain ⟨c,r,e,hc,_⟩:=first_no ha a7
   rw[e] at h
   simp only[List.cons_append,List.cons.injEq] at h
   exact hc h.1
  ·rw[tkL_no b7] at h
   exact atom_inj ha a7 (fun x hx=>(ih' x hx).1) hb b7 hu hv h
end Go.PE
