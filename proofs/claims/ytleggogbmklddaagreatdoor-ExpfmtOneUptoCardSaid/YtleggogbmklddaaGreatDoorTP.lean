/-
  Names: the program's own functions. Conditions: each law's own.
-/
import Derived.Test.YtleggogbmklddaaGreatDoorN01
import Derived.Test.YtleggogbmklddaaGreatDoorR3Q
import Derived.Test.YtleggogbmklddaaGreatDoorS4
namespace Go.PE
open Go Go.RowKit Go.Proofs
set_option linter.unusedVariables false
set_option linter.unusedSimpArgs false
set_option maxRecDepth 100000
theorem decode_low {s:ByteArray} {i:Nat} {c:UInt8} (h:s.data.toList[i]?=some c) (hc:c.toNat<128):Utf8.decode s i=(c.toNat,1):=by
 have hg:s.get! i=c:=by
  rw[Array.getElem?_toList] at h
  simp[ByteArray.get!,getElem!_def,h]
 unfold Utf8.decode
 simp only[Nat.add_zero,hg]
 rw[if_pos hc]
theorem decode_high {s:ByteArray} {i:Nat} {c:UInt8} (h:s.data.toList[i]?=some c) (hc:128≤c.toNat):128≤(Utf8.decode s i).1:=by
 have hg:s.get! i=c:=by
  rw[Array.getElem?_toList] at h
  simp[ByteArray.get!,getElem!_def,h]
 unfold Utf8.decode
 simp only[Nat.add_zero,hg]
 rw[if_neg (by omega)]
 split
 ·split
  ·assumption
  ·decide
 ·split
  ·split
   ·rename_i hh;simp only[Bool.and_eq_true,decide_eq_true_eq] at hh;show 128≤_;have:=hh.1;omega
   ·decide
  ·split
   ·split
    ·rename_i hh;simp only[Bool.and_eq_true,decide_eq_true_eq] at hh;show 128≤_;have:=hh.1;omega
    ·decide
   ·decide
def lowN (n:Nat):Bool:=decide (97≤(n:Int))&&decide ((n:Int)≤122)
def upN (n:Nat):Bool:=decide (65≤(n:Int))&&decide ((n:Int)≤90)
def digN (n:Nat):Bool:=decide (48≤(n:Int))&&decide ((n:Int)≤57)
theorem lowN_b (c:UInt8):lowN c.toNat=lowB c:=rfl
theorem upN_b (c:UInt8):upN c.toNat=upB c:=rfl
theorem digN_b (c:UInt8):digN c.toNat=digB c:=rfl
theorem lowN_high {n:Nat} (h:128≤n):lowN n=false:=by unfold lowN;simp;omega
theorem upN_high {n:Nat} (h:128≤n):upN n=false:=by unfold upN;simp;omega
theorem digN_high {n:Nat} (h:128≤n):digN n=false:=by unfold digN;simp;omega
section
variable {ot:TypeId} {oz:EP}
theorem nlow (n:Nat) (S:St):cal (env ot oz) 133 [.int .i32 (n:Int)] S=some (.bool (lowN n),S):=by
 (rw[w_plain (fn:=c133) rfl rfl (by simp only[go_sem]) rfl (by decide)];simp only[c133,c133_b,c133_r1,go_sem];repeat' ((first|rw[guardO_t]|rw[guardO_f]|rw[cw_bool]);split<;>rename_i h<;>(try rw[Bool.not_eq_true] at h)<;>(try simp only[go_sem,c133_r1, *])))<;>(try simp_all [lowN])<;>(try omega)
theorem nup (n:Nat) (S:St):cal (env ot oz) 134 [.int .i32 (n:Int)] S=some (.bool (upN n),S):=by
 (rw[w_plain (fn:=c134) rfl rfl (by simp only[go_sem]) rfl (by decide)];simp only[c134,c134_b,c134_r1,go_sem];repeat' ((first|rw[guardO_t]|rw[guardO_f]|rw[cw_bool]);split<;>rename_i h<;>(try rw[Bool.not_eq_true] at h)<;>(try simp only[go_sem,c134_r1, *])))<;>(try simp_all [upN])<;>(try omega)
theorem ndig (n:Nat) (S:St):cal (env ot oz) 135 [.int .i32 (n:Int)] S=some (.bool (digN n),S):=by
 (rw[w_plain (fn:=c135) rfl rfl (by simp only[go_sem]) rfl (by decide)];simp only[c135,c135_b,c135_r1,go_sem];repeat' ((first|rw[guardO_t]|rw[guardO_f]|rw[cw_bool]);split<;>rename_i h<;>(try rw[Bool.not_eq_true] at h)<;>(try simp only[go_sem,c135_r1, *])))<;>(try simp_all [digN])<;>(try omega)
def shapeO:Nat→Int→List UInt8→Option Int
 |_,kd,[]=>some kd
 |0,kd,c::r=>if lowB c then shapeO 1 1 r else if upB c then shapeO 1 2 r else none
 |i+1,kd,c::r=>if (kd !=0&&(lowB c||digB c))||(kd==2&&upB c) then shapeO (i+2) kd r else none
def shapeS (s:ByteArray):Int:=if 8<s.size then 0 else (shapeO 0 0 s.data.toList).getD 0
theorem shape_l0 (s:ByteArray) (R:EC) (hs:s.size≤8): ∀ (rest:List UInt8) (i:Nat) (kd:Int),s.data.toList.drop i=rest→
  run (env ot oz) (endF .none [.tmp 2]) [.block 0,.seq R] c122_l0 [(3,some (.int .i64 kd)),(10,some (.ref 0 0))] ⟨[.iter s i],[]⟩=
   match shapeO i kd rest with
   |some k=>run (env ot oz) (endF .none [.tmp 2]) [] R [(3,some (.int .i64 k)),(10,some (.ref 0 0)),(11,some (.tup [.bool false])),(12,some (.bool false))] ⟨[.iter s (i+rest.length)],[]⟩
   |none=>some (.int .i64 0,.none)
 |[],i,kd,h=>by
  have h1: ¬ i<s.size:=by have:=drop_nil h;rw[size_data] at this;omega
  simp only[shapeO]
  (rw[c122_l0_w];simp only[c122_l0_b,c122_l0_a,c122_r8,c122_r10,c122_r12,c122_r13,go_sem,h1])
 |c::r,i,kd,h=>by
  obtain ⟨h1,h2,h3⟩:=drop_cons h
  rw[size_data] at h3
  have nl:=nlow (ot:=ot) (oz:=oz)
  have nu:=nup (ot:=ot) (oz:=oz)
  have nd:=ndig (ot:=ot) (oz:=oz)
  by_cases hc:c.toNat<128
  ·have hd:=decode_low h1 hc
   have ih:=fun kd=>shape_l0 s R hs r (i+1) kd h2
   have hl:=lowN_b c
   have hu:=upN_b c
   have hg:=digN_b c
   have e:i+(c::r).length=i+1+r.length:=by simp only[List.length_cons];omega
   rw[e]
   cases i with
   |zero=>
    simp only[Nat.zero_add,Int.cast_ofNat_Int] at ih h3 hd ⊢
    (rw[c122_l0_w];simp only[c122_l0_b,c122_l0_a,c122_r8,c122_r10,c122_r12,c122_r13,go_sem,h3,hd,nl,nu,nd,hl,hu,hg,ih];repeat' ((first|rw[guardO_t]|rw[guardO_f]|rw[cw_bool]);split<;>rename_i h<;>(try rw[Bool.not_eq_true] at h)<;>(try simp only[go_sem,c122_r8,c122_r10,c122_r12,c122_r13,c122_l0_a,h3,hd,nl,nu,nd,hl,hu,hg,ih, *])))<;>(try simp_all [shapeO])<;>(try omega)
   |succ i=>
    have h0: ¬ (((i+1:Nat):Int)=0):=by omega
    have h0':(0:Int)<((i+1:Nat):Int):=by omega
    have h0'':(((i+1:Nat):Int)==0)=false:=by simp;omega
    (rw[c122_l0_w];simp only[c122_l0_b,c122_l0_a,c122_r8,c122_r10,c122_r12,c122_r13,go_sem,h3,hd,nl,nu,nd,hl,hu,hg,ih,h0,h0',h0''];repeat' ((first|rw[guardO_t]|rw[guardO_f]|rw[cw_bool]);split<;>rename_i h<;>(try rw[Bool.not_eq_true] at h)<;>(try simp only[go_sem,c122_r8,c122_r10,c122_r12,c122_r13,c122_l0_a,h3,hd,nl,nu,nd,hl,hu,hg,ih,h0,h0',h0'', *])))<;>(try simp_all [shapeO])<;>(try omega)
  ·have hd:=decode_high h1 (by omega)
   have q1:lowB c=false:=by rw[←lowN_b];exact lowN_high (by omega)
   have q2:upB c=false:=by rw[←upN_b];exact upN_high (by omega)
   have q3:digB c=false:=by rw[←digN_b];exact digN_high (by omega)
   have p1:=lowN_high hd
   have p2:=upN_high hd
   have p3:=digN_high hd
   have e:shapeO i kd (c::r)=none:=by
    cases i<;>simp[shapeO,q1,q2,q3]
   rw[e]
   (rw[c122_l0_w];simp only[c122_l0_b,c122_l0_a,c122_r8,c122_r10,c122_r12,c122_r13,go_sem,h3,nl,nu,nd,p1,p2,p3];repeat' ((first|rw[guardO_t]|rw[guardO_f]|rw[cw_bool]);split<;>rename_i h<;>(try rw[Bool.not_eq_true] at h)<;>(try simp only[go_sem,c122_r8,c122_r10,c122_r12,c122_r13,c122_l0_a,h3,nl,nu,nd,p1,p2,p3, *])))
theorem shape_eq (s:ByteArray) (S:St):cal (env ot oz) 122 [.str s] S=some (.int .i64 (shapeS s),S):=by
 refine cal_any (env_free ot oz) ?_ rfl rfl S
 by_cases hs:8<s.size
 ·have e:shapeS s=0:=if_pos hs
  have h1:(8:Int)<(s.size:Int):=by omega
  (rw[w_plain (fn:=c122) rfl rfl (by simp only[go_sem,h1,e]) rfl (by decide)];simp only[c122,c122_b,c122_r8,c122_r10,c122_r12,c122_r13,go_sem,h1,e];repeat' ((first|rw[guardO_t]|rw[guardO_f]|rw[cw_bool]);split<;>rename_i h<;>(try rw[Bool.not_eq_true] at h)<;>(try simp only[go_sem,c122_r8,c122_r10,c122_r12,c122_r13,h1,e, *])))
 ·have e:shapeS s=(shapeO 0 0 s.data.toList).getD 0:=if_neg hs
  have h1: ¬ (8:Int)<(s.size:Int):=by omega
  have f:=fun R=>shape_l0 (ot:=ot) (oz:=oz) s R (by omega) s.data.toList 0 0 rfl
  cases q:shapeO 0 0 s.data.toList with
  |none=>
   simp only[q,Option.getD_none] at f e
   (rw[w_plain (fn:=c122) rfl rfl (by simp only[go_sem,h1,e,f]) rfl (by decide)];simp only[c122,c122_b,c122_r8,c122_r10,c122_r12,c122_r13,go_sem,h1,e,f];repeat' ((first|rw[guardO_t]|rw[guardO_f]|rw[cw_bool]);split<;>rename_i h<;>(try rw[Bool.not_eq_true] at h)<;>(try simp only[go_sem,c122_r8,c122_r10,c122_r12,c122_r13,h1,e,f, *])))
  |some k=>
   simp only[q,Option.getD_some] at f e
   (rw[w_plain (fn:=c122) rfl rfl (by simp only[go_sem,h1,e,f]) rfl (by decide)];simp only[c122,c122_b,c122_r8,c122_r10,c122_r12,c122_r13,go_sem,h1,e,f];repeat' ((first|rw[guardO_t]|rw[guardO_f]|rw[cw_bool]);split<;>rename_i h<;>(try rw[Bool.not_eq_true] at h)<;>(try simp only[go_sem,c122_r8,c122_r10,c122_r12,c122_r13,h1,e,f, *])))
theorem shapeO_in (kd:Int) (h:kd=1∨kd=2): ∀ (r:List UInt8) (i:Nat),shapeO (i+1) kd r=if r.all (innerB kd) then some kd else none
 |[],i=>by simp[shapeO]
 |c::r,i=>by
  rw[shapeO,shapeO_in kd h r (i+1),List.all_cons]
  have e:((kd !=0&&(lowB c||digB c))||(kd==2&&upB c))=innerB kd c:=by
   unfold innerB
   rcases h with rfl|rfl<;>cases lowB c<;>cases digB c<;>cases upB c<;>rfl
  rw[e]
  cases innerB kd c<;>simp
theorem low_not_up {c:UInt8} (h:lowB c=true):upB c=false:=by
 unfold lowB at h;unfold upB
 simp only[Bool.and_eq_true,decide_eq_true_eq] at h
 simp;omega
theorem shape_kind (s:ByteArray):shapeS s=kindL s.data.toList:=by
 have hd:=size_data s
 unfold shapeS
 cases hs:s.data.toList with
 |nil=>rw[hs] at hd;simp at hd;simp[shapeO,kindL]
 |cons c r=>
  rw[hs] at hd;simp only[List.length_cons] at hd
  rw[show kindL (c::r)=if (decide (r.length≤7)&&r.all (innerB (firstK c)))=true then firstK c else 0 from rfl]
  by_cases h8:8<s.size
  ·rw[if_pos h8,if_neg (by simp;omega)]
  ·rw[if_neg h8]
   have h7:decide (r.length≤7)=true:=by simp;omega
   rw[shapeO,h7,Bool.true_and]
   unfold firstK
   cases hl:lowB c with
   |true=>
    have hu:=low_not_up hl
    simp only[hl,hu,if_true,Bool.false_eq_true,if_false]
    rw[shapeO_in 1 (.inl rfl)]
    split<;>rfl
   |false=>
    simp only[hl,Bool.false_eq_true,if_false]
    cases hu:upB c with
    |true=>
     simp only[if_true]
     rw[shapeO_in 2 (.inr rfl)]
     split<;>rfl
    |false=>simp
theorem nkind (s:ByteArray) (S:St):cal (env ot oz) 99 [.str s] S=some (.int .i64 (kindS s),S):=by
 have f:=fun S=>shape_eq (ot:=ot) (oz:=oz) s S
 simp only[shape_kind] at f
 have e:kindS s=if wordsA.any (strEq s ·) then 3 else if wordsB.any (strEq s ·) then 4 else kindL s.data.toList:=by
  have c: ∀ x,strEq s x=strEq x s:=fun x=>by unfold strEq;exact Bool.beq_comm
  unfold kindS keptS
  simp only[c]
  split
  ·rfl
  ·split<;>rfl
 simp only[wordsA,wordsB,List.any_cons,List.any_nil] at e
 (rw[w_plain (fn:=c99) rfl rfl (by simp only[go_sem,f]) rfl (by decide)];simp only[c99,c99_b,go_sem,f];repeat' ((first|rw[guardO_t]|rw[guardO_f]|rw[cw_bool]);split<;>rename_i h<;>(try rw[Bool.not_eq_true] at h)<;>(try simp only[go_sem,f, *])))<;>(try simp_all [e])<;>(try omega)
theorem nfine (s:ByteArray) (S:St):cal (env ot oz) 58 [.str s] S=some (.bool (fineS s),S):=by
 have f:=nkind (ot:=ot) (oz:=oz) s
 (rw[w_plain (fn:=c58) rfl rfl (by simp only[go_sem,f]) rfl (by decide)];simp only[c58,c58_b,go_sem,f];repeat' ((first|rw[guardO_t]|rw[guardO_f]|rw[cw_bool]);split<;>rename_i h<;>(try rw[Bool.not_eq_true] at h)<;>(try simp only[go_sem,f, *])))<;>(try simp_all [fineS])<;>(try omega)
theorem nvar (s:ByteArray) (S:St):cal (env ot oz) 60 [.str s] S=some (.bool (varS s),S):=by
 have f:=nkind (ot:=ot) (oz:=oz) s
 (rw[w_plain (fn:=c60) rfl rfl (by simp only[go_sem,f]) rfl (by decide)];simp only[c60,c60_b,go_sem,f];repeat' ((first|rw[guardO_t]|rw[guardO_f]|rw[cw_bool]);split<;>rename_i h<;>(try rw[Bool.not_eq_true] at h)<;>(try simp only[go_sem,f, *])))<;>(try simp_all [varS])<;>(try omega)
theorem nris_l0 (l:List ByteArray) (hl:Short l.length) (S:St) (fin:Kont (PV×St)) (st:List Fw): ∀ (rest:List ByteArray) (i:Nat) (p:Option ByteArray),l.drop i=rest→(i=0∧p=none∨ ∃ j q,i=j+1∧l[j]?=some q∧p=some q)→
  run (env ot oz) fin st c83_l0 [(0,some (.sl .ro (l.map rStr))),(5,some (.sl .ro (l.map rStr))),(6,some (.int .i64 (l.length:Int))),(7,some (.int .i64 (i:Int)))] S=
   if risF p rest then aft (env ot oz) fin st (.exit 0) [(0,some (.sl .ro (l.map rStr))),(5,some (.sl .ro (l.map rStr))),(6,some (.int .i64 (l.length:Int))),(7,some (.int .i64 ((i+rest.length:Nat):Int))),(8,some (.bool false))] S else aft (env ot oz) fin st .ret [(2,some (.bool false))] S
 |[],i,p,h,hp=>by
  have hlt:=lt_no (drop_nil h)
  simp only[risF]
  (rw[c83_l0_w];simp only[c83_l0_b,c83_l0_a,c83_r4,go_sem,hlt])
 |s::r,i,p,h,hp=>by
  obtain ⟨h1,h2,h3⟩:=drop_cons h
  unfold Short maxLen at hl
  have e:i+(s::r).length=i+1+r.length:=by simp only[List.length_cons];omega
  have w:=wrap_succ (i:=i) (n:=l.length) h3 (by omega)
  have hlt:(i:Int)<(l.length:Int):=by omega
  have ih:=nris_l0 l (by unfold Short maxLen;omega) S fin st r (i+1) (some s) h2 (.inr ⟨i,s,rfl,h1,rfl⟩)
  have cF:=nfine (ot:=ot) (oz:=oz)
  rw[e]
  rcases hp with ⟨rfl,rfl⟩|⟨j,q,rfl,hq,rfl⟩
  ·simp only[Int.cast_ofNat_Int,Nat.zero_add,Int.zero_add] at w ih
   (rw[c83_l0_w];simp only[c83_l0_b,c83_l0_a,c83_r4,go_sem,h3,h1,w,ih,cF];repeat' ((first|rw[guardO_t]|rw[guardO_f]|rw[cw_bool]);split<;>rename_i h<;>(try rw[Bool.not_eq_true] at h)<;>(try simp only[go_sem,c83_r4,c83_l0_a,h3,h1,w,ih,cF, *])))<;>(try simp_all [risF])<;>(try omega)
  ·have hz:(0:Int)<((j+1:Nat):Int):=by omega
   have w1:IntKind.i64.wrap (((j+1:Nat):Int) - 1)=(j:Int):=by rw[wrap64 (by omega) (by omega)];omega
   have hj:(j:Int)<(l.length:Int):=by omega
   have e2:risF (some q) (s::r)=(fineS s&&(strLt q s&&risF (some s) r)):=rfl
   rw[e2]
   cases q1:fineS s<;>cases q2:strLt q s<;>(rw[c83_l0_w];simp only[c83_l0_b,c83_l0_a,c83_r4,go_sem,hlt,h1,w,ih,cF,hz,w1,hj,hq,q1,q2])
theorem nrising (l:List ByteArray) (hl:Short l.length) (S:St):cal (env ot oz) 83 [.sl .ro (l.map rStr)] S=some (.bool (risingS l),S):=by
 have f:=fun fin st=>nris_l0 (ot:=ot) (oz:=oz) l hl S fin st l 0 none rfl (.inl ⟨rfl,rfl⟩)
 have e:risingS l=risF none l:=rfl
 simp only[Int.cast_ofNat_Int] at f
 cases q:risF none l<;>simp only[q,if_true,if_false,Bool.false_eq_true] at f e<;>(rw[w_plain (fn:=c83) rfl rfl (by simp only[go_sem,f,e]) rfl (by decide)];simp only[c83,c83_b,c83_r4,go_sem,f,e])
end
end Go.PE
namespace Go.PE
open Go Go.RowKit Go.Proofs
set_option linter.unusedVariables false
set_option linter.unusedSimpArgs false
set_option maxRecDepth 100000
section
variable {ot:TypeId} {oz:EP}
theorem indexF_l0Ty (l:List GTy) (p:GTy→Bool) (hl:Short l.length) (f:FuncId) (first caps:List PV) (S:St) (hp: ∀ a∈l,cal (env ot oz) f (first++[.agg (rTy a)]++caps) S=some (.bool (p a),S)) (fin:Kont (PV×St)) (st:List Fw): ∀ (rest:List GTy) (i:Nat),l.drop i=rest→
  run (env ot oz) fin st c114_l0 [(0,some (.sl .ro (l.map rTy))),(1,some (.fn f first caps)),(7,some (.int .i64 (l.length:Int))),(8,some (.int .i64 (i:Int)))] S=
   if rest.any p then aft (env ot oz) fin st .ret [(4,some (.int .i64 ((i+rest.findIdx p:Nat):Int)))] S else aft (env ot oz) fin st (.exit 0) [(0,some (.sl .ro (l.map rTy))),(1,some (.fn f first caps)),(7,some (.int .i64 (l.length:Int))),(8,some (.int .i64 ((i+rest.length:Nat):Int))),(9,some (.bool false))] S
 |[],i,h=>by
  have hlt:=lt_no (drop_nil h)
  (rw[c114_l0_w];simp only[c114_l0_b,c114_l0_a,go_sem,hlt,List.any_nil])
 |a::r,i,h=>by
  obtain ⟨h1,h2,h3⟩:=drop_cons h
  unfold Short maxLen at hl
  have e:i+(a::r).length=i+1+r.length:=by simp only[List.length_cons];omega
  have w:=wrap_succ (i:=i) (n:=l.length) h3 (by omega)
  have hlt:(i:Int)<(l.length:Int):=by omega
  have ih:=indexF_l0Ty l p (by unfold Short maxLen;omega) f first caps S hp fin st r (i+1) h2
  have ca:=hp a (mem_of_get h1)
  simp only[List.append_assoc,List.cons_append,List.nil_append,rStr_eq] at ca
  rw[e]
  cases q:p a with
  |true=>
   have e2:(a::r).findIdx p=0:=by simp[List.findIdx_cons,q]
   rw[e2]
   (rw[c114_l0_w];simp only[c114_l0_b,c114_l0_a,go_sem,hlt,h1,w,ca,q,List.any_cons])
  |false=>
   have e2:i+(a::r).findIdx p=i+1+r.findIdx p:=by simp[List.findIdx_cons,q];omega
   rw[e2]
   (rw[c114_l0_w];simp only[c114_l0_b,c114_l0_a,go_sem,hlt,h1,w,ca,q,ih,List.any_cons])
theorem indexFTy (l:List GTy) (p:GTy→Bool) (hl:Short l.length) (f:FuncId) (first caps:List PV) (S:St) (hf: ∀ n d,sealL n d first=some first) (hc: ∀ n d,sealL n d caps=some caps) (hp: ∀ a∈l,cal (env ot oz) f (first++[.agg (rTy a)]++caps) S=some (.bool (p a),S)):
  cal (env ot oz) 114 [.sl .ro (l.map rTy),.fn f first caps] S=some (.int .i64 (if l.any p then (l.findIdx p:Int) else -1),S):=by
 have h:=fun fin st=>indexF_l0Ty (ot:=ot) (oz:=oz) l p hl f first caps S hp fin st l 0 rfl
 simp only[Int.cast_ofNat_Int,Nat.zero_add] at h
 cases q:l.any p<;>simp only[q,if_true,if_false,Bool.false_eq_true] at h<;>(rw[w_plain (fn:=c114) rfl rfl (by simp only[go_sem,hf,hc,h,q]) rfl (by decide)];simp only[c114,c114_b,go_sem,hf,hc,h,q])
theorem indexF_l0Exp (l:List GExp) (p:GExp→Bool) (hl:Short l.length) (f:FuncId) (first caps:List PV) (S:St) (hp: ∀ a∈l,cal (env ot oz) f (first++[.agg (rExp a)]++caps) S=some (.bool (p a),S)) (fin:Kont (PV×St)) (st:List Fw): ∀ (rest:List GExp) (i:Nat),l.drop i=rest→
  run (env ot oz) fin st c116_l0 [(0,some (.sl .ro (l.map rExp))),(1,some (.fn f first caps)),(7,some (.int .i64 (l.length:Int))),(8,some (.int .i64 (i:Int)))] S=
   if rest.any p then aft (env ot oz) fin st .ret [(4,some (.int .i64 ((i+rest.findIdx p:Nat):Int)))] S else aft (env ot oz) fin st (.exit 0) [(0,some (.sl .ro (l.map rExp))),(1,some (.fn f first caps)),(7,some (.int .i64 (l.length:Int))),(8,some (.int .i64 ((i+rest.length:Nat):Int))),(9,some (.bool false))] S
 |[],i,h=>by
  have hlt:=lt_no (drop_nil h)
  (rw[c116_l0_w];simp only[c116_l0_b,c116_l0_a,go_sem,hlt,List.any_nil])
 |a::r,i,h=>by
  obtain ⟨h1,h2,h3⟩:=drop_cons h
  unfold Short maxLen at hl
  have e:i+(a::r).length=i+1+r.length:=by simp only[List.length_cons];omega
  have w:=wrap_succ (i:=i) (n:=l.length) h3 (by omega)
  have hlt:(i:Int)<(l.length:Int):=by omega
  have ih:=indexF_l0Exp l p (by unfold Short maxLen;omega) f first caps S hp fin st r (i+1) h2
  have ca:=hp a (mem_of_get h1)
  simp only[List.append_assoc,List.cons_append,List.nil_append,rStr_eq] at ca
  rw[e]
  cases q:p a with
  |true=>
   have e2:(a::r).findIdx p=0:=by simp[List.findIdx_cons,q]
   rw[e2]
   (rw[c116_l0_w];simp only[c116_l0_b,c116_l0_a,go_sem,hlt,h1,w,ca,q,List.any_cons])
  |false=>
   have e2:i+(a::r).findIdx p=i+1+r.findIdx p:=by simp[List.findIdx_cons,q];omega
   rw[e2]
   (rw[c116_l0_w];simp only[c116_l0_b,c116_l0_a,go_sem,hlt,h1,w,ca,q,ih,List.any_cons])
theorem indexFExp (l:List GExp) (p:GExp→Bool) (hl:Short l.length) (f:FuncId) (first caps:List PV) (S:St) (hf: ∀ n d,sealL n d first=some first) (hc: ∀ n d,sealL n d caps=some caps) (hp: ∀ a∈l,cal (env ot oz) f (first++[.agg (rExp a)]++caps) S=some (.bool (p a),S)):
  cal (env ot oz) 116 [.sl .ro (l.map rExp),.fn f first caps] S=some (.int .i64 (if l.any p then (l.findIdx p:Int) else -1),S):=by
 have h:=fun fin st=>indexF_l0Exp (ot:=ot) (oz:=oz) l p hl f first caps S hp fin st l 0 rfl
 simp only[Int.cast_ofNat_Int,Nat.zero_add] at h
 cases q:l.any p<;>simp only[q,if_true,if_false,Bool.false_eq_true] at h<;>(rw[w_plain (fn:=c116) rfl rfl (by simp only[go_sem,hf,hc,h,q]) rfl (by decide)];simp only[c116,c116_b,go_sem,hf,hc,h,q])
theorem containsFTy (l:List GTy) (p:GTy→Bool) (hl:Short l.length) (f:FuncId) (first caps:List PV) (S:St) (hf: ∀ n d,sealL n d first=some first) (hc: ∀ n d,sealL n d caps=some caps) (hp: ∀ a∈l,cal (env ot oz) f (first++[.agg (rTy a)]++caps) S=some (.bool (p a),S)):
  cal (env ot oz) 84 [.sl .ro (l.map rTy),.fn f first caps] S=some (.bool (l.any p),S):=by
 have h:=indexFTy (ot:=ot) (oz:=oz) l p hl f first caps S hf hc hp
 cases q:l.any p<;>simp only[q,if_true,if_false,Bool.false_eq_true] at h<;>(rw[w_plain (fn:=c84) rfl rfl (by simp only[go_sem,hf,hc,h,q]) rfl (by decide)];simp only[c84,c84_b,go_sem,hf,hc,h,q])
theorem containsFExp (l:List GExp) (p:GExp→Bool) (hl:Short l.length) (f:FuncId) (first caps:List PV) (S:St) (hf: ∀ n d,sealL n d first=some first) (hc: ∀ n d,sealL n d caps=some caps) (hp: ∀ a∈l,cal (env ot oz) f (first++[.agg (rExp a)]++caps) S=some (.bool (p a),S)):
  cal (env ot oz) 87 [.sl .ro (l.map rExp),.fn f first caps] S=some (.bool (l.any p),S):=by
 have h:=indexFExp (ot:=ot) (oz:=oz) l p hl f first caps S hf hc hp
 cases q:l.any p<;>simp only[q,if_true,if_false,Bool.false_eq_true] at h<;>(rw[w_plain (fn:=c87) rfl rfl (by simp only[go_sem,hf,hc,h,q]) rfl (by decide)];simp only[c87,c87_b,go_sem,hf,hc,h,q])
end
end Go.PE
namespace Go.PE
open Go Go.RowKit Go.Proofs
set_option linter.unusedVariables false
set_option linter.unusedSimpArgs false
set_option maxRecDepth 100000
section
variable {ot:TypeId} {oz:EP}
theorem len0 {α:Type} (l:List α):((l.length:Int)==0)= !decide (0<l.length):=by
 cases l<;>simp<;>omega
theorem bare_eq (t:GTy) (S:St):cal (env ot oz) 106 [.agg (rTy t)] S=some (.bool (!(badT t)),S):=by
 (rw[w_plain (fn:=c106) rfl rfl (by simp only[go_sem]) rfl (by decide)];simp only[c106,c106_b,c106_r1,go_sem];repeat' ((first|rw[guardO_t]|rw[guardO_f]|rw[cw_bool]);split<;>rename_i h<;>(try rw[Bool.not_eq_true] at h)<;>(try simp only[go_sem,c106_r1, *])))<;>(try simp_all [badT,len0])<;>(try omega)
theorem rightTs_any: ∀ l:List GTy,rightTs l= !(l.any fun a=> !(rightT a))
 |[]=>rfl
 |a::r=>by rw[rightTs,rightTs_any r,List.any_cons];cases rightT a<;>simp
theorem right_eq: ∀ (t:GTy),OkTy t→ ∀ S,cal (env ot oz) 65 [.agg (rTy t)] S=some (.bool (rightT t),S):=by
 refine GTy.ind fun t ih ok S=> ?_
 have hA:Short t.Args.length∧(∀ x∈t.Args,OkTy x)∧Short t.Labels.length:=by cases ok;exact ⟨by assumption,by assumption,(by assumption:_∧_).1⟩
 have b:=bare_eq (ot:=ot) (oz:=oz) t
 have h1: ∀ a∈t.Args,cal (env ot oz) 107 [.agg (rTy a)] S=some (.bool (!(rightT a)),S):=fun a ha=>by
  have c:=ih a ha (hA.2.1 a ha)
  (rw[w_plain (fn:=c107) rfl rfl (by simp only[go_sem,c]) rfl (by decide)];simp only[c107,c107_b,go_sem,c];repeat' ((first|rw[guardO_t]|rw[guardO_f]|rw[cw_bool]);split<;>rename_i h<;>(try rw[Bool.not_eq_true] at h)<;>(try simp only[go_sem,c, *])))
 have c:=containsFTy (ot:=ot) (oz:=oz) t.Args (fun a=> !(rightT a)) hA.1 107 [] [] S (fun _ _=>rfl) (fun _ _=>rfl) h1
 have v:=nvar (ot:=ot) (oz:=oz) t.Name
 have rs:=nrising (ot:=ot) (oz:=oz) t.Labels hA.2.2
 have e:rightT t=(rightTs t.Args&&headT t):=rightT_eq t
 rw[rightTs_any] at e
 (rw[w_plain (fn:=c65) rfl rfl (by simp only[go_sem,b,c,v,rs]) rfl (by decide)];simp only[c65,c65_b,c65_r1,c65_r11,c65_r13,c65_r17,go_sem,b,c,v,rs];repeat' ((first|rw[guardO_t]|rw[guardO_f]|rw[cw_bool]);split<;>rename_i h<;>(try rw[Bool.not_eq_true] at h)<;>(try simp only[go_sem,c65_r1,c65_r11,c65_r13,c65_r17,b,c,v,rs, *])))<;>(try simp_all [e,headT])<;>(try omega)
end
end Go.PE
