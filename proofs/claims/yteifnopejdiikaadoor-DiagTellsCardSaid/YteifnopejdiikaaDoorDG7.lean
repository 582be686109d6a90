/-
  Two lists that are the same; what the law asks of a list; the first that is an error: by the program, and by the document. Conditions: each law's own.
-/
import Derived.Test.YteifnopejdiikaaDoorDG6
namespace Go.PE
open Go Go.RowKit Go.Proofs
set_option linter.unusedVariables false
set_option linter.unusedSimpArgs false
set_option maxRecDepth 100000
theorem loopPJ {α:Type} {E:Env} {c:EC} (l:List α) (hl:Short l.length) (F:Nat→Tmps) (p:α→Bool) (J:α→List Ob) (fin:Kont (PV×St)) (st:List Fw) (K:α→St→Option (PV×St)) (X:St→Option (PV×St))
  (hs: ∀ (i:Nat) (a:α) (T:St),l[i]?=some a→a∈l→(i:Int)<(l.length:Int)→IntKind.i64.wrap ((i:Int)+1)=((i+1:Nat):Int)→p a=false→run E fin st c (F i) T=run E fin st c (F (i+1)) ⟨T.obs++J a,T.own⟩)
  (hk: ∀ (i:Nat) (a:α) (T:St),l[i]?=some a→a∈l→(i:Int)<(l.length:Int)→IntKind.i64.wrap ((i:Int)+1)=((i+1:Nat):Int)→p a=true→run E fin st c (F i) T=K a ⟨T.obs++J a,T.own⟩) (hx: ∀ T,run E fin st c (F l.length) T=X T) (S:St):
  run E fin st c (F 0) S=match l.find? p with|some a=>K a ⟨S.obs++(l.take (l.findIdx p+1)).flatMap J,S.own⟩|none=>X ⟨S.obs++(l.take (l.findIdx p+1)).flatMap J,S.own⟩:=by
 have key: ∀ (rest:List α) (i:Nat) (T:St),l.drop i=rest→run E fin st c (F i) T=match rest.find? p with|some a=>K a ⟨T.obs++(rest.take (rest.findIdx p+1)).flatMap J,T.own⟩|none=>run E fin st c (F (i+rest.length)) ⟨T.obs++(rest.take (rest.findIdx p+1)).flatMap J,T.own⟩:=by
  intro rest
  induction rest with
  |nil=>intro i T h;simp
  |cons a r ih=>
   intro i T h
   obtain ⟨h1,h2,h3⟩:=drop_cons h
   unfold Short maxLen at hl
   have w:=wrap_succ (i:=i) (n:=l.length) h3 (by omega)
   have hlt:(i:Int)<(l.length:Int):=by omega
   cases q:p a with
   |true=>rw[hk i a T h1 (mem_of_get h1) hlt w q,List.find?_cons,q,List.findIdx_cons,q];simp
   |false=>
    have e:i+(a::r).length=i+1+r.length:=by simp only[List.length_cons];omega
    rw[hs i a T h1 (mem_of_get h1) hlt w q,ih (i+1) _ h2,List.find?_cons,q,List.findIdx_cons,q,e]
    simp only[cond_false,List.take_succ_cons,List.flatMap_cons,List.append_assoc]
 have:=key l 0 S rfl
 rw[this,Nat.zero_add]
 cases l.find? p<;>simp only[hx]
def errOf (d:GDiag):PV:= .ifc 57 (.at_ [.str d.At.Def,.ifc 52 (.at_ [.int .i64 d.Code,.int .i64 d.At.Node])])
def isErr (d:GDiag):Bool:=d.Code !=0
def errD (l:List GDiag):PV:=match l.find? isErr with|some d=>errOf d|none=> .nilifc
def firstD (l:List GDiag):Int:=if l.any isErr then (l.findIdx isErr:Int) else -1
def shortD (l:List GDiag):Bool:= !((l.take 70).any fun d=>decide (100<d.At.Def.size))&&decide (l.length≤60)
section
variable {ot:TypeId} {oz:EP}
theorem same_self (l:List GDiag) (hl:l.length≤1000000000) (S:St):cal (env ot oz) 10 [.sl .ro (l.map rDiag),.sl .ro (l.map rDiag)] S=some (.bool true,S):=by
 have f0:=fun fin st X hx=>loopA (E:=(env ot oz)) (S:=S) (c:=c10_l0) l (by unfold Short maxLen;omega) (fun i=>[(0,some (.sl .ro (l.map rDiag))),(1,some (.sl .ro (l.map rDiag))),(5,some (.int .i64 (i:Int)))]) (fun _=>false) fin st none X
  (fun i x h1 h2 h3 h4 h5=>by
   have q:=eqD x x
   have hs:sameD x x=true:=sameD_iff.2 rfl
   (rw[c10_l0_w];simp only[c10_l0_b,c10_l0_a,c10_r4,go_sem,h1,h3,h4,↓q,hs];repeat' ((first|rw[guardO_t]|rw[guardO_f]|rw[cw_bool]);split<;>rename_i h<;>(try rw[Bool.not_eq_true] at h)<;>(try simp only[go_sem,c10_r4,c10_l0_a,h1,h3,h4,↓q,hs, *]))))
  (fun i x h1 h2 h3 h4 h5=>by cases h5)
  hx
 have hx: ∀ fin st,run (env ot oz) fin st c10_l0 [(0,some (.sl .ro (l.map rDiag))),(1,some (.sl .ro (l.map rDiag))),(5,some (.int .i64 (l.length:Int)))] S=aft (env ot oz) fin st (.exit 0) [(0,some (.sl .ro (l.map rDiag))),(1,some (.sl .ro (l.map rDiag))),(5,some (.int .i64 (l.length:Int))),(20,some (.bool false))] S:=fun fin st=>by
  (rw[c10_l0_w];simp only[c10_l0_b,c10_l0_a,c10_r4,go_sem];repeat' ((first|rw[guardO_t]|rw[guardO_f]|rw[cw_bool]);split<;>rename_i h<;>(try rw[Bool.not_eq_true] at h)<;>(try simp only[go_sem,c10_r4,c10_l0_a, *])))
 have f:=fun fin st=>f0 fin st _ (hx fin st)
 have ha:l.any (fun _=>false)=false:=by simp
 simp only[Int.cast_ofNat_Int,ha,Bool.false_eq_true,if_false] at f
 (rw[w_plain (fn:=c10) rfl rfl (by simp only[go_sem,f]) rfl (by decide)];simp only[c10,c10_b,c10_r4,go_sem,f];repeat' ((first|rw[guardO_t]|rw[guardO_f]|rw[cw_bool]);split<;>rename_i h<;>(try rw[Bool.not_eq_true] at h)<;>(try simp only[go_sem,c10_r4,f, *])))
theorem short24 (l:List GDiag) (S:St):cal (env ot oz) 5 [.sl .ro (l.map rDiag)] S=some (.bool (shortD l),S):=by
 have f:=fun fin st K X hk hx=>loopA (E:=(env ot oz)) (S:=S) (c:=c5_l0) (l.take 70) (by unfold Short maxLen;simp;omega) (fun i=>[(0,some (.sl .ro (l.map rDiag))),(3,some (.int .i64 (i:Int)))]) (fun d=>decide (100<d.At.Def.size)) fin st K X
  (fun i x h1 h2 h3 h4 h5=>by
   have hi:=getElem?_lt h1
   simp only[List.length_take] at hi
   rw[List.getElem?_take_of_lt (by omega)] at h1
   have d1:decide ((i:Int)<(l.length:Int))=true:=decide_eq_true (by omega)
   have d2:decide ((i:Int)<70)=true:=decide_eq_true (by omega)
   have d3:decide ((100:Int)<(x.At.Def.size:Int))=false:=by simp at h5 ⊢;omega
   have d4:(i:Int)<(l.length:Int):=by omega
   (rw[c5_l0_w];simp only[c5_l0_b,c5_l0_a,c5_r2,go_sem,h1,h4,d1,d2,d3,d4];repeat' ((first|rw[guardO_t]|rw[guardO_f]|rw[cw_bool]);split<;>rename_i h<;>(try rw[Bool.not_eq_true] at h)<;>(try simp only[go_sem,c5_r2,c5_l0_a,h1,h4,d1,d2,d3,d4, *]))))
  hk hx
 have hk: ∀ fin st (i:Nat) (x:GDiag),(l.take 70)[i]?=some x→x∈l.take 70→(i:Int)<((l.take 70).length:Int)→IntKind.i64.wrap ((i:Int)+1)=((i+1:Nat):Int)→decide (100<x.At.Def.size)=true→run (env ot oz) fin st c5_l0 [(0,some (.sl .ro (l.map rDiag))),(3,some (.int .i64 (i:Int)))] S=aft (env ot oz) fin st .ret (sel (some [2]) [(2,some (.bool false))]) S:=fun fin st i x h1 h2 h3 h4 h5=>by
  have hi:=getElem?_lt h1
  simp only[List.length_take] at hi
  rw[List.getElem?_take_of_lt (by omega)] at h1
  have d1:decide ((i:Int)<(l.length:Int))=true:=decide_eq_true (by omega)
  have d2:decide ((i:Int)<70)=true:=decide_eq_true (by omega)
  have d3:decide ((100:Int)<(x.At.Def.size:Int))=true:=by simp at h5 ⊢;omega
  have d4:(i:Int)<(l.length:Int):=by omega
  (rw[c5_l0_w];simp only[c5_l0_b,c5_l0_a,c5_r2,go_sem,h1,h4,d1,d2,d3,d4];repeat' ((first|rw[guardO_t]|rw[guardO_f]|rw[cw_bool]);split<;>rename_i h<;>(try rw[Bool.not_eq_true] at h)<;>(try simp only[go_sem,c5_r2,c5_l0_a,h1,h4,d1,d2,d3,d4, *])))
 have hx: ∀ fin st,run (env ot oz) fin st c5_l0 [(0,some (.sl .ro (l.map rDiag))),(3,some (.int .i64 ((l.take 70).length:Int)))] S=aft (env ot oz) fin st (.exit 0) [(0,some (.sl .ro (l.map rDiag))),(3,some (.int .i64 ((l.take 70).length:Int))),(11,some (.bool false))] S:=fun fin st=>by
  have hlen:(l.take 70).length=min 70 l.length:=by simp
  generalize (l.take 70).length=k at*
  by_cases h:l.length≤70
  ·have d1:decide ((k:Int)<(l.length:Int))=false:=decide_eq_false (by omega)
   (rw[c5_l0_w];simp only[c5_l0_b,c5_l0_a,c5_r2,go_sem,d1];repeat' ((first|rw[guardO_t]|rw[guardO_f]|rw[cw_bool]);split<;>rename_i h<;>(try rw[Bool.not_eq_true] at h)<;>(try simp only[go_sem,c5_r2,c5_l0_a,d1, *])))
  ·have d1:decide ((k:Int)<(l.length:Int))=true:=decide_eq_true (by omega)
   have d2:decide ((k:Int)<70)=false:=decide_eq_false (by omega)
   (rw[c5_l0_w];simp only[c5_l0_b,c5_l0_a,c5_r2,go_sem,d1,d2];repeat' ((first|rw[guardO_t]|rw[guardO_f]|rw[cw_bool]);split<;>rename_i h<;>(try rw[Bool.not_eq_true] at h)<;>(try simp only[go_sem,c5_r2,c5_l0_a,d1,d2, *])))
 have g:=fun fin st=>f fin st _ _ (hk fin st) (hx fin st)
 simp only[Int.cast_ofNat_Int] at g
 have d5:decide ((l.length:Int)≤60)=decide (l.length≤60):=by
  by_cases h:l.length≤60
  ·rw[decide_eq_true h,decide_eq_true (by omega)]
  ·rw[decide_eq_false h,decide_eq_false (by omega)]
 unfold shortD
 generalize decide (l.length≤60)=b at*
 cases ha:(l.take 70).any fun d=>decide (100<d.At.Def.size) with
 |true=>
  simp only[ha,if_true] at g
  (rw[w_plain (fn:=c5) rfl rfl (by simp only[go_sem,g,d5]) rfl (by decide)];simp only[c5,c5_b,c5_r2,go_sem,g,d5];repeat' ((first|rw[guardO_t]|rw[guardO_f]|rw[cw_bool]);split<;>rename_i h<;>(try rw[Bool.not_eq_true] at h)<;>(try simp only[go_sem,c5_r2,g,d5, *])))
 |false=>
  simp only[ha,Bool.false_eq_true,if_false] at g
  (rw[w_plain (fn:=c5) rfl rfl (by simp only[go_sem,g,d5]) rfl (by decide)];simp only[c5,c5_b,c5_r2,go_sem,g,d5];repeat' ((first|rw[guardO_t]|rw[guardO_f]|rw[cw_bool]);split<;>rename_i h<;>(try rw[Bool.not_eq_true] at h)<;>(try simp only[go_sem,c5_r2,g,d5, *])))
theorem new_nz (c n:Int) (hc:c≠0) (S:St):cal (env ot oz) 26 [.int .i64 c,.int .i64 n] S=some (.ifc 52 (.at_ [.int .i64 c,.int .i64 n]),S):=by
 have d0:(c==0)=false:=by simpa using hc
 have d1:decide (c=0)=false:=decide_eq_false hc
 (rw[w_plain (fn:=c26) rfl rfl (by simp only[go_sem,d0,d1]) rfl (by decide)];simp only[c26,c26_b,go_sem,d0,d1];repeat' ((first|rw[guardO_t]|rw[guardO_f]|rw[cw_bool]);split<;>rename_i h<;>(try rw[Bool.not_eq_true] at h)<;>(try simp only[go_sem,d0,d1, *])))
theorem in_nz (s:ByteArray) (t:TypeId) (c n:Int) (S:St):cal (env ot oz) 25 [.str s,.ifc t (.at_ [.int .i64 c,.int .i64 n])] S=some (.ifc 57 (.at_ [.str s,.ifc t (.at_ [.int .i64 c,.int .i64 n])]),S):=by
 (rw[w_plain (fn:=c25) rfl rfl (by simp only[go_sem]) rfl (by decide)];simp only[c25,c25_b,go_sem];repeat' ((first|rw[guardO_t]|rw[guardO_f]|rw[cw_bool]);split<;>rename_i h<;>(try rw[Bool.not_eq_true] at h)<;>(try simp only[go_sem, *])))
theorem close_err (S:St) (os:List Ob) (d:GDiag):close S ⟨S.obs++os,S.own⟩ (errOf d)=(errOf d,S):=by
 have:=close_junk S os [] (errOf d)
 rw[List.append_nil] at this
 rw[this]
 simp[errOf,sealW,sealL]
theorem err24 (l:List GDiag) (hl:l.length≤1000000000) (S:St):cal (env ot oz) 12 [.sl .ro (l.map rDiag)] S=some (errD l,S):=by
 have f:=fun fin st K X hk hx=>loopPJ (E:=(env ot oz)) (c:=c12_l0) l (by unfold Short maxLen;omega) (fun i=>[(5,some (.sl .ro (l.map rDiag))),(6,some (.int .i64 (l.length:Int))),(7,some (.int .i64 (i:Int)))]) isErr (fun d=>[.cells 31 (rDiag d)]) fin st K X
  (fun i d T h1 h2 h3 h4 h5=>by
   have d0:(d.Code==0)=true:=by unfold isErr at h5;simpa using h5
   have d1:(d.Code !=0)=false:=by unfold isErr at h5;exact h5
   (rw[c12_l0_w];simp only[c12_l0_b,c12_l0_a,go_sem,h1,h3,h4,d0,d1];repeat' ((first|rw[guardO_t]|rw[guardO_f]|rw[cw_bool]);split<;>rename_i h<;>(try rw[Bool.not_eq_true] at h)<;>(try simp only[go_sem,c12_l0_a,h1,h3,h4,d0,d1, *]))))
  hk hx S
 have hk: ∀ fin st (i:Nat) (d:GDiag) (T:St),l[i]?=some d→d∈l→(i:Int)<(l.length:Int)→IntKind.i64.wrap ((i:Int)+1)=((i+1:Nat):Int)→isErr d=true→run (env ot oz) fin st c12_l0 [(5,some (.sl .ro (l.map rDiag))),(6,some (.int .i64 (l.length:Int))),(7,some (.int .i64 (i:Int)))] T=(fun d T=>aft (env ot oz) fin st .ret (sel (some [2]) [(2,some (errOf d))]) T) d ⟨T.obs++[.cells 31 (rDiag d)],T.own⟩:=fun fin st i d T h1 h2 h3 h4 h5=>by
  have d2:d.Code≠0:=by unfold isErr at h5;simpa using h5
  have d0:(d.Code==0)=false:=by simpa using d2
  have d1:(d.Code !=0)=true:=by unfold isErr at h5;exact h5
  have c1:=fun T=>new_nz (ot:=ot) (oz:=oz) d.Code d.At.Node d2 T
  have c2:=fun T=>in_nz (ot:=ot) (oz:=oz) d.At.Def 52 d.Code d.At.Node T
  unfold errOf
  (rw[c12_l0_w];simp only[c12_l0_b,c12_l0_a,go_sem,h1,h3,d0,d1,c1,c2];repeat' ((first|rw[guardO_t]|rw[guardO_f]|rw[cw_bool]);split<;>rename_i h<;>(try rw[Bool.not_eq_true] at h)<;>(try simp only[go_sem,c12_l0_a,h1,h3,d0,d1,c1,c2, *])))
 have hx: ∀ fin st T,run (env ot oz) fin st c12_l0 [(5,some (.sl .ro (l.map rDiag))),(6,some (.int .i64 (l.length:Int))),(7,some (.int .i64 (l.length:Int)))] T=aft (env ot oz) fin st (.exit 0) [(5,some (.sl .ro (l.map rDiag))),(6,some (.int .i64 (l.length:Int))),(7,some (.int .i64 (l.length:Int))),(8,some (.bool false))] T:=fun fin st T=>by
  (rw[c12_l0_w];simp only[c12_l0_b,c12_l0_a,go_sem];repeat' ((first|rw[guardO_t]|rw[guardO_f]|rw[cw_bool]);split<;>rename_i h<;>(try rw[Bool.not_eq_true] at h)<;>(try simp only[go_sem,c12_l0_a, *])))
 have g: ∀ fin st,_:=fun fin st=>f fin st _ _ (hk fin st) (hx fin st)
 simp only[Int.cast_ofNat_Int] at g
 clear hk hx f
 unfold errD
 cases ha:l.find? isErr with
 |none=>
  simp only[ha] at g
  have cl: ∀ os,close S ⟨S.obs++os,S.own⟩ .nilifc=(.nilifc,S):=fun os=>by
   have:=close_junk S os [] .nilifc
   rw[List.append_nil] at this
   rw[this]
   simp[sealW]
  generalize (l.take (l.findIdx isErr+1)).flatMap (fun d=>[Ob.cells 31 (rDiag d)])=os at*
  (rw[w_plain (fn:=c12) rfl rfl (by simp only[go_sem,g,cl]) rfl (by decide)];simp only[c12,c12_b,go_sem,g,cl];repeat' ((first|rw[guardO_t]|rw[guardO_f]|rw[cw_bool]);split<;>rename_i h<;>(try rw[Bool.not_eq_true] at h)<;>(try simp only[go_sem,g,cl, *])))
 |some d=>
  simp only[ha] at g
  have cl:=fun os=>close_err S os d
  generalize (l.take (l.findIdx isErr+1)).flatMap (fun d=>[Ob.cells 31 (rDiag d)])=os at*
  show _=some (errOf d,S)
  generalize errOf d=e at*
  (rw[w_plain (fn:=c12) rfl rfl (by simp only[go_sem,g,cl]) rfl (by decide)];simp only[c12,c12_b,go_sem,g,cl];repeat' ((first|rw[guardO_t]|rw[guardO_f]|rw[cw_bool]);split<;>rename_i h<;>(try rw[Bool.not_eq_true] at h)<;>(try simp only[go_sem,g,cl, *])))
theorem first24 (l:List GDiag) (hl:l.length≤1000000000) (S:St):cal (env ot oz) 13 [.sl .ro (l.map rDiag)] S=some (.int .i64 (firstD l),S):=by
 have f:=fun fin st K X hk hx=>loopP (E:=(env ot oz)) (S:=S) (c:=c13_l0) l (by unfold Short maxLen;omega) (fun i=>[(0,some (.sl .ro (l.map rDiag))),(3,some (.int .i64 (i:Int)))]) isErr fin st K X
  (fun i d h1 h2 h3 h4 h5=>by
   have d1:(d.Code !=0)=false:=by unfold isErr at h5;exact h5
   (rw[c13_l0_w];simp only[c13_l0_b,c13_l0_a,go_sem,h1,h3,h4,d1];repeat' ((first|rw[guardO_t]|rw[guardO_f]|rw[cw_bool]);split<;>rename_i h<;>(try rw[Bool.not_eq_true] at h)<;>(try simp only[go_sem,c13_l0_a,h1,h3,h4,d1, *]))))
  hk hx
 have hk: ∀ fin st (i:Nat) (d:GDiag),l[i]?=some d→d∈l→(i:Int)<(l.length:Int)→IntKind.i64.wrap ((i:Int)+1)=((i+1:Nat):Int)→isErr d=true→run (env ot oz) fin st c13_l0 [(0,some (.sl .ro (l.map rDiag))),(3,some (.int .i64 (i:Int)))] S=(fun i=>aft (env ot oz) fin st .ret (sel (some [2]) [(2,some (.int .i64 (i:Int)))]) S) i:=fun fin st i d h1 h2 h3 h4 h5=>by
  have d1:(d.Code !=0)=true:=by unfold isErr at h5;exact h5
  (rw[c13_l0_w];simp only[c13_l0_b,c13_l0_a,go_sem,h1,h3,d1];repeat' ((first|rw[guardO_t]|rw[guardO_f]|rw[cw_bool]);split<;>rename_i h<;>(try rw[Bool.not_eq_true] at h)<;>(try simp only[go_sem,c13_l0_a,h1,h3,d1, *])))
 have hx: ∀ fin st,run (env ot oz) fin st c13_l0 [(0,some (.sl .ro (l.map rDiag))),(3,some (.int .i64 (l.length:Int)))] S=aft (env ot oz) fin st (.exit 0) [(0,some (.sl .ro (l.map rDiag))),(3,some (.int .i64 (l.length:Int))),(7,some (.bool false))] S:=fun fin st=>by
  (rw[c13_l0_w];simp only[c13_l0_b,c13_l0_a,go_sem];repeat' ((first|rw[guardO_t]|rw[guardO_f]|rw[cw_bool]);split<;>rename_i h<;>(try rw[Bool.not_eq_true] at h)<;>(try simp only[go_sem,c13_l0_a, *])))
 have g:=fun fin st=>f fin st _ _ (hk fin st) (hx fin st)
 simp only[Int.cast_ofNat_Int] at g
 unfold firstD
 cases ha:l.any isErr with
 |true=>
  simp only[ha,if_true] at g ⊢
  generalize l.findIdx isErr=k at*
  (rw[w_plain (fn:=c13) rfl rfl (by simp only[go_sem,g]) rfl (by decide)];simp only[c13,c13_b,go_sem,g];repeat' ((first|rw[guardO_t]|rw[guardO_f]|rw[cw_bool]);split<;>rename_i h<;>(try rw[Bool.not_eq_true] at h)<;>(try simp only[go_sem,g, *])))
 |false=>
  simp only[ha,Bool.false_eq_true,if_false] at g ⊢
  (rw[w_plain (fn:=c13) rfl rfl (by simp only[go_sem,g]) rfl (by decide)];simp only[c13,c13_b,go_sem,g];repeat' ((first|rw[guardO_t]|rw[guardO_f]|rw[cw_bool]);split<;>rename_i h<;>(try rw[Bool.not_eq_true] at h)<;>(try simp only[go_sem,g, *])))
theorem code24 (d:GDiag) (S:St):cal (env ot oz) 14 [errOf d] S=some (.int .i64 d.Code,S):=by
 rw[cal_known (F:=fcF) rfl (args':=[errOf d]) (by simp[askD,errOf,sealL,sealW])]
 simp[fcF,errOf,erF,Er.code]
theorem at24 (d:GDiag) (S:St):cal (env ot oz) 15 [errOf d] S=some (.int .i64 d.At.Node,S):=by
 rw[cal_known (F:=faF) rfl (args':=[errOf d]) (by simp[askD,errOf,sealL,sealW])]
 simp[faF,errOf,erF,Er.pos]
theorem def24 (d:GDiag) (S:St):cal (env ot oz) 16 [errOf d] S=some (.str d.At.Def,S):=by
 rw[cal_known (F:=fdF) rfl (args':=[errOf d]) (by simp[askD,errOf,sealL,sealW])]
 simp[fdF,errOf,erF,Er.defOf]
end
end Go.PE
