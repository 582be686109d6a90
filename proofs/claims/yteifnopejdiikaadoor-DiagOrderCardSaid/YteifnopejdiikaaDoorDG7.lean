/-
  Two lists that are the same; what the law asks of a list; the first that is an error: by the program, and by the document. Conditions: each law's own.
-/
import Derived.Test.YteifnopejdiikaaDoorDG6
namespace Go.PE
open Go Go.RowKit Go.Proofs
set_option linter.unusedVariables false
set_option linter.unusedSimpArgs false
set_option maxRecDepth 100000
def shortD (l:List GDiag):Bool:= !((l.take 70).any fun d=>decide (100<d.At.Def.size))&&decide (l.length≤60)
section
variable {ot:TypeId} {oz:EP}
theorem same_self (l:List GDiag) (hl:l.length≤1000000000) (S:St):cal (env ot oz) 10 [.sl .ro (l.map rDiag),.sl .ro (l.map rDiag)] S=some (.bool true,S):=by
 have f0:=fun fin st X hx=>loopA (E:=(env ot oz)) (S:=S) (c:=c10_l0) l (by unfold Short maxLen;omega) (fun i=>[(0,some (.sl .ro (l.map rDiag))),(1,some (.sl .ro (l.map rDiag))),(5,some (.int .i64 (i:Int)))]) (fun _=>false) fin st none X
  (fun i x h1 h2 h3 h4 h5=>by
   have q:=eqD x x
   have hs:sameD x x=true:=sameD_iff.2 rfl
   (rw[c10_l0_w];simp only[c10_l0_b,c10_l0_a,c10_r4,go_sem,h1,h3,h4,↓q,hs];repeat' ((first|rw[guardO_t]|rw[guardO_f]|rw[cw_bool]);split<;>rename_i h<;>(try rw[Bool.not_eq_true] at h)<;>(try simp only[go_sem,c10_r4,c10_l0_a,h1,h3,h4,↓q,hs, *]))))
  (fun i x h1 h2 h3 h4 h5=>by cases h5)
  hx
 have hx: ∀ fin st,run (env ot oz) fin st c10_l0 [(0,some (.sl .ro (l.map rDiag))),(1,some (.sl .ro (l.map rDiag))),(5,some (.int .i64 (l.length:Int)))] S=aft (env ot oz) fin st (.exit 0) [(0,some (.sl .ro (l.map rDiag))),(1,some (.sl .ro (l.map rDiag))),(5,some (.int .i64 (l.length:Int))),(20,some (.bool false))] S:=fun fin st=>by
  (rw[c10_l0_w];simp only[c10_l0_b,c10_l0_a,c10_r4,go_sem];repeat' ((first|rw[guardO_t]|rw[guardO_f]|rw[cw_bool]);split<;>rename_i h<;>(try rw[Bool.not_eq_true] at h)<;>(try simp only[go_sem,c10_r4,c10_l0_a, *])))
 have f:=fun fin st=>f0 fin st _ (hx fin st)
 have ha:l.any (fun _=>false)=false:=by simp
 simp only[Int.cast_ofNat_Int,ha,Bool.false_eq_true,if_false] at f
 (rw[w_plain (fn:=c10) rfl rfl (by simp only[go_sem,f]) rfl (by decide)];simp only[c10,c10_b,c10_r4,go_sem,f];repeat' ((first|rw[guardO_t]|rw[guardO_f]|rw[cw_bool]);split<;>rename_i h<;>(try rw[Bool.not_eq_true] at h)<;>(try simp only[go_sem,c10_r4,f, *])))
theorem short24 (l:List GDiag) (S:St):cal (env ot oz) 5 [.sl .ro (l.map rDiag)] S=some (.bool (shortD l),S):=by
 have f:=fun fin st K X hk hx=>loopA (E:=(env ot oz)) (S:=S) (c:=c5_l0) (l.take 70) (by unfold Short maxLen;simp;omega) (fun i=>[(0,some (.sl .ro (l.map rDiag))),(3,some (.int .i64 (i:Int)))]) (fun d=>decide (100<d.At.Def.size)) fin st K X
  (fun i x h1 h2 h3 h4 h5=>by
   have hi:=getElem?_lt h1
   simp only[List.length_take] at hi
   rw[List.getElem?_take_of_lt (by omega)] at h1
   have d1:decide ((i:Int)<(l.length:Int))=true:=decide_eq_true (by omega)
   have d2:decide ((i:Int)<70)=true:=decide_eq_true (by omega)
   have d3:decide ((100:Int)<(x.At.Def.size:Int))=false:=by simp at h5 ⊢;omega
   have d4:(i:Int)<(l.length:Int):=by omega
   (rw[c5_l0_w];simp only[c5_l0_b,c5_l0_a,c5_r2,go_sem,h1,h4,d1,d2,d3,d4];repeat' ((first|rw[guardO_t]|rw[guardO_f]|rw[cw_bool]);split<;>rename_i h<;>(try rw[Bool.not_eq_true] at h)<;>(try simp only[go_sem,c5_r2,c5_l0_a,h1,h4,d1,d2,d3,d4, *]))))
  hk hx
 have hk: ∀ fin st (i:Nat) (x:GDiag),(l.take 70)[i]?=some x→x∈l.take 70→(i:Int)<((l.take 70).length:Int)→IntKind.i64.wrap ((i:Int)+1)=((i+1:Nat):Int)→decide (100<x.At.Def.size)=true→run (env ot oz) fin st c5_l0 [(0,some (.sl .ro (l.map rDiag))),(3,some (.int .i64 (i:Int)))] S=aft (env ot oz) fin st .ret (sel (some [2]) [(2,some (.bool false))]) S:=fun fin st i x h1 h2 h3 h4 h5=>by
  have hi:=getElem?_lt h1
  simp only[List.length_take] at hi
  rw[List.getElem?_take_of_lt (by omega)] at h1
  have d1:decide ((i:Int)<(l.length:Int))=true:=decide_eq_true (by omega)
  have d2:decide ((i:Int)<70)=true:=decide_eq_true (by omega)
  have d3:decide ((100:Int)<(x.At.Def.size:Int))=true:=by simp at h5 ⊢;omega
  have d4:(i:Int)<(l.length:Int):=by omega
  (rw[c5_l0_w];simp only[c5_l0_b,c5_l0_a,c5_r2,go_sem,h1,h4,d1,d2,d3,d4];repeat' ((first|rw[guardO_t]|rw[guardO_f]|rw[cw_bool]);split<;>rename_i h<;>(try rw[Bool.not_eq_true] at h)<;>(try simp only[go_sem,c5_r2,c5_l0_a,h1,h4,d1,d2,d3,d4, *])))
 have hx: ∀ fin st,run (env ot oz) fin st c5_l0 [(0,some (.sl .ro (l.map rDiag))),(3,some (.int .i64 ((l.take 70).length:Int)))] S=aft (env ot oz) fin st (.exit 0) [(0,some (.sl .ro (l.map rDiag))),(3,some (.int .i64 ((l.take 70).length:Int))),(11,some (.bool false))] S:=fun fin st=>by
  have hlen:(l.take 70).length=min 70 l.length:=by simp
  generalize (l.take 70).length=k at*
  by_cases h:l.length≤70
  ·have d1:decide ((k:Int)<(l.length:Int))=false:=decide_eq_false (by omega)
   (rw[c5_l0_w];simp only[c5_l0_b,c5_l0_a,c5_r2,go_sem,d1];repeat' ((first|rw[guardO_t]|rw[guardO_f]|rw[cw_bool]);split<;>rename_i h<;>(try rw[Bool.not_eq_true] at h)<;>(try simp only[go_sem,c5_r2,c5_l0_a,d1, *])))
  ·have d1:decide ((k:Int)<(l.length:Int))=true:=decide_eq_true (by omega)
   have d2:decide ((k:Int)<70)=false:=decide_eq_false (by omega)
   (rw[c5_l0_w];simp only[c5_l0_b,c5_l0_a,c5_r2,go_sem,d1,d2];repeat' ((first|rw[guardO_t]|rw[guardO_f]|rw[cw_bool]);split<;>rename_i h<;>(try rw[Bool.not_eq_true] at h)<;>(try simp only[go_sem,c5_r2,c5_l0_a,d1,d2, *])))
 have g:=fun fin st=>f fin st _ _ (hk fin st) (hx fin st)
 simp only[Int.cast_ofNat_Int] at g
 have d5:decide ((l.length:Int)≤60)=decide (l.length≤60):=by
  by_cases h:l.length≤60
  ·rw[decide_eq_true h,decide_eq_true (by omega)]
  ·rw[decide_eq_false h,decide_eq_false (by omega)]
 unfold shortD
 generalize decide (l.length≤60)=b at*
 cases ha:(l.take 70).any fun d=>decide (100<d.At.Def.size) with
 |true=>
  simp only[ha,if_true] at g
  (rw[w_plain (fn:=c5) rfl rfl (by simp only[go_sem,g,d5]) rfl (by decide)];simp only[c5,c5_b,c5_r2,go_sem,g,d5];repeat' ((first|rw[guardO_t]|rw[guardO_f]|rw[cw_bool]);split<;>rename_i h<;>(try rw[Bool.not_eq_true] at h)<;>(try simp only[go_sem,c5_r2,g,d5, *])))
 |false=>
  simp only[ha,Bool.false_eq_true,if_false] at g
  (rw[w_plain (fn:=c5) rfl rfl (by simp only[go_sem,g,d5]) rfl (by decide)];simp only[c5,c5_b,c5_r2,go_sem,g,d5];repeat' ((first|rw[guardO_t]|rw[guardO_f]|rw[cw_bool]);split<;>rename_i h<;>(try rw[Bool.not_eq_true] at h)<;>(try simp only[go_sem,c5_r2,g,d5, *])))
end
end Go.PE
