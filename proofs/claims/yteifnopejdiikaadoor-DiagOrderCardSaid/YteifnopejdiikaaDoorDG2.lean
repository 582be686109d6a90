/-
  Diagnoses: which is ahead, which are the same, as the program and the document tell it. Conditions: each law's own.
-/
import Derived.Test.YteifnopejdiikaaDoorBW
import Derived.Test.YteifnopejdiikaaDoorPLO
namespace Go.PE
open Go Go.RowKit Go.Proofs
set_option linter.unusedVariables false
set_option linter.unusedSimpArgs false
set_option maxRecDepth 100000
section
variable {ot:TypeId} {oz:EP}
theorem scall (a b:ByteArray) (S:St):cal (env ot oz) 35 [.str a,.str b] S=some (.int .i64 (Lib.compareBytes a.data.toList b.data.toList),S):=by
 rw[w_known (F:=scF) rfl (args':=[.str a,.str b]) (by simp only[go_sem])];rfl
theorem nanI (x:Int) (S:St):cal (env ot oz) 56 [.int .i64 x] S=some (.bool false,S):=by
 (rw[w_plain (fn:=c56) rfl rfl (by simp only[go_sem]) rfl (by decide)];simp only[c56,c56_b,go_sem];repeat' ((first|rw[guardO_t]|rw[guardO_f]|rw[cw_bool]);split<;>rename_i h<;>(try rw[Bool.not_eq_true] at h)<;>(try simp only[go_sem, *])))
theorem nanE (x:Int) (S:St):cal (env ot oz) 57 [.int .i64 x] S=some (.bool false,S):=by
 (rw[w_plain (fn:=c57) rfl rfl (by simp only[go_sem]) rfl (by decide)];simp only[c57,c57_b,go_sem];repeat' ((first|rw[guardO_t]|rw[guardO_f]|rw[cw_bool]);split<;>rename_i h<;>(try rw[Bool.not_eq_true] at h)<;>(try simp only[go_sem, *])))
theorem cint (x y:Int):Lib.compareInt x y=if decide (x<y) then -1 else if decide (y<x) then 1 else 0:=by
 unfold Lib.compareInt;simp
theorem cmpI (x y:Int) (S:St):cal (env ot oz) 36 [.int .i64 x,.int .i64 y] S=some (.int .i64 (Lib.compareInt x y),S):=by
 have c:=nanI (ot:=ot) (oz:=oz)
 rw[cint]
 cases q1:decide (x<y)<;>cases q2:decide (y<x)<;>(rw[w_plain (fn:=c36) rfl rfl (by simp only[go_sem,c,q1,q2]) rfl (by decide)];simp only[c36,c36_b,go_sem,c,q1,q2];repeat' ((first|rw[guardO_t]|rw[guardO_f]|rw[cw_bool]);split<;>rename_i h<;>(try rw[Bool.not_eq_true] at h)<;>(try simp only[go_sem,c,q1,q2, *])))
theorem cmpE (x y:Int) (S:St):cal (env ot oz) 37 [.int .i64 x,.int .i64 y] S=some (.int .i64 (Lib.compareInt x y),S):=by
 have c:=nanE (ot:=ot) (oz:=oz)
 rw[cint]
 cases q1:decide (x<y)<;>cases q2:decide (y<x)<;>(rw[w_plain (fn:=c37) rfl rfl (by simp only[go_sem,c,q1,q2]) rfl (by decide)];simp only[c37,c37_b,go_sem,c,q1,q2];repeat' ((first|rw[guardO_t]|rw[guardO_f]|rw[cw_bool]);split<;>rename_i h<;>(try rw[Bool.not_eq_true] at h)<;>(try simp only[go_sem,c,q1,q2, *])))
theorem or3 (x y z:Int) (g:Tag) (T:St):cal (env ot oz) 34 [.sl g [[.int .i64 x],[.int .i64 y],[.int .i64 z]]] T=some (.int .i64 (orI x y z),T):=by
 refine cal_tag1 ?_ (fun n d=>by simp[sealLL,sealL,sealW])
 have l3: ∀ fin st (T:St),run (env ot oz) fin st c34_l0 [(3,some (.int .i64 0)),(6,some (.sl .ro [[.int .i64 x],[.int .i64 y],[.int .i64 z]])),(7,some (.int .i64 3)),(8,some (.int .i64 3))] T=aft (env ot oz) fin st (.exit 0) [(3,some (.int .i64 0)),(6,some (.sl .ro [[.int .i64 x],[.int .i64 y],[.int .i64 z]])),(7,some (.int .i64 3)),(8,some (.int .i64 3)),(9,some (.bool false))] T:=fun fin st T=>by
  (rw[c34_l0_w];simp only[c34_l0_b,c34_l0_a,go_sem];repeat' ((first|rw[guardO_t]|rw[guardO_f]|rw[cw_bool]);split<;>rename_i h<;>(try rw[Bool.not_eq_true] at h)<;>(try simp only[go_sem,c34_l0_a, *])))
 have nz: ∀ n:Int,(n !=0)= !(n==0):=fun n=>rfl
 by_cases hx:x=0
 ·by_cases hy:y=0
  ·have l1: ∀ fin st (T:St),run (env ot oz) fin st c34_l0 [(3,some (.int .i64 0)),(6,some (.sl .ro [[.int .i64 x],[.int .i64 y],[.int .i64 z]])),(7,some (.int .i64 3)),(8,some (.int .i64 1))] T=run (env ot oz) fin st c34_l0 [(3,some (.int .i64 0)),(6,some (.sl .ro [[.int .i64 x],[.int .i64 y],[.int .i64 z]])),(7,some (.int .i64 3)),(8,some (.int .i64 2))] T:=fun fin st T=>by
    (rw[c34_l0_w];simp only[c34_l0_b,c34_l0_a,go_sem,hy];repeat' ((first|rw[guardO_t]|rw[guardO_f]|rw[cw_bool]);split<;>rename_i h<;>(try rw[Bool.not_eq_true] at h)<;>(try simp only[go_sem,c34_l0_a,hy, *])))
   have l0: ∀ fin st (T:St),run (env ot oz) fin st c34_l0 [(3,some (.int .i64 0)),(6,some (.sl .ro [[.int .i64 x],[.int .i64 y],[.int .i64 z]])),(7,some (.int .i64 3)),(8,some (.int .i64 0))] T=run (env ot oz) fin st c34_l0 [(3,some (.int .i64 0)),(6,some (.sl .ro [[.int .i64 x],[.int .i64 y],[.int .i64 z]])),(7,some (.int .i64 3)),(8,some (.int .i64 1))] T:=fun fin st T=>by
    (rw[c34_l0_w];simp only[c34_l0_b,c34_l0_a,go_sem,hx];repeat' ((first|rw[guardO_t]|rw[guardO_f]|rw[cw_bool]);split<;>rename_i h<;>(try rw[Bool.not_eq_true] at h)<;>(try simp only[go_sem,c34_l0_a,hx, *])))
   by_cases hz:z=0
   ·have l2: ∀ fin st (T:St),run (env ot oz) fin st c34_l0 [(3,some (.int .i64 0)),(6,some (.sl .ro [[.int .i64 x],[.int .i64 y],[.int .i64 z]])),(7,some (.int .i64 3)),(8,some (.int .i64 2))] T=run (env ot oz) fin st c34_l0 [(3,some (.int .i64 0)),(6,some (.sl .ro [[.int .i64 x],[.int .i64 y],[.int .i64 z]])),(7,some (.int .i64 3)),(8,some (.int .i64 3))] T:=fun fin st T=>by
     (rw[c34_l0_w];simp only[c34_l0_b,c34_l0_a,go_sem,hz];repeat' ((first|rw[guardO_t]|rw[guardO_f]|rw[cw_bool]);split<;>rename_i h<;>(try rw[Bool.not_eq_true] at h)<;>(try simp only[go_sem,c34_l0_a,hz, *])))
    have f:=fun fin st T=>(l0 fin st T).trans ((l1 fin st T).trans ((l2 fin st T).trans (l3 fin st T)))
    clear l0 l1 l2 l3
    have e:orI x y z=0:=by unfold orI;simp[hx,hy,hz]
    rw[e]
    (rw[w_plain (fn:=c34) rfl rfl (by simp only[go_sem,f]) rfl (by decide)];simp only[c34,c34_b,go_sem,f];repeat' ((first|rw[guardO_t]|rw[guardO_f]|rw[cw_bool]);split<;>rename_i h<;>(try rw[Bool.not_eq_true] at h)<;>(try simp only[go_sem,f, *])))
   ·have hz':(z !=0)=true:=by simpa using hz
    have l2: ∀ fin st (T:St),run (env ot oz) fin st c34_l0 [(3,some (.int .i64 0)),(6,some (.sl .ro [[.int .i64 x],[.int .i64 y],[.int .i64 z]])),(7,some (.int .i64 3)),(8,some (.int .i64 2))] T=aft (env ot oz) fin st .ret [(2,some (.int .i64 z))] T:=fun fin st T=>by
     (rw[c34_l0_w];simp only[c34_l0_b,c34_l0_a,go_sem,hz'];repeat' ((first|rw[guardO_t]|rw[guardO_f]|rw[cw_bool]);split<;>rename_i h<;>(try rw[Bool.not_eq_true] at h)<;>(try simp only[go_sem,c34_l0_a,hz', *])))
    have f:=fun fin st T=>(l0 fin st T).trans ((l1 fin st T).trans (l2 fin st T))
    clear l0 l1 l2 l3
    have e:orI x y z=z:=by unfold orI;simp[hx,hy]
    rw[e]
    (rw[w_plain (fn:=c34) rfl rfl (by simp only[go_sem,f]) rfl (by decide)];simp only[c34,c34_b,go_sem,f];repeat' ((first|rw[guardO_t]|rw[guardO_f]|rw[cw_bool]);split<;>rename_i h<;>(try rw[Bool.not_eq_true] at h)<;>(try simp only[go_sem,f, *])))
  ·have hy':(y !=0)=true:=by simpa using hy
   have l1: ∀ fin st (T:St),run (env ot oz) fin st c34_l0 [(3,some (.int .i64 0)),(6,some (.sl .ro [[.int .i64 x],[.int .i64 y],[.int .i64 z]])),(7,some (.int .i64 3)),(8,some (.int .i64 1))] T=aft (env ot oz) fin st .ret [(2,some (.int .i64 y))] T:=fun fin st T=>by
    (rw[c34_l0_w];simp only[c34_l0_b,c34_l0_a,go_sem,hy'];repeat' ((first|rw[guardO_t]|rw[guardO_f]|rw[cw_bool]);split<;>rename_i h<;>(try rw[Bool.not_eq_true] at h)<;>(try simp only[go_sem,c34_l0_a,hy', *])))
   have l0: ∀ fin st (T:St),run (env ot oz) fin st c34_l0 [(3,some (.int .i64 0)),(6,some (.sl .ro [[.int .i64 x],[.int .i64 y],[.int .i64 z]])),(7,some (.int .i64 3)),(8,some (.int .i64 0))] T=run (env ot oz) fin st c34_l0 [(3,some (.int .i64 0)),(6,some (.sl .ro [[.int .i64 x],[.int .i64 y],[.int .i64 z]])),(7,some (.int .i64 3)),(8,some (.int .i64 1))] T:=fun fin st T=>by
    (rw[c34_l0_w];simp only[c34_l0_b,c34_l0_a,go_sem,hx];repeat' ((first|rw[guardO_t]|rw[guardO_f]|rw[cw_bool]);split<;>rename_i h<;>(try rw[Bool.not_eq_true] at h)<;>(try simp only[go_sem,c34_l0_a,hx, *])))
   have f:=fun fin st T=>(l0 fin st T).trans (l1 fin st T)
   clear l0 l1 l3
   have e:orI x y z=y:=by unfold orI;simp[hx,hy]
   rw[e]
   (rw[w_plain (fn:=c34) rfl rfl (by simp only[go_sem,f]) rfl (by decide)];simp only[c34,c34_b,go_sem,f];repeat' ((first|rw[guardO_t]|rw[guardO_f]|rw[cw_bool]);split<;>rename_i h<;>(try rw[Bool.not_eq_true] at h)<;>(try simp only[go_sem,f, *])))
 ·have hx':(x !=0)=true:=by simpa using hx
  have f: ∀ fin st (T:St),run (env ot oz) fin st c34_l0 [(3,some (.int .i64 0)),(6,some (.sl .ro [[.int .i64 x],[.int .i64 y],[.int .i64 z]])),(7,some (.int .i64 3)),(8,some (.int .i64 0))] T=aft (env ot oz) fin st .ret [(2,some (.int .i64 x))] T:=fun fin st T=>by
   (rw[c34_l0_w];simp only[c34_l0_b,c34_l0_a,go_sem,hx'];repeat' ((first|rw[guardO_t]|rw[guardO_f]|rw[cw_bool]);split<;>rename_i h<;>(try rw[Bool.not_eq_true] at h)<;>(try simp only[go_sem,c34_l0_a,hx', *])))
  clear l3
  have e:orI x y z=x:=by unfold orI;simp[hx]
  rw[e]
  (rw[w_plain (fn:=c34) rfl rfl (by simp only[go_sem,f]) rfl (by decide)];simp only[c34,c34_b,go_sem,f];repeat' ((first|rw[guardO_t]|rw[guardO_f]|rw[cw_bool]);split<;>rename_i h<;>(try rw[Bool.not_eq_true] at h)<;>(try simp only[go_sem,f, *])))
theorem cmpD (a b:GDiag) (S:St):cal (env ot oz) 22 [.agg (rDiag a),.agg (rDiag b)] S=some (.int .i64 (cfD a b),S):=by
 have c1:=scall (ot:=ot) (oz:=oz) a.At.Def b.At.Def
 have c2:=cmpI (ot:=ot) (oz:=oz) a.At.Node b.At.Node
 have c3:=cmpE (ot:=ot) (oz:=oz) a.Code b.Code
 have c4:=or3 (ot:=ot) (oz:=oz) (Lib.compareBytes a.At.Def.data.toList b.At.Def.data.toList) (Lib.compareInt a.At.Node b.At.Node) (Lib.compareInt a.Code b.Code)
 show _=some (PV.int .i64 (orI _ _ _),S)
 (rw[w_plain (fn:=c22) rfl rfl (by simp only[go_sem,c1,c2,c3,c4]) rfl (by decide)];simp only[c22,c22_b,go_sem,c1,c2,c3,c4];repeat' ((first|rw[guardO_t]|rw[guardO_f]|rw[cw_bool]);split<;>rename_i h<;>(try rw[Bool.not_eq_true] at h)<;>(try simp only[go_sem,c1,c2,c3,c4, *])))
theorem aheadP (a b:GDiag) (S:St):cal (env ot oz) 9 [.agg (rDiag a),.agg (rDiag b)] S=some (.bool (ahD a b),S):=by
 have c:=cmpD (ot:=ot) (oz:=oz) a b
 have e:decide (cfD a b<0)=ahD a b:=cfD_lt a b
 (rw[w_plain (fn:=c9) rfl rfl (by simp only[go_sem,c,e]) rfl (by decide)];simp only[c9,c9_b,go_sem,c,e];repeat' ((first|rw[guardO_t]|rw[guardO_f]|rw[cw_bool]);split<;>rename_i h<;>(try rw[Bool.not_eq_true] at h)<;>(try simp only[go_sem,c,e, *])))
end
def sameD (a b:GDiag):Bool:=strEq a.At.Def b.At.Def&&(a.At.Node==b.At.Node&&a.Code==b.Code)
theorem sameD_iff {a b:GDiag}:sameD a b=true↔a=b:=by
 unfold sameD strEq
 simp only[Bool.and_eq_true,beq_iff_eq]
 constructor
 ·rintro ⟨h1,h2,h3⟩
  have e:a.At.Def=b.At.Def:=by rw[←txt_toList a.At.Def,←txt_toList b.At.Def,h1]
  cases a with|mk la ca=>cases b with|mk lb cb=>cases la;cases lb;simp_all
 ·rintro rfl;simp
theorem eqD (a b:GDiag):eqCells (rDiag a) (rDiag b) [(0,1),(1,0),(2,0)]=some (sameD a b):=by
 simp only[eqCells,rDiag_g0,rDiag_g1,rDiag_g2,eqAtom,sameD]
 cases strEq a.At.Def b.At.Def<;>cases (a.At.Node==b.At.Node)<;>cases (a.Code==b.Code)<;>rfl
end Go.PE
