/-
  The law of what diagnoses tell. Conditions: each law's own.
-/
import Derived.KernelRfl
import Derived.Test.YteifnopejdiikaaDoorDG8
namespace Go.PE
open Go Go.RowKit Go.Proofs
set_option linter.unusedVariables false
set_option linter.unusedSimpArgs false
set_option maxRecDepth 100000
theorem err_none {l:List GDiag} (h:l.any isErr=false):errD l= .nilifc∧firstD l= -1:=by
 have h2:l.find? isErr=none:=by
  rw[List.find?_eq_none]
  intro x hx
  rw[List.any_eq_false] at h
  exact h x hx
 unfold errD firstD
 rw[h2,h]
 exact ⟨rfl,rfl⟩
theorem err_some {l:List GDiag} (h:l.any isErr=true): ∃ (d:GDiag) (k:Nat),errD l=errOf d∧firstD l=(k:Int)∧l[k]?=some d:=by
 have hk:l.findIdx isErr<l.length:=List.findIdx_lt_length_of_exists (by rw[List.any_eq_true] at h;exact h)
 have h2:l.find? isErr=l[l.findIdx isErr]?:=by
  rw[List.getElem?_eq_getElem hk]
  clear h
  induction l with
  |nil=>simp at hk
  |cons a l ih=>
   cases q:isErr a with
   |true=>simp[List.find?_cons,q,List.findIdx_cons]
   |false=>
    simp only[List.findIdx_cons,q,cond_false,List.length_cons,Nat.add_lt_add_iff_right] at hk
    simp only[List.find?_cons,q,List.findIdx_cons,cond_false,List.getElem_cons_succ]
    exact ih hk
 refine ⟨l[l.findIdx isErr],l.findIdx isErr, ?_, ?_,List.getElem?_eq_getElem hk⟩
 ·unfold errD;rw[h2,List.getElem?_eq_getElem hk]
 ·unfold firstD;rw[h];rfl
theorem short_all {l:List GDiag} (h:shortD l=true):l.length≤60∧ ∀ d∈l,d.At.Def.size≤100:=by
 unfold shortD at h
 simp only[Bool.and_eq_true,Bool.not_eq_true',decide_eq_true_eq,List.any_eq_false] at h
 obtain ⟨h1,h2⟩:=h
 rw[List.take_of_length_le (by omega)] at h1
 exact ⟨h2,fun d hd=>by have:=h1 d hd;omega⟩
section
variable {ot:TypeId} {oz:EP}
theorem aw24 (S:St):cal (env ot oz) 6 [] S=some (.bool true,S):=cal_closed (env_free ot oz) (n:=60) (by kernel_rfl) rfl rfl S
theorem tells_loop (l:List GDiag) (x:GDiag) (hl:l.length≤1000000000) (S:St): ∀ fin st,run (env ot oz) fin st c4_l0 [(0,some (.sl .ro (l.map rDiag))),(3,some (.at_ (rDiag x))),(5,some (.int .i64 0))] S=
  aft (env ot oz) fin st (.exit 0) [(0,some (.sl .ro (l.map rDiag))),(3,some (.at_ (rDiag x))),(5,some (.int .i64 (l.length:Int))),(21,some (.bool false))] S:=fun fin st=>by
 have f0:=loopA (E:=(env ot oz)) (S:=S) (c:=c4_l0) l (by unfold Short maxLen;omega) (fun i=>[(0,some (.sl .ro (l.map rDiag))),(3,some (.at_ (rDiag x))),(5,some (.int .i64 (i:Int)))]) (fun _=>false) fin st none (aft (env ot oz) fin st (.exit 0) [(0,some (.sl .ro (l.map rDiag))),(3,some (.at_ (rDiag x))),(5,some (.int .i64 (l.length:Int))),(21,some (.bool false))] S)
  (fun i d h1 h2 h3 h4 h5=>by
   have c1:=fun T=>aheadP (ot:=ot) (oz:=oz) d x T
   have c2:=fun T=>aheadR (ot:=ot) (oz:=oz) d x T
   have ne: ∀ b:Bool,(b !=b)=false:=fun b=>by cases b<;>rfl
   have ee: ∀ b:Bool,(b==b)=true:=fun b=>by cases b<;>rfl
   generalize ahD d x=b at*
   (rw[c4_l0_w];simp only[c4_l0_b,c4_l0_a,c4_r1,c4_r10,c4_r12,go_sem,h1,h3,h4,c1,c2,ne,ee,rDiag_len,rDiag_take];repeat' ((first|rw[guardO_t]|rw[guardO_f]|rw[cw_bool]);split<;>rename_i h<;>(try rw[Bool.not_eq_true] at h)<;>(try simp only[go_sem,c4_r1,c4_r10,c4_r12,c4_l0_a,h1,h3,h4,c1,c2,ne,ee,rDiag_len,rDiag_take, *]))))
  (fun i d h1 h2 h3 h4 h5=>by cases h5)
  (by (rw[c4_l0_w];simp only[c4_l0_b,c4_l0_a,c4_r1,c4_r10,c4_r12,go_sem];repeat' ((first|rw[guardO_t]|rw[guardO_f]|rw[cw_bool]);split<;>rename_i h<;>(try rw[Bool.not_eq_true] at h)<;>(try simp only[go_sem,c4_r1,c4_r10,c4_r12,c4_l0_a, *]))))
 have ha:l.any (fun _=>false)=false:=by simp
 simp only[Int.cast_ofNat_Int,ha,Bool.false_eq_true,if_false] at f0
 exact f0
theorem tells_ok (l:List GDiag) (ho: ∀ d∈l,OkDiag d) (x:GDiag) (S:St):cal (env ot oz) 4 [.sl .ro (l.map rDiag),.agg (rDiag x)] S=some (.bool true,S):=by
 have aw:=aw24 (ot:=ot) (oz:=oz)
 have s1:=short24 (ot:=ot) (oz:=oz) l
 have s2:=fun g T=>cal_tag1 (g:=g) (short24 (ot:=ot) (oz:=oz) [x] T) (plainLL_map fun x _=>rDiag_plain x)
 simp only[List.map_cons,List.map_nil] at s2
 cases q1:shortD l with
 |false=>rw[q1] at s1;(rw[w_plain (fn:=c4) rfl rfl (by simp only[go_sem,s1,aw,rDiag_len,rDiag_take]) rfl (by decide)];simp only[c4,c4_b,c4_r1,c4_r10,c4_r12,go_sem,s1,aw,rDiag_len,rDiag_take];repeat' ((first|rw[guardO_t]|rw[guardO_f]|rw[cw_bool]);split<;>rename_i h<;>(try rw[Bool.not_eq_true] at h)<;>(try simp only[go_sem,c4_r1,c4_r10,c4_r12,s1,aw,rDiag_len,rDiag_take, *])))
 |true=>
  rw[q1] at s1
  obtain ⟨b1,b2⟩:=short_all q1
  have hl:l.length≤1000000000:=by omega
  cases q2:shortD [x] with
  |false=>rw[q2] at s2;(rw[w_plain (fn:=c4) rfl rfl (by simp only[go_sem,s1,s2,aw,rDiag_len,rDiag_take]) rfl (by decide)];simp only[c4,c4_b,c4_r1,c4_r10,c4_r12,go_sem,s1,s2,aw,rDiag_len,rDiag_take];repeat' ((first|rw[guardO_t]|rw[guardO_f]|rw[cw_bool]);split<;>rename_i h<;>(try rw[Bool.not_eq_true] at h)<;>(try simp only[go_sem,c4_r1,c4_r10,c4_r12,s1,s2,aw,rDiag_len,rDiag_take, *])))
  |true=>
   rw[q2] at s2
   have f:=tells_loop (ot:=ot) (oz:=oz) l x hl
   have e1:=err24 (ot:=ot) (oz:=oz) l hl
   have e2:=first24 (ot:=ot) (oz:=oz) l hl
   have a1:=allP (ot:=ot) (oz:=oz) l hl
   have a2:=all24 (ot:=ot) (oz:=oz) l hl
   have a3:=addD (ot:=ot) (oz:=oz) l x (by omega)
   have a4:=add24 (ot:=ot) (oz:=oz) l x (by omega)
   have al:(allD l).length≤20:=by unfold allD;rw[List.length_take];omega
   have al2:(allD (l++[x])).length≤20:=by unfold allD;rw[List.length_take];omega
   have m1:=same_self (ot:=ot) (oz:=oz) (allD l) (by omega)
   have m2:=same_self (ot:=ot) (oz:=oz) (allD (l++[x])) (by omega)
   have t1:=textP (ot:=ot) (oz:=oz) l (by omega) ho b2
   have t2:=text24 (ot:=ot) (oz:=oz) l (by omega) ho b2
   generalize allD l=xs at*
   generalize allD (l++[x])=ys at*
   generalize txt (textD l)=t at*
   cases q:l.any isErr with
   |false=>
    obtain ⟨h1,h2⟩:=err_none q
    rw[h1] at e1;rw[h2] at e2
    (rw[w_plain (fn:=c4) rfl rfl (by simp only[go_sem,s1,s2,f,e1,e2,a1,a2,a3,a4,m1,m2,t1,t2,aw,rDiag_len,rDiag_take]) rfl (by decide)];simp only[c4,c4_b,c4_r1,c4_r10,c4_r12,go_sem,s1,s2,f,e1,e2,a1,a2,a3,a4,m1,m2,t1,t2,aw,rDiag_len,rDiag_take];repeat' ((first|rw[guardO_t]|rw[guardO_f]|rw[cw_bool]);split<;>rename_i h<;>(try rw[Bool.not_eq_true] at h)<;>(try simp only[go_sem,c4_r1,c4_r10,c4_r12,s1,s2,f,e1,e2,a1,a2,a3,a4,m1,m2,t1,t2,aw,rDiag_len,rDiag_take, *])))
   |true=>
    obtain ⟨d,k,h1,h2,h3⟩:=err_some q
    rw[h1] at e1;rw[h2] at e2
    have hk:=getElem?_lt h3
    have k1:(0:Int)≤(k:Int):=by omega
    have k2:(k:Int)<(l.length:Int):=by omega
    have k3:decide ((k:Int)<0)=false:=decide_eq_false (by omega)
    have k4:decide ((0:Int)≤(k:Int))=true:=decide_eq_true (by omega)
    have c1:=code24 (ot:=ot) (oz:=oz) d
    have c2:=at24 (ot:=ot) (oz:=oz) d
    have c3:=def24 (ot:=ot) (oz:=oz) d
    unfold errOf at e1 c1 c2 c3
    (rw[w_plain (fn:=c4) rfl rfl (by simp only[go_sem,s1,s2,f,e1,e2,a1,a2,a3,a4,m1,m2,t1,t2,aw,h3,k1,k2,k3,k4,c1,c2,c3,rDiag_len,rDiag_take]) rfl (by decide)];simp only[c4,c4_b,c4_r1,c4_r10,c4_r12,go_sem,s1,s2,f,e1,e2,a1,a2,a3,a4,m1,m2,t1,t2,aw,h3,k1,k2,k3,k4,c1,c2,c3,rDiag_len,rDiag_take];repeat' ((first|rw[guardO_t]|rw[guardO_f]|rw[cw_bool]);split<;>rename_i h<;>(try rw[Bool.not_eq_true] at h)<;>(try simp only[go_sem,c4_r1,c4_r10,c4_r12,s1,s2,f,e1,e2,a1,a2,a3,a4,m1,m2,t1,t2,aw,h3,k1,k2,k3,k4,c1,c2,c3,rDiag_len,rDiag_take, *])))
theorem diagTells (l:List GDiag) (x:GDiag) (ok:Short l.length∧ ∀ a∈l,OkDiag a) (okx:OkDiag x):Ev (env ot oz) 4 [.sl .ro (l.map rDiag),.agg (rDiag x)] .none (.bool true) .none:=cal_ev (tells_ok (ot:=ot) (oz:=oz) l ok.2 x .none)
end
end Go.PE
namespace Go.PE
open Go Go.RowKit Go.Proofs
set_option linter.unusedVariables false
set_option linter.unusedSimpArgs false
set_option maxRecDepth 100000
section
variable {ot:TypeId} {oz:EP}
end
end Go.PE
