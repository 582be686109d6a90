/-
  Types as texts, by the program: shown. Conditions: each law's own (texts of at most 2^46 bytes).
-/
import Derived.Test.YtleggogbmklddaaGreatDoorF5
import Derived.Test.YtleggogbmklddaaGreatDoorR3Q
namespace Go.PE
open Go Go.RowKit Go.Proofs
set_option linter.unusedVariables false
set_option linter.unusedSimpArgs false
set_option maxRecDepth 100000
mutual
def shownT:GTy→ByteArray
 | .mk K N Name Labels Args=>if K==1 then ⟨#[73,110,116]⟩ else if K==2 then ⟨#[66,111,111,108]⟩ else if K==3 then ⟨#[83,116,114,105,110,103]⟩ else if K==4 then ⟨#[84,111,112]⟩ else if K==5 then ⟨#[63]⟩ else if K==6 then Name
  else if K==9 then ⟨#[35]⟩++numS N else if K==7 then funT Args else ⟨#[123]⟩++txt (joinL [44,32] (fieldsT Labels Args))++⟨#[125]⟩
def funT:List GTy→ByteArray
 |a::r=>(if a.K==7 then ⟨#[40]⟩++shownT a++⟨#[41]⟩ else shownT a)++⟨#[32,45,62,32]⟩++resT r
 |[]=>⟨#[]⟩
def resT:List GTy→ByteArray
 |b::_=>shownT b
 |[]=>⟨#[]⟩
def fieldsT:List ByteArray→List GTy→List ByteArray
 |ls,a::r=>(ls.headD ⟨#[]⟩++⟨#[58,32]⟩++shownT a)::fieldsT ls.tail r
 |_,[]=>[]
end
def takenT (t:GTy):ByteArray:=if t.K==7 then ⟨#[40]⟩++shownT t++⟨#[41]⟩ else shownT t
theorem shownT_eq (t:GTy):shownT t=if t.K==1 then ⟨#[73,110,116]⟩ else if t.K==2 then ⟨#[66,111,111,108]⟩ else if t.K==3 then ⟨#[83,116,114,105,110,103]⟩ else if t.K==4 then ⟨#[84,111,112]⟩ else if t.K==5 then ⟨#[63]⟩ else if t.K==6 then t.Name
  else if t.K==9 then ⟨#[35]⟩++numS t.N else if t.K==7 then funT t.Args else ⟨#[123]⟩++txt (joinL [44,32] (fieldsT t.Labels t.Args))++⟨#[125]⟩:=by cases t;rw[shownT];rfl
theorem funT_two (a b:GTy):funT [a,b]=takenT a++⟨#[32,45,62,32]⟩++shownT b:=by simp only[funT,resT,takenT]
theorem fieldsT_len: ∀ (ls:List ByteArray) (as_:List GTy),(fieldsT ls as_).length=as_.length
 |ls,[]=>by simp[fieldsT]
 |ls,a::r=>by simp[fieldsT,fieldsT_len ls.tail r]
theorem fieldsT_get: ∀ (ls:List ByteArray) (as_:List GTy) (i:Nat) (l:ByteArray) (a:GTy),ls[i]?=some l→as_[i]?=some a→(fieldsT ls as_)[i]?=some (l++⟨#[58,32]⟩++shownT a)
 |[],as_,i,l,a,h,_=>by simp at h
 |_,[],i,l,a,_,h=>by simp at h
 |x::ls,y::as_,0,l,a,h,k=>by simp at h k;subst h k;simp[fieldsT]
 |x::ls,y::as_,i+1,l,a,h,k=>by
  simp only[List.getElem?_cons_succ] at h k
  simp only[fieldsT,List.tail_cons,List.getElem?_cons_succ]
  exact fieldsT_get ls as_ i l a h k
theorem joinR_mem {b:List UInt8} {t:ByteArray}: ∀ {ts:List ByteArray},t∈ts→t.size≤(joinR b ts).length
 |s::r,h=>by
  simp only[joinR,List.length_append,size_data]
  rcases List.mem_cons.1 h with rfl|h
  ·omega
  ·have:=joinR_mem (b:=b) h;omega
theorem joinL_mem {b:List UInt8} {t:ByteArray} {ts:List ByteArray} (h:t∈ts):t.size≤(joinL b ts).length:=by
 match ts,h with
 |s::r,h=>
  simp only[joinL,List.length_append,size_data]
  rcases List.mem_cons.1 h with rfl|h
  ·omega
  ·have:=joinR_mem (b:=b) h;omega
section
variable {ot:TypeId} {oz:EP}
theorem taken_eq (t:GTy) (hz:(takenT t).size≤70368744177664) (h: ∀ S,cal (env ot oz) 66 [.agg (rTy t)] S=some (.str (shownT t),S)) (S:St):cal (env ot oz) 108 [.agg (rTy t)] S=some (.str (takenT t),S):=by
 by_cases h7:t.K=7
 ·have e:takenT t=⟨#[40]⟩++shownT t++⟨#[41]⟩:=by unfold takenT;rw[if_pos (by simp[h7])]
  rw[e,app_size,app_size] at hz
  have z1:=addS (a:=⟨#[40]⟩) (b:=shownT t) (by omega)
  have z2:=addS (a:=⟨#[40]⟩++shownT t) (b:=⟨#[41]⟩) (by rw[app_size];omega)
  (rw[w_plain (fn:=c108) rfl rfl (by simp only[go_sem,h,h7,↓z1,↓z2,e]) rfl (by decide)];simp only[c108,c108_b,go_sem,h,h7,↓z1,↓z2,e];repeat' ((first|rw[guardO_t]|rw[guardO_f]|rw[cw_bool]);split<;>rename_i h<;>(try rw[Bool.not_eq_true] at h)<;>(try simp only[go_sem,h,h7,↓z1,↓z2,e, *])))
 ·have e:takenT t=shownT t:=by unfold takenT;rw[if_neg (by simpa using h7)]
  have h7:(t.K==7)=false:=by simpa using h7
  (rw[w_plain (fn:=c108) rfl rfl (by simp only[go_sem,h,h7,e]) rfl (by decide)];simp only[c108,c108_b,go_sem,h,h7,e];repeat' ((first|rw[guardO_t]|rw[guardO_f]|rw[cw_bool]);split<;>rename_i h<;>(try rw[Bool.not_eq_true] at h)<;>(try simp only[go_sem,h,h7,e, *])))
theorem right_args {t:GTy} (h:rightT t=true): ∀ a∈t.Args,rightT a=true:=by
 rw[rightT_eq,Bool.and_eq_true,rightTs_any] at h
 intro a ha
 have:=h.1
 simp only[Bool.not_eq_true',List.any_eq_false] at this
 simpa using this a ha
theorem shown_eq: ∀ (t:GTy),OkTy t→rightT t=true→(shownT t).size≤70368744177664→ ∀ S,cal (env ot oz) 66 [.agg (rTy t)] S=some (.str (shownT t),S):=by
 refine GTy.ind fun t ih ok hr hz S=> ?_
 have hA:Short t.Args.length∧(∀ x∈t.Args,OkTy x)∧Short t.Labels.length∧In64 t.N:=by cases ok;exact ⟨by assumption,by assumption,(by assumption:_∧_).1,by assumption⟩
 have hra:=right_args hr
 have hh:headT t=true:=by rw[rightT_eq,Bool.and_eq_true] at hr;exact hr.2
 have e:=shownT_eq t
 by_cases h7:t.K=7
 ·have h2:t.Args.length=2:=by
   unfold headT at hh
   simp[h7] at hh;omega
  obtain ⟨a,b,hab⟩: ∃ a b,t.Args=[a,b]:=by
   match hq:t.Args,h2 with
   |[a,b],_=>exact ⟨a,b,rfl⟩
  have e2:shownT t=takenT a++⟨#[32,45,62,32]⟩++shownT b:=by rw[e,←funT_two,←hab];simp[h7]
  rw[e2,app_size,app_size] at hz
  have ha:a∈t.Args:=by rw[hab];simp
  have hb:b∈t.Args:=by rw[hab];simp
  have sa:(shownT a).size≤(takenT a).size:=by unfold takenT;split<;>simp[app_size]<;>omega
  have ca:=taken_eq (ot:=ot) (oz:=oz) a (by omega) (ih a ha (hA.2.1 a ha) (hra a ha) (by omega))
  have cb:=ih b hb (hA.2.1 b hb) (hra b hb) (by omega)
  have z1:=addS (a:=takenT a) (b:=⟨#[32,45,62,32]⟩) (by omega)
  have z2:=addS (a:=takenT a++⟨#[32,45,62,32]⟩) (b:=shownT b) (by rw[app_size];omega)
  (rw[w_plain (fn:=c66) rfl rfl (by simp only[go_sem,h7,hab,ca,cb,↓z1,↓z2,e2]) rfl (by decide)];simp only[c66,c66_b,go_sem,h7,hab,ca,cb,↓z1,↓z2,e2];repeat' ((first|rw[guardO_t]|rw[guardO_f]|rw[cw_bool]);split<;>rename_i h<;>(try rw[Bool.not_eq_true] at h)<;>(try simp only[go_sem,h7,hab,ca,cb,↓z1,↓z2,e2, *])))
 ·by_cases h8:t.K=8
  ·have e2:shownT t=⟨#[123]⟩++txt (joinL [44,32] (fieldsT t.Labels t.Args))++⟨#[125]⟩:=by rw[e];simp[h8]
   rw[e2,app_size,app_size,txt_size] at hz
   have hL:t.Labels.length=t.Args.length:=by
    unfold headT at hh
    simp[h8] at hh;omega
   have c1: ∀ (i:Nat) a x,t.Args[i]?=some a→(fieldsT t.Labels t.Args)[i]?=some x→ ∀ S,cal (env ot oz) 110 ([]++[.int .i64 (i:Int),.agg (rTy a)]++[.at_ (rTy t)]) S=some (.str x,S):=by
    intro i a x ha hx S
    have hi:i<t.Labels.length:=by rw[hL];exact (List.getElem?_eq_some_iff.1 ha).1
    have hl:t.Labels[i]?=some t.Labels[i]:=List.getElem?_eq_getElem hi
    rw[fieldsT_get _ _ i _ a hl ha] at hx
    injection hx with hx
    have hm:=joinL_mem (b:=[44,32]) (mem_of_get (fieldsT_get _ _ i _ a hl ha))
    rw[app_size,app_size] at hm
    have am:a∈t.Args:=mem_of_get ha
    have cs:=ih a am (hA.2.1 a am) (hra a am) (by omega)
    generalize t.Labels[i]=lb at*
    have z1:=addS (a:=lb) (b:=⟨#[58,32]⟩) (by omega)
    have z2:=addS (a:=lb++⟨#[58,32]⟩) (b:=shownT a) (by rw[app_size];omega)
    have hlt:(i:Int)<(t.Labels.length:Int):=by omega
    simp only[List.nil_append,List.cons_append]
    (rw[w_plain (fn:=c110) rfl rfl (by simp only[go_sem,hl,hlt,cs,↓z1,↓z2,hx]) rfl (by decide)];simp only[c110,c110_b,go_sem,hl,hlt,cs,↓z1,↓z2,hx];repeat' ((first|rw[guardO_t]|rw[guardO_f]|rw[cw_bool]);split<;>rename_i h<;>(try rw[Bool.not_eq_true] at h)<;>(try simp only[go_sem,hl,hlt,cs,↓z1,↓z2,hx, *])))
   have c:=joined_eqTy (ot:=ot) (oz:=oz) t.Args (fieldsT t.Labels t.Args) hA.1 (fieldsT_len _ _) 110 [] [.at_ (rTy t)] (fun n d=>by simp only[sealL,sealW,rTy_sl,Option.map_some,Option.bind_some]) (fun _ _=>rfl) (by omega) c1
   have z1:=addS (a:=⟨#[123]⟩) (b:=txt (joinL [44,32] (fieldsT t.Labels t.Args))) (by rw[txt_size];omega)
   have z2:=addS (a:=⟨#[123]⟩++txt (joinL [44,32] (fieldsT t.Labels t.Args))) (b:=⟨#[125]⟩) (by rw[app_size,txt_size];omega)
   (rw[w_plain (fn:=c66) rfl rfl (by simp only[go_sem,h8,c,↓z1,↓z2,e2]) rfl (by decide)];simp only[c66,c66_b,go_sem,h8,c,↓z1,↓z2,e2];repeat' ((first|rw[guardO_t]|rw[guardO_f]|rw[cw_bool]);split<;>rename_i h<;>(try rw[Bool.not_eq_true] at h)<;>(try simp only[go_sem,h8,c,↓z1,↓z2,e2, *])))
  ·have it:=fun S=>cal_ans (itoa_ok (ot:=ot) (oz:=oz) t.N hA.2.2.2) (S:=S)
   have nz:(numS t.N).size≤21:=by
    unfold numS numL
    have a1:=digF_len 20 t.N.natAbs
    have a2:=digF_len 20 t.N.toNat
    split<;>simp[ByteArray.size]<;>omega
   have z1:=addS (a:=⟨#[35]⟩) (b:=numS t.N) (by show 1+_≤_;omega)
   have hk:t.K=1∨t.K=2∨t.K=3∨t.K=4∨t.K=5∨t.K=6∨t.K=9:=by
    unfold headT at hh
    by_cases h1:1≤t.K∧t.K≤5
    ·omega
    ·by_cases h6:t.K=6
     ·omega
     ·by_cases h9:t.K=9
      ·omega
      ·exfalso
       have n1:(decide (1≤t.K)&&decide (t.K≤5))=false:=by simp;omega
       simp[n1,h6,h9,h7,h8] at hh
   rcases hk with hk|hk|hk|hk|hk|hk|hk<;>simp[hk] at e<;>(rw[w_plain (fn:=c66) rfl rfl (by simp only[go_sem,hk,it,↓z1,e]) rfl (by decide)];simp only[c66,c66_b,go_sem,hk,it,↓z1,e];repeat' ((first|rw[guardO_t]|rw[guardO_f]|rw[cw_bool]);split<;>rename_i h<;>(try rw[Bool.not_eq_true] at h)<;>(try simp only[go_sem,hk,it,↓z1,e, *])))
end
end Go.PE
namespace Go.PE
open Go Go.RowKit Go.Proofs
set_option linter.unusedVariables false
set_option linter.unusedSimpArgs false
set_option maxRecDepth 100000
section
variable {ot:TypeId} {oz:EP}
theorem right_kinds {t:GTy} (h:rightT t=true):t.K=1∨t.K=2∨t.K=3∨t.K=4∨t.K=5∨t.K=6∨t.K=9∨t.K=7∨t.K=8:=by
 have hh:headT t=true:=by rw[rightT_eq,Bool.and_eq_true] at h;exact h.2
 unfold headT at hh
 by_cases h1:1≤t.K∧t.K≤5
 ·omega
 ·by_cases h6:t.K=6
  ·omega
  ·by_cases h9:t.K=9
   ·omega
   ·by_cases h7:t.K=7
    ·omega
    ·by_cases h8:t.K=8
     ·omega
     ·exfalso
      have n1:(decide (1≤t.K)&&decide (t.K≤5))=false:=by simp;omega
      simp[n1,h6,h9,h7,h8] at hh
theorem right_two {t:GTy} (h:rightT t=true) (h7:t.K=7): ∃ a b,t.Args=[a,b]:=by
 have hh:headT t=true:=by rw[rightT_eq,Bool.and_eq_true] at h;exact h.2
 have h2:t.Args.length=2:=by
  unfold headT at hh
  simp[h7] at hh;omega
 match hq:t.Args,h2 with
 |[a,b],_=>exact ⟨a,b,rfl⟩
theorem right_rec {t:GTy} (h:rightT t=true) (h8:t.K=8):t.Labels.length=t.Args.length∧risingS t.Labels=true:=by
 have hh:headT t=true:=by rw[rightT_eq,Bool.and_eq_true] at h;exact h.2
 unfold headT at hh
 simp[h8] at hh
 exact ⟨by omega,hh.2.1⟩
end
end Go.PE
namespace Go.PE
open Go Go.RowKit Go.Proofs
set_option linter.unusedVariables false
set_option linter.unusedSimpArgs false
set_option maxRecDepth 100000
def showT (t:GTy):ByteArray:=if rightT t then shownT t else ⟨#[]⟩
theorem bulk_ty (t:GTy):bulkL (rTy t)=2+(t.Name.size+1)+(bulkLL (t.Labels.map rStr)+1)+(bulkLL (t.Args.map rTy)+1):=by
 cases t;simp only[rTy_mk,bulkL,PV.bulk,GTy.Name,GTy.Labels,GTy.Args];omega
theorem joinR_bulk (c:Nat): ∀ (ls:List ByteArray) (as_:List GTy),ls.length=as_.length→(∀ a∈as_,(shownT a).size≤c*bulkL (rTy a))→4≤c→(joinR [44,32] (fieldsT ls as_)).length≤c*(bulkLL (ls.map rStr)+bulkLL (as_.map rTy))
 |[],[],_,_,_=>by simp[fieldsT,joinR]
 |l::ls,a::as_,h,ha,hc=>by
  have ih:=joinR_bulk c ls as_ (by simpa using h) (fun x hx=>ha x (by simp[hx])) hc
  have h1:=ha a (by simp)
  simp only[fieldsT,joinR,List.headD_cons,List.tail_cons,List.length_append,size_data,app_size,List.map_cons,bulkLL,rStr,bulkL,PV.bulk,List.length_cons,List.length_nil]
  have e:(⟨#[58,32]⟩:ByteArray).size=2:=rfl
  rw[e]
  have h2:c*(l.size+1+0+bulkLL (ls.map rStr)+(bulkL (rTy a)+bulkLL (as_.map rTy)))=c*l.size+c+c*bulkL (rTy a)+c*(bulkLL (ls.map rStr)+bulkLL (as_.map rTy)):=by
   simp only[Nat.mul_add,Nat.mul_one,Nat.mul_zero];omega
  have h3:l.size≤c*l.size:=Nat.le_mul_of_pos_left _ (by omega)
  show _≤c*(l.size+1+0+bulkLL (ls.map rStr)+(bulkL (rTy a)+bulkLL (as_.map rTy)))
  omega
theorem joinL_R (b:List UInt8) (ts:List ByteArray):(joinL b ts).length≤(joinR b ts).length:=by
 cases ts<;>simp[joinL,joinR]
theorem shown_bulk: ∀ (t:GTy),rightT t=true→(shownT t).size≤10*bulkL (rTy t):=by
 refine GTy.ind fun t ih hr=> ?_
 have hra:=right_args hr
 have hb:=bulk_ty t
 rw[shownT_eq]
 rcases right_kinds hr with hk|hk|hk|hk|hk|hk|hk|hk|hk
 ·simp[hk,ByteArray.size];omega
 ·simp[hk,ByteArray.size];omega
 ·simp[hk,ByteArray.size];omega
 ·simp[hk,ByteArray.size];omega
 ·simp[hk,ByteArray.size];omega
 ·simp[hk];omega
 ·have:=numS_21 t.N
  simp only[hk]
  show (⟨#[35]⟩++numS t.N:ByteArray).size≤_
  rw[app_size]
  have e:(⟨#[35]⟩:ByteArray).size=1:=rfl
  omega
 ·obtain ⟨a,b,hab⟩:=right_two hr hk
  simp only[hk]
  show (funT t.Args).size≤_
  rw[hab] at hb
  simp only[List.map_cons,List.map_nil,bulkLL] at hb
  rw[hab,funT_two,app_size,app_size]
  have h1:=ih a (by rw[hab];simp) (hra a (by rw[hab];simp))
  have h2:=ih b (by rw[hab];simp) (hra b (by rw[hab];simp))
  have e:(⟨#[32,45,62,32]⟩:ByteArray).size=4:=rfl
  have e1:(⟨#[40]⟩:ByteArray).size=1:=rfl
  have e2:(⟨#[41]⟩:ByteArray).size=1:=rfl
  have h3:(takenT a).size≤(shownT a).size+2:=by
   unfold takenT
   split
   ·rw[app_size,app_size];omega
   ·omega
  omega
 ·obtain ⟨hL,_⟩:=right_rec hr hk
  simp only[hk]
  show (⟨#[123]⟩++txt (joinL [44,32] (fieldsT t.Labels t.Args))++⟨#[125]⟩:ByteArray).size≤_
  rw[app_size,app_size,txt_size]
  have h1:=joinR_bulk 10 t.Labels t.Args hL (fun a ha=>ih a ha (hra a ha)) (by omega)
  have h2:=joinL_R [44,32] (fieldsT t.Labels t.Args)
  have e1:(⟨#[123]⟩:ByteArray).size=1:=rfl
  have e2:(⟨#[125]⟩:ByteArray).size=1:=rfl
  omega
theorem showT_bulk (t:GTy):(showT t).size≤10*bulkL (rTy t):=by
 unfold showT
 split
 ·exact shown_bulk t (by assumption)
 ·simp[ByteArray.size]
section
variable {ot:TypeId} {oz:EP}
theorem tshow (t:GTy) (ok:OkTy t) (hb:bulkL (rTy t)≤1048576) (S:St):cal (env ot oz) 28 [.agg (rTy t)] S=some (.str (showT t),S):=by
 have r:=right_eq (ot:=ot) (oz:=oz) t ok
 have e:showT t=if rightT t then shownT t else ⟨#[]⟩:=rfl
 cases q:rightT t with
 |true=>
  have z:=shown_bulk t q
  have c:=shown_eq (ot:=ot) (oz:=oz) t ok q (by omega)
  simp only[q,if_true] at e r
  (rw[w_plain (fn:=c28) rfl rfl (by simp only[go_sem,r,c,e]) rfl (by decide)];simp only[c28,c28_b,go_sem,r,c,e];repeat' ((first|rw[guardO_t]|rw[guardO_f]|rw[cw_bool]);split<;>rename_i h<;>(try rw[Bool.not_eq_true] at h)<;>(try simp only[go_sem,r,c,e, *])))
 |false=>
  simp only[q,if_false,Bool.false_eq_true] at e r
  (rw[w_plain (fn:=c28) rfl rfl (by simp only[go_sem,r,e]) rfl (by decide)];simp only[c28,c28_b,go_sem,r,e];repeat' ((first|rw[guardO_t]|rw[guardO_f]|rw[cw_bool]);split<;>rename_i h<;>(try rw[Bool.not_eq_true] at h)<;>(try simp only[go_sem,r,e, *])))
def listT (l:List GTy):ByteArray:=txt (joinL [44,32] (l.map showT))
def bindT (sign:ByteArray) (b:GBind):ByteArray:=b.Name++sign++showT b.Typ
def bindsT (l:List GBind) (sign:ByteArray):ByteArray:=txt (joinL [44,32] (l.map (bindT sign)))
theorem get_map {α β:Type} {f:α→β} {l:List α} {i:Nat} {a:α} {t:β} (h:l[i]?=some a) (k:(l.map f)[i]?=some t):t=f a:=by
 rw[List.getElem?_map,h] at k;exact (Option.some.inj k).symm
theorem tlist (l:List GTy) (hl:Short l.length) (ok: ∀ a∈l,OkTy a∧bulkL (rTy a)≤1048576) (hB:(joinL [44,32] (l.map showT)).length≤70368744177664) (g:Tag) (S:St):cal (env ot oz) 91 [.sl g (l.map rTy)] S=some (.str (listT l),S):=by
 refine cal_tag1 ?_ (plainLL_map fun x _=>rTy_plain x)
 have h1: ∀ (i:Nat) a t,l[i]?=some a→(l.map showT)[i]?=some t→ ∀ S,cal (env ot oz) 118 ([]++[.int .i64 (i:Int),.agg (rTy a)]++[]) S=some (.str t,S):=by
  intro i a t ha ht S
  rw[get_map ha ht]
  have c:=tshow (ot:=ot) (oz:=oz) a (ok a (mem_of_get ha)).1 (ok a (mem_of_get ha)).2
  simp only[List.nil_append,List.append_nil]
  (rw[w_plain (fn:=c118) rfl rfl (by simp only[go_sem,c]) rfl (by decide)];simp only[c118,c118_b,go_sem,c];repeat' ((first|rw[guardO_t]|rw[guardO_f]|rw[cw_bool]);split<;>rename_i h<;>(try rw[Bool.not_eq_true] at h)<;>(try simp only[go_sem,c, *])))
 have c:=joined_eqTy (ot:=ot) (oz:=oz) l (l.map showT) hl (List.length_map _) 118 [] [] (fun _ _=>rfl) (fun _ _=>rfl) hB h1
 have e:txt (joinL [44,32] (l.map showT))=listT l:=rfl
 rw[e] at c
 (rw[w_plain (fn:=c91) rfl rfl (by simp only[go_sem,c]) rfl (by decide)];simp only[c91,c91_b,go_sem,c];repeat' ((first|rw[guardO_t]|rw[guardO_f]|rw[cw_bool]);split<;>rename_i h<;>(try rw[Bool.not_eq_true] at h)<;>(try simp only[go_sem,c, *])))
theorem tbinds (l:List GBind) (sign:ByteArray) (hl:Short l.length) (ok: ∀ a∈l,OkBind a∧bulkL (rTy a.Typ)≤1048576) (hB:(joinL [44,32] (l.map (bindT sign))).length≤70368744177664) (S:St):cal (env ot oz) 27 [.sl .ro (l.map rBind),.str sign] S=some (.str (bindsT l sign),S):=by
 have h1: ∀ (i:Nat) a t,l[i]?=some a→(l.map (bindT sign))[i]?=some t→ ∀ S,cal (env ot oz) 64 ([]++[.int .i64 (i:Int),.agg (rBind a)]++[.at_ [.str sign]]) S=some (.str t,S):=by
  intro i a t ha ht S
  have hm:=Nat.le_trans (joinL_mem (b:=[44,32]) (mem_of_get ht)) hB
  rw[get_map ha ht] at hm ⊢
  unfold bindT at hm ⊢
  rw[app_size,app_size] at hm
  have c:=tshow (ot:=ot) (oz:=oz) a.Typ (ok a (mem_of_get ha)).1.Typ (ok a (mem_of_get ha)).2
  have z1:=addS (a:=a.Name) (b:=sign) (by omega)
  have z2:=addS (a:=a.Name++sign) (b:=showT a.Typ) (by rw[app_size];omega)
  simp only[List.nil_append,List.cons_append]
  (rw[w_plain (fn:=c64) rfl rfl (by simp only[go_sem,c,↓z1,↓z2]) rfl (by decide)];simp only[c64,c64_b,go_sem,c,↓z1,↓z2];repeat' ((first|rw[guardO_t]|rw[guardO_f]|rw[cw_bool]);split<;>rename_i h<;>(try rw[Bool.not_eq_true] at h)<;>(try simp only[go_sem,c,↓z1,↓z2, *])))
 have c:=joined_eqBind (ot:=ot) (oz:=oz) l (l.map (bindT sign)) hl (List.length_map _) 64 [] [.at_ [.str sign]] (fun n d=>by simp only[sealL,sealW,Option.map_some,Option.bind_some]) (fun _ _=>rfl) hB h1
 have e:txt (joinL [44,32] (l.map (bindT sign)))=bindsT l sign:=rfl
 rw[e] at c
 (rw[w_plain (fn:=c27) rfl rfl (by simp only[go_sem,c]) rfl (by decide)];simp only[c27,c27_b,go_sem,c];repeat' ((first|rw[guardO_t]|rw[guardO_f]|rw[cw_bool]);split<;>rename_i h<;>(try rw[Bool.not_eq_true] at h)<;>(try simp only[go_sem,c, *])))
theorem bulk_bind (b:GBind):bulkL (rBind b)=b.Name.size+1+bulkL (rTy b.Typ):=by
 simp only[rBind_eq,List.cons_append,List.nil_append,bulkL,PV.bulk]
end
end Go.PE
