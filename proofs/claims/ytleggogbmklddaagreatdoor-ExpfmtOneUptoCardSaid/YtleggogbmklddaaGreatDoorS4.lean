/-
  Types that are right, by the document. Conditions: each law's own.
-/
import Derived.Test.YtleggogbmklddaaGreatDoorN01
namespace Go.PE
open Go Go.RowKit Go.Proofs
set_option linter.unusedVariables false
set_option linter.unusedSimpArgs false
set_option maxRecDepth 100000
section
variable {ot:TypeId} {oz:EP}
def badT (t:GTy):Bool:=(t.K !=6&& !(strEq t.Name ⟨#[]⟩))||(t.K !=9&&t.N !=0)||(t.K !=8&&decide (0<t.Labels.length))
def headT (t:GTy):Bool:=
 !(badT t)&&(if decide (1≤t.K)&&decide (t.K≤5) then (t.Args.length:Int)==0 else if t.K==6 then varS t.Name&&(t.Args.length:Int)==0 else if t.K==9 then (decide (0≤t.N)&&decide (t.N≤1073741824))&&(t.Args.length:Int)==0
  else if t.K==7 then (t.Args.length:Int)==2 else (t.K==8&&risingS t.Labels)&&(t.Labels.length:Int)==(t.Args.length:Int))
mutual
def rightT:GTy→Bool
 | .mk K N Name Labels Args=>rightTs Args&&headT (.mk K N Name Labels Args)
def rightTs:List GTy→Bool
 |[]=>true
 |a::r=>rightT a&&rightTs r
end
theorem rightT_eq (t:GTy):rightT t=(rightTs t.Args&&headT t):=by cases t;rw[rightT];rfl
theorem right04_r6 (t:GTy) {ts:Tmps} (h:PE.look ts 1=some (.at_ (rTy t))) (n:Nat) (S:St) (fin:Kont (PV×St)) (st:List Fr):stepR (env ot oz) fin st (some [1,46]) (evOps (env ot oz).G (lvl (env ot oz) n).call c67_r6 ts S)=kont (env ot oz) fin st .normal [(1,some (.at_ (rTy t))),(46,some (.bool (badT t)))] S:=by
 unfold badT
 cases h1:(t.K !=6)<;>cases h2:strEq t.Name ⟨#[]⟩<;>cases h3:(t.K !=9)<;>cases h4:(t.N !=0)<;>cases h5:(t.K !=8)<;>simp only[c67_r6,go_sem,h,h1,h2,h3,h4,h5]
theorem right04_r8 (t:GTy) {ts:Tmps} (h:PE.look ts 1=some (.at_ (rTy t))) (n:Nat) (S:St) (fin:Kont (PV×St)) (st:List Fr):stepR (env ot oz) fin st (some [1,54]) (evOps (env ot oz).G (lvl (env ot oz) n).call c67_r8 ts S)=kont (env ot oz) fin st .normal [(1,some (.at_ (rTy t))),(54,some (.bool (decide (1≤t.K)&&decide (t.K≤5))))] S:=by
 by_cases h1:1≤t.K<;>simp only[c67_r8,go_sem,h,h1]
theorem right04_l0 (t:GTy) (ht:Short t.Args.length) (N:Nat) (S:St) (fin:Kont (PV×St)) (st:List Fr): ∀ (rest:List GTy) (i:Nat),t.Args.drop i=rest→(∀ a∈rest,∀ m,N≤m→ ∀ S,(lvl (env ot oz) m).call 67 [.agg (rTy a)] S=some (.bool (rightT a),S))→ ∀ n,rest.length+N+2≤n→
  (lvl (env ot oz) n).ev c67_l0 [(1,some (.at_ (rTy t))),(3,some (.int .i64 (i:Int)))] S (kont (env ot oz) fin st)=
   if rightTs rest then kont (env ot oz) fin st (.exit 0) [(1,some (.at_ (rTy t))),(3,some (.int .i64 ((i+rest.length:Nat):Int))),(8,some (.bool false))] S else kont (env ot oz) fin st .ret [(2,some (.bool false))] S
 |[],i,h,hc,n,hn=>by
  obtain ⟨k,rfl⟩: ∃ k,n=k+1:=⟨n - 1,by omega⟩
  have hlt:=lt_no (drop_nil h)
  (rw[c67_l0_step];simp only[c67_l0_b,c67_r6,c67_r8,c67_r11,c67_r13,c67_r16,go_sem,hlt,rightTs])
 |a::r,i,h,hc,n,hn=>by
  obtain ⟨k,rfl⟩: ∃ k,n=k+1:=⟨n - 1,by omega⟩
  obtain ⟨h1,h2,h3⟩:=drop_cons h
  unfold Short maxLen at ht
  simp only[List.length_cons] at hn
  have e:i+(a::r).length=i+1+r.length:=by simp only[List.length_cons];omega
  have w:=wrap_succ (i:=i) (n:=t.Args.length) h3 (by omega)
  have hlt:(i:Int)<(t.Args.length:Int):=by omega
  have ih:=right04_l0 t (by unfold Short maxLen;omega) N S fin st r (i+1) h2 (fun x hx=>hc x (List.mem_cons_of_mem _ hx)) k (by omega)
  have ca:=hc a (by simp) k (by omega)
  rw[e]
  cases q:rightT a<;>(rw[c67_l0_step];simp only[c67_l0_b,c67_r6,c67_r8,c67_r11,c67_r13,c67_r16,go_sem,hlt,h1,q,w,ih,ca,rightTs])
theorem right04_ok: ∀ (t:GTy),OkTy t→Ans (env ot oz) 67 [.agg (rTy t)] (.bool (rightT t)):=by
 refine GTy.ind fun t ih ok=> ?_
 have hA:Short t.Args.length∧(∀ x∈t.Args,OkTy x)∧Short t.Labels.length:=by cases ok;exact ⟨by assumption,by assumption,(by assumption:_∧_).1⟩
 obtain ⟨A,hA1⟩:=all_le (p:=fun n (a:GTy)=> ∀ S,(lvl (env ot oz) n).call 67 [.agg (rTy a)] S=some (.bool (rightT a),S)) (fun n m k hm h S=>call_mono hm (h S)) (l:=t.Args) (fun a ha=>ih a ha (hA.2.1 a ha))
 obtain ⟨B,b⟩:=(var01_ok (ot:=ot) (oz:=oz) t.Name).le
 obtain ⟨C,c⟩:=(rising01_ok (ot:=ot) (oz:=oz) t.Labels hA.2.2 .ro).le
 refine ⟨t.Args.length+A+B+C+4,fun S=> ?_⟩
 have f0:=fun fin st=>right04_l0 (ot:=ot) (oz:=oz) t hA.1 A S fin st t.Args 0 rfl (fun a ha m hm S=>call_mono hm (hA1 a ha S)) (t.Args.length+A+B+C+3) (by omega)
 have b:=b (t.Args.length+A+B+C+2) (by omega)
 have c:=c (t.Args.length+A+B+C+2) (by omega)
 have e:rightT t=(rightTs t.Args&&headT t):=rightT_eq t
 have r6:=fun ts h=>right04_r6 (ot:=ot) (oz:=oz) t (ts:=ts) h
 have r8:=fun ts h=>right04_r8 (ot:=ot) (oz:=oz) t (ts:=ts) h
 simp only[Int.cast_ofNat_Int] at f0
 cases q0:rightTs t.Args with
 |false=>
  simp only[q0,if_false,Bool.false_eq_true,Bool.false_and] at f0 e
  (rw[call_plain (fn:=c67) rfl rfl (by simp only[go_sem,f0,e]) rfl (by decide)];simp only[c67,c67_b,c67_r11,c67_r13,c67_r16,go_sem,f0,e])
 |true=>
  simp only[q0,if_true,Bool.true_and] at f0 e
  rw[e];unfold headT;clear e
  cases q1:badT t with
  |true=>(rw[call_plain (fn:=c67) rfl rfl (by simp only[go_sem,f0,r6,q1]) rfl (by decide)];simp only[c67,c67_b,c67_r11,c67_r13,c67_r16,go_sem,f0,r6,q1])
  |false=>
   cases q2:(decide (1≤t.K)&&decide (t.K≤5)) with
   |true=>(rw[call_plain (fn:=c67) rfl rfl (by simp only[go_sem,f0,r6,r8,q1,q2]) rfl (by decide)];simp only[c67,c67_b,c67_r11,c67_r13,c67_r16,go_sem,f0,r6,r8,q1,q2])
   |false=>
    cases q3:(t.K==6) with
    |true=>cases q4:varS t.Name<;>(rw[call_plain (fn:=c67) rfl rfl (by simp only[go_sem,f0,r6,r8,q1,q2,q3,q4,b]) rfl (by decide)];simp only[c67,c67_b,c67_r11,c67_r13,c67_r16,go_sem,f0,r6,r8,q1,q2,q3,q4,b])
    |false=>
     cases q5:(t.K==9) with
     |true=>by_cases q6:0≤t.N<;>cases q7:decide (t.N≤1073741824)<;>(rw[call_plain (fn:=c67) rfl rfl (by simp only[go_sem,f0,r6,r8,q1,q2,q3,q5,q6,q7]) rfl (by decide)];simp only[c67,c67_b,c67_r11,c67_r13,c67_r16,go_sem,f0,r6,r8,q1,q2,q3,q5,q6,q7])
     |false=>
      cases q8:(t.K==7) with
      |true=>(rw[call_plain (fn:=c67) rfl rfl (by simp only[go_sem,f0,r6,r8,q1,q2,q3,q5,q8]) rfl (by decide)];simp only[c67,c67_b,c67_r11,c67_r13,c67_r16,go_sem,f0,r6,r8,q1,q2,q3,q5,q8])
      |false=>cases q9:(t.K==8)<;>cases q10:risingS t.Labels<;>(rw[call_plain (fn:=c67) rfl rfl (by simp only[go_sem,f0,r6,r8,q1,q2,q3,q5,q8,q9,q10,c]) rfl (by decide)];simp only[c67,c67_b,c67_r11,c67_r13,c67_r16,go_sem,f0,r6,r8,q1,q2,q3,q5,q8,q9,q10,c])
end
end Go.PE
namespace Go.PE
open Go Go.RowKit Go.Proofs
set_option linter.unusedVariables false
set_option linter.unusedSimpArgs false
set_option maxRecDepth 100000
def eqS:List ByteArray→List ByteArray→Bool
 |[],[]=>true
 |a::l,b::m=>strEq a b&&eqS l m
 |_,_=>false
theorem eqS_iff: ∀ {l m:List ByteArray},eqS l m=true↔l=m
 |[],[]=>by simp[eqS]
 |[],_::_=>by simp[eqS]
 |_::_,[]=>by simp[eqS]
 |a::l,b::m=>by simp[eqS,eqS_iff (l:=l) (m:=m),strEq_iff]
theorem eqS_len: ∀ {l m:List ByteArray},l.length≠m.length→eqS l m=false:=fun {l m} h=>by
 cases q:eqS l m with
 |false=>rfl
 |true=>exact absurd (congrArg List.length (eqS_iff.1 q)) h
mutual
def sameT:GTy→GTy→Bool
 | .mk K N Name Labels Args,b=>K==b.K&&(N==b.N&&(strEq Name b.Name&&(eqS Labels b.Labels&&sameTs Args b.Args)))
def sameTs:List GTy→List GTy→Bool
 |[],[]=>true
 |a::l,b::m=>sameT a b&&sameTs l m
 |_,_=>false
end
theorem sameT_eq (a b:GTy):sameT a b=(a.K==b.K&&(a.N==b.N&&(strEq a.Name b.Name&&(eqS a.Labels b.Labels&&sameTs a.Args b.Args)))):=by cases a;rw[sameT];rfl
theorem sameTs_len: ∀ {l m:List GTy},l.length≠m.length→sameTs l m=false
 |[],[],h=>absurd rfl h
 |[],_::_,_=>by simp[sameTs]
 |_::_,[],_=>by simp[sameTs]
 |a::l,b::m,h=>by simp[sameTs,sameTs_len (l:=l) (m:=m) (by simpa using h)]
mutual
theorem sameT_iff: ∀ {a b:GTy},sameT a b=true↔a=b
 | .mk K N Name Labels Args,b=>by
  cases b
  rw[sameT]
  simp only[GTy.K,GTy.N,GTy.Name,GTy.Labels,GTy.Args,Bool.and_eq_true,beq_iff_eq,strEq_iff,eqS_iff,sameTs_iff (l:=Args),GTy.mk.injEq]
theorem sameTs_iff: ∀ {l m:List GTy},sameTs l m=true↔l=m
 |[],[]=>by simp[sameTs]
 |[],_::_=>by simp[sameTs]
 |_::_,[]=>by simp[sameTs]
 |a::l,b::m=>by simp only[sameTs,Bool.and_eq_true,sameT_iff (a:=a) (b:=b),sameTs_iff (l:=l) (m:=m),List.cons.injEq]
end
section
variable {ot:TypeId} {oz:EP}
theorem same01_l0 (l m:List ByteArray) (hl:Short l.length) (he:l.length=m.length) (S:St) (fin:Kont (PV×St)) (st:List Fw): ∀ (rl rm:List ByteArray) (i:Nat),l.drop i=rl→m.drop i=rm→
  run (env ot oz) fin st c36_l0 [(0,some (.sl .ro (l.map rStr))),(1,some (.sl .ro (m.map rStr))),(5,some (.int .i64 (i:Int)))] S=
   if eqS rl rm then aft (env ot oz) fin st (.exit 0) [(0,some (.sl .ro (l.map rStr))),(1,some (.sl .ro (m.map rStr))),(5,some (.int .i64 ((i+rl.length:Nat):Int))),(20,some (.bool false))] S else aft (env ot oz) fin st .ret [(4,some (.bool false))] S
 |[],rm,i,h,k=>by
  have hlt:=lt_no (drop_nil h)
  have:rm=[]:=by rw[←k];exact List.drop_eq_nil_of_le (by rw[←he];exact drop_nil h)
  subst this
  simp only[eqS]
  (rw[c36_l0_w];simp only[c36_l0_b,c36_l0_a,c36_r4,go_sem,hlt])
 |a::rl,[],i,h,k=>by
  have:=drop_nil k
  have:=(drop_cons h).2.2
  omega
 |a::rl,b::rm,i,h,k=>by
  obtain ⟨h1,h2,h3⟩:=drop_cons h
  obtain ⟨k1,k2,k3⟩:=drop_cons k
  unfold Short maxLen at hl
  have e:i+(a::rl).length=i+1+rl.length:=by simp only[List.length_cons];omega
  have w:=wrap_succ (i:=i) (n:=l.length) h3 (by omega)
  have hlt:(i:Int)<(l.length:Int):=by omega
  have hlt2:(i:Int)<(m.length:Int):=by omega
  have ih:=same01_l0 l m (by unfold Short maxLen;omega) he S fin st rl rm (i+1) h2 k2
  rw[e]
  cases q:strEq a b<;>(rw[c36_l0_w];simp only[c36_l0_b,c36_l0_a,c36_r4,go_sem,hlt,hlt2,h1,k1,q,w,ih,eqS])
theorem same01 (l m:List ByteArray) (hl:Short l.length) (hm:Short m.length) (S:St):cal (env ot oz) 36 [.sl .ro (l.map rStr),.sl .ro (m.map rStr)] S=some (.bool (eqS l m),S):=by
 by_cases he:l.length=m.length
 ·have f:=fun fin st=>same01_l0 (ot:=ot) (oz:=oz) l m hl he S fin st l m 0 rfl rfl
  have hb:((l.length:Int) !=(m.length:Int))=false:=by rw[he];simp
  simp only[Int.cast_ofNat_Int] at f
  cases q:eqS l m<;>simp only[q,if_true,if_false,Bool.false_eq_true] at f<;>(rw[w_plain (fn:=c36) rfl rfl (by simp only[go_sem,f,hb]) rfl (by decide)];simp only[c36,c36_b,c36_r4,go_sem,f,hb];repeat' ((first|rw[guardO_t]|rw[guardO_f]|rw[cw_bool]);split<;>rename_i h<;>(try rw[Bool.not_eq_true] at h)<;>(try simp only[go_sem,c36_r4,f,hb, *])))
 ·have e:=eqS_len he
  have hb:((l.length:Int) !=(m.length:Int))=true:=by simp;omega
  (rw[w_plain (fn:=c36) rfl rfl (by simp only[go_sem,e,hb]) rfl (by decide)];simp only[c36,c36_b,c36_r4,go_sem,e,hb];repeat' ((first|rw[guardO_t]|rw[guardO_f]|rw[cw_bool]);split<;>rename_i h<;>(try rw[Bool.not_eq_true] at h)<;>(try simp only[go_sem,c36_r4,e,hb, *])))
theorem same04_l0 (a b:GTy) (hl:Short a.Args.length) (he:a.Args.length=b.Args.length) (S:St) (ih0: ∀ x∈a.Args,∀ y∈b.Args,cal (env ot oz) 80 [.agg (rTy x),.agg (rTy y)] S=some (.bool (sameT x y),S)) (fin:Kont (PV×St)) (st:List Fw): ∀ (rl rm:List GTy) (i:Nat),a.Args.drop i=rl→b.Args.drop i=rm→
  run (env ot oz) fin st c80_l0 [(2,some (.at_ (rTy a))),(3,some (.at_ (rTy b))),(5,some (.int .i64 (i:Int)))] S=
   if sameTs rl rm then aft (env ot oz) fin st (.exit 0) [(2,some (.at_ (rTy a))),(3,some (.at_ (rTy b))),(5,some (.int .i64 ((i+rl.length:Nat):Int))),(53,some (.bool false))] S else aft (env ot oz) fin st .ret [(4,some (.bool false))] S
 |[],rm,i,h,k=>by
  have hlt:=lt_no (drop_nil h)
  have:rm=[]:=by rw[←k];exact List.drop_eq_nil_of_le (by rw[←he];exact drop_nil h)
  subst this
  simp only[sameTs]
  (rw[c80_l0_w];simp only[c80_l0_b,c80_l0_a,c80_r1,c80_r4,go_sem,hlt])
 |x::rl,[],i,h,k=>by
  have:=drop_nil k
  have:=(drop_cons h).2.2
  omega
 |x::rl,y::rm,i,h,k=>by
  obtain ⟨h1,h2,h3⟩:=drop_cons h
  obtain ⟨k1,k2,k3⟩:=drop_cons k
  unfold Short maxLen at hl
  have e:i+(x::rl).length=i+1+rl.length:=by simp only[List.length_cons];omega
  have w:=wrap_succ (i:=i) (n:=a.Args.length) h3 (by omega)
  have hlt:(i:Int)<(a.Args.length:Int):=by omega
  have hlt2:(i:Int)<(b.Args.length:Int):=by omega
  have ih:=same04_l0 a b (by unfold Short maxLen;omega) he S ih0 fin st rl rm (i+1) h2 k2
  have c:=ih0 x (mem_of_get h1) y (mem_of_get k1)
  rw[e]
  cases q:sameT x y<;>(rw[c80_l0_w];simp only[c80_l0_b,c80_l0_a,c80_r1,c80_r4,go_sem,hlt,hlt2,h1,k1,c,q,w,ih,sameTs])
theorem same04: ∀ (a:GTy),OkTy a→ ∀ b,OkTy b→ ∀ S,cal (env ot oz) 80 [.agg (rTy a),.agg (rTy b)] S=some (.bool (sameT a b),S):=by
 refine GTy.ind fun a ih oa b ob S=> ?_
 have hA:Short a.Args.length∧(∀ x∈a.Args,OkTy x)∧Short a.Labels.length:=by cases oa;exact ⟨by assumption,by assumption,(by assumption:_∧_).1⟩
 have hB:Short b.Args.length∧(∀ x∈b.Args,OkTy x)∧Short b.Labels.length:=by cases ob;exact ⟨by assumption,by assumption,(by assumption:_∧_).1⟩
 have s1:=same01 (ot:=ot) (oz:=oz) a.Labels b.Labels hA.2.2 hB.2.2
 have e:=sameT_eq a b
 by_cases he:a.Args.length=b.Args.length
 ·have f:=fun fin st=>same04_l0 (ot:=ot) (oz:=oz) a b hA.1 he S (fun x hx y hy=>ih x hx (hA.2.1 x hx) y (hB.2.1 y hy) S) fin st a.Args b.Args 0 rfl rfl
  have hb:((a.Args.length:Int) !=(b.Args.length:Int))=false:=by rw[he];simp
  simp only[Int.cast_ofNat_Int] at f
  cases q:sameTs a.Args b.Args<;>simp only[q,if_true,if_false,Bool.false_eq_true] at f e<;>(rw[w_plain (fn:=c80) rfl rfl (by simp only[go_sem,s1,f,hb]) rfl (by decide)];simp only[c80,c80_b,c80_r1,c80_r4,go_sem,s1,f,hb];repeat' ((first|rw[guardO_t]|rw[guardO_f]|rw[cw_bool]);split<;>rename_i h<;>(try rw[Bool.not_eq_true] at h)<;>(try simp only[go_sem,c80_r1,c80_r4,s1,f,hb, *])))<;>(try simp_all [e])<;>(try omega)
 ·have q:=sameTs_len he
  have hb:((a.Args.length:Int) !=(b.Args.length:Int))=true:=by simp;omega
  simp only[q] at e
  (rw[w_plain (fn:=c80) rfl rfl (by simp only[go_sem,s1,hb]) rfl (by decide)];simp only[c80,c80_b,c80_r1,c80_r4,go_sem,s1,hb];repeat' ((first|rw[guardO_t]|rw[guardO_f]|rw[cw_bool]);split<;>rename_i h<;>(try rw[Bool.not_eq_true] at h)<;>(try simp only[go_sem,c80_r1,c80_r4,s1,hb, *])))<;>(try simp_all [e])<;>(try omega)
end
end Go.PE
