/-
  How much definitions have: some number. Conditions: each law's own.
-/
import Derived.Test.YtleggogbmklddaaGreatDoorDX1
import Derived.Test.YtleggogbmklddaaGreatDoorEX3
import Derived.Test.YtleggogbmklddaaGreatDoorEX8
import Derived.Test.YtleggogbmklddaaGreatDoorEXB
import Derived.Test.YtleggogbmklddaaGreatDoorR3Q
namespace Go.PE
open Go Go.RowKit Go.Proofs
set_option linter.unusedVariables false
set_option linter.unusedSimpArgs false
set_option maxRecDepth 100000
section
variable {ot:TypeId} {oz:EP}
theorem muchE_n: ∀ (e:GExp),OkExp e→ ∃ n:Int,∀ S,cal (env ot oz) 6 [.agg (rExp e)] S=some (.int .i64 n,S):=by
 refine GExp.ind fun e ih oe=> ?_
 have hk:Short e.Kids.length∧ ∀ x∈e.Kids,OkExp x:=by cases oe;exact ⟨by assumption,by assumption⟩
 have ht:Short e.Types.length∧ ∀ x∈e.Types,OkTy x:=by cases oe;assumption
 have hl:Short e.Labels.length:=by cases oe;exact (by assumption:_∧_).1
 obtain ⟨i1,n1,f1⟩:=loopT (E:=(env ot oz)) (c:=c6_l0) e.Labels hl (fun i (n:Int)=>[(1,some (.at_ (rExp e))),(3,some (.int .i64 n)),(4,some (.int .i64 (i:Int)))])
  (fun i n S fin st=>aft (env ot oz) fin st (.exit 0) [(1,some (.at_ (rExp e))),(3,some (.int .i64 n)),(4,some (.int .i64 (i:Int))),(24,some (.bool false))] S)
  (fun i n s h1 h2 h3 h4=>by
   by_cases q:(i:Int)<1000
   ·refine .inl ⟨w64 (n+w64 ((s.size:Int).tdiv 8)),fun S fin st=> ?_⟩
    (rw[c6_l0_w];simp only[c6_l0_b,c6_l0_a,c6_r3,c6_r7,c6_r11,go_sem,h1,h3,h4,q];repeat' ((first|rw[guardO_t]|rw[guardO_f]|rw[cw_bool]);split<;>rename_i h<;>(try rw[Bool.not_eq_true] at h)<;>(try simp only[go_sem,c6_r3,c6_r7,c6_r11,c6_l0_a,h1,h3,h4,q, *])))
   ·refine .inr ⟨i,n,fun S fin st=> ?_⟩
    (rw[c6_l0_w];simp only[c6_l0_b,c6_l0_a,c6_r3,c6_r7,c6_r11,go_sem,h1,h3,h4,q];repeat' ((first|rw[guardO_t]|rw[guardO_f]|rw[cw_bool]);split<;>rename_i h<;>(try rw[Bool.not_eq_true] at h)<;>(try simp only[go_sem,c6_r3,c6_r7,c6_r11,c6_l0_a,h1,h3,h4,q, *]))))
  (fun n=>⟨e.Labels.length,n,fun S fin st=>by (rw[c6_l0_w];simp only[c6_l0_b,c6_l0_a,c6_r3,c6_r7,c6_r11,go_sem];repeat' ((first|rw[guardO_t]|rw[guardO_f]|rw[cw_bool]);split<;>rename_i h<;>(try rw[Bool.not_eq_true] at h)<;>(try simp only[go_sem,c6_r3,c6_r7,c6_r11,c6_l0_a, *])))⟩) (w64 (w64 (1+w64 ((e.Name.size:Int).tdiv 8))+(e.Labels.length:Int)))
 obtain ⟨i2,n2,f2⟩:=loopT (E:=(env ot oz)) (c:=c6_l1) e.Types ht.1 (fun i (n:Int)=>[(1,some (.at_ (rExp e))),(3,some (.int .i64 n)),(5,some (.int .i64 (i:Int)))])
  (fun i n S fin st=>aft (env ot oz) fin st (.exit 2) [(1,some (.at_ (rExp e))),(3,some (.int .i64 n)),(5,some (.int .i64 (i:Int))),(44,some (.bool false))] S)
  (fun i n t h1 h2 h3 h4=>by
   have m:=fun S=>cal_ans (muchT_ok (ot:=ot) (oz:=oz) t (ht.2 t h2)) (S:=S)
   by_cases q:n<3000
   ·refine .inl ⟨w64 (n+muchT t),fun S fin st=> ?_⟩
    (rw[c6_l1_w];simp only[c6_l1_b,c6_l1_a,c6_r3,c6_r7,c6_r11,go_sem,h1,h3,h4,q,m];repeat' ((first|rw[guardO_t]|rw[guardO_f]|rw[cw_bool]);split<;>rename_i h<;>(try rw[Bool.not_eq_true] at h)<;>(try simp only[go_sem,c6_r3,c6_r7,c6_r11,c6_l1_a,h1,h3,h4,q,m, *])))
   ·refine .inr ⟨i,n,fun S fin st=> ?_⟩
    (rw[c6_l1_w];simp only[c6_l1_b,c6_l1_a,c6_r3,c6_r7,c6_r11,go_sem,h1,h3,h4,q];repeat' ((first|rw[guardO_t]|rw[guardO_f]|rw[cw_bool]);split<;>rename_i h<;>(try rw[Bool.not_eq_true] at h)<;>(try simp only[go_sem,c6_r3,c6_r7,c6_r11,c6_l1_a,h1,h3,h4,q, *]))))
  (fun n=>⟨e.Types.length,n,fun S fin st=>by (rw[c6_l1_w];simp only[c6_l1_b,c6_l1_a,c6_r3,c6_r7,c6_r11,go_sem];repeat' ((first|rw[guardO_t]|rw[guardO_f]|rw[cw_bool]);split<;>rename_i h<;>(try rw[Bool.not_eq_true] at h)<;>(try simp only[go_sem,c6_r3,c6_r7,c6_r11,c6_l1_a, *])))⟩) n1
 obtain ⟨i3,n3,f3⟩:=loopT (E:=(env ot oz)) (c:=c6_l2) e.Kids hk.1 (fun i (n:Int)=>[(1,some (.at_ (rExp e))),(3,some (.int .i64 n)),(6,some (.int .i64 (i:Int)))])
  (fun i n S fin st=>aft (env ot oz) fin st (.exit 4) [(1,some (.at_ (rExp e))),(3,some (.int .i64 n)),(6,some (.int .i64 (i:Int))),(63,some (.bool false))] S)
  (fun i n k h1 h2 h3 h4=>by
   obtain ⟨v,m⟩:=ih k h2 (hk.2 k h2)
   by_cases q:n<3000
   ·refine .inl ⟨w64 (n+v),fun S fin st=> ?_⟩
    (rw[c6_l2_w];simp only[c6_l2_b,c6_l2_a,c6_r3,c6_r7,c6_r11,go_sem,h1,h3,h4,q,m];repeat' ((first|rw[guardO_t]|rw[guardO_f]|rw[cw_bool]);split<;>rename_i h<;>(try rw[Bool.not_eq_true] at h)<;>(try simp only[go_sem,c6_r3,c6_r7,c6_r11,c6_l2_a,h1,h3,h4,q,m, *])))
   ·refine .inr ⟨i,n,fun S fin st=> ?_⟩
    (rw[c6_l2_w];simp only[c6_l2_b,c6_l2_a,c6_r3,c6_r7,c6_r11,go_sem,h1,h3,h4,q];repeat' ((first|rw[guardO_t]|rw[guardO_f]|rw[cw_bool]);split<;>rename_i h<;>(try rw[Bool.not_eq_true] at h)<;>(try simp only[go_sem,c6_r3,c6_r7,c6_r11,c6_l2_a,h1,h3,h4,q, *]))))
  (fun n=>⟨e.Kids.length,n,fun S fin st=>by (rw[c6_l2_w];simp only[c6_l2_b,c6_l2_a,c6_r3,c6_r7,c6_r11,go_sem];repeat' ((first|rw[guardO_t]|rw[guardO_f]|rw[cw_bool]);split<;>rename_i h<;>(try rw[Bool.not_eq_true] at h)<;>(try simp only[go_sem,c6_r3,c6_r7,c6_r11,c6_l2_a, *])))⟩) n2
 simp only[Int.cast_ofNat_Int] at f1 f2 f3
 refine ⟨n3,fun S=> ?_⟩
 (rw[w_plain (fn:=c6) rfl rfl (by simp only[go_sem,f1,f2,f3]) rfl (by decide)];simp only[c6,c6_b,c6_r3,c6_r7,c6_r11,go_sem,f1,f2,f3];repeat' ((first|rw[guardO_t]|rw[guardO_f]|rw[cw_bool]);split<;>rename_i h<;>(try rw[Bool.not_eq_true] at h)<;>(try simp only[go_sem,c6_r3,c6_r7,c6_r11,f1,f2,f3, *])))
theorem bindsE_n (l:List GBind) (hl:Short l.length) (ok: ∀ b∈l,OkBind b): ∃ n:Int,∀ S,cal (env ot oz) 25 [.sl .ro (l.map rBind)] S=some (.int .i64 n,S):=by
 obtain ⟨i1,n1,f1⟩:=loopT (E:=(env ot oz)) (c:=c25_l0) l hl (fun i (n:Int)=>[(0,some (.sl .ro (l.map rBind))),(3,some (.int .i64 n)),(4,some (.int .i64 (i:Int)))])
  (fun i n S fin st=>aft (env ot oz) fin st (.exit 0) [(0,some (.sl .ro (l.map rBind))),(3,some (.int .i64 n)),(4,some (.int .i64 (i:Int))),(14,some (.bool false))] S)
  (fun i n b h1 h2 h3 h4=>by
   have m:=fun S=>cal_ans (muchT_ok (ot:=ot) (oz:=oz) b.Typ (ok b h2).Typ) (S:=S)
   by_cases q:n<3000
   ·refine .inl ⟨w64 (w64 (n+muchT b.Typ)+w64 ((b.Name.size:Int).tdiv 8)),fun S fin st=> ?_⟩
    (rw[c25_l0_w];simp only[c25_l0_b,c25_l0_a,c25_r3,go_sem,h1,h3,h4,q,m];repeat' ((first|rw[guardO_t]|rw[guardO_f]|rw[cw_bool]);split<;>rename_i h<;>(try rw[Bool.not_eq_true] at h)<;>(try simp only[go_sem,c25_r3,c25_l0_a,h1,h3,h4,q,m, *])))
   ·refine .inr ⟨i,n,fun S fin st=> ?_⟩
    (rw[c25_l0_w];simp only[c25_l0_b,c25_l0_a,c25_r3,go_sem,h1,h3,h4,q];repeat' ((first|rw[guardO_t]|rw[guardO_f]|rw[cw_bool]);split<;>rename_i h<;>(try rw[Bool.not_eq_true] at h)<;>(try simp only[go_sem,c25_r3,c25_l0_a,h1,h3,h4,q, *]))))
  (fun n=>⟨l.length,n,fun S fin st=>by (rw[c25_l0_w];simp only[c25_l0_b,c25_l0_a,c25_r3,go_sem];repeat' ((first|rw[guardO_t]|rw[guardO_f]|rw[cw_bool]);split<;>rename_i h<;>(try rw[Bool.not_eq_true] at h)<;>(try simp only[go_sem,c25_r3,c25_l0_a, *])))⟩) (l.length:Int)
 simp only[Int.cast_ofNat_Int] at f1
 refine ⟨n1,fun S=> ?_⟩
 (rw[w_plain (fn:=c25) rfl rfl (by simp only[go_sem,f1]) rfl (by decide)];simp only[c25,c25_b,c25_r3,go_sem,f1];repeat' ((first|rw[guardO_t]|rw[guardO_f]|rw[cw_bool]);split<;>rename_i h<;>(try rw[Bool.not_eq_true] at h)<;>(try simp only[go_sem,c25_r3,f1, *])))
theorem allE_n (d:GDef) (ok:OkDef d): ∃ n:Int,∀ S,cal (env ot oz) 12 [.agg (rDef d)] S=some (.int .i64 n,S):=by
 obtain ⟨a,ha⟩:=muchE_n (ot:=ot) (oz:=oz) d.Body ok.Body
 obtain ⟨b,hb⟩:=bindsE_n (ot:=ot) (oz:=oz) d.Sig.Binders ok.Sig.Binders.1 ok.Sig.Binders.2
 obtain ⟨c,hc⟩:=bindsE_n (ot:=ot) (oz:=oz) d.Sig.Params ok.Sig.Params.1 ok.Sig.Params.2
 have m:=fun S=>cal_ans (muchT_ok (ot:=ot) (oz:=oz) d.Sig.Result ok.Sig.Result) (S:=S)
 refine ⟨w64 (w64 (w64 (w64 (a+b)+c)+muchT d.Sig.Result)+w64 ((d.Sig.Name.size:Int).tdiv 8)),fun S=> ?_⟩
 (rw[w_plain (fn:=c12) rfl rfl (by simp only[go_sem,ha,hb,hc,m]) rfl (by decide)];simp only[c12,c12_b,go_sem,ha,hb,hc,m];repeat' ((first|rw[guardO_t]|rw[guardO_f]|rw[cw_bool]);split<;>rename_i h<;>(try rw[Bool.not_eq_true] at h)<;>(try simp only[go_sem,ha,hb,hc,m, *])))
end
end Go.PE
namespace Go.PE
open Go Go.RowKit Go.Proofs
set_option linter.unusedVariables false
set_option linter.unusedSimpArgs false
set_option maxRecDepth 100000
theorem lze:(ByteArray.mk #[]).size=0:=rfl
section
variable {ot:TypeId} {oz:EP}
end
end Go.PE
namespace Go.PE
open Go Go.RowKit Go.Proofs
set_option linter.unusedVariables false
set_option linter.unusedSimpArgs false
set_option maxRecDepth 100000
section
variable {ot:TypeId} {oz:EP}
theorem aw15 (S:St):cal (env ot oz) 7 [] S=some (.bool true,S):=cal_closed (env_free ot oz) (n:=60) (by kernel_rfl) rfl rfl S
end
end Go.PE
namespace Go.PE
open Go Go.RowKit Go.Proofs
set_option linter.unusedVariables false
set_option linter.unusedSimpArgs false
set_option maxRecDepth 100000
def MapOk (es:List (ByteArray×PV×Nat)) (names:List ByteArray):Prop:= ∀ s,(findM s es=none∧s ∉ names)∨ ∃ k n,findM s es=some (.int .i64 k,n)∧s∈names∧0<k∧k≤names.length
theorem mapOk_nil:MapOk [] []:=fun s=> .inl ⟨rfl,by simp⟩
theorem findM_app (s t:ByteArray) (v:PV) (n:Nat): ∀ es,findM s (es++[(t,v,n)])=match findM s es with
  |some x=>some x
  |none=>if strEq s t then some (v,n) else none
 |[]=>by simp[findM]
 |(k,v',n')::es=>by
  simp only[List.cons_append,findM]
  split
  ·rfl
  ·exact findM_app s t v n es
theorem mapOk_new {es:List (ByteArray×PV×Nat)} {names:List ByteArray} (h:MapOk es names) (t:ByteArray) (ht:findM t es=none) (c:Nat):MapOk (es++[(t,.int .i64 1,c)]) (names++[t]):=fun s=>by
 rw[findM_app]
 rcases h s with ⟨h1,h2⟩|⟨k,n,h1,h2,h3,h4⟩
 ·rw[h1]
  by_cases q:strEq s t=true
  ·rw[strEq_iff] at q;subst q
   exact .inr ⟨1,c,by simp[strEq_refl],by simp,by omega,by simp;omega⟩
  ·refine .inl ⟨by simp[q], ?_⟩
   intro hm
   rcases List.mem_append.1 hm with hm|hm
   ·exact h2 hm
   ·rw[List.mem_singleton] at hm;subst hm;exact q (strEq_refl _)
 ·rw[h1]
  exact .inr ⟨k,n,rfl,by simp[h2],h3,by simp;omega⟩
section
variable {ot:TypeId} {oz:EP}
theorem expDepthP: ∀ (e:GExp),OkExp e→nodesE e≤1000000000000→ ∀ S,cal (env ot oz) 101 [.agg (rExp e)] S=some (.int .i64 (depthE e:Int),S):=by
 refine GExp.ind fun e ih ok hn S=> ?_
 obtain ⟨⟨a1,a2⟩,⟨b1,b2⟩,_⟩:=okExp_a ok
 rw[nodesE_eq] at hn
 obtain ⟨ts',T2,hI,hr⟩:=loopR (E:=(env ot oz)) (c:=c101_l0) e.Types b1 (fun m a=>max m (depthT a))
  (fun i m ts T=>ts=[(1,some (.at_ (rExp e))),(3,some (.int .i64 (m:Int))),(9,some (.sl .ro (e.Types.map rTy))),(10,some (.int .i64 (e.Types.length:Int))),(11,some (.int .i64 (i:Int)))]∧ ∃ os,T=⟨S.obs++os,S.own⟩)
  (fun i m a ts T h1 h2 h3 h4 hh=>by
   obtain ⟨rfl,os,rfl⟩:=hh
   have hm:=nodesTs_mem h2
   have c:=tyDepthP (ot:=ot) (oz:=oz) a (b2 a h2) (by omega)
   have mx:=mx_nat m (depthT a)
   have mx2:=mx_nat' m (depthT a)
   refine ⟨_,_,⟨rfl,os++[.cells 34 (rTy a)],rfl⟩,fun fin st=> ?_⟩
   have g1: ∀ y,(S.obs++(os++[y]))[S.obs.length+os.length]?=some y:=fun y=>by simp
   have g2: ∀ y z,(S.obs++(os++[y])).set (S.obs.length+os.length) z=S.obs++(os++[z]):=fun y z=>by simp
   (rw[c101_l0_w];simp only[c101_l0_b,c101_l0_a,go_sem,h1,h3,h4,c,mx,mx2,g1,g2];repeat' ((first|rw[guardO_t]|rw[guardO_f]|rw[cw_bool]);split<;>rename_i h<;>(try rw[Bool.not_eq_true] at h)<;>(try simp only[go_sem,c101_l0_a,h1,h3,h4,c,mx,mx2,g1,g2, *])))) 0 _ S ⟨rfl,[],by simp⟩
 obtain ⟨rfl,os,rfl⟩:=hI
 rw[max_fold depthT depthTs rfl (fun _ _=>rfl),Nat.zero_max] at hr
 have ex: ∀ T fin st,run (env ot oz) fin st c101_l0 [(1,some (.at_ (rExp e))),(3,some (.int .i64 (depthTs e.Types:Int))),(9,some (.sl .ro (e.Types.map rTy))),(10,some (.int .i64 (e.Types.length:Int))),(11,some (.int .i64 (e.Types.length:Int)))] T=aft (env ot oz) fin st (.exit 0) [(1,some (.at_ (rExp e))),(3,some (.int .i64 (depthTs e.Types:Int))),(9,some (.sl .ro (e.Types.map rTy))),(10,some (.int .i64 (e.Types.length:Int))),(11,some (.int .i64 (e.Types.length:Int))),(12,some (.bool false))] T:=fun T fin st=>by
  (rw[c101_l0_w];simp only[c101_l0_b,c101_l0_a,go_sem];repeat' ((first|rw[guardO_t]|rw[guardO_f]|rw[cw_bool]);split<;>rename_i h<;>(try rw[Bool.not_eq_true] at h)<;>(try simp only[go_sem,c101_l0_a, *])))
 have hr:=fun fin st=>(hr fin st).trans (ex _ fin st)
 obtain ⟨ts2,T3,hI2,hr2⟩:=loopR (E:=(env ot oz)) (c:=c101_l1) e.Kids a1 (fun m a=>max m (depthE a))
  (fun i m ts T=>ts=[(3,some (.int .i64 (m:Int))),(21,some (.sl .ro (e.Kids.map rExp))),(22,some (.int .i64 (e.Kids.length:Int))),(23,some (.int .i64 (i:Int)))]∧ ∃ os,T=⟨S.obs++os,S.own⟩)
  (fun i m a ts T h1 h2 h3 h4 hh=>by
   obtain ⟨rfl,os,rfl⟩:=hh
   have hm:=nodesEs_mem h2
   have c:=ih a h2 (a2 a h2) (by omega)
   have mx:=mx_nat m (depthE a)
   have mx2:=mx_nat' m (depthE a)
   refine ⟨_,_,⟨rfl,os++[.cells 26 (rExp a)],rfl⟩,fun fin st=> ?_⟩
   have g1: ∀ y,(S.obs++(os++[y]))[S.obs.length+os.length]?=some y:=fun y=>by simp
   have g2: ∀ y z,(S.obs++(os++[y])).set (S.obs.length+os.length) z=S.obs++(os++[z]):=fun y z=>by simp
   (rw[c101_l1_w];simp only[c101_l1_b,c101_l1_a,go_sem,h1,h3,h4,c,mx,mx2,g1,g2];repeat' ((first|rw[guardO_t]|rw[guardO_f]|rw[cw_bool]);split<;>rename_i h<;>(try rw[Bool.not_eq_true] at h)<;>(try simp only[go_sem,c101_l1_a,h1,h3,h4,c,mx,mx2,g1,g2, *])))) (depthTs e.Types) _ ⟨S.obs++os,S.own⟩ ⟨rfl,os,rfl⟩
 obtain ⟨rfl,os2,rfl⟩:=hI2
 rw[max_fold depthE depthEs rfl (fun _ _=>rfl)] at hr2
 have ex2: ∀ T fin st,run (env ot oz) fin st c101_l1 [(3,some (.int .i64 ((max (depthTs e.Types) (depthEs e.Kids):Nat):Int))),(21,some (.sl .ro (e.Kids.map rExp))),(22,some (.int .i64 (e.Kids.length:Int))),(23,some (.int .i64 (e.Kids.length:Int)))] T=aft (env ot oz) fin st (.exit 2) [(3,some (.int .i64 ((max (depthTs e.Types) (depthEs e.Kids):Nat):Int))),(21,some (.sl .ro (e.Kids.map rExp))),(22,some (.int .i64 (e.Kids.length:Int))),(23,some (.int .i64 (e.Kids.length:Int))),(24,some (.bool false))] T:=fun T fin st=>by
  (rw[c101_l1_w];simp only[c101_l1_b,c101_l1_a,go_sem];repeat' ((first|rw[guardO_t]|rw[guardO_f]|rw[cw_bool]);split<;>rename_i h<;>(try rw[Bool.not_eq_true] at h)<;>(try simp only[go_sem,c101_l1_a, *])))
 have hr2:=fun fin st=>(hr2 fin st).trans (ex2 _ fin st)
 have hd:=depths_nodes e.Types
 have hd2:=depthEs_nodes e.Kids
 rw[depthE_eq]
 have hmm:max (depthTs e.Types) (depthEs e.Kids)+1≤9223372036854775807:=by omega
 generalize max (depthTs e.Types) (depthEs e.Kids)=mm at*
 have w:=wrap_one (a:=mm) hmm
 have cl:close S ⟨S.obs++os2,S.own⟩ (.int .i64 ((mm+1:Nat):Int))=(.int .i64 ((mm+1:Nat):Int),S):=by
  rw[close_junk1];simp[sealW]
 simp only[Int.cast_ofNat_Int] at hr hr2
 generalize (⟨S.obs++os2,S.own⟩:St)=T3 at*
 generalize (⟨S.obs++os,S.own⟩:St)=T at*
 (rw[w_plain (fn:=c101) rfl rfl (by simp only[go_sem,hr,hr2,w,cl]) rfl (by decide)];simp only[c101,c101_b,go_sem,hr,hr2,w,cl];repeat' ((first|rw[guardO_t]|rw[guardO_f]|rw[cw_bool]);split<;>rename_i h<;>(try rw[Bool.not_eq_true] at h)<;>(try simp only[go_sem,hr,hr2,w,cl, *])))
def eR (S:St) (st:Nat):ELoop:=⟨[9],c100_f0_a,c100_f0_b,[(2,some (.int .i64 0)),(3,some (.ref S.obs.length 0))],st,none⟩
def eSt (S:St) (n:Nat) (st:Nat) (os:List Ob):St:=⟨S.obs++ .cells 3 [.int .i64 (n:Int)]:: .loop (eR S st)::os,S.own⟩
theorem eSt_cell (S:St) (n st:Nat) (os:List Ob):(eSt S n st os).obs[S.obs.length]?=some (.cells 3 [.int .i64 (n:Int)]):=by simp[eSt]
theorem eSt_loop (S:St) (n st:Nat) (os:List Ob):(eSt S n st os).obs[S.obs.length+1]?=some (.loop (eR S st)):=by simp[eSt]
theorem eSt_len (S:St) (n st:Nat) (os:List Ob):(eSt S n st os).obs.length=S.obs.length+2+os.length:=by simp[eSt];omega
theorem eSt_set (S:St) (n n' st:Nat) (os:List Ob):(eSt S n st os).obs.set S.obs.length (.cells 3 [.int .i64 (n':Int)])=(eSt S n' st os).obs:=by simp[eSt]
theorem eSt_own (S:St) (n st:Nat) (os:List Ob):(eSt S n st os).own=S.own:=rfl
theorem eSt_setL (S:St) (n st st':Nat) (os:List Ob):setLoop (eSt S n st os) (S.obs.length+1) st' none=some (eSt S n st' os):=by
 unfold setLoop
 rw[eSt_loop]
 simp[eSt,eR]
theorem eSt_app (S:St) (n st:Nat) (os:List Ob) (x:Ob):(⟨(eSt S n st os).obs++[x],(eSt S n st os).own⟩:St)=eSt S n st (os++[x]):=by simp[eSt]
theorem eSt_at (S:St) (n st:Nat) (os:List Ob) (x:Ob):(eSt S n st (os++[x])).obs[S.obs.length+2+os.length]?=some x:=by
 simp only[eSt]
 rw[Nat.add_assoc,app_get]
 have:2+os.length=os.length+2:=by omega
 rw[this];simp
theorem enodes_loop (S:St) (e:GExp) (ok:OkExp e) (n:Nat) (os:List Ob) (hn:n+nodesTs e.Types≤1000000000000): ∃ os',∀ fin st,run (env ot oz) fin st c100_l0 [(3,some (.ref S.obs.length 0)),(13,some (.sl .ro (e.Types.map rTy))),(14,some (.int .i64 (e.Types.length:Int))),(15,some (.int .i64 0))] (eSt S n 1 os)=
  aft (env ot oz) fin st (.exit 2) [(3,some (.ref S.obs.length 0)),(13,some (.sl .ro (e.Types.map rTy))),(14,some (.int .i64 (e.Types.length:Int))),(15,some (.int .i64 (e.Types.length:Int))),(16,some (.bool false))] (eSt S (n+nodesTs e.Types) 1 os'):=by
 obtain ⟨_,⟨b1,b2⟩,_⟩:=okExp_a ok
 obtain ⟨ts',T2,hI,hr⟩:=loopR (E:=(env ot oz)) (c:=c100_l0) e.Types b1 (fun m a=>m+nodesT a)
  (fun i m ts T=>ts=[(3,some (.ref S.obs.length 0)),(13,some (.sl .ro (e.Types.map rTy))),(14,some (.int .i64 (e.Types.length:Int))),(15,some (.int .i64 (i:Int)))]∧(∃ os,T=eSt S m 1 os)∧m+nodesTs (e.Types.drop i)≤1000000000000)
  (fun i m a ts T h1 h2 h3 h4 hh=>by
   obtain ⟨rfl,⟨os,rfl⟩,hm⟩:=hh
   rw[drop_at h1,nodesTs] at hm
   have c:=tyNodesP (ot:=ot) (oz:=oz) a (b2 a h2) (by omega)
   refine ⟨_,_,⟨rfl,⟨os++[.cells 34 (rTy a)],rfl⟩,by omega⟩,fun fin st=> ?_⟩
   have ea:=eSt_app S m 1 os (.cells 34 (rTy a))
   have g1:=eSt_cell S m 1 (os++[.cells 34 (rTy a)])
   have g2:=eSt_at S m 1 os (.cells 34 (rTy a))
   rw[←eSt_len S m 1 os] at g2
   have e3:=eSt_set S m (m+nodesT a) 1 (os++[.cells 34 (rTy a)])
   have e5:=eSt_own S m 1 (os++[.cells 34 (rTy a)])
   have e6:(⟨(eSt S (m+nodesT a) 1 (os++[.cells 34 (rTy a)])).obs,S.own⟩:St)=eSt S (m+nodesT a) 1 (os++[.cells 34 (rTy a)]):=rfl
   have w:=wrap_add (a:=m) (b:=nodesT a) (by omega)
   generalize eSt S m 1 (os++[.cells 34 (rTy a)])=T2 at*
   generalize eSt S (m+nodesT a) 1 (os++[.cells 34 (rTy a)])=T3 at*
   generalize eSt S m 1 os=T1 at*
   (rw[c100_l0_w];simp only[c100_l0_b,c100_l0_a,go_sem,h1,h3,h4,c,ea,g1,g2,e3,e5,e6,w];repeat' ((first|rw[guardO_t]|rw[guardO_f]|rw[cw_bool]);split<;>rename_i h<;>(try rw[Bool.not_eq_true] at h)<;>(try simp only[go_sem,c100_l0_a,h1,h3,h4,c,ea,g1,g2,e3,e5,e6,w, *])))) n _ (eSt S n 1 os) ⟨rfl,⟨os,rfl⟩,by rw[List.drop_zero];omega⟩
 obtain ⟨rfl,⟨os2,rfl⟩,_⟩:=hI
 rw[sum_fold nodesT nodesTs rfl (fun _ _=>rfl)] at hr
 refine ⟨os2,fun fin st=> ?_⟩
 have:=hr fin st
 simp only[Int.cast_ofNat_Int] at this
 rw[this]
 generalize eSt S (n+nodesTs e.Types) 1 os2=T
 (rw[c100_l0_w];simp only[c100_l0_b,c100_l0_a,go_sem];repeat' ((first|rw[guardO_t]|rw[guardO_f]|rw[cw_bool]);split<;>rename_i h<;>(try rw[Bool.not_eq_true] at h)<;>(try simp only[go_sem,c100_l0_a, *])))
theorem enodes_round (S:St) (n:Nat) (x:GExp) (ok:OkExp x) (os:List Ob) (hn:n+1+nodesTs x.Types≤1000000000000): ∃ os',cal (env ot oz) yid [.yld (S.obs.length+1),.agg (rExp x)] (eSt S n 0 os)=some (.bool true,eSt S (n+1+nodesTs x.Types) 0 os'):=by
 obtain ⟨os',f0⟩:=enodes_loop (ot:=ot) (oz:=oz) S x ok (n+1) (os++[.cells 26 (rExp x)]) hn
 refine ⟨os', ?_⟩
 rw[w_yield (r:=eR S 0) (vs':=[.agg (rExp x)]) rfl rfl (eSt_loop S n 0 os) rfl (by simp only[eR];kernel_rfl) (by simp only[go_sem,rExp_sl])]
 have g1:=eSt_len S n 0 os
 have e1:=eSt_app S n 0 os (.cells 26 (rExp x))
 have hrun: ∀ (T0 T1:St),T0.obs.length=S.obs.length+2+os.length→(⟨T0.obs++[.cells 26 (rExp x)],T0.own⟩:St)=T1→run (env ot oz) (rndE (S.obs.length+1)) [.rnd (S.obs.length+1) (eR S 0).bd] (eR S 0).asg (bindP (eR S 0).ps [.agg (rExp x)] (eR S 0).ts) T0=aft (env ot oz) (rndE (S.obs.length+1)) [.rnd (S.obs.length+1) (eR S 0).bd] .normal [(3,some (.ref S.obs.length 0)),(4,some (.ref (S.obs.length+2+os.length) 0))] T1:=fun T0 T1 q1 q2=>by
  have q3: ∀ y z,(T0.obs++[y]).set (S.obs.length+2+os.length) z=T0.obs++[z]:=fun y z=>by rw[←q1];simp
  have q4: ∀ y,(T0.obs++[y])[S.obs.length+2+os.length]?=some y:=fun y=>by rw[←q1];simp
  simp only[eR,c100_f0_a,bindP,go_sem,q1,q2,q3,q4]
 rw[hrun _ _ g1 e1,a_rnd_n (eSt_loop S n 0 _) rfl (eSt_setL S n 0 1 _)]
 have g1:=eSt_cell S n 1 (os++[.cells 26 (rExp x)])
 have g2:=eSt_at S (n+1) 1 os (.cells 26 (rExp x))
 have e3:=eSt_set S n (n+1) 1 (os++[.cells 26 (rExp x)])
 have e5:=eSt_own S n 1 (os++[.cells 26 (rExp x)])
 have e6:(⟨(eSt S (n+1) 1 (os++[.cells 26 (rExp x)])).obs,S.own⟩:St)=eSt S (n+1) 1 (os++[.cells 26 (rExp x)]):=rfl
 have e2:=eSt_setL S (n+1+nodesTs x.Types) 1 0 os'
 have w:=wrap_one (a:=n) (by omega)
 generalize eSt S (n+1+nodesTs x.Types) 1 os'=T3 at*
 generalize eSt S n 1 (os++[.cells 26 (rExp x)])=T1 at*
 generalize eSt S (n+1) 1 (os++[.cells 26 (rExp x)])=T2 at*
 simp only[eR,c100_f0_b,go_sem,g1,w,e3,e5]
 simp only[e6,go_sem,g2,f0]
 simp only[rndE,e2,Option.map_some]
theorem enodes_close (S:St) (n n':Nat) (os os':List Ob) (v:PV) (h:n'≠n):close (eSt S n 0 os) (eSt S n' 0 os') v=(v,eSt S n' 0 os'):=by
 unfold close
 have: ¬ (beqO ((eSt S n' 0 os').obs.take (eSt S n 0 os).obs.length) (eSt S n 0 os).obs&&(eSt S n' 0 os').own.take (eSt S n 0 os).own.length==(eSt S n 0 os).own)=true:=by
  intro hh
  simp only[Bool.and_eq_true] at hh
  have e:=beqO_sound hh.1
  have h1:=eSt_cell S n 0 os
  have h2:=eSt_cell S n' 0 os'
  have h3:(eSt S n 0 os).obs[S.obs.length]?=some (.cells 3 [.int .i64 (n':Int)]):=by
   rw[←e,List.getElem?_take,if_pos (by have:=eSt_len S n 0 os;omega)]
   exact h2
  rw[h3] at h1;injection h1 with h1;injection h1 with _ h1;injection h1 with h1;injection h1 with _ h1;omega
 simp only[this,Bool.false_eq_true,if_false]
theorem enodes_walk (S:St): ∀ e,OkExp e→ ∀ n os,n+nodesE e≤1000000000000→ ∃ os',cal (env ot oz) 137 [.agg (rExp e),.yld (S.obs.length+1)] (eSt S n 0 os)=some (.bool true,eSt S (n+nodesE e) 0 os'):=by
 refine GExp.ind fun e ih ok n os hn=> ?_
 obtain ⟨⟨a1,a2⟩,_⟩:=okExp_a ok
 rw[nodesE_eq] at hn ⊢
 obtain ⟨os1,y⟩:=enodes_round (ot:=ot) (oz:=oz) S n e ok os (by omega)
 obtain ⟨ts',T2,hI,hr⟩:=loopR (E:=(env ot oz)) (c:=c137_l0) e.Kids a1 (fun m a=>m+nodesE a)
  (fun i m ts T=>ts=[(1,some (.yld (S.obs.length+1))),(12,some (.sl .ro (e.Kids.map rExp))),(13,some (.int .i64 (e.Kids.length:Int))),(14,some (.int .i64 (i:Int)))]∧(∃ os,T=eSt S m 0 os)∧m+nodesEs (e.Kids.drop i)≤1000000000000)
  (fun i m a ts T h1 h2 h3 h4 hh=>by
   obtain ⟨rfl,⟨os,rfl⟩,hm⟩:=hh
   rw[drop_at h1,nodesEs] at hm
   obtain ⟨os1,c⟩:=ih a h2 (a2 a h2) m (os++[.cells 26 (rExp a)]) (by omega)
   rw[←eSt_app] at c
   refine ⟨_,_,⟨rfl,⟨os1,rfl⟩,by omega⟩,fun fin st=> ?_⟩
   generalize eSt S (m+nodesE a) 0 os1=T2 at*
   generalize eSt S m 0 os=T1 at*
   (rw[c137_l0_w];simp only[c137_l0_b,c137_l0_a,go_sem,h1,h3,h4,c];repeat' ((first|rw[guardO_t]|rw[guardO_f]|rw[cw_bool]);split<;>rename_i h<;>(try rw[Bool.not_eq_true] at h)<;>(try simp only[go_sem,c137_l0_a,h1,h3,h4,c, *])))) (n+1+nodesTs e.Types) _ (eSt S (n+1+nodesTs e.Types) 0 os1) ⟨rfl,⟨os1,rfl⟩,by rw[List.drop_zero];omega⟩
 obtain ⟨rfl,⟨os2,rfl⟩,_⟩:=hI
 rw[sum_fold nodesE nodesEs rfl (fun _ _=>rfl)] at hr
 have e0:n+1+nodesTs e.Types+nodesEs e.Kids=n+(nodesTs e.Types+nodesEs e.Kids+1):=by omega
 rw[e0] at hr
 have cl:=enodes_close S n (n+(nodesTs e.Types+nodesEs e.Kids+1)) os os2 (.bool true) (by omega)
 have ex: ∀ T fin st,run (env ot oz) fin st c137_l0 [(1,some (.yld (S.obs.length+1))),(12,some (.sl .ro (e.Kids.map rExp))),(13,some (.int .i64 (e.Kids.length:Int))),(14,some (.int .i64 (e.Kids.length:Int)))] T=aft (env ot oz) fin st (.exit 0) [(1,some (.yld (S.obs.length+1))),(12,some (.sl .ro (e.Kids.map rExp))),(13,some (.int .i64 (e.Kids.length:Int))),(14,some (.int .i64 (e.Kids.length:Int))),(15,some (.bool false))] T:=fun T fin st=>by
  (rw[c137_l0_w];simp only[c137_l0_b,c137_l0_a,go_sem];repeat' ((first|rw[guardO_t]|rw[guardO_f]|rw[cw_bool]);split<;>rename_i h<;>(try rw[Bool.not_eq_true] at h)<;>(try simp only[go_sem,c137_l0_a, *])))
 have hr:=fun fin st=>(hr fin st).trans (ex _ fin st)
 simp only[Int.cast_ofNat_Int] at hr
 refine ⟨os2, ?_⟩
 generalize eSt S (n+(nodesTs e.Types+nodesEs e.Kids+1)) 0 os2=T3 at*
 generalize eSt S (n+1+nodesTs e.Types) 0 os1=T2 at*
 generalize eSt S n 0 os=T1 at*
 (rw[w_plain (fn:=c137) rfl rfl (by simp only[go_sem,y,hr,cl]) rfl (by decide)];simp only[c137,c137_b,go_sem,y,hr,cl];repeat' ((first|rw[guardO_t]|rw[guardO_f]|rw[cw_bool]);split<;>rename_i h<;>(try rw[Bool.not_eq_true] at h)<;>(try simp only[go_sem,y,hr,cl, *])))
theorem within1P (e:GExp) (S:St):cal (env ot oz) 123 [.agg (rExp e)] S=some (.fn 136 [] [.at_ (rExp e)],S):=by
 (rw[w_plain (fn:=c123) rfl rfl (by simp only[go_sem]) rfl (by decide)];simp only[c123,c123_b,go_sem];repeat' ((first|rw[guardO_t]|rw[guardO_f]|rw[cw_bool]);split<;>rename_i h<;>(try rw[Bool.not_eq_true] at h)<;>(try simp only[go_sem, *])))
theorem expNodesP (e:GExp) (ok:OkExp e) (hn:nodesE e≤1000000000000) (S:St):cal (env ot oz) 100 [.agg (rExp e)] S=some (.int .i64 (nodesE e:Int),S):=by
 have w:=within1P (ot:=ot) (oz:=oz) e
 obtain ⟨os1,c⟩:=enodes_walk (ot:=ot) (oz:=oz) S e ok 0 [] (by omega)
 rw[Nat.zero_add] at c
 have hpos:nodesE e≠0:=by rw[nodesE_eq];omega
 have cl:=enodes_close S 0 (nodesE e) [] os1 (.tup []) hpos
 have c2:cal (env ot oz) 136 [.yld (S.obs.length+1),.at_ (rExp e)] (eSt S 0 0 [])=some (.un,eSt S (nodesE e) 0 os1):=by
  generalize eSt S (nodesE e) 0 os1=T2 at*
  generalize eSt S 0 0 []=T1 at*
  (rw[w_plain (fn:=c136) rfl rfl (by simp only[go_sem,c,cl]) rfl (by decide)];simp only[c136,c136_b,go_sem,c,cl];repeat' ((first|rw[guardO_t]|rw[guardO_f]|rw[cw_bool]);split<;>rename_i h<;>(try rw[Bool.not_eq_true] at h)<;>(try simp only[go_sem,c,cl, *])))
 have hr: ∀ fin st,run (env ot oz) fin st (.rangeF (some [2,3]) (.tmp 8) [9] c100_f0_a c100_f0_b) [(2,some (.int .i64 0)),(3,some (.ref S.obs.length 0)),(8,some (.fn 136 [] [.at_ (rExp e)]))] ⟨S.obs++[.cells 3 [.int .i64 0]],S.own⟩=
   aft (env ot oz) fin st .normal [(2,some (.int .i64 0)),(3,some (.ref S.obs.length 0))] (eSt S (nodesE e) 3 os1):=fun fin st=>by
  rw[w_range (f:=136) (first:=[]) (caps:=[.at_ (rExp e)]) (by simp only[go_sem])]
  have e1:(⟨S.obs++[Ob.cells 3 [.int .i64 0]],S.own⟩:St).obs.length=S.obs.length+1:=by simp
  have e2:({(⟨S.obs++[Ob.cells 3 [.int .i64 0]],S.own⟩:St) with obs:=(⟨S.obs++[Ob.cells 3 [.int .i64 0]],S.own⟩:St).obs++[.loop ⟨[9],c100_f0_a,c100_f0_b,sel (some [2,3]) [(2,some (.int .i64 0)),(3,some (.ref S.obs.length 0)),(8,some (.fn 136 [] [.at_ (rExp e)]))],0,none⟩]}:St)=eSt S 0 0 []:=by
   simp[eSt,eR,sel,PE.look]
  rw[e2,e1]
  simp only[List.nil_append,List.cons_append]
  rw[c2]
  simp only[stepFw,eSt_loop,stepFw2,eR]
  rw[if_neg (by decide)]
  simp[eSt,eR,pendX,sel,PE.look]
 have g1:=eSt_cell S (nodesE e) 3 os1
 have cl2:close S (eSt S (nodesE e) 3 os1) (.int .i64 (nodesE e:Int))=(.int .i64 (nodesE e:Int),S):=by
  unfold eSt;rw[close_junk1];simp[sealW]
 generalize eSt S (nodesE e) 3 os1=T at*
 (rw[w_plain (fn:=c100) rfl rfl (by simp only[go_sem,w,hr,g1,cl2]) rfl (by decide)];simp only[c100,c100_b,go_sem,w,hr,g1,cl2];repeat' ((first|rw[guardO_t]|rw[guardO_f]|rw[cw_bool]);split<;>rename_i h<;>(try rw[Bool.not_eq_true] at h)<;>(try simp only[go_sem,w,hr,g1,cl2, *])))
end
end Go.PE
