/-
  Definitions that are right, by the document. Conditions: each law's own (numbers of nodes that do not wrap).
-/
import Derived.Test.YtleggogbmklddaaGreatDoorEX2
namespace Go.PE
open Go Go.RowKit Go.Proofs
set_option linter.unusedVariables false
set_option linter.unusedSimpArgs false
set_option maxRecDepth 100000
theorem nodes_sig (d:GDef) (h:defNodes d≤1000000000):nodesE d.Body≤1000000000∧nodesTs (sigT d.Sig)≤1000000000:=by unfold defNodes at h;omega
section
variable {ot:TypeId} {oz:EP}
theorem plc01 (l:List ByteArray) (hl:Short l.length) (s:ByteArray) (S:St):cal (env ot oz) 73 [.sl .ro (l.map rStr),.str s] S=some (.int .i64 (if l.any (strEq · s) then (l.findIdx (strEq · s):Int) else -1),S):=by
 have f0:=fun fin st=>loopP (E:=(env ot oz)) (S:=S) (c:=c73_l0) l hl (fun i=>[(0,some (.sl .ro (l.map rStr))),(1,some (.str s)),(5,some (.int .i64 (i:Int)))]) (strEq · s) fin st
  (fun i=>aft (env ot oz) fin st .ret [(4,some (.int .i64 (i:Int)))] S) (aft (env ot oz) fin st (.exit 0) [(0,some (.sl .ro (l.map rStr))),(1,some (.str s)),(5,some (.int .i64 (l.length:Int))),(9,some (.bool false))] S)
  (fun i d h1 h2 h3 h4 h5=>by (rw[c73_l0_w];simp only[c73_l0_b,c73_l0_a,go_sem,h1,h3,h4,h5];repeat' ((first|rw[guardO_t]|rw[guardO_f]|rw[cw_bool]);split<;>rename_i h<;>(try rw[Bool.not_eq_true] at h)<;>(try simp only[go_sem,c73_l0_a,h1,h3,h4,h5, *]))))
  (fun i d h1 h2 h3 h4 h5=>by (rw[c73_l0_w];simp only[c73_l0_b,c73_l0_a,go_sem,h1,h3,h4,h5];repeat' ((first|rw[guardO_t]|rw[guardO_f]|rw[cw_bool]);split<;>rename_i h<;>(try rw[Bool.not_eq_true] at h)<;>(try simp only[go_sem,c73_l0_a,h1,h3,h4,h5, *]))))
  (by (rw[c73_l0_w];simp only[c73_l0_b,c73_l0_a,go_sem];repeat' ((first|rw[guardO_t]|rw[guardO_f]|rw[cw_bool]);split<;>rename_i h<;>(try rw[Bool.not_eq_true] at h)<;>(try simp only[go_sem,c73_l0_a, *]))))
 simp only[Int.cast_ofNat_Int] at f0
 cases q:l.any (strEq · s)<;>simp only[q,if_true,if_false,Bool.false_eq_true] at f0 ⊢ <;>(rw[w_plain (fn:=c73) rfl rfl (by simp only[go_sem,f0]) rfl (by decide)];simp only[c73,c73_b,go_sem,f0];repeat' ((first|rw[guardO_t]|rw[guardO_f]|rw[cw_bool]);split<;>rename_i h<;>(try rw[Bool.not_eq_true] at h)<;>(try simp only[go_sem,f0, *])))
theorem plc_ge (l:List ByteArray) (s:ByteArray):decide ((0:Int)≤(if l.any (strEq · s) then (l.findIdx (strEq · s):Int) else -1))=l.any (strEq · s):=by
 cases l.any (strEq · s)<;>simp
theorem sig14 (s:GSig) (ok:OkSig s) (S:St):cal (env ot oz) 31 [.agg (rSig s)] S=some (.bool (sigOk s),S):=by
 have fi:=fun s S=>cal_ans (fine01_ok (ot:=ot) (oz:=oz) s) (S:=S)
 have va:=fun s S=>cal_ans (var01_ok (ot:=ot) (oz:=oz) s) (S:=S)
 unfold sigOk
 cases q1:fineS s.Name with
 |false=>(rw[w_plain (fn:=c31) rfl rfl (by simp only[go_sem,fi,q1]) rfl (by decide)];simp only[c31,c31_b,c31_r1,c31_r6,c31_r11,go_sem,fi,q1];repeat' ((first|rw[guardO_t]|rw[guardO_f]|rw[cw_bool]);split<;>rename_i h<;>(try rw[Bool.not_eq_true] at h)<;>(try simp only[go_sem,c31_r1,c31_r6,c31_r11,fi,q1, *])))
 |true=>
 by_cases q2:s.Binders.length≤3
 case neg=>
  have b2:decide ((3:Int)<(s.Binders.length:Int))=true:=decide_eq_true (by omega)
  have e2:decide (s.Binders.length≤3)=false:=decide_eq_false q2
  (rw[w_plain (fn:=c31) rfl rfl (by simp only[go_sem,fi,q1,b2,e2]) rfl (by decide)];simp only[c31,c31_b,c31_r1,c31_r6,c31_r11,go_sem,fi,q1,b2,e2];repeat' ((first|rw[guardO_t]|rw[guardO_f]|rw[cw_bool]);split<;>rename_i h<;>(try rw[Bool.not_eq_true] at h)<;>(try simp only[go_sem,c31_r1,c31_r6,c31_r11,fi,q1,b2,e2, *])))
 by_cases q3:s.Params.length≤4
 case neg=>
  have b2:decide ((3:Int)<(s.Binders.length:Int))=false:=decide_eq_false (by omega)
  have e2:decide (s.Binders.length≤3)=true:=decide_eq_true q2
  have b3:decide ((4:Int)<(s.Params.length:Int))=true:=decide_eq_true (by omega)
  have e3:decide (s.Params.length≤4)=false:=decide_eq_false q3
  (rw[w_plain (fn:=c31) rfl rfl (by simp only[go_sem,fi,q1,b2,e2,b3,e3]) rfl (by decide)];simp only[c31,c31_b,c31_r1,c31_r6,c31_r11,go_sem,fi,q1,b2,e2,b3,e3];repeat' ((first|rw[guardO_t]|rw[guardO_f]|rw[cw_bool]);split<;>rename_i h<;>(try rw[Bool.not_eq_true] at h)<;>(try simp only[go_sem,c31_r1,c31_r6,c31_r11,fi,q1,b2,e2,b3,e3, *])))
 have b2:decide ((3:Int)<(s.Binders.length:Int))=false:=decide_eq_false (by omega)
 have e2:decide (s.Binders.length≤3)=true:=decide_eq_true q2
 have b3:decide ((4:Int)<(s.Params.length:Int))=false:=decide_eq_false (by omega)
 have e3:decide (s.Params.length≤4)=true:=decide_eq_true q3
 have st:=sigTypes14 (ot:=ot) (oz:=oz) s ok ⟨by omega,by omega⟩
 have ty:=types14 (ot:=ot) (oz:=oz) (sigT s) (by unfold sigT Short maxLen;simp;omega) (fun t ht=>by
  unfold sigT at ht
  rw[List.mem_append,List.mem_append,List.mem_map,List.mem_map,List.mem_singleton] at ht
  rcases ht with (⟨b,hb,rfl⟩|⟨b,hb,rfl⟩)|rfl
  ·exact (ok.Binders.2 b hb).Typ
  ·exact (ok.Params.2 b hb).Typ
  ·exact ok.Result) .ro
 cases q4:typesOk (sigT s) with
 |false=>(rw[w_plain (fn:=c31) rfl rfl (by simp only[go_sem,fi,q1,b2,e2,b3,e3,st,ty,q4]) rfl (by decide)];simp only[c31,c31_b,c31_r1,c31_r6,c31_r11,go_sem,fi,q1,b2,e2,b3,e3,st,ty,q4];repeat' ((first|rw[guardO_t]|rw[guardO_f]|rw[cw_bool]);split<;>rename_i h<;>(try rw[Bool.not_eq_true] at h)<;>(try simp only[go_sem,c31_r1,c31_r6,c31_r11,fi,q1,b2,e2,b3,e3,st,ty,q4, *])))
 |true=>
 have f0:=fun fin st=>loopA (E:=(env ot oz)) (S:=S) (c:=c31_l0) s.Binders.zipIdx (by rw[List.length_zipIdx];exact ok.Binders.1) (fun i=>[(1,some (.at_ (rSig s))),(3,some (.int .i64 (i:Int)))]) (fun q=> !(varS q.1.Name)||(namesOf (s.Binders.take q.2)).any (strEq · q.1.Name)) fin st
  (aft (env ot oz) fin st .ret [(2,some (.bool false))] S) (aft (env ot oz) fin st (.exit 0) [(1,some (.at_ (rSig s))),(3,some (.int .i64 (s.Binders.length:Int))),(31,some (.bool false))] S)
  (fun i q h1 h2 h3 h4 h5=>by
   obtain ⟨b,j⟩:=q
   obtain ⟨k1,k2⟩:=zipIdx_at h1
   simp only at k1 k2 h5
   subst k2
   rw[List.length_zipIdx] at h3
   have nm:=names09 (ot:=ot) (oz:=oz) (s.Binders.take j) (by simp;omega) .ro
   have pl:=plc01 (ot:=ot) (oz:=oz) (namesOf (s.Binders.take j)) (by unfold namesOf Short maxLen;simp;omega) b.Name
   have pg:=plc_ge (namesOf (s.Binders.take j)) b.Name
   have tk:(s.Binders.map rBind).take j=(s.Binders.take j).map rBind:=by rw[List.map_take]
   have le1:(j:Int)≤(s.Binders.length:Int):=by omega
   have mn:min j s.Binders.length=j:=by omega
   generalize (if (namesOf (s.Binders.take j)).any (strEq · b.Name)=true then (((namesOf (s.Binders.take j)).findIdx (strEq · b.Name):Nat):Int) else -1)=z at*
   simp only[Bool.or_eq_false_iff,Bool.not_eq_false'] at h5
   obtain ⟨h5,h6⟩:=h5
   rw[h6] at pg
   (rw[c31_l0_w];simp only[c31_l0_b,c31_l0_a,c31_r1,c31_r6,c31_r11,go_sem,k1,h3,h4,va,h5,tk,le1,mn,nm,pl,pg,Option.isSome_none,Option.isNone_none];repeat' ((first|rw[guardO_t]|rw[guardO_f]|rw[cw_bool]);split<;>rename_i h<;>(try rw[Bool.not_eq_true] at h)<;>(try simp only[go_sem,c31_r1,c31_r6,c31_r11,c31_l0_a,k1,h3,h4,va,h5,tk,le1,mn,nm,pl,pg,Option.isSome_none,Option.isNone_none, *]))))
  (fun i q h1 h2 h3 h4 h5=>by
   obtain ⟨b,j⟩:=q
   obtain ⟨k1,k2⟩:=zipIdx_at h1
   simp only at k1 k2 h5
   subst k2
   rw[List.length_zipIdx] at h3
   have nm:=names09 (ot:=ot) (oz:=oz) (s.Binders.take j) (by simp;omega) .ro
   have pl:=plc01 (ot:=ot) (oz:=oz) (namesOf (s.Binders.take j)) (by unfold namesOf Short maxLen;simp;omega) b.Name
   have pg:=plc_ge (namesOf (s.Binders.take j)) b.Name
   have tk:(s.Binders.map rBind).take j=(s.Binders.take j).map rBind:=by rw[List.map_take]
   have le1:(j:Int)≤(s.Binders.length:Int):=by omega
   have mn:min j s.Binders.length=j:=by omega
   generalize (if (namesOf (s.Binders.take j)).any (strEq · b.Name)=true then (((namesOf (s.Binders.take j)).findIdx (strEq · b.Name):Nat):Int) else -1)=z at*
   cases q5:varS b.Name with
   |false=>(rw[c31_l0_w];simp only[c31_l0_b,c31_l0_a,c31_r1,c31_r6,c31_r11,go_sem,k1,h3,h4,va,q5];repeat' ((first|rw[guardO_t]|rw[guardO_f]|rw[cw_bool]);split<;>rename_i h<;>(try rw[Bool.not_eq_true] at h)<;>(try simp only[go_sem,c31_r1,c31_r6,c31_r11,c31_l0_a,k1,h3,h4,va,q5, *])))
   |true=>
    rw[q5] at h5
    simp only[Bool.not_true,Bool.false_or] at h5
    rw[h5] at pg
    (rw[c31_l0_w];simp only[c31_l0_b,c31_l0_a,c31_r1,c31_r6,c31_r11,go_sem,k1,h3,h4,va,q5,tk,le1,mn,nm,pl,pg,Option.isSome_none,Option.isNone_none];repeat' ((first|rw[guardO_t]|rw[guardO_f]|rw[cw_bool]);split<;>rename_i h<;>(try rw[Bool.not_eq_true] at h)<;>(try simp only[go_sem,c31_r1,c31_r6,c31_r11,c31_l0_a,k1,h3,h4,va,q5,tk,le1,mn,nm,pl,pg,Option.isSome_none,Option.isNone_none, *]))))
  (by rw[List.length_zipIdx];(rw[c31_l0_w];simp only[c31_l0_b,c31_l0_a,c31_r1,c31_r6,c31_r11,go_sem];repeat' ((first|rw[guardO_t]|rw[guardO_f]|rw[cw_bool]);split<;>rename_i h<;>(try rw[Bool.not_eq_true] at h)<;>(try simp only[go_sem,c31_r1,c31_r6,c31_r11,c31_l0_a, *]))))
 have g0:=fun fin st=>loopA (E:=(env ot oz)) (S:=S) (c:=c31_l1) s.Params.zipIdx (by rw[List.length_zipIdx];exact ok.Params.1) (fun i=>[(1,some (.at_ (rSig s))),(4,some (.int .i64 (i:Int)))]) (fun q=> !(fineS q.1.Name)||(namesOf (s.Params.take q.2)).any (strEq · q.1.Name)) fin st
  (aft (env ot oz) fin st .ret [(2,some (.bool false))] S) (aft (env ot oz) fin st (.exit 2) [(1,some (.at_ (rSig s))),(4,some (.int .i64 (s.Params.length:Int))),(61,some (.bool false))] S)
  (fun i q h1 h2 h3 h4 h5=>by
   obtain ⟨b,j⟩:=q
   obtain ⟨k1,k2⟩:=zipIdx_at h1
   simp only at k1 k2 h5
   subst k2
   rw[List.length_zipIdx] at h3
   have nm:=names09 (ot:=ot) (oz:=oz) (s.Params.take j) (by simp;omega) .ro
   have pl:=plc01 (ot:=ot) (oz:=oz) (namesOf (s.Params.take j)) (by unfold namesOf Short maxLen;simp;omega) b.Name
   have pg:=plc_ge (namesOf (s.Params.take j)) b.Name
   have tk:(s.Params.map rBind).take j=(s.Params.take j).map rBind:=by rw[List.map_take]
   have le1:(j:Int)≤(s.Params.length:Int):=by omega
   have mn:min j s.Params.length=j:=by omega
   generalize (if (namesOf (s.Params.take j)).any (strEq · b.Name)=true then (((namesOf (s.Params.take j)).findIdx (strEq · b.Name):Nat):Int) else -1)=z at*
   simp only[Bool.or_eq_false_iff,Bool.not_eq_false'] at h5
   obtain ⟨h5,h6⟩:=h5
   rw[h6] at pg
   (rw[c31_l1_w];simp only[c31_l1_b,c31_l1_a,c31_r1,c31_r6,c31_r11,go_sem,k1,h3,h4,fi,h5,tk,le1,mn,nm,pl,pg,Option.isSome_none,Option.isNone_none];repeat' ((first|rw[guardO_t]|rw[guardO_f]|rw[cw_bool]);split<;>rename_i h<;>(try rw[Bool.not_eq_true] at h)<;>(try simp only[go_sem,c31_r1,c31_r6,c31_r11,c31_l1_a,k1,h3,h4,fi,h5,tk,le1,mn,nm,pl,pg,Option.isSome_none,Option.isNone_none, *]))))
  (fun i q h1 h2 h3 h4 h5=>by
   obtain ⟨b,j⟩:=q
   obtain ⟨k1,k2⟩:=zipIdx_at h1
   simp only at k1 k2 h5
   subst k2
   rw[List.length_zipIdx] at h3
   have nm:=names09 (ot:=ot) (oz:=oz) (s.Params.take j) (by simp;omega) .ro
   have pl:=plc01 (ot:=ot) (oz:=oz) (namesOf (s.Params.take j)) (by unfold namesOf Short maxLen;simp;omega) b.Name
   have pg:=plc_ge (namesOf (s.Params.take j)) b.Name
   have tk:(s.Params.map rBind).take j=(s.Params.take j).map rBind:=by rw[List.map_take]
   have le1:(j:Int)≤(s.Params.length:Int):=by omega
   have mn:min j s.Params.length=j:=by omega
   generalize (if (namesOf (s.Params.take j)).any (strEq · b.Name)=true then (((namesOf (s.Params.take j)).findIdx (strEq · b.Name):Nat):Int) else -1)=z at*
   cases q5:fineS b.Name with
   |false=>(rw[c31_l1_w];simp only[c31_l1_b,c31_l1_a,c31_r1,c31_r6,c31_r11,go_sem,k1,h3,h4,fi,q5];repeat' ((first|rw[guardO_t]|rw[guardO_f]|rw[cw_bool]);split<;>rename_i h<;>(try rw[Bool.not_eq_true] at h)<;>(try simp only[go_sem,c31_r1,c31_r6,c31_r11,c31_l1_a,k1,h3,h4,fi,q5, *])))
   |true=>
    rw[q5] at h5
    simp only[Bool.not_true,Bool.false_or] at h5
    rw[h5] at pg
    (rw[c31_l1_w];simp only[c31_l1_b,c31_l1_a,c31_r1,c31_r6,c31_r11,go_sem,k1,h3,h4,fi,q5,tk,le1,mn,nm,pl,pg,Option.isSome_none,Option.isNone_none];repeat' ((first|rw[guardO_t]|rw[guardO_f]|rw[cw_bool]);split<;>rename_i h<;>(try rw[Bool.not_eq_true] at h)<;>(try simp only[go_sem,c31_r1,c31_r6,c31_r11,c31_l1_a,k1,h3,h4,fi,q5,tk,le1,mn,nm,pl,pg,Option.isSome_none,Option.isNone_none, *]))))
  (by rw[List.length_zipIdx];(rw[c31_l1_w];simp only[c31_l1_b,c31_l1_a,c31_r1,c31_r6,c31_r11,go_sem];repeat' ((first|rw[guardO_t]|rw[guardO_f]|rw[cw_bool]);split<;>rename_i h<;>(try rw[Bool.not_eq_true] at h)<;>(try simp only[go_sem,c31_r1,c31_r6,c31_r11,c31_l1_a, *]))))
 rw[namesOk_eq] at f0 g0
 simp only[Int.cast_ofNat_Int] at f0 g0
 cases q6:namesOk varS [] s.Binders with
 |false=>
  simp only[q6,Bool.not_false,if_true] at f0
  (rw[w_plain (fn:=c31) rfl rfl (by simp only[go_sem,fi,q1,b2,e2,b3,e3,st,ty,q4,f0]) rfl (by decide)];simp only[c31,c31_b,c31_r1,c31_r6,c31_r11,go_sem,fi,q1,b2,e2,b3,e3,st,ty,q4,f0];repeat' ((first|rw[guardO_t]|rw[guardO_f]|rw[cw_bool]);split<;>rename_i h<;>(try rw[Bool.not_eq_true] at h)<;>(try simp only[go_sem,c31_r1,c31_r6,c31_r11,fi,q1,b2,e2,b3,e3,st,ty,q4,f0, *])))
 |true=>
  simp only[q6,Bool.not_true,Bool.false_eq_true,if_false] at f0
  cases q7:namesOk fineS [] s.Params<;>simp only[q7,Bool.not_true,Bool.not_false,Bool.false_eq_true,if_true,if_false] at g0<;>(rw[w_plain (fn:=c31) rfl rfl (by simp only[go_sem,fi,q1,b2,e2,b3,e3,st,ty,q4,f0,g0]) rfl (by decide)];simp only[c31,c31_b,c31_r1,c31_r6,c31_r11,go_sem,fi,q1,b2,e2,b3,e3,st,ty,q4,f0,g0];repeat' ((first|rw[guardO_t]|rw[guardO_f]|rw[cw_bool]);split<;>rename_i h<;>(try rw[Bool.not_eq_true] at h)<;>(try simp only[go_sem,c31_r1,c31_r6,c31_r11,fi,q1,b2,e2,b3,e3,st,ty,q4,f0,g0, *])))
theorem sigT_ok {s:GSig} (ok:OkSig s): ∀ t∈sigT s,OkTy t:=fun t ht=>by
 unfold sigT at ht
 rw[List.mem_append,List.mem_append,List.mem_map,List.mem_map,List.mem_singleton] at ht
 rcases ht with (⟨b,hb,rfl⟩|⟨b,hb,rfl⟩)|rfl
 ·exact (ok.Binders.2 b hb).Typ
 ·exact (ok.Params.2 b hb).Typ
 ·exact ok.Result
theorem size14 (d:GDef) (ok:OkDef d) (hb:d.Sig.Binders.length≤100000000∧d.Sig.Params.length≤100000000) (hn:defNodes d≤1000000000) (S:St):cal (env ot oz) 32 [.agg (rDef d)] S=some (.tup [.int .i64 (defNodes d:Int),.int .i64 (defDepth d:Int)],S):=by
 obtain ⟨n1,n2⟩:=nodes_sig d hn
 have c1:=nodes14 (ot:=ot) (oz:=oz) d.Body ok.Body (by omega)
 have c2:=depth14 (ot:=ot) (oz:=oz) d.Body ok.Body (by omega)
 have c3:=sigTypes14 (ot:=ot) (oz:=oz) d.Sig ok.Sig hb
 have okt:=sigT_ok ok.Sig
 have hlen:(sigT d.Sig).length≤300000000:=by unfold sigT;simp;omega
 unfold defNodes at hn ⊢
 unfold defDepth
 generalize sigT d.Sig=l at*
 have f0:=fun fin st=>loopF (E:=(env ot oz)) (c:=c32_l0) l (by unfold Short maxLen;omega) (fun i (b:Nat×Nat)=>[(4,some (.int .i64 (b.1:Int))),(5,some (.int .i64 (b.2:Int))),(6,some (.sl .ro (l.map rTy))),(7,some (.int .i64 (i:Int)))]) (fun _ _=>S) (fun b t=>(b.1+nodesT t,max b.2 (depthT t))) (fun i b=>b.1+nodesTs (l.drop i)≤1000000000) fin st
  (fun i b t h1 h2 h3 h4 hI=>by
   rw[drop_at h1,nodesTs] at hI
   have k1:=nodes04 (ot:=ot) (oz:=oz) t (okt t h2) (by have:=nodesTs_mem h2;omega)
   have k2:=depth04 (ot:=ot) (oz:=oz) t (okt t h2) (by have:=nodesTs_mem h2;omega)
   have w:=add_nat (a:=b.1) (b:=nodesT t) (by omega)
   have w2:=mx_nat' b.2 (depthT t)
   refine ⟨by simp only;omega, ?_⟩
   (rw[c32_l0_w];simp only[c32_l0_b,c32_l0_a,go_sem,h1,h3,h4,k1,k2,w,w2];repeat' ((first|rw[guardO_t]|rw[guardO_f]|rw[cw_bool]);split<;>rename_i h<;>(try rw[Bool.not_eq_true] at h)<;>(try simp only[go_sem,c32_l0_a,h1,h3,h4,k1,k2,w,w2, *])))) l 0 (nodesE d.Body,depthE d.Body) rfl (by simp only[List.drop_zero];omega)
 have fx: ∀ fin st (a b:Nat),run (env ot oz) fin st c32_l0 [(4,some (.int .i64 (a:Int))),(5,some (.int .i64 (b:Int))),(6,some (.sl .ro (l.map rTy))),(7,some (.int .i64 (l.length:Int)))] S=aft (env ot oz) fin st (.exit 0) [(4,some (.int .i64 (a:Int))),(5,some (.int .i64 (b:Int))),(6,some (.sl .ro (l.map rTy))),(7,some (.int .i64 (l.length:Int))),(20,some (.bool false))] S:=fun fin st a b=>by
  (rw[c32_l0_w];simp only[c32_l0_b,c32_l0_a,go_sem];repeat' ((first|rw[guardO_t]|rw[guardO_f]|rw[cw_bool]);split<;>rename_i h<;>(try rw[Bool.not_eq_true] at h)<;>(try simp only[go_sem,c32_l0_a, *])))
 have hf: ∀ (l:List GTy) (b:Nat×Nat),l.foldl (fun (b:Nat×Nat) t=>(b.1+nodesT t,max b.2 (depthT t))) b=(b.1+nodesTs l,max b.2 (depthTs l)):=by
  intro l
  induction l with
  |nil=>intro b;simp[nodesTs,depthTs]
  |cons a l ih=>
   intro b
   rw[List.foldl_cons,ih,nodesTs,depthTs]
   simp only[Prod.mk.injEq]
   omega
 have f1:=fun fin st=>(f0 fin st).2
 rw[hf] at f1
 simp only[Nat.zero_add,fx,Int.cast_ofNat_Int] at f1
 (rw[w_plain (fn:=c32) rfl rfl (by simp only[go_sem,c1,c2,c3,f1]) rfl (by decide)];simp only[c32,c32_b,go_sem,c1,c2,c3,f1];repeat' ((first|rw[guardO_t]|rw[guardO_f]|rw[cw_bool]);split<;>rename_i h<;>(try rw[Bool.not_eq_true] at h)<;>(try simp only[go_sem,c1,c2,c3,f1, *])))
theorem def14 (d:GDef) (ok:OkDef d) (hn:defNodes d≤1000000000) (S:St):cal (env ot oz) 17 [.agg (rDef d)] S=some (.bool (defOk d),S):=by
 have c1:=sig14 (ot:=ot) (oz:=oz) d.Sig ok.Sig
 have c2:=right14 (ot:=ot) (oz:=oz) d.Body ok.Body
 unfold defOk
 cases q1:sigOk d.Sig with
 |false=>(rw[w_plain (fn:=c17) rfl rfl (by simp only[go_sem,c1,q1]) rfl (by decide)];simp only[c17,c17_b,c17_r1,c17_r4,go_sem,c1,q1];repeat' ((first|rw[guardO_t]|rw[guardO_f]|rw[cw_bool]);split<;>rename_i h<;>(try rw[Bool.not_eq_true] at h)<;>(try simp only[go_sem,c17_r1,c17_r4,c1,q1, *])))
 |true=>
  cases q2:rightE d.Body with
  |false=>(rw[w_plain (fn:=c17) rfl rfl (by simp only[go_sem,c1,c2,q1,q2]) rfl (by decide)];simp only[c17,c17_b,c17_r1,c17_r4,go_sem,c1,c2,q1,q2];repeat' ((first|rw[guardO_t]|rw[guardO_f]|rw[cw_bool]);split<;>rename_i h<;>(try rw[Bool.not_eq_true] at h)<;>(try simp only[go_sem,c17_r1,c17_r4,c1,c2,q1,q2, *])))
  |true=>
   have hb:d.Sig.Binders.length≤100000000∧d.Sig.Params.length≤100000000:=by
    unfold sigOk at q1
    simp only[Bool.and_eq_true,decide_eq_true_eq] at q1
    omega
   have c3:=size14 (ot:=ot) (oz:=oz) d ok hb hn
   have e1:decide ((defNodes d:Int)≤240)=decide (defNodes d≤240):=by
    apply Bool.eq_iff_iff.2;simp only[decide_eq_true_eq];omega
   have e2:decide ((defDepth d:Int)≤40)=decide (defDepth d≤40):=by
    apply Bool.eq_iff_iff.2;simp only[decide_eq_true_eq];omega
   cases q3:decide (defNodes d≤240)<;>cases q4:decide (defDepth d≤40)<;>simp only[q3,q4] at e1 e2<;>(rw[w_plain (fn:=c17) rfl rfl (by simp only[go_sem,c1,c2,q1,q2,c3,e1,e2]) rfl (by decide)];simp only[c17,c17_b,c17_r1,c17_r4,go_sem,c1,c2,q1,q2,c3,e1,e2];repeat' ((first|rw[guardO_t]|rw[guardO_f]|rw[cw_bool]);split<;>rename_i h<;>(try rw[Bool.not_eq_true] at h)<;>(try simp only[go_sem,c17_r1,c17_r4,c1,c2,q1,q2,c3,e1,e2, *])))
end
end Go.PE
