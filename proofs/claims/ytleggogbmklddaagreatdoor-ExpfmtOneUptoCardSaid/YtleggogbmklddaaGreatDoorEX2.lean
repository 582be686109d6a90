/-
  Expressions and definitions that are right, by the document: the whole. Conditions: each law's own (numbers of nodes that do not wrap).
-/
import Derived.Test.YtleggogbmklddaaGreatDoorEX1
namespace Go.PE
open Go Go.RowKit Go.Proofs
set_option linter.unusedVariables false
set_option linter.unusedSimpArgs false
set_option maxRecDepth 100000
def tG (S:St) (out:List GTy):Tag:=accG .null S 34 (out.map rTy)
def tS (S:St) (out:List GTy):St:=accS S 5 [] (out.map rTy)
theorem tG_nil (S:St):tG S []= .null:=rfl
theorem tS_nil (S:St):tS S []=S:=rfl
theorem tTy_app (S:St) (out:List GTy) (t:GTy) (h:out.length+1≤1000000000000):appP (tS S out) 34 5 80 (tG S out) (out.map rTy) [rTy t]=some (.sl (tG S (out++[t])) ((out++[t]).map rTy),tS S (out++[t])):=by
 have:=acc_app (g0:= .null) (.inl rfl) S 34 5 80 [] (out.map rTy) [rTy t] (by simp) (by omega) (by simp;omega) (by simp;omega) (by simp only[List.nil_append];exact rTy_ok _) (by simp[headOk,rTy_len])
 simp only[List.nil_append] at this
 unfold tS tG
 rw[this,List.map_append];rfl
theorem tTy_close (S:St) (out:List GTy):close S (tS S out) (.sl (tG S out) (out.map rTy))=(.sl .ro (out.map rTy),S):=by
 refine close_acc S 5 [] (out.map rTy) fun n d=> ?_
 simp[sealW,rTy_sll]
def nG (S:St) (out:List ByteArray):Tag:=accG .null S 9 (out.map rStr)
def nS (S:St) (out:List ByteArray):St:=accS S 1 [] (out.map rStr)
theorem nG_nil (S:St):nG S []= .null:=rfl
theorem nS_nil (S:St):nS S []=S:=rfl
theorem nStr_app (S:St) (out:List ByteArray) (s:ByteArray) (h:out.length+1≤8000000000000):appP (nS S out) 9 1 16 (nG S out) (out.map rStr) [[.str s]]=some (.sl (nG S (out++[s])) ((out++[s]).map rStr),nS S (out++[s])):=by
 have:=acc_app (g0:= .null) (.inl rfl) S 9 1 16 [] (out.map rStr) [[.str s]] (by simp) (by omega) (by simp;omega) (by simp;omega) (by simp only[List.nil_append];exact rStr_ok _) (by simp[headOk])
 simp only[List.nil_append] at this
 unfold nS nG
 rw[this,List.map_append];rfl
theorem nStr_close (S:St) (out:List ByteArray):close S (nS S out) (.sl (nG S out) (out.map rStr))=(.sl .ro (out.map rStr),S):=by
 refine close_acc S 1 [] (out.map rStr) fun n d=> ?_
 simp[sealW,rStr_sll]
theorem strEq_comm' (a b:ByteArray):strEq a b=strEq b a:=by
 apply Bool.eq_iff_iff.2;rw[strEq_iff,strEq_iff];exact eq_comm
theorem zipIdx_at {α:Type} {l:List α} {i:Nat} {q:α×Nat} (h:l.zipIdx[i]?=some q):l[i]?=some q.1∧q.2=i:=by
 rw[List.getElem?_zipIdx] at h
 simp only[Option.map_eq_some_iff] at h
 obtain ⟨a,ha,rfl⟩:=h
 exact ⟨ha,by simp⟩
def namesOf (l:List GBind):List ByteArray:=l.map GBind.Name
theorem namesOk_any (p:ByteArray→Bool) (l:List GBind): ∀ (r:List GBind) (k:Nat),l.drop k=r→(r.zipIdx k).any (fun q=> !(p q.1.Name)||(namesOf (l.take q.2)).any (strEq · q.1.Name))= !(namesOk p (namesOf (l.take k)) r)
 |[],k,h=>by simp[namesOk]
 |b::r,k,h=>by
  obtain ⟨h1,h2,h3⟩:=drop_cons h
  have ih:=namesOk_any p l r (k+1) h2
  have e:namesOf (l.take (k+1))=namesOf (l.take k)++[b.Name]:=by
   unfold namesOf
   rw[List.take_add_one,h1];simp
  have e2:(namesOf (l.take k)).any (strEq · b.Name)=(namesOf (l.take k)).any (strEq b.Name):=by
   congr 1;funext x;exact strEq_comm' x b.Name
  rw[List.zipIdx_cons,List.any_cons,ih,namesOk,e,e2]
  cases p b.Name<;>cases (namesOf (l.take k)).any (strEq b.Name)<;>simp
theorem namesOk_eq (p:ByteArray→Bool) (l:List GBind):l.zipIdx.any (fun q=> !(p q.1.Name)||(namesOf (l.take q.2)).any (strEq · q.1.Name))= !(namesOk p [] l):=by
 have:=namesOk_any p l l 0 rfl
 simpa [namesOf] using this
section
variable {ot:TypeId} {oz:EP}
theorem types14 (l:List GTy) (hl:Short l.length) (ok: ∀ t∈l,OkTy t) (g:Tag) (S:St):cal (env ot oz) 70 [.sl g (l.map rTy)] S=some (.bool (typesOk l),S):=by
 refine cal_tag1 ?_ (fun n d=>rTy_sll n d l)
 have f0:=fun fin st=>loopA (E:=(env ot oz)) (S:=S) (c:=c70_l0) l hl (fun i=>[(0,some (.sl .ro (l.map rTy))),(3,some (.int .i64 (i:Int)))]) (fun t=> !(rightT t&& !(hasT 9 t))) fin st
  (aft (env ot oz) fin st .ret [(2,some (.bool false))] S) (aft (env ot oz) fin st (.exit 0) [(0,some (.sl .ro (l.map rTy))),(3,some (.int .i64 (l.length:Int))),(7,some (.bool false))] S)
  (fun i a h1 h2 h3 h4 h5=>by
   have r:=fun S=>cal_ans (right04_ok (ot:=ot) (oz:=oz) a (ok a h2)) (S:=S)
   have c:=has04 (ot:=ot) (oz:=oz) 9 a (ok a h2)
   simp only[Bool.not_eq_false',Bool.and_eq_true,Bool.not_eq_true'] at h5
   obtain ⟨h5,h6⟩:=h5
   (rw[c70_l0_w];simp only[c70_l0_b,c70_l0_a,c70_r4,go_sem,h1,h3,h4,h5,h6,r,c];repeat' ((first|rw[guardO_t]|rw[guardO_f]|rw[cw_bool]);split<;>rename_i h<;>(try rw[Bool.not_eq_true] at h)<;>(try simp only[go_sem,c70_r4,c70_l0_a,h1,h3,h4,h5,h6,r,c, *]))))
  (fun i a h1 h2 h3 h4 h5=>by
   have r:=fun S=>cal_ans (right04_ok (ot:=ot) (oz:=oz) a (ok a h2)) (S:=S)
   have c:=has04 (ot:=ot) (oz:=oz) 9 a (ok a h2)
   cases q1:rightT a with
   |false=>(rw[c70_l0_w];simp only[c70_l0_b,c70_l0_a,c70_r4,go_sem,h1,h3,h4,q1,r];repeat' ((first|rw[guardO_t]|rw[guardO_f]|rw[cw_bool]);split<;>rename_i h<;>(try rw[Bool.not_eq_true] at h)<;>(try simp only[go_sem,c70_r4,c70_l0_a,h1,h3,h4,q1,r, *])))
   |true=>
    rw[q1] at h5
    simp only[Bool.true_and,Bool.not_not] at h5
    (rw[c70_l0_w];simp only[c70_l0_b,c70_l0_a,c70_r4,go_sem,h1,h3,h4,h5,q1,r,c];repeat' ((first|rw[guardO_t]|rw[guardO_f]|rw[cw_bool]);split<;>rename_i h<;>(try rw[Bool.not_eq_true] at h)<;>(try simp only[go_sem,c70_r4,c70_l0_a,h1,h3,h4,h5,q1,r,c, *]))))
  (by (rw[c70_l0_w];simp only[c70_l0_b,c70_l0_a,c70_r4,go_sem];repeat' ((first|rw[guardO_t]|rw[guardO_f]|rw[cw_bool]);split<;>rename_i h<;>(try rw[Bool.not_eq_true] at h)<;>(try simp only[go_sem,c70_r4,c70_l0_a, *]))))
 simp only[Int.cast_ofNat_Int] at f0
 have e:(l.any fun t=> !(rightT t&& !(hasT 9 t)))= !(typesOk l):=by unfold typesOk;rw[List.not_all_eq_any_not]
 rw[e] at f0
 cases q:typesOk l<;>simp only[q,if_true,if_false,Bool.false_eq_true,Bool.not_true,Bool.not_false] at f0<;>(rw[w_plain (fn:=c70) rfl rfl (by simp only[go_sem,f0]) rfl (by decide)];simp only[c70,c70_b,c70_r4,go_sem,f0];repeat' ((first|rw[guardO_t]|rw[guardO_f]|rw[cw_bool]);split<;>rename_i h<;>(try rw[Bool.not_eq_true] at h)<;>(try simp only[go_sem,c70_r4,f0, *])))
def shapeV (e:GExp):List PV:=
 if e.K=5 then [.int .i64 0,.int .i64 1,.int .i64 2,.int .i64 2] else if e.K=6 then [.int .i64 0,.int .i64 0,.int .i64 3,.int .i64 3] else if e.K=7 then [.int .i64 0,.int .i64 1,.int .i64 1,.int .i64 1] else if e.K=8 then [.int .i64 0,.int .i64 0,.int .i64 2,.int .i64 2] else if e.K=9 then [.int .i64 0,.int .i64 0,.int .i64 (e.Labels.length:Int),.int .i64 (e.Labels.length:Int)]
 else if e.K=10 then [.int .i64 0,.int .i64 0,.int .i64 1,.int .i64 1] else if e.K=11 then [.int .i64 0,.int .i64 0,.int .i64 2,.int .i64 2] else if e.K=12 then [.int .i64 1,.int .i64 1,.int .i64 1,.int .i64 1] else if e.K=13 then [.int .i64 (if e.Has then 1 else 0),.int .i64 (if e.Has then 3 else 0),.int .i64 0,.int .i64 4] else [.int .i64 0,.int .i64 0,.int .i64 0,.int .i64 0]
theorem shape14 (e:GExp) (h:e.K=1∨e.K=2∨e.K=3∨e.K=4∨e.K=5∨e.K=6∨e.K=7∨e.K=8∨e.K=9∨e.K=10∨e.K=11∨e.K=12∨e.K=13) (S:St):cal (env ot oz) 82 [.agg (rExp e)] S=some (.tup (shapeV e),S):=by
 unfold shapeV
 rcases h with hK|hK|hK|hK|hK|hK|hK|hK|hK|hK|hK|hK|hK<;>simp only[hK,Int.reduceEq,if_true,if_false]<;>cases q:e.Has<;>(rw[w_plain (fn:=c82) rfl rfl (by simp only[go_sem,hK,q]) rfl (by decide)];simp only[c82,c82_b,go_sem,hK,q];repeat' ((first|rw[guardO_t]|rw[guardO_f]|rw[cw_bool]);split<;>rename_i h<;>(try rw[Bool.not_eq_true] at h)<;>(try simp only[go_sem,hK,q, *])))
set_option maxHeartbeats 40000000 in
theorem own14_in (e:GExp) (ok:OkExp e) (h:e.K=1∨e.K=2∨e.K=3∨e.K=4∨e.K=5∨e.K=6∨e.K=7∨e.K=8∨e.K=9∨e.K=10∨e.K=11∨e.K=12∨e.K=13) (S:St):cal (env ot oz) 34 [.agg (rExp e)] S=some (.bool (ownE e),S):=by
 obtain ⟨⟨a1,a2⟩,⟨b1,b2⟩,c1⟩:=okExp_a ok
 have fi:=fun S=>cal_ans (fine01_ok (ot:=ot) (oz:=oz) e.Name) (S:=S)
 have ri:=fun S=>cal_ans (rising01_ok (ot:=ot) (oz:=oz) e.Labels c1 .ro) (S:=S)
 have ty:=types14 (ot:=ot) (oz:=oz) e.Types b1 b2 .ro
 have sh:=shape14 (ot:=ot) (oz:=oz) e h
 have tz:(0:Int)≤(e.Types.length:Int):=by omega
 have kz:(0:Int)≤(e.Kids.length:Int):=by omega
 unfold ownE
 rcases h with hK|hK|hK|hK|hK|hK|hK|hK|hK|hK|hK|hK|hK<;>(simp only[shapeV,hK,Int.reduceEq,if_true,if_false] at sh;simp only[hK,Int.reduceEq,if_true,if_false,l0E,labE,shpE];(rw[w_plain (fn:=c34) rfl rfl (by simp only[go_sem,hK,fi,ri,ty,sh,tz,kz,Int.reduceBNe]) rfl (by decide)];simp only[c34,c34_b,c34_r1,c34_r3,c34_r4,c34_r6,c34_r8,c34_r10,c34_r13,go_sem,hK,fi,ri,ty,sh,tz,kz,Int.reduceBNe];repeat' ((first|rw[guardO_t]|rw[guardO_f]|rw[cw_bool]);split<;>rename_i h<;>(try rw[Bool.not_eq_true] at h)<;>(try simp only[go_sem,c34_r1,c34_r3,c34_r4,c34_r6,c34_r8,c34_r10,c34_r13,hK,fi,ri,ty,sh,tz,kz,Int.reduceBNe, *])))<;>(try simp_all [Bool.not_eq_true])<;>(try omega))
theorem own14 (e:GExp) (ok:OkExp e) (S:St):cal (env ot oz) 34 [.agg (rExp e)] S=some (.bool (ownE e),S):=by
 by_cases h:e.K=1∨e.K=2∨e.K=3∨e.K=4∨e.K=5∨e.K=6∨e.K=7∨e.K=8∨e.K=9∨e.K=10∨e.K=11∨e.K=12∨e.K=13
 ·exact own14_in e ok h S
 simp only[not_or] at h
 obtain ⟨h1,h2,h3,h4,h5,h6,h7,h8,h9,h10,h11,h12,h13⟩:=h
 have e0:ownE e=false:=by unfold ownE;simp only[h1,h2,h3,h4,h5,h6,h7,h8,h9,h10,h11,h12,h13,if_false]
 rw[e0]
 by_cases q:e.K<1
 ·have q1:decide (e.K<1)=true:=decide_eq_true q
  (rw[w_plain (fn:=c34) rfl rfl (by simp only[go_sem,q1]) rfl (by decide)];simp only[c34,c34_b,c34_r1,c34_r3,c34_r4,c34_r6,c34_r8,c34_r10,c34_r13,go_sem,q1];repeat' ((first|rw[guardO_t]|rw[guardO_f]|rw[cw_bool]);split<;>rename_i h<;>(try rw[Bool.not_eq_true] at h)<;>(try simp only[go_sem,c34_r1,c34_r3,c34_r4,c34_r6,c34_r8,c34_r10,c34_r13,q1, *])))
 ·have q1:decide (e.K<1)=false:=decide_eq_false q
  have q2:decide (13<e.K)=true:=decide_eq_true (by omega)
  (rw[w_plain (fn:=c34) rfl rfl (by simp only[go_sem,q1,q2]) rfl (by decide)];simp only[c34,c34_b,c34_r1,c34_r3,c34_r4,c34_r6,c34_r8,c34_r10,c34_r13,go_sem,q1,q2];repeat' ((first|rw[guardO_t]|rw[guardO_f]|rw[cw_bool]);split<;>rename_i h<;>(try rw[Bool.not_eq_true] at h)<;>(try simp only[go_sem,c34_r1,c34_r3,c34_r4,c34_r6,c34_r8,c34_r10,c34_r13,q1,q2, *])))
theorem right14: ∀ (e:GExp),OkExp e→ ∀ S,cal (env ot oz) 19 [.agg (rExp e)] S=some (.bool (rightE e),S):=by
 refine GExp.ind fun e ih ok S=> ?_
 obtain ⟨⟨a1,a2⟩,_⟩:=okExp_a ok
 have o:=own14 (ot:=ot) (oz:=oz) e ok
 have f0:=fun fin st=>loopA (E:=(env ot oz)) (S:=S) (c:=c19_l0) e.Kids a1 (fun i=>[(1,some (.at_ (rExp e))),(3,some (.int .i64 (i:Int)))]) (fun k=> !(rightE k)) fin st
  (aft (env ot oz) fin st .ret [(2,some (.bool false))] S) (aft (env ot oz) fin st (.exit 0) [(1,some (.at_ (rExp e))),(3,some (.int .i64 (e.Kids.length:Int))),(11,some (.bool false))] S)
  (fun i k h1 h2 h3 h4 h5=>by
   have c:=ih k h2 (a2 k h2)
   simp only[Bool.not_eq_false'] at h5
   (rw[c19_l0_w];simp only[c19_l0_b,c19_l0_a,go_sem,h1,h3,h4,h5,c];repeat' ((first|rw[guardO_t]|rw[guardO_f]|rw[cw_bool]);split<;>rename_i h<;>(try rw[Bool.not_eq_true] at h)<;>(try simp only[go_sem,c19_l0_a,h1,h3,h4,h5,c, *]))))
  (fun i k h1 h2 h3 h4 h5=>by
   have c:=ih k h2 (a2 k h2)
   simp only[Bool.not_eq_true'] at h5
   (rw[c19_l0_w];simp only[c19_l0_b,c19_l0_a,go_sem,h1,h3,h4,h5,c];repeat' ((first|rw[guardO_t]|rw[guardO_f]|rw[cw_bool]);split<;>rename_i h<;>(try rw[Bool.not_eq_true] at h)<;>(try simp only[go_sem,c19_l0_a,h1,h3,h4,h5,c, *]))))
  (by (rw[c19_l0_w];simp only[c19_l0_b,c19_l0_a,go_sem];repeat' ((first|rw[guardO_t]|rw[guardO_f]|rw[cw_bool]);split<;>rename_i h<;>(try rw[Bool.not_eq_true] at h)<;>(try simp only[go_sem,c19_l0_a, *]))))
 simp only[Int.cast_ofNat_Int,←List.not_all_eq_any_not] at f0
 rw[rightE_eq,rightEs_all]
 cases q:e.Kids.all rightE<;>simp only[q,if_true,if_false,Bool.false_eq_true,Bool.not_true,Bool.not_false] at f0<;>cases q2:ownE e<;>(rw[w_plain (fn:=c19) rfl rfl (by simp only[go_sem,o,f0,q2]) rfl (by decide)];simp only[c19,c19_b,go_sem,o,f0,q2];repeat' ((first|rw[guardO_t]|rw[guardO_f]|rw[cw_bool]);split<;>rename_i h<;>(try rw[Bool.not_eq_true] at h)<;>(try simp only[go_sem,o,f0,q2, *])))
theorem sigTypes14 (s:GSig) (ok:OkSig s) (hb:s.Binders.length≤100000000∧s.Params.length≤100000000) (S:St):cal (env ot oz) 71 [.agg (rSig s)] S=some (.sl .ro ((sigT s).map rTy),S):=by
 have f0:=fun fin st=>loopF (E:=(env ot oz)) (c:=c71_l0) s.Binders ok.Binders.1 (fun i (out:List GTy)=>[(1,some (.at_ (rSig s))),(3,some (.sl (tG S out) (out.map rTy))),(4,some (.int .i64 (i:Int)))]) (fun _ out=>tS S out) (fun out b=>out++[b.Typ]) (fun i out=>out.length=i) fin st
  (fun i out b h1 h2 h3 h4 hI=>by
   have ap:=tTy_app S out b.Typ (by omega)
   refine ⟨by simp[hI], ?_⟩
   generalize tS S (out++[b.Typ])=T2 at*
   generalize tG S (out++[b.Typ])=gg at*
   generalize tS S out=T1 at*
   (rw[c71_l0_w];simp only[c71_l0_b,c71_l0_a,go_sem,h1,h3,h4,ap];repeat' ((first|rw[guardO_t]|rw[guardO_f]|rw[cw_bool]);split<;>rename_i h<;>(try rw[Bool.not_eq_true] at h)<;>(try simp only[go_sem,c71_l0_a,h1,h3,h4,ap, *])))) s.Binders 0 [] rfl rfl
 have fx: ∀ fin st (T:St) (g:Tag) (out:List GTy),run (env ot oz) fin st c71_l0 [(1,some (.at_ (rSig s))),(3,some (.sl g (out.map rTy))),(4,some (.int .i64 (s.Binders.length:Int)))] T=aft (env ot oz) fin st (.exit 0) [(1,some (.at_ (rSig s))),(3,some (.sl g (out.map rTy))),(4,some (.int .i64 (s.Binders.length:Int))),(10,some (.bool false))] T:=fun fin st T g out=>by
  (rw[c71_l0_w];simp only[c71_l0_b,c71_l0_a,go_sem];repeat' ((first|rw[guardO_t]|rw[guardO_f]|rw[cw_bool]);split<;>rename_i h<;>(try rw[Bool.not_eq_true] at h)<;>(try simp only[go_sem,c71_l0_a, *])))
 have g0:=fun fin st=>loopF (E:=(env ot oz)) (c:=c71_l1) s.Params ok.Params.1 (fun i (out:List GTy)=>[(1,some (.at_ (rSig s))),(3,some (.sl (tG S out) (out.map rTy))),(5,some (.int .i64 (i:Int)))]) (fun _ out=>tS S out) (fun out b=>out++[b.Typ]) (fun i out=>out.length=s.Binders.length+i) fin st
  (fun i out b h1 h2 h3 h4 hI=>by
   have ap:=tTy_app S out b.Typ (by omega)
   refine ⟨by simp[hI];omega, ?_⟩
   generalize tS S (out++[b.Typ])=T2 at*
   generalize tG S (out++[b.Typ])=gg at*
   generalize tS S out=T1 at*
   (rw[c71_l1_w];simp only[c71_l1_b,c71_l1_a,go_sem,h1,h3,h4,ap];repeat' ((first|rw[guardO_t]|rw[guardO_f]|rw[cw_bool]);split<;>rename_i h<;>(try rw[Bool.not_eq_true] at h)<;>(try simp only[go_sem,c71_l1_a,h1,h3,h4,ap, *])))) s.Params 0 (s.Binders.map GBind.Typ) rfl (by simp)
 have gx: ∀ fin st (T:St) (g:Tag) (out:List GTy),run (env ot oz) fin st c71_l1 [(1,some (.at_ (rSig s))),(3,some (.sl g (out.map rTy))),(5,some (.int .i64 (s.Params.length:Int)))] T=aft (env ot oz) fin st (.exit 2) [(1,some (.at_ (rSig s))),(3,some (.sl g (out.map rTy))),(5,some (.int .i64 (s.Params.length:Int))),(26,some (.bool false))] T:=fun fin st T g out=>by
  (rw[c71_l1_w];simp only[c71_l1_b,c71_l1_a,go_sem];repeat' ((first|rw[guardO_t]|rw[guardO_f]|rw[cw_bool]);split<;>rename_i h<;>(try rw[Bool.not_eq_true] at h)<;>(try simp only[go_sem,c71_l1_a, *])))
 have hf: ∀ (l:List GBind) (out:List GTy),l.foldl (fun out b=>out++[b.Typ]) out=out++l.map GBind.Typ:=by
  intro l
  induction l with
  |nil=>intro out;simp
  |cons a l ih=>intro out;rw[List.foldl_cons,ih];simp
 have f1:=fun fin st=>(f0 fin st).2
 have g1:=fun fin st=>(g0 fin st).2
 rw[hf] at f1 g1
 simp only[Nat.zero_add,List.nil_append,fx,gx,Int.cast_ofNat_Int,List.map_nil,tG_nil,tS_nil] at f1 g1
 have ap:=tTy_app S (s.Binders.map GBind.Typ++s.Params.map GBind.Typ) s.Result (by simp;omega)
 have cl:=tTy_close S (s.Binders.map GBind.Typ++s.Params.map GBind.Typ++[s.Result])
 unfold sigT
 generalize tS S (s.Binders.map GBind.Typ++s.Params.map GBind.Typ++[s.Result])=T3 at*
 generalize tG S (s.Binders.map GBind.Typ++s.Params.map GBind.Typ++[s.Result])=g3 at*
 generalize tS S (s.Binders.map GBind.Typ++s.Params.map GBind.Typ)=T2 at*
 generalize tG S (s.Binders.map GBind.Typ++s.Params.map GBind.Typ)=g2 at*
 generalize tS S (s.Binders.map GBind.Typ)=T1 at*
 generalize tG S (s.Binders.map GBind.Typ)=gg1 at*
 generalize s.Binders.map GBind.Typ++s.Params.map GBind.Typ++[s.Result]=o3 at*
 generalize s.Binders.map GBind.Typ++s.Params.map GBind.Typ=o2 at*
 generalize s.Binders.map GBind.Typ=o1 at*
 (rw[w_plain (fn:=c71) rfl rfl (by simp only[go_sem,f1,g1,ap,cl]) rfl (by decide)];simp only[c71,c71_b,go_sem,f1,g1,ap,cl];repeat' ((first|rw[guardO_t]|rw[guardO_f]|rw[cw_bool]);split<;>rename_i h<;>(try rw[Bool.not_eq_true] at h)<;>(try simp only[go_sem,f1,g1,ap,cl, *])))
theorem names09 (l:List GBind) (hl:l.length≤100000000) (g:Tag) (S:St):cal (env ot oz) 74 [.sl g (l.map rBind)] S=some (.sl .ro ((namesOf l).map rStr),S):=by
 refine cal_tag1 ?_ (fun n d=>rBind_sll n d l)
 have hl':Short l.length:=by unfold Short maxLen;omega
 have f0:=fun fin st=>loopF (E:=(env ot oz)) (c:=c74_l0) l hl' (fun i (out:List ByteArray)=>[(0,some (.sl .ro (l.map rBind))),(3,some (.sl (nG S out) (out.map rStr))),(4,some (.int .i64 (i:Int)))]) (fun _ out=>nS S out) (fun out b=>out++[b.Name]) (fun i out=>out.length=i) fin st
  (fun i out b h1 h2 h3 h4 hI=>by
   have ap:=nStr_app S out b.Name (by omega)
   refine ⟨by simp[hI], ?_⟩
   generalize nS S (out++[b.Name])=T2 at*
   generalize nG S (out++[b.Name])=gg at*
   generalize nS S out=T1 at*
   (rw[c74_l0_w];simp only[c74_l0_b,c74_l0_a,go_sem,h1,h3,h4,ap];repeat' ((first|rw[guardO_t]|rw[guardO_f]|rw[cw_bool]);split<;>rename_i h<;>(try rw[Bool.not_eq_true] at h)<;>(try simp only[go_sem,c74_l0_a,h1,h3,h4,ap, *])))) l 0 [] rfl rfl
 have fx: ∀ fin st (T:St) (g:Tag) (out:List ByteArray),run (env ot oz) fin st c74_l0 [(0,some (.sl .ro (l.map rBind))),(3,some (.sl g (out.map rStr))),(4,some (.int .i64 (l.length:Int)))] T=aft (env ot oz) fin st (.exit 0) [(0,some (.sl .ro (l.map rBind))),(3,some (.sl g (out.map rStr))),(4,some (.int .i64 (l.length:Int))),(8,some (.bool false))] T:=fun fin st T g out=>by
  (rw[c74_l0_w];simp only[c74_l0_b,c74_l0_a,go_sem];repeat' ((first|rw[guardO_t]|rw[guardO_f]|rw[cw_bool]);split<;>rename_i h<;>(try rw[Bool.not_eq_true] at h)<;>(try simp only[go_sem,c74_l0_a, *])))
 have hf: ∀ (l:List GBind) (out:List ByteArray),l.foldl (fun out b=>out++[b.Name]) out=out++namesOf l:=by
  intro l
  induction l with
  |nil=>intro out;simp[namesOf]
  |cons a l ih=>intro out;rw[List.foldl_cons,ih];simp[namesOf]
 have f1:=fun fin st=>(f0 fin st).2
 rw[hf] at f1
 simp only[Nat.zero_add,List.nil_append,fx,Int.cast_ofNat_Int,List.map_nil,nG_nil,nS_nil] at f1
 have cl:=nStr_close S (namesOf l)
 generalize nS S (namesOf l)=T at*
 generalize nG S (namesOf l)=gg at*
 generalize namesOf l=o at*
 (rw[w_plain (fn:=c74) rfl rfl (by simp only[go_sem,f1,cl]) rfl (by decide)];simp only[c74,c74_b,go_sem,f1,cl];repeat' ((first|rw[guardO_t]|rw[guardO_f]|rw[cw_bool]);split<;>rename_i h<;>(try rw[Bool.not_eq_true] at h)<;>(try simp only[go_sem,f1,cl, *])))
end
end Go.PE
