/-
  Expressions that are right, by the program. Conditions: each law's own.
-/
import Derived.Test.YtleggogbmklddaaGreatDoorEX4
import Derived.Test.YtleggogbmklddaaGreatDoorF5d
import Derived.Test.YtleggogbmklddaaGreatDoorPKN
import Derived.Test.YtleggogbmklddaaGreatDoorR3Q
namespace Go.PE
open Go Go.RowKit Go.Proofs
set_option linter.unusedVariables false
set_option linter.unusedSimpArgs false
set_option maxRecDepth 100000
def wordE (e:GExp):Bool:=if (e.K==4)||(e.K==5)||(e.K==7)||(e.K==10)||(e.K==13) then fineS e.Name else if e.K==3 then decide ((e.Name.size:Int)≤40) else strEq e.Name ⟨#[]⟩
def numE (e:GExp):Bool:=if e.K==1 then decide (0≤e.N) else if e.K==2 then (e.N==0)||(e.N==1) else if e.K==11 then decide (1≤e.N)&&decide (e.N≤7) else e.N==0
def typE (e:GExp):Bool:=if (e.K==5)||(e.K==7) then decide ((e.Types.length:Int)≤1) else if e.K==12 then ((e.Types.length:Int)==1) else if e.K==13 then (if e.Has then decide (1≤(e.Types.length:Int))&&decide ((e.Types.length:Int)≤3) else ((e.Types.length:Int)==0)) else ((e.Types.length:Int)==0)
def beaE (e:GExp):Bool:=
 if (e.K==1)||(e.K==2)||(e.K==3)||(e.K==4) then ((e.Kids.length:Int)==0) else if (e.K==7)||(e.K==10)||(e.K==12) then ((e.Kids.length:Int)==1)
 else if (e.K==5)||(e.K==8)||(e.K==11) then ((e.Kids.length:Int)==2) else if e.K==6 then ((e.Kids.length:Int)==3)
 else if e.K==9 then ((e.Kids.length:Int)==(e.Labels.length:Int))&&(decide ((e.Kids.length:Int)≤6)&&risingS e.Labels) else if e.K==13 then decide ((e.Kids.length:Int)≤4) else false
section
variable {ot:TypeId} {oz:EP}
theorem wordP (e:GExp) (S:St):cal (env ot oz) 37 [.agg (rExp e)] S=some (.bool (wordE e),S):=by
 have f:=nfine (ot:=ot) (oz:=oz) e.Name
 (rw[w_plain (fn:=c37) rfl rfl (by simp only[go_sem,f]) rfl (by decide)];simp only[c37,c37_b,go_sem,f];repeat' ((first|rw[guardO_t]|rw[guardO_f]|rw[cw_bool]);split<;>rename_i h<;>(try rw[Bool.not_eq_true] at h)<;>(try simp only[go_sem,f, *])))<;>(try simp_all [wordE])<;>(try omega)
theorem numP (e:GExp) (S:St):cal (env ot oz) 38 [.agg (rExp e)] S=some (.bool (numE e),S):=by
 (rw[w_plain (fn:=c38) rfl rfl (by simp only[go_sem]) rfl (by decide)];simp only[c38,c38_b,c38_r5,c38_r7,go_sem];repeat' ((first|rw[guardO_t]|rw[guardO_f]|rw[cw_bool]);split<;>rename_i h<;>(try rw[Bool.not_eq_true] at h)<;>(try simp only[go_sem,c38_r5,c38_r7, *])))<;>(try simp_all [numE])<;>(try omega)
theorem typP (e:GExp) (S:St):cal (env ot oz) 39 [.agg (rExp e)] S=some (.bool (typE e),S):=by
 cases q:e.Has<;>(rw[w_plain (fn:=c39) rfl rfl (by simp only[go_sem,q]) rfl (by decide)];simp only[c39,c39_b,c39_r9,go_sem,q];repeat' ((first|rw[guardO_t]|rw[guardO_f]|rw[cw_bool]);split<;>rename_i h<;>(try rw[Bool.not_eq_true] at h)<;>(try simp only[go_sem,c39_r9,q, *])))<;>(try simp_all [typE])<;>(try omega)
theorem beaP (e:GExp) (hl:Short e.Labels.length) (S:St):cal (env ot oz) 40 [.agg (rExp e)] S=some (.bool (beaE e),S):=by
 have f:=nrising (ot:=ot) (oz:=oz) e.Labels hl
 (rw[w_plain (fn:=c40) rfl rfl (by simp only[go_sem,f]) rfl (by decide)];simp only[c40,c40_b,c40_r19,go_sem,f];repeat' ((first|rw[guardO_t]|rw[guardO_f]|rw[cw_bool]);split<;>rename_i h<;>(try rw[Bool.not_eq_true] at h)<;>(try simp only[go_sem,c40_r19,f, *])))<;>(try simp_all [beaE])<;>(try omega)
end
theorem own_eq (e:GExp):ownE e=(!((!(e.K==9)&&decide (0<e.Labels.length))||(!(e.K==13)&&e.Has))&&(wordE e&&(numE e&&(typE e&&(beaE e&&typesOk e.Types))))):=by
 have hr:risingS []=true:=rfl
 have hL:decide (0<e.Labels.length)=false→risingS e.Labels=true:=fun h=>by
  have h':e.Labels=[]:=List.eq_nil_of_length_eq_zero (by simpa using h)
  rw[h'];rfl
 have ht:(0:Int)≤(e.Types.length:Int):=by omega
 have hk:(0:Int)≤(e.Kids.length:Int):=by omega
 simp only[ownE,wordE,numE,typE,beaE,shpE,l0E,labE]
 generalize strEq e.Name ⟨#[]⟩=sn
 generalize fineS e.Name=fn
 generalize (e.Name.size:Int)=sz
 generalize typesOk e.Types=ty
 generalize risingS e.Labels=ri at*
 generalize (e.Types.length:Int)=t at*
 generalize (e.Kids.length:Int)=k at*
 generalize e.Labels.length=n at*
 generalize e.K=K at*
 generalize e.N=N at*
 generalize e.Has=H at*
 by_cases h1:K=1
 ·subst h1;grind
 by_cases h2:K=2
 ·subst h2;grind
 by_cases h3:K=3
 ·subst h3;grind
 by_cases h4:K=4
 ·subst h4;grind
 by_cases h5:K=5
 ·subst h5;grind
 by_cases h6:K=6
 ·subst h6;grind
 by_cases h7:K=7
 ·subst h7;grind
 by_cases h8:K=8
 ·subst h8;grind
 by_cases h9:K=9
 ·subst h9;grind
 by_cases h10:K=10
 ·subst h10;grind
 by_cases h11:K=11
 ·subst h11;grind
 by_cases h12:K=12
 ·subst h12;grind
 by_cases h13:K=13
 ·subst h13;grind
 have hb: ∀ c:Int,K≠c→(K==c)=false:=fun c h=>by simpa using h
 simp only[h1,h2,h3,h4,h5,h6,h7,h8,h9,h10,h11,h12,h13,if_false,hb _ h1,hb _ h2,hb _ h3,hb _ h4,hb _ h5,hb _ h6,hb _ h7,hb _ h8,hb _ h9,hb _ h10,hb _ h11,hb _ h12,hb _ h13,Bool.false_eq_true,Bool.or_self,Bool.false_and,Bool.and_false]
section
variable {ot:TypeId} {oz:EP}
set_option maxHeartbeats 4000000 in
theorem rightP: ∀ (e:GExp),OkExp e→ ∀ S,cal (env ot oz) 22 [.agg (rExp e)] S=some (.bool (rightE e),S):=by
 refine GExp.ind fun e ih ok S=> ?_
 obtain ⟨⟨a1,a2⟩,⟨b1,b2⟩,hl⟩:=okExp_a ok
 have k1:=wordP (ot:=ot) (oz:=oz) e
 have k2:=numP (ot:=ot) (oz:=oz) e
 have k3:=typP (ot:=ot) (oz:=oz) e
 have k4:=beaP (ot:=ot) (oz:=oz) e hl
 have k5:=allPTy (ot:=ot) (oz:=oz) e.Types (fun t=>rightT t&& !(hasT 9 t)) b1 42 S fun t ht=>fineP (ot:=ot) (oz:=oz) t (b2 t ht) S
 have k6:=allPExp (ot:=ot) (oz:=oz) e.Kids rightE a1 22 S fun k hk=>ih k hk (a2 k hk) S
 have e1:(e.Types.all fun t=>rightT t&& !(hasT 9 t))=typesOk e.Types:=rfl
 rw[e1] at k5
 rw[←rightEs_all] at k6
 have e0:=rightE_eq e
 rw[own_eq] at e0
 rw[e0];clear e0
 have n9:(e.K !=9)= !(e.K==9):=rfl
 have n13:(e.K !=13)= !(e.K==13):=rfl
 clear ih ok a1 a2 b1 b2 hl e1
 have go: ∀ (h9:(e.K==9)=true∨(e.K==9)=false∧decide (0<e.Labels.length)=false),cal (env ot oz) 22 [.agg (rExp e)] S=some (.bool (!(!(e.K==13)&&e.Has)&&(wordE e&&(numE e&&(typE e&&(beaE e&&typesOk e.Types))))&&rightEs e.Kids),S):=by
  intro h9
  cases q4:(e.K==13)<;>cases q2:e.Has<;>rcases h9 with q3|⟨q3,q1⟩<;>cases q5:wordE e<;>cases q6:numE e<;>cases q7:typE e<;>
   first|((rw[w_plain (fn:=c22) rfl rfl (by simp only[go_sem,k1,k2,k3,k4,k5,k6,q2,q3,q4,n9,n13,q5,q6,q7]) rfl (by decide)];simp only[c22,c22_b,c22_r1,c22_r3,go_sem,k1,k2,k3,k4,k5,k6,q2,q3,q4,n9,n13,q5,q6,q7];repeat' ((first|rw[guardO_t]|rw[guardO_f]|rw[cw_bool]);split<;>rename_i h<;>(try rw[Bool.not_eq_true] at h)<;>(try simp only[go_sem,c22_r1,c22_r3,k1,k2,k3,k4,k5,k6,q2,q3,q4,n9,n13,q5,q6,q7, *])))<;>(try simp_all [Bool.and_assoc])<;>(try omega);done)|(rw[w_plain (fn:=c22) rfl rfl (by simp only[go_sem,k1,k2,k3,k4,k5,k6,q1,q2,q3,q4,n9,n13,q5,q6,q7]) rfl (by decide)];simp only[c22,c22_b,c22_r1,c22_r3,go_sem,k1,k2,k3,k4,k5,k6,q1,q2,q3,q4,n9,n13,q5,q6,q7];repeat' ((first|rw[guardO_t]|rw[guardO_f]|rw[cw_bool]);split<;>rename_i h<;>(try rw[Bool.not_eq_true] at h)<;>(try simp only[go_sem,c22_r1,c22_r3,k1,k2,k3,k4,k5,k6,q1,q2,q3,q4,n9,n13,q5,q6,q7, *])))<;>(try simp_all [Bool.and_assoc])<;>(try omega)
 cases q3:(e.K==9) with
 |true=>rw[go (.inl q3)];simp
 |false=>
  cases q1:decide (0<e.Labels.length) with
  |false=>rw[go (.inr ⟨q3,q1⟩)];simp
  |true=>(rw[w_plain (fn:=c22) rfl rfl (by simp only[go_sem,q1,q3,n9]) rfl (by decide)];simp only[c22,c22_b,c22_r1,c22_r3,go_sem,q1,q3,n9];repeat' ((first|rw[guardO_t]|rw[guardO_f]|rw[cw_bool]);split<;>rename_i h<;>(try rw[Bool.not_eq_true] at h)<;>(try simp only[go_sem,c22_r1,c22_r3,q1,q3,n9, *])))
end
end Go.PE
namespace Go.PE
open Go Go.RowKit Go.Proofs
set_option linter.unusedVariables false
set_option linter.unusedSimpArgs false
set_option maxRecDepth 100000
def opS (n:Int):ByteArray:=if n==1 then ⟨#[43]⟩ else if n==2 then ⟨#[45]⟩ else if n==3 then ⟨#[42]⟩ else if n==4 then ⟨#[47]⟩ else if n==5 then ⟨#[43,43]⟩ else if n==6 then ⟨#[60]⟩ else if n==7 then ⟨#[61,61]⟩ else ⟨#[]⟩
def tightO (n:Int):Int:=if (n==6)||(n==7) then 1 else if (n==3)||(n==4) then 3 else 2
def tightE (e:GExp):Int:=if (e.K==5)||(e.K==6)||(e.K==7) then 0 else if e.K==11 then tightO e.N else if (e.K==8)||(e.K==10) then 4 else 5
def atS (e:GExp) (s:ByteArray) (n:Int):ByteArray:=if decide (tightE e<n) then ⟨#[40]⟩++s++⟨#[41]⟩ else s
def boundS (e:GExp):ByteArray:=match e.Types with
 |[]=>e.Name
 |t::_=>e.Name++⟨#[58,32]⟩++showT t
def fieldsE:List ByteArray→List ByteArray→List ByteArray
 |l::ls,s::ss=>(l++⟨#[32,61,32]⟩++s)::fieldsE ls ss
 |_,_=>[]
def callS (e:GExp):ByteArray:=if e.Has then ⟨#[91]⟩++listT e.Types++⟨#[93]⟩ else ⟨#[]⟩
def commaS (ss:List ByteArray):ByteArray:=txt (joinL [44,32] ss)
def formE (e:GExp) (ss:List ByteArray):ByteArray:=
 if e.K=1 then numS e.N else if e.K=2 then (if e.N==1 then ⟨#[116,114,117,101]⟩ else ⟨#[102,97,108,115,101]⟩) else if e.K=3 then quoteS e.Name else if e.K=4 then e.Name
 else if e.K=9 then ⟨#[123]⟩++commaS (fieldsE e.Labels ss)++⟨#[125]⟩
 else if e.K=13 then ⟨#[99,97,108,108,32]⟩++e.Name++callS e++⟨#[40]⟩++commaS ss++⟨#[41]⟩
 else match e.Kids,ss,e.Types with
  |[x],[a],[t]=>if e.K=7 then ⟨#[102,110,32]⟩++boundS e++⟨#[32,61,62,32]⟩++a else if e.K=12 then ⟨#[40]⟩++a++⟨#[32,58,32]⟩++showT t++⟨#[41]⟩ else ⟨#[]⟩
  |[x],[a],[]=>if e.K=7 then ⟨#[102,110,32]⟩++boundS e++⟨#[32,61,62,32]⟩++a else if e.K=10 then atS x a 4++⟨#[46]⟩++e.Name else ⟨#[]⟩
  |[x,y],[a,b],_=>if e.K=5 then ⟨#[108,101,116,32]⟩++boundS e++⟨#[32,61,32]⟩++a++⟨#[32,105,110,32]⟩++b else if e.K=8 then atS x a 4++⟨#[40]⟩++b++⟨#[41]⟩
    else if e.K=11 then atS x a (max (tightO e.N) 2)++⟨#[32]⟩++opS e.N++⟨#[32]⟩++atS y b (tightO e.N+1) else ⟨#[]⟩
  |[_,_,_],[a,b,c],_=>if e.K=6 then ⟨#[105,102,32]⟩++a++⟨#[32,116,104,101,110,32]⟩++b++⟨#[32,101,108,115,101,32]⟩++c else ⟨#[]⟩
  |_,_,_=>⟨#[]⟩
mutual
def showE:GExp→ByteArray
 | .mk K N Name Has Types Labels Kids=>formE (.mk K N Name Has Types Labels Kids) (showKs Kids)
def showKs:List GExp→List ByteArray
 |[]=>[]
 |a::l=>showE a::showKs l
end
theorem showE_eq (e:GExp):showE e=formE e (showKs e.Kids):=by cases e;rw[showE];rfl
theorem showKs_map: ∀ l,showKs l=l.map showE
 |[]=>by simp[showKs]
 |a::l=>by rw[showKs,showKs_map l];rfl
theorem own_kinds {e:GExp} (h:ownE e=true):(e.K=1∨e.K=2∨e.K=3∨e.K=4∨e.K=5∨e.K=6∨e.K=7∨e.K=8∨e.K=9∨e.K=10∨e.K=11∨e.K=12∨e.K=13):=by
 unfold ownE at h
 grind
theorem own_facts {e:GExp} (h:ownE e=true):typesOk e.Types=true∧(e.K=1→e.Kids.length=0∧0≤e.N)∧(e.K=2→e.Kids.length=0∧(e.N=0∨e.N=1))∧(e.K=3→e.Kids.length=0)∧(e.K=4→e.Kids.length=0)∧(e.K=5→e.Kids.length=2∧e.Types.length≤1)∧(e.K=6→e.Kids.length=3)∧(e.K=7→e.Kids.length=1∧e.Types.length≤1)∧
  (e.K=8→e.Kids.length=2)∧(e.K=9→e.Kids.length=e.Labels.length∧e.Kids.length≤6)∧(e.K=10→e.Kids.length=1∧e.Types.length=0)∧(e.K=11→e.Kids.length=2)∧(e.K=12→e.Kids.length=1∧e.Types.length=1)∧(e.K=13→e.Kids.length≤4∧e.Types.length≤3):=by
 rw[own_eq] at h
 simp only[wordE,numE,typE,beaE] at h
 generalize strEq e.Name ⟨#[]⟩=sn at*
 generalize fineS e.Name=fn at*
 generalize (e.Name.size:Int)=sz at*
 generalize typesOk e.Types=ty at*
 generalize risingS e.Labels=ri at*
 generalize e.Types.length=t at*
 generalize e.Kids.length=k at*
 generalize e.Labels.length=n at*
 generalize e.K=K at*
 generalize e.N=N at*
 generalize e.Has=H at*
 refine ⟨?_,fun hK=> ?_,fun hK=> ?_,fun hK=> ?_,fun hK=> ?_,fun hK=> ?_,fun hK=> ?_,fun hK=> ?_,fun hK=> ?_,fun hK=> ?_,fun hK=> ?_,fun hK=> ?_,fun hK=> ?_,fun hK=> ?_⟩
 ·simp only[Bool.and_eq_true] at h;exact h.2.2.2.2.2
 all_goals subst hK;simp at h;first|omega|grind
theorem showE_1 {e:GExp} (hK:e.K=1):showE e=numS e.N:=by
 rw[showE_eq];unfold formE;simp only[hK,showKs,showKs_map,List.map_cons,List.map_nil,Int.reduceEq,if_true,if_false]
theorem showE_2 {e:GExp} (hK:e.K=2):showE e=if e.N==1 then ⟨#[116,114,117,101]⟩ else ⟨#[102,97,108,115,101]⟩:=by
 rw[showE_eq];unfold formE;simp only[hK,showKs,showKs_map,List.map_cons,List.map_nil,Int.reduceEq,if_true,if_false]
theorem showE_3 {e:GExp} (hK:e.K=3):showE e=quoteS e.Name:=by
 rw[showE_eq];unfold formE;simp only[hK,showKs,showKs_map,List.map_cons,List.map_nil,Int.reduceEq,if_true,if_false]
theorem showE_4 {e:GExp} (hK:e.K=4):showE e=e.Name:=by
 rw[showE_eq];unfold formE;simp only[hK,showKs,showKs_map,List.map_cons,List.map_nil,Int.reduceEq,if_true,if_false]
theorem showE_5 {e:GExp} {x y:GExp} (hK:e.K=5) (hk:e.Kids=[x,y]):showE e=⟨#[108,101,116,32]⟩++boundS e++⟨#[32,61,32]⟩++showE x++⟨#[32,105,110,32]⟩++showE y:=by
 rw[showE_eq];unfold formE;simp only[hK,hk,showKs,showKs_map,List.map_cons,List.map_nil,Int.reduceEq,if_true,if_false]
theorem showE_6 {e:GExp} {x y z:GExp} (hK:e.K=6) (hk:e.Kids=[x,y,z]):showE e=⟨#[105,102,32]⟩++showE x++⟨#[32,116,104,101,110,32]⟩++showE y++⟨#[32,101,108,115,101,32]⟩++showE z:=by
 rw[showE_eq];unfold formE;simp only[hK,hk,showKs,showKs_map,List.map_cons,List.map_nil,Int.reduceEq,if_true,if_false]
theorem showE_7 {e:GExp} {x:GExp} (hK:e.K=7) (hk:e.Kids=[x]) (ht:e.Types.length≤1):showE e=⟨#[102,110,32]⟩++boundS e++⟨#[32,61,62,32]⟩++showE x:=by
 rw[showE_eq];unfold formE
 match q:e.Types,ht with
 |[],_=>simp only[hK,hk,q,showKs,Int.reduceEq,if_true,if_false]
 |[t],_=>simp only[hK,hk,q,showKs,Int.reduceEq,if_true,if_false]
theorem showE_8 {e:GExp} {x y:GExp} (hK:e.K=8) (hk:e.Kids=[x,y]):showE e=atS x (showE x) 4++⟨#[40]⟩++showE y++⟨#[41]⟩:=by
 rw[showE_eq];unfold formE;simp only[hK,hk,showKs,showKs_map,List.map_cons,List.map_nil,Int.reduceEq,if_true,if_false]
theorem showE_9 {e:GExp} (hK:e.K=9):showE e=⟨#[123]⟩++commaS (fieldsE e.Labels (e.Kids.map showE))++⟨#[125]⟩:=by
 rw[showE_eq];unfold formE;simp only[hK,showKs,showKs_map,List.map_cons,List.map_nil,Int.reduceEq,if_true,if_false]
theorem showE_10 {e:GExp} {x:GExp} (hK:e.K=10) (hk:e.Kids=[x]) (ht:e.Types=[]):showE e=atS x (showE x) 4++⟨#[46]⟩++e.Name:=by
 rw[showE_eq];unfold formE;simp only[hK,hk,ht,showKs,showKs_map,List.map_cons,List.map_nil,Int.reduceEq,if_true,if_false]
theorem showE_11 {e:GExp} {x y:GExp} (hK:e.K=11) (hk:e.Kids=[x,y]):showE e=atS x (showE x) (max (tightO e.N) 2)++⟨#[32]⟩++opS e.N++⟨#[32]⟩++atS y (showE y) (tightO e.N+1):=by
 rw[showE_eq];unfold formE;simp only[hK,hk,showKs,showKs_map,List.map_cons,List.map_nil,Int.reduceEq,if_true,if_false]
theorem showE_12 {e:GExp} {x:GExp} {t:GTy} (hK:e.K=12) (hk:e.Kids=[x]) (ht:e.Types=[t]):showE e=⟨#[40]⟩++showE x++⟨#[32,58,32]⟩++showT t++⟨#[41]⟩:=by
 rw[showE_eq];unfold formE;simp only[hK,hk,ht,showKs,showKs_map,List.map_cons,List.map_nil,Int.reduceEq,if_true,if_false]
theorem showE_13 {e:GExp} (hK:e.K=13):showE e=⟨#[99,97,108,108,32]⟩++e.Name++callS e++⟨#[40]⟩++commaS (e.Kids.map showE)++⟨#[41]⟩:=by
 rw[showE_eq];unfold formE;simp only[hK,showKs,showKs_map,List.map_cons,List.map_nil,Int.reduceEq,if_true,if_false]
theorem bulk_expEq (e:GExp):bulkL (rExp e)=3+(e.Name.size+1)+(bulkLL (e.Types.map rTy)+1)+(bulkLL (e.Labels.map rStr)+1)+(bulkLL (e.Kids.map rExp)+1):=by
 rw[rExp_eq];simp only[bulkL,PV.bulk];omega
theorem bulkLL_cons {α:Type} (r:α→List PV) (a:α) (l:List α):bulkLL ((a::l).map r)=bulkL (r a)+bulkLL (l.map r):=by rw[List.map_cons,bulkLL]
theorem lits:(ByteArray.mk #[]).size=0∧(ByteArray.mk #[102,110,32]).size=3∧(ByteArray.mk #[102,97,108,115,101]).size=5∧(ByteArray.mk #[105,102,32]).size=3∧(ByteArray.mk #[108,101,116,32]).size=4∧(ByteArray.mk #[116,114,117,101]).size=4∧(ByteArray.mk #[123]).size=1∧(ByteArray.mk #[125]).size=1∧(ByteArray.mk #[32]).size=1∧(ByteArray.mk #[32,101,108,115,101,32]).size=6∧(ByteArray.mk #[32,105,110,32]).size=4∧(ByteArray.mk #[32,116,104,101,110,32]).size=6∧(ByteArray.mk #[32,58,32]).size=3∧(ByteArray.mk #[32,61,32]).size=3∧(ByteArray.mk #[32,61,62,32]).size=4∧(ByteArray.mk #[40]).size=1∧(ByteArray.mk #[41]).size=1∧(ByteArray.mk #[42]).size=1∧(ByteArray.mk #[43]).size=1∧(ByteArray.mk #[43,43]).size=2∧(ByteArray.mk #[45]).size=1∧(ByteArray.mk #[46]).size=1∧(ByteArray.mk #[47]).size=1∧(ByteArray.mk #[58,32]).size=2∧(ByteArray.mk #[60]).size=1∧(ByteArray.mk #[61,61]).size=2∧(ByteArray.mk #[91]).size=1∧(ByteArray.mk #[93]).size=1∧(ByteArray.mk #[99,97,108,108,32]).size=5∧(ByteArray.mk #[44,32]).size=2∧(ByteArray.mk #[100,101,102,32]).size=4∧(ByteArray.mk #[41,58,32]).size=3:=⟨rfl,rfl,rfl,rfl,rfl,rfl,rfl,rfl,rfl,rfl,rfl,rfl,rfl,rfl,rfl,rfl,rfl,rfl,rfl,rfl,rfl,rfl,rfl,rfl,rfl,rfl,rfl,rfl,rfl,rfl,rfl,rfl⟩
theorem bound_size (e:GExp):(boundS e).size≤e.Name.size+2+10*bulkLL (e.Types.map rTy):=by
 unfold boundS
 split
 ·omega
 ·rename_i t l h
  have:=showT_bulk t
  rw[h,bulkLL_cons]
  have L:=lits
  simp only[app_size]
  omega
theorem joinR_le {c:Nat}: ∀ ts:List ByteArray,(joinR [44,32] ts).length=(ts.map fun t=>t.size+2).sum
 |[]=>rfl
 |t::r=>by
  have:=joinR_le (c:=c) r
  simp only[joinR,List.length_append,size_data,List.length_cons,List.length_nil,List.map_cons,List.sum_cons,this];omega
theorem comma_size (ts:List ByteArray):(commaS ts).size≤(ts.map fun t=>t.size+2).sum:=by
 have:=joinL_R [44,32] ts
 rw[joinR_le (c:=0)] at this
 unfold commaS
 rw[txt_size];exact this
theorem listT_size (l:List GTy):(listT l).size≤11*bulkLL (l.map rTy):=by
 have h:(listT l).size≤((l.map showT).map fun t=>t.size+2).sum:=comma_size _
 refine Nat.le_trans h ?_
 clear h
 induction l with
 |nil=>simp[bulkLL]
 |cons t l ih=>
  have:=showT_bulk t
  have h5:2≤bulkL (rTy t):=by rw[bulk_ty];omega
  rw[bulkLL_cons,List.map_cons,List.map_cons,List.sum_cons];omega
theorem callS_size (e:GExp):(callS e).size≤2+11*bulkLL (e.Types.map rTy):=by
 unfold callS
 split
 ·have:=listT_size e.Types
  have L:=lits;(try simp only[app_size]);omega
 ·show 0≤_;omega
theorem qc_len (c:UInt8):(qc c).length≤4:=by
 unfold qc
 split
 ·simp
 ·split
  ·simp
  ·split<;>simp
theorem quote_size (s:ByteArray):(quoteS s).size≤4*s.size+2:=by
 unfold quoteS
 have h: ∀ l:List UInt8,(l.flatMap qc).length≤4*l.length:=fun l=>by
  induction l with
  |nil=>simp
  |cons c l ih=>have:=qc_len c;simp only[List.flatMap_cons,List.length_append,List.length_cons];omega
 have:=h s.data.toList
 rw[txt_size]
 simp only[List.length_append,List.length_cons,List.length_nil,size_data] at this ⊢
 omega
theorem at_size (e:GExp) (s:ByteArray) (n:Int):(atS e s n).size≤s.size+2:=by
 unfold atS
 split
 ·have L:=lits;(try simp only[app_size]);omega
 ·omega
theorem op_size (n:Int):(opS n).size≤2:=by
 unfold opS
 repeat' split
 all_goals decide
theorem fields_size: ∀ (ls:List ByteArray) (ss:List ByteArray),((fieldsE ls ss).map fun t=>t.size+2).sum≤24*bulkLL (ls.map rStr)+(ss.map fun s=>s.size).sum
 |[],ss=>by simp[fieldsE]
 |l::ls,[]=>by simp[fieldsE]
 |l::ls,s::ss=>by
  have ih:=fields_size ls ss
  have hb:bulkL (rStr l)=l.size+1:=by simp[rStr,bulkL,PV.bulk]
  rw[fieldsE,bulkLL_cons,List.map_cons,List.sum_cons,List.map_cons,List.sum_cons,hb]
  have L:=lits;(try simp only[app_size]);omega
theorem lenIs1 {α:Type} {l:List α} (h:l.length=1): ∃ a,l=[a]:=by match l,h with|[a],_=>exact ⟨a,rfl⟩
theorem lenIs2 {α:Type} {l:List α} (h:l.length=2): ∃ a b,l=[a,b]:=by match l,h with|[a,b],_=>exact ⟨a,b,rfl⟩
theorem lenIs3 {α:Type} {l:List α} (h:l.length=3): ∃ a b c,l=[a,b,c]:=by match l,h with|[a,b,c],_=>exact ⟨a,b,c,rfl⟩
theorem right_own {e:GExp} (h:rightE e=true):ownE e=true∧ ∀ k∈e.Kids,rightE k=true:=by
 rw[rightE_eq,Bool.and_eq_true,rightEs_all,List.all_eq_true] at h;exact h
theorem show_bulk: ∀ (e:GExp),rightE e=true→(showE e).size+8≤24*bulkL (rExp e):=by
 refine GExp.ind fun e ih hr=> ?_
 obtain ⟨ho,hk⟩:=right_own hr
 have f:=own_facts ho
 have hb:=bulk_expEq e
 have b1:=bound_size e
 have sums: ∀ l:List GExp,(∀ k∈l,(showE k).size+8≤24*bulkL (rExp k))→(((l.map showE).map fun t=>t.size+2).sum≤24*bulkLL (l.map rExp)∧((l.map showE).map fun t=>t.size).sum≤24*bulkLL (l.map rExp)):=fun l=>by
  induction l with
  |nil=>intro _;simp[bulkLL]
  |cons a l ih=>
   intro h
   have h1:=h a (by simp)
   have h2:=ih fun k hk=>h k (by simp[hk])
   rw[bulkLL_cons]
   simp only[List.map_cons,List.sum_cons];omega
 have sm:=sums e.Kids fun k hk'=>ih k hk' (hk k hk')
 rcases own_kinds ho with hK|hK|hK|hK|hK|hK|hK|hK|hK|hK|hK|hK|hK
 ·rw[showE_1 hK];have:=numS_21 e.N;omega
 ·rw[showE_2 hK];split<;>(have L:=lits;omega)
 ·rw[showE_3 hK];have:=quote_size e.Name;omega
 ·rw[showE_4 hK];omega
 ·obtain ⟨x,y,hxy⟩:=lenIs2 (f.2.2.2.2.2.1 hK).1
  have h1:=ih x (by simp[hxy]) (hk x (by simp[hxy]))
  have h2:=ih y (by simp[hxy]) (hk y (by simp[hxy]))
  have h3:bulkLL (e.Kids.map rExp)=bulkL (rExp x)+bulkL (rExp y):=by rw[hxy];simp[bulkLL]
  rw[showE_5 hK hxy]
  have L:=lits;(try simp only[app_size]);omega
 ·obtain ⟨x,y,z,hxy⟩:=lenIs3 (f.2.2.2.2.2.2.1 hK)
  have h1:=ih x (by simp[hxy]) (hk x (by simp[hxy]))
  have h2:=ih y (by simp[hxy]) (hk y (by simp[hxy]))
  have h4:=ih z (by simp[hxy]) (hk z (by simp[hxy]))
  have h3:bulkLL (e.Kids.map rExp)=bulkL (rExp x)+(bulkL (rExp y)+bulkL (rExp z)):=by rw[hxy];simp[bulkLL]
  rw[showE_6 hK hxy]
  have L:=lits;(try simp only[app_size]);omega
 ·obtain ⟨x,hxy⟩:=lenIs1 (f.2.2.2.2.2.2.2.1 hK).1
  have h1:=ih x (by simp[hxy]) (hk x (by simp[hxy]))
  have h3:bulkLL (e.Kids.map rExp)=bulkL (rExp x):=by rw[hxy];simp[bulkLL]
  rw[showE_7 hK hxy (f.2.2.2.2.2.2.2.1 hK).2]
  have L:=lits;(try simp only[app_size]);omega
 ·obtain ⟨x,y,hxy⟩:=lenIs2 (f.2.2.2.2.2.2.2.2.1 hK)
  have h1:=ih x (by simp[hxy]) (hk x (by simp[hxy]))
  have h2:=ih y (by simp[hxy]) (hk y (by simp[hxy]))
  have h3:bulkLL (e.Kids.map rExp)=bulkL (rExp x)+bulkL (rExp y):=by rw[hxy];simp[bulkLL]
  have h4:=at_size x (showE x) 4
  rw[showE_8 hK hxy]
  have L:=lits;(try simp only[app_size]);omega
 ·rw[showE_9 hK]
  have h1:=comma_size (fieldsE e.Labels (e.Kids.map showE))
  have h2:=fields_size e.Labels (e.Kids.map showE)
  have L:=lits;(try simp only[app_size]);omega
 ·obtain ⟨x,hxy⟩:=lenIs1 (f.2.2.2.2.2.2.2.2.2.2.1 hK).1
  have h1:=ih x (by simp[hxy]) (hk x (by simp[hxy]))
  have h3:bulkLL (e.Kids.map rExp)=bulkL (rExp x):=by rw[hxy];simp[bulkLL]
  have h4:=at_size x (showE x) 4
  rw[showE_10 hK hxy (List.eq_nil_of_length_eq_zero (f.2.2.2.2.2.2.2.2.2.2.1 hK).2)]
  have L:=lits;(try simp only[app_size]);omega
 ·obtain ⟨x,y,hxy⟩:=lenIs2 (f.2.2.2.2.2.2.2.2.2.2.2.1 hK)
  have h1:=ih x (by simp[hxy]) (hk x (by simp[hxy]))
  have h2:=ih y (by simp[hxy]) (hk y (by simp[hxy]))
  have h3:bulkLL (e.Kids.map rExp)=bulkL (rExp x)+bulkL (rExp y):=by rw[hxy];simp[bulkLL]
  have h4:=at_size x (showE x) (max (tightO e.N) 2)
  have h5:=at_size y (showE y) (tightO e.N+1)
  have h6:=op_size e.N
  rw[showE_11 hK hxy]
  have L:=lits;(try simp only[app_size]);omega
 ·obtain ⟨x,hxy⟩:=lenIs1 (f.2.2.2.2.2.2.2.2.2.2.2.2.1 hK).1
  obtain ⟨t,ht⟩:=lenIs1 (f.2.2.2.2.2.2.2.2.2.2.2.2.1 hK).2
  have h1:=ih x (by simp[hxy]) (hk x (by simp[hxy]))
  have h3:bulkLL (e.Kids.map rExp)=bulkL (rExp x):=by rw[hxy];simp[bulkLL]
  have h4:bulkLL (e.Types.map rTy)=bulkL (rTy t):=by rw[ht];simp[bulkLL]
  have h5:=showT_bulk t
  rw[showE_12 hK hxy ht]
  have L:=lits;(try simp only[app_size]);omega
 ·rw[showE_13 hK]
  have h1:=comma_size (e.Kids.map showE)
  have h2:=callS_size e
  have L:=lits;(try simp only[app_size]);omega
end Go.PE
