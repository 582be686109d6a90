/-
  Expressions and definitions that are right, by the document. Conditions: each law's own (numbers of nodes that do not wrap).
-/
import Derived.Test.YtleggogbmklddaaGreatDoorS4
import Derived.Test.YtleggogbmklddaaGreatDoorDX1
namespace Go.PE
open Go Go.RowKit Go.Proofs
set_option linter.unusedVariables false
set_option linter.unusedSimpArgs false
set_option maxRecDepth 100000
mutual
def hasT (k:Int):GTy→Bool
 | .mk K N Name Labels Args=>K==k||hasTs k Args
def hasTs (k:Int):List GTy→Bool
 |[]=>false
 |a::l=>hasT k a||hasTs k l
end
theorem hasTs_any (k:Int): ∀ l,hasTs k l=l.any (hasT k)
 |[]=>by simp[hasTs]
 |a::l=>by rw[hasTs,List.any_cons,hasTs_any k l]
theorem hasT_eq (k:Int) (t:GTy):hasT k t=(t.K==k||t.Args.any (hasT k)):=by cases t;rw[hasT,hasTs_any];rfl
mutual
def nodesT:GTy→Nat
 | .mk K N Name Labels Args=>nodesTs Args+1
def nodesTs:List GTy→Nat
 |[]=>0
 |a::l=>nodesT a+nodesTs l
end
theorem nodesT_eq (t:GTy):nodesT t=nodesTs t.Args+1:=by cases t;rw[nodesT];rfl
mutual
def depthT:GTy→Nat
 | .mk K N Name Labels Args=>depthTs Args+1
def depthTs:List GTy→Nat
 |[]=>0
 |a::l=>max (depthT a) (depthTs l)
end
theorem depthT_eq (t:GTy):depthT t=depthTs t.Args+1:=by cases t;rw[depthT];rfl
mutual
theorem depth_nodes: ∀ t,depthT t≤nodesT t
 | .mk K N Name Labels Args=>by rw[depthT,nodesT];have:=depths_nodes Args;omega
theorem depths_nodes: ∀ l,depthTs l≤nodesTs l
 |[]=>by simp[depthTs,nodesTs]
 |a::l=>by rw[depthTs,nodesTs];have:=depth_nodes a;have:=depths_nodes l;omega
end
mutual
def nodesE:GExp→Nat
 | .mk K N Name Has Types Labels Kids=>nodesTs Types+nodesEs Kids+1
def nodesEs:List GExp→Nat
 |[]=>0
 |a::l=>nodesE a+nodesEs l
end
theorem nodesE_eq (e:GExp):nodesE e=nodesTs e.Types+nodesEs e.Kids+1:=by cases e;rw[nodesE];rfl
mutual
def depthE:GExp→Nat
 | .mk K N Name Has Types Labels Kids=>max (depthTs Types) (depthEs Kids)+1
def depthEs:List GExp→Nat
 |[]=>0
 |a::l=>max (depthE a) (depthEs l)
end
theorem depthE_eq (e:GExp):depthE e=max (depthTs e.Types) (depthEs e.Kids)+1:=by cases e;rw[depthE];rfl
mutual
theorem depthE_nodes: ∀ e,depthE e≤nodesE e
 | .mk K N Name Has Types Labels Kids=>by rw[depthE,nodesE];have:=depths_nodes Types;have:=depthEs_nodes Kids;omega
theorem depthEs_nodes: ∀ l,depthEs l≤nodesEs l
 |[]=>by simp[depthEs,nodesEs]
 |a::l=>by rw[depthEs,nodesEs];have:=depthE_nodes a;have:=depthEs_nodes l;omega
end
def typesOk (l:List GTy):Bool:=l.all fun t=>rightT t&& !(hasT 9 t)
def shpE (e:GExp) (t0 t1 k0 k1:Int):Bool:=decide (t0≤(e.Types.length:Int))&&(decide ((e.Types.length:Int)≤t1)&&(decide (k0≤(e.Kids.length:Int))&&(decide ((e.Kids.length:Int)≤k1)&&typesOk e.Types)))
def labE (e:GExp):Bool:=risingS e.Labels&& !(decide ((6:Int)<(e.Labels.length:Int)))
def l0E (e:GExp):Bool:= !(decide (0<e.Labels.length))&&labE e
def ownE (e:GExp):Bool:=
 if e.K=1 then strEq e.Name ⟨#[]⟩&&(!(decide (e.N<0))&&(!e.Has&&(l0E e&&shpE e 0 0 0 0)))
 else if e.K=2 then strEq e.Name ⟨#[]⟩&&(!((e.N !=0)&&(e.N !=1))&&(!e.Has&&(l0E e&&shpE e 0 0 0 0)))
 else if e.K=3 then !(decide ((40:Int)<(e.Name.size:Int)))&&(!(e.N !=0)&&(!e.Has&&(l0E e&&shpE e 0 0 0 0)))
 else if e.K=4 then fineS e.Name&&(!(e.N !=0)&&(!e.Has&&(l0E e&&shpE e 0 0 0 0)))
 else if e.K=5 then fineS e.Name&&(!(e.N !=0)&&(!e.Has&&(l0E e&&shpE e 0 1 2 2)))
 else if e.K=6 then strEq e.Name ⟨#[]⟩&&(!(e.N !=0)&&(!e.Has&&(l0E e&&shpE e 0 0 3 3)))
 else if e.K=7 then fineS e.Name&&(!(e.N !=0)&&(!e.Has&&(l0E e&&shpE e 0 1 1 1)))
 else if e.K=8 then strEq e.Name ⟨#[]⟩&&(!(e.N !=0)&&(!e.Has&&(l0E e&&shpE e 0 0 2 2)))
 else if e.K=9 then strEq e.Name ⟨#[]⟩&&(!(e.N !=0)&&(!e.Has&&(labE e&&shpE e 0 0 (e.Labels.length:Int) (e.Labels.length:Int))))
 else if e.K=10 then fineS e.Name&&(!(e.N !=0)&&(!e.Has&&(l0E e&&shpE e 0 0 1 1)))
 else if e.K=11 then strEq e.Name ⟨#[]⟩&&(!(decide (e.N<1)||decide (7<e.N))&&(!e.Has&&(l0E e&&shpE e 0 0 2 2)))
 else if e.K=12 then strEq e.Name ⟨#[]⟩&&(!(e.N !=0)&&(!e.Has&&(l0E e&&shpE e 1 1 1 1)))
 else if e.K=13 then fineS e.Name&&(!(e.N !=0)&&(l0E e&&shpE e (if e.Has then 1 else 0) (if e.Has then 3 else 0) 0 4))
 else false
mutual
def rightE:GExp→Bool
 | .mk K N Name Has Types Labels Kids=>ownE (.mk K N Name Has Types Labels Kids)&&rightEs Kids
def rightEs:List GExp→Bool
 |[]=>true
 |a::l=>rightE a&&rightEs l
end
theorem rightE_eq (e:GExp):rightE e=(ownE e&&rightEs e.Kids):=by cases e;rw[rightE];rfl
theorem rightEs_all: ∀ l,rightEs l=l.all rightE
 |[]=>by simp[rightEs]
 |a::l=>by rw[rightEs,List.all_cons,rightEs_all l]
def sigT (s:GSig):List GTy:=s.Binders.map GBind.Typ++s.Params.map GBind.Typ++[s.Result]
def namesOk (p:ByteArray→Bool):List ByteArray→List GBind→Bool
 |_,[]=>true
 |seen,b::l=>(p b.Name&& !(seen.any (strEq b.Name)))&&namesOk p (seen++[b.Name]) l
def sigOk (s:GSig):Bool:=fineS s.Name&&(decide (s.Binders.length≤3)&&(decide (s.Params.length≤4)&&(typesOk (sigT s)&&(namesOk varS [] s.Binders&&namesOk fineS [] s.Params))))
def defNodes (d:GDef):Nat:=nodesE d.Body+nodesTs (sigT d.Sig)
def defDepth (d:GDef):Nat:=max (depthE d.Body) (depthTs (sigT d.Sig))
def defOk (d:GDef):Bool:=sigOk d.Sig&&(rightE d.Body&&(decide (defNodes d≤240)&&decide (defDepth d≤40)))
theorem nodesTs_mem {a:GTy}: ∀ {l:List GTy},a∈l→nodesT a≤nodesTs l
 |b::l,h=>by
  rw[nodesTs]
  rcases List.mem_cons.1 h with e|h
  ·subst e;omega
  ·have:=nodesTs_mem h;omega
theorem nodesEs_mem {a:GExp}: ∀ {l:List GExp},a∈l→nodesE a≤nodesEs l
 |b::l,h=>by
  rw[nodesEs]
  rcases List.mem_cons.1 h with e|h
  ·subst e;omega
  ·have:=nodesEs_mem h;omega
theorem nodesTs_app: ∀ a b,nodesTs (a++b)=nodesTs a+nodesTs b
 |[],b=>by simp[nodesTs]
 |x::a,b=>by rw[List.cons_append,nodesTs,nodesTs,nodesTs_app a b];omega
theorem sum_fold {α:Type} (f:α→Nat) (fs:List α→Nat) (h0:fs []=0) (h1: ∀ a l,fs (a::l)=f a+fs l): ∀ (l:List α) (n:Nat),l.foldl (fun n a=>n+f a) n=n+fs l
 |[],n=>by simp[h0]
 |a::l,n=>by rw[List.foldl_cons,sum_fold f fs h0 h1 l,h1];omega
theorem max_fold {α:Type} (f:α→Nat) (fs:List α→Nat) (h0:fs []=0) (h1: ∀ a l,fs (a::l)=max (f a) (fs l)): ∀ (l:List α) (n:Nat),l.foldl (fun n a=>max n (f a)) n=max n (fs l)
 |[],n=>by simp[h0]
 |a::l,n=>by rw[List.foldl_cons,max_fold f fs h0 h1 l,h1];omega
theorem mx_nat (a b:Nat):(if ((b:Int)>(a:Int)) then (b:Int) else (a:Int))=((max a b:Nat):Int):=by
 split<;>omega
theorem mx_nat' (a b:Nat):(if (a:Int)<(b:Int) then (b:Int) else (a:Int))=((max a b:Nat):Int):=mx_nat a b
theorem add_nat {a b:Nat} (h:a+b≤9223372036854775807):IntKind.i64.wrap ((a:Int)+(b:Int))=((a+b:Nat):Int):=by
 rw[wrap64 (by omega) (by omega)];omega
theorem drop_at {α:Type} {l:List α} {i:Nat} {a:α} (h1:l[i]?=some a):l.drop i=a::l.drop (i+1):=by
 have hi:=getElem?_lt h1
 rw[List.drop_eq_getElem_cons hi]
 congr 1
 rw[List.getElem?_eq_getElem hi] at h1;exact Option.some.inj h1
section
variable {ot:TypeId} {oz:EP}
theorem okTy_a {t:GTy} (h:OkTy t):Short t.Args.length∧(∀ x∈t.Args,OkTy x):=by cases h;exact ⟨by assumption,by assumption⟩
theorem okExp_a {t:GExp} (h:OkExp t):(Short t.Kids.length∧ ∀ x∈t.Kids,OkExp x)∧(Short t.Types.length∧ ∀ x∈t.Types,OkTy x)∧Short t.Labels.length:=by
 cases h;exact ⟨⟨by assumption,by assumption⟩,by assumption,(by assumption:_∧_).1⟩
theorem has04 (k:Int): ∀ (t:GTy),OkTy t→ ∀ S,cal (env ot oz) 113 [.agg (rTy t),.int .i64 k] S=some (.bool (hasT k t),S):=by
 refine GTy.ind fun t ih ok S=> ?_
 obtain ⟨a1,a2⟩:=okTy_a ok
 have f0:=fun fin st=>loopA (E:=(env ot oz)) (S:=S) (c:=c113_l0) t.Args a1 (fun i=>[(1,some (.int .i64 k)),(2,some (.at_ (rTy t))),(5,some (.int .i64 (i:Int)))]) (hasT k) fin st
  (aft (env ot oz) fin st .ret [(4,some (.bool true))] S) (aft (env ot oz) fin st (.exit 0) [(1,some (.int .i64 k)),(2,some (.at_ (rTy t))),(5,some (.int .i64 (t.Args.length:Int))),(14,some (.bool false))] S)
  (fun i a h1 h2 h3 h4 h5=>by
   have c:=ih a h2 (a2 a h2)
   (rw[c113_l0_w];simp only[c113_l0_b,c113_l0_a,go_sem,h1,h3,h4,h5,c];repeat' ((first|rw[guardO_t]|rw[guardO_f]|rw[cw_bool]);split<;>rename_i h<;>(try rw[Bool.not_eq_true] at h)<;>(try simp only[go_sem,c113_l0_a,h1,h3,h4,h5,c, *]))))
  (fun i a h1 h2 h3 h4 h5=>by
   have c:=ih a h2 (a2 a h2)
   (rw[c113_l0_w];simp only[c113_l0_b,c113_l0_a,go_sem,h1,h3,h4,h5,c];repeat' ((first|rw[guardO_t]|rw[guardO_f]|rw[cw_bool]);split<;>rename_i h<;>(try rw[Bool.not_eq_true] at h)<;>(try simp only[go_sem,c113_l0_a,h1,h3,h4,h5,c, *]))))
  (by (rw[c113_l0_w];simp only[c113_l0_b,c113_l0_a,go_sem];repeat' ((first|rw[guardO_t]|rw[guardO_f]|rw[cw_bool]);split<;>rename_i h<;>(try rw[Bool.not_eq_true] at h)<;>(try simp only[go_sem,c113_l0_a, *]))))
 simp only[Int.cast_ofNat_Int] at f0
 rw[hasT_eq]
 cases q0:(t.K==k)<;>cases q:t.Args.any (hasT k)<;>simp only[q,if_true,if_false,Bool.false_eq_true] at f0<;>(rw[w_plain (fn:=c113) rfl rfl (by simp only[go_sem,q0,f0]) rfl (by decide)];simp only[c113,c113_b,go_sem,q0,f0];repeat' ((first|rw[guardO_t]|rw[guardO_f]|rw[cw_bool]);split<;>rename_i h<;>(try rw[Bool.not_eq_true] at h)<;>(try simp only[go_sem,q0,f0, *])))
theorem nodes04: ∀ (t:GTy),OkTy t→nodesT t≤1000000000000→ ∀ S,cal (env ot oz) 77 [.agg (rTy t)] S=some (.int .i64 (nodesT t:Int),S):=by
 refine GTy.ind fun t ih ok hb S=> ?_
 obtain ⟨a1,a2⟩:=okTy_a ok
 rw[nodesT_eq] at hb
 have f0:=fun fin st=>loopF (E:=(env ot oz)) (c:=c77_l0) t.Args a1 (fun i (n:Nat)=>[(1,some (.at_ (rTy t))),(3,some (.int .i64 (n:Int))),(4,some (.int .i64 (i:Int)))]) (fun _ _=>S) (fun n a=>n+nodesT a) (fun i n=>n+nodesTs (t.Args.drop i)≤1000000000001) fin st
  (fun i n a h1 h2 h3 h4 hI=>by
   rw[drop_at h1,nodesTs] at hI
   have c:=ih a h2 (a2 a h2) (by have:=nodesTs_mem h2;omega)
   have w:=add_nat (a:=n) (b:=nodesT a) (by omega)
   refine ⟨by omega, ?_⟩
   (rw[c77_l0_w];simp only[c77_l0_b,c77_l0_a,go_sem,h1,h3,h4,c,w];repeat' ((first|rw[guardO_t]|rw[guardO_f]|rw[cw_bool]);split<;>rename_i h<;>(try rw[Bool.not_eq_true] at h)<;>(try simp only[go_sem,c77_l0_a,h1,h3,h4,c,w, *])))) t.Args 0 1 rfl (by simp only[List.drop_zero];omega)
 have fx: ∀ fin st (n:Nat),run (env ot oz) fin st c77_l0 [(1,some (.at_ (rTy t))),(3,some (.int .i64 (n:Int))),(4,some (.int .i64 (t.Args.length:Int)))] S=aft (env ot oz) fin st (.exit 0) [(1,some (.at_ (rTy t))),(3,some (.int .i64 (n:Int))),(4,some (.int .i64 (t.Args.length:Int))),(9,some (.bool false))] S:=fun fin st n=>by
  (rw[c77_l0_w];simp only[c77_l0_b,c77_l0_a,go_sem];repeat' ((first|rw[guardO_t]|rw[guardO_f]|rw[cw_bool]);split<;>rename_i h<;>(try rw[Bool.not_eq_true] at h)<;>(try simp only[go_sem,c77_l0_a, *])))
 have f1:=fun fin st=>(f0 fin st).2
 rw[sum_fold nodesT nodesTs (by rw[nodesTs]) (fun a l=>by rw[nodesTs])] at f1
 simp only[Nat.zero_add,fx,Int.cast_ofNat_Int] at f1
 have e:(nodesT t:Int)=((1+nodesTs t.Args:Nat):Int):=by rw[nodesT_eq];omega
 rw[e]
 (rw[w_plain (fn:=c77) rfl rfl (by simp only[go_sem,f1]) rfl (by decide)];simp only[c77,c77_b,go_sem,f1];repeat' ((first|rw[guardO_t]|rw[guardO_f]|rw[cw_bool]);split<;>rename_i h<;>(try rw[Bool.not_eq_true] at h)<;>(try simp only[go_sem,f1, *])))
theorem depth04: ∀ (t:GTy),OkTy t→nodesT t≤1000000000000→ ∀ S,cal (env ot oz) 78 [.agg (rTy t)] S=some (.int .i64 (depthT t:Int),S):=by
 refine GTy.ind fun t ih ok hb S=> ?_
 obtain ⟨a1,a2⟩:=okTy_a ok
 rw[nodesT_eq] at hb
 have f0:=fun fin st=>loopF (E:=(env ot oz)) (c:=c78_l0) t.Args a1 (fun i (n:Nat)=>[(1,some (.at_ (rTy t))),(3,some (.int .i64 (n:Int))),(4,some (.int .i64 (i:Int)))]) (fun _ _=>S) (fun n a=>max n (depthT a)) (fun i n=>True) fin st
  (fun i n a h1 h2 h3 h4 hI=>by
   have c:=ih a h2 (a2 a h2) (by have:=nodesTs_mem h2;omega)
   have w:=mx_nat' n (depthT a)
   refine ⟨trivial, ?_⟩
   (rw[c78_l0_w];simp only[c78_l0_b,c78_l0_a,go_sem,h1,h3,h4,c,w];repeat' ((first|rw[guardO_t]|rw[guardO_f]|rw[cw_bool]);split<;>rename_i h<;>(try rw[Bool.not_eq_true] at h)<;>(try simp only[go_sem,c78_l0_a,h1,h3,h4,c,w, *])))) t.Args 0 0 rfl trivial
 have fx: ∀ fin st (n:Nat),run (env ot oz) fin st c78_l0 [(1,some (.at_ (rTy t))),(3,some (.int .i64 (n:Int))),(4,some (.int .i64 (t.Args.length:Int)))] S=aft (env ot oz) fin st (.exit 0) [(1,some (.at_ (rTy t))),(3,some (.int .i64 (n:Int))),(4,some (.int .i64 (t.Args.length:Int))),(9,some (.bool false))] S:=fun fin st n=>by
  (rw[c78_l0_w];simp only[c78_l0_b,c78_l0_a,go_sem];repeat' ((first|rw[guardO_t]|rw[guardO_f]|rw[cw_bool]);split<;>rename_i h<;>(try rw[Bool.not_eq_true] at h)<;>(try simp only[go_sem,c78_l0_a, *])))
 have f1:=fun fin st=>(f0 fin st).2
 rw[max_fold depthT depthTs (by rw[depthTs]) (fun a l=>by rw[depthTs])] at f1
 have e0:max 0 (depthTs t.Args)=depthTs t.Args:=by omega
 rw[e0] at f1
 simp only[Nat.zero_add,fx,Int.cast_ofNat_Int] at f1
 have hd:=depths_nodes t.Args
 have w:IntKind.i64.wrap ((depthTs t.Args:Int)+1)=(depthT t:Int):=by rw[depthT_eq,wrap64 (by omega) (by omega)];omega
 (rw[w_plain (fn:=c78) rfl rfl (by simp only[go_sem,f1,w]) rfl (by decide)];simp only[c78,c78_b,go_sem,f1,w];repeat' ((first|rw[guardO_t]|rw[guardO_f]|rw[cw_bool]);split<;>rename_i h<;>(try rw[Bool.not_eq_true] at h)<;>(try simp only[go_sem,f1,w, *])))
theorem nodes14: ∀ (t:GExp),OkExp t→nodesE t≤1000000000000→ ∀ S,cal (env ot oz) 75 [.agg (rExp t)] S=some (.int .i64 (nodesE t:Int),S):=by
 refine GExp.ind fun t ih ok hb S=> ?_
 obtain ⟨⟨a1,a2⟩,⟨b1,b2⟩,_⟩:=okExp_a ok
 rw[nodesE_eq] at hb
 have f0:=fun fin st=>loopF (E:=(env ot oz)) (c:=c75_l0) t.Types b1 (fun i (n:Nat)=>[(1,some (.at_ (rExp t))),(3,some (.int .i64 (n:Int))),(4,some (.int .i64 (i:Int)))]) (fun _ _=>S) (fun n a=>n+nodesT a) (fun i n=>n+nodesTs (t.Types.drop i)≤1000000000001) fin st
  (fun i n a h1 h2 h3 h4 hI=>by
   rw[drop_at h1,nodesTs] at hI
   have c:=nodes04 (ot:=ot) (oz:=oz) a (b2 a h2) (by have:=nodesTs_mem h2;omega)
   have w:=add_nat (a:=n) (b:=nodesT a) (by omega)
   refine ⟨by omega, ?_⟩
   (rw[c75_l0_w];simp only[c75_l0_b,c75_l0_a,go_sem,h1,h3,h4,c,w];repeat' ((first|rw[guardO_t]|rw[guardO_f]|rw[cw_bool]);split<;>rename_i h<;>(try rw[Bool.not_eq_true] at h)<;>(try simp only[go_sem,c75_l0_a,h1,h3,h4,c,w, *])))) t.Types 0 1 rfl (by simp only[List.drop_zero];omega)
 have fx: ∀ fin st (n:Nat),run (env ot oz) fin st c75_l0 [(1,some (.at_ (rExp t))),(3,some (.int .i64 (n:Int))),(4,some (.int .i64 (t.Types.length:Int)))] S=aft (env ot oz) fin st (.exit 0) [(1,some (.at_ (rExp t))),(3,some (.int .i64 (n:Int))),(4,some (.int .i64 (t.Types.length:Int))),(10,some (.bool false))] S:=fun fin st n=>by
  (rw[c75_l0_w];simp only[c75_l0_b,c75_l0_a,go_sem];repeat' ((first|rw[guardO_t]|rw[guardO_f]|rw[cw_bool]);split<;>rename_i h<;>(try rw[Bool.not_eq_true] at h)<;>(try simp only[go_sem,c75_l0_a, *])))
 have g0:=fun fin st=>loopF (E:=(env ot oz)) (c:=c75_l1) t.Kids a1 (fun i (n:Nat)=>[(1,some (.at_ (rExp t))),(3,some (.int .i64 (n:Int))),(5,some (.int .i64 (i:Int)))]) (fun _ _=>S) (fun n a=>n+nodesE a) (fun i n=>n+nodesEs (t.Kids.drop i)≤1000000000001) fin st
  (fun i n a h1 h2 h3 h4 hI=>by
   rw[drop_at h1,nodesEs] at hI
   have c:=ih a h2 (a2 a h2) (by have:=nodesEs_mem h2;omega)
   have w:=add_nat (a:=n) (b:=nodesE a) (by omega)
   refine ⟨by omega, ?_⟩
   (rw[c75_l1_w];simp only[c75_l1_b,c75_l1_a,go_sem,h1,h3,h4,c,w];repeat' ((first|rw[guardO_t]|rw[guardO_f]|rw[cw_bool]);split<;>rename_i h<;>(try rw[Bool.not_eq_true] at h)<;>(try simp only[go_sem,c75_l1_a,h1,h3,h4,c,w, *])))) t.Kids 0 (1+nodesTs t.Types) rfl (by simp only[List.drop_zero];omega)
 have gx: ∀ fin st (n:Nat),run (env ot oz) fin st c75_l1 [(1,some (.at_ (rExp t))),(3,some (.int .i64 (n:Int))),(5,some (.int .i64 (t.Kids.length:Int)))] S=aft (env ot oz) fin st (.exit 2) [(1,some (.at_ (rExp t))),(3,some (.int .i64 (n:Int))),(5,some (.int .i64 (t.Kids.length:Int))),(25,some (.bool false))] S:=fun fin st n=>by
  (rw[c75_l1_w];simp only[c75_l1_b,c75_l1_a,go_sem];repeat' ((first|rw[guardO_t]|rw[guardO_f]|rw[cw_bool]);split<;>rename_i h<;>(try rw[Bool.not_eq_true] at h)<;>(try simp only[go_sem,c75_l1_a, *])))
 have f1:=fun fin st=>(f0 fin st).2
 rw[sum_fold nodesT nodesTs (by rw[nodesTs]) (fun a l=>by rw[nodesTs])] at f1
 have g1:=fun fin st=>(g0 fin st).2
 rw[sum_fold nodesE nodesEs (by rw[nodesEs]) (fun a l=>by rw[nodesEs])] at g1
 simp only[Nat.zero_add,fx,gx,Int.cast_ofNat_Int] at f1 g1
 have e:(nodesE t:Int)=((1+nodesTs t.Types+nodesEs t.Kids:Nat):Int):=by rw[nodesE_eq];omega
 rw[e]
 (rw[w_plain (fn:=c75) rfl rfl (by simp only[go_sem,f1,g1]) rfl (by decide)];simp only[c75,c75_b,go_sem,f1,g1];repeat' ((first|rw[guardO_t]|rw[guardO_f]|rw[cw_bool]);split<;>rename_i h<;>(try rw[Bool.not_eq_true] at h)<;>(try simp only[go_sem,f1,g1, *])))
theorem depth14: ∀ (t:GExp),OkExp t→nodesE t≤1000000000000→ ∀ S,cal (env ot oz) 76 [.agg (rExp t)] S=some (.int .i64 (depthE t:Int),S):=by
 refine GExp.ind fun t ih ok hb S=> ?_
 obtain ⟨⟨a1,a2⟩,⟨b1,b2⟩,_⟩:=okExp_a ok
 rw[nodesE_eq] at hb
 have f0:=fun fin st=>loopF (E:=(env ot oz)) (c:=c76_l0) t.Types b1 (fun i (n:Nat)=>[(1,some (.at_ (rExp t))),(3,some (.int .i64 (n:Int))),(4,some (.int .i64 (i:Int)))]) (fun _ _=>S) (fun n a=>max n (depthT a)) (fun i n=>True) fin st
  (fun i n a h1 h2 h3 h4 hI=>by
   have c:=depth04 (ot:=ot) (oz:=oz) a (b2 a h2) (by have:=nodesTs_mem h2;omega)
   have w:=mx_nat' n (depthT a)
   refine ⟨trivial, ?_⟩
   (rw[c76_l0_w];simp only[c76_l0_b,c76_l0_a,go_sem,h1,h3,h4,c,w];repeat' ((first|rw[guardO_t]|rw[guardO_f]|rw[cw_bool]);split<;>rename_i h<;>(try rw[Bool.not_eq_true] at h)<;>(try simp only[go_sem,c76_l0_a,h1,h3,h4,c,w, *])))) t.Types 0 0 rfl trivial
 have fx: ∀ fin st (n:Nat),run (env ot oz) fin st c76_l0 [(1,some (.at_ (rExp t))),(3,some (.int .i64 (n:Int))),(4,some (.int .i64 (t.Types.length:Int)))] S=aft (env ot oz) fin st (.exit 0) [(1,some (.at_ (rExp t))),(3,some (.int .i64 (n:Int))),(4,some (.int .i64 (t.Types.length:Int))),(10,some (.bool false))] S:=fun fin st n=>by
  (rw[c76_l0_w];simp only[c76_l0_b,c76_l0_a,go_sem];repeat' ((first|rw[guardO_t]|rw[guardO_f]|rw[cw_bool]);split<;>rename_i h<;>(try rw[Bool.not_eq_true] at h)<;>(try simp only[go_sem,c76_l0_a, *])))
 have g0:=fun fin st=>loopF (E:=(env ot oz)) (c:=c76_l1) t.Kids a1 (fun i (n:Nat)=>[(1,some (.at_ (rExp t))),(3,some (.int .i64 (n:Int))),(5,some (.int .i64 (i:Int)))]) (fun _ _=>S) (fun n a=>max n (depthE a)) (fun i n=>True) fin st
  (fun i n a h1 h2 h3 h4 hI=>by
   have c:=ih a h2 (a2 a h2) (by have:=nodesEs_mem h2;omega)
   have w:=mx_nat' n (depthE a)
   refine ⟨trivial, ?_⟩
   (rw[c76_l1_w];simp only[c76_l1_b,c76_l1_a,go_sem,h1,h3,h4,c,w];repeat' ((first|rw[guardO_t]|rw[guardO_f]|rw[cw_bool]);split<;>rename_i h<;>(try rw[Bool.not_eq_true] at h)<;>(try simp only[go_sem,c76_l1_a,h1,h3,h4,c,w, *])))) t.Kids 0 (depthTs t.Types) rfl trivial
 have gx: ∀ fin st (n:Nat),run (env ot oz) fin st c76_l1 [(1,some (.at_ (rExp t))),(3,some (.int .i64 (n:Int))),(5,some (.int .i64 (t.Kids.length:Int)))] S=aft (env ot oz) fin st (.exit 2) [(1,some (.at_ (rExp t))),(3,some (.int .i64 (n:Int))),(5,some (.int .i64 (t.Kids.length:Int))),(25,some (.bool false))] S:=fun fin st n=>by
  (rw[c76_l1_w];simp only[c76_l1_b,c76_l1_a,go_sem];repeat' ((first|rw[guardO_t]|rw[guardO_f]|rw[cw_bool]);split<;>rename_i h<;>(try rw[Bool.not_eq_true] at h)<;>(try simp only[go_sem,c76_l1_a, *])))
 have f1:=fun fin st=>(f0 fin st).2
 rw[max_fold depthT depthTs (by rw[depthTs]) (fun a l=>by rw[depthTs])] at f1
 have e0:max 0 (depthTs t.Types)=depthTs t.Types:=by omega
 rw[e0] at f1
 have g1:=fun fin st=>(g0 fin st).2
 rw[max_fold depthE depthEs (by rw[depthEs]) (fun a l=>by rw[depthEs])] at g1
 simp only[Nat.zero_add,fx,gx,Int.cast_ofNat_Int] at f1 g1
 have hd:=depths_nodes t.Types
 have hd2:=depthEs_nodes t.Kids
 have w:IntKind.i64.wrap (((max (depthTs t.Types) (depthEs t.Kids):Nat):Int)+1)=(depthE t:Int):=by rw[depthE_eq,wrap64 (by omega) (by omega)];omega
 (rw[w_plain (fn:=c76) rfl rfl (by simp only[go_sem,f1,g1,w]) rfl (by decide)];simp only[c76,c76_b,go_sem,f1,g1,w];repeat' ((first|rw[guardO_t]|rw[guardO_f]|rw[cw_bool]);split<;>rename_i h<;>(try rw[Bool.not_eq_true] at h)<;>(try simp only[go_sem,f1,g1,w, *])))
end
end Go.PE
