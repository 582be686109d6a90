/-
  Definitions as texts, and the law ExpfmtDefs. Conditions: each law's own (what comes in is of bulk at most 1048576).
-/
import Derived.Test.YtleggogbmklddaaGreatDoorEXD
namespace Go.PE
open Go Go.RowKit Go.Proofs
set_option linter.unusedVariables false
set_option linter.unusedSimpArgs false
set_option maxRecDepth 100000
def bindersS (s:GSig):ByteArray:=if decide (0<s.Binders.length) then ⟨#[91]⟩++bindsT s.Binders ⟨#[32,60,58,32]⟩++⟨#[93]⟩ else ⟨#[]⟩
def sigS (s:GSig):ByteArray:=⟨#[100,101,102,32]⟩++s.Name++bindersS s++⟨#[40]⟩++bindsT s.Params ⟨#[58,32]⟩++⟨#[41,58,32]⟩++showT s.Result
def defS (d:GDef):ByteArray:=sigS d.Sig++⟨#[32,61,32]⟩++showE d.Body
theorem binds_sum (sign:ByteArray) (hs:sign.size≤4): ∀ l:List GBind,((l.map (bindT sign)).map fun t=>t.size+2).sum≤20*bulkLL (l.map rBind)
 |[]=>by simp[bulkLL]
 |b::l=>by
  have ih:=binds_sum sign hs l
  have h1:=showT_bulk b.Typ
  have h2:=bulk_bind b
  have e:(bindT sign b).size=b.Name.size+sign.size+(showT b.Typ).size:=by unfold bindT;simp only[app_size]
  rw[bulkLL_cons,List.map_cons,List.map_cons,List.sum_cons,e]
  omega
theorem binds_size (sign:ByteArray) (hs:sign.size≤4) (l:List GBind):(joinL [44,32] (l.map (bindT sign))).length≤20*bulkLL (l.map rBind):=by
 have h1:=comma_size (l.map (bindT sign))
 have h2:=binds_sum sign hs l
 unfold commaS at h1
 rw[txt_size] at h1
 omega
theorem bulk_sig (s:GSig):bulkL (rSig s)=s.Name.size+1+(bulkLL (s.Binders.map rBind)+1)+(bulkLL (s.Params.map rBind)+1)+bulkL (rTy s.Result):=by
 simp only[rSig,List.cons_append,List.nil_append,bulkL,bulkL_append,PV.bulk];omega
theorem bulk_def3 (d:GDef):bulkL (rDef d)=bulkL (rSig d.Sig)+bulkL (rExp d.Body):=by
 simp only[rDef,rSig,bulkL_append];omega
theorem binders_len (l:List GBind):l.length≤bulkLL (l.map rBind):=by
 induction l with
 |nil=>simp[bulkLL]
 |cons b l ih=>have:=bulk_bind b;rw[bulkLL_cons,List.length_cons];omega
theorem nodesT_bulk1: ∀ t:GTy,nodesT t≤bulkL (rTy t):=by
 refine GTy.ind fun t ih=> ?_
 have hs: ∀ l:List GTy,(∀ a∈l,nodesT a≤bulkL (rTy a))→nodesTs l≤bulkLL (l.map rTy):=by
  intro l
  induction l with
  |nil=>intro _;simp[nodesTs,bulkLL]
  |cons a l ih=>intro h;rw[nodesTs,List.map_cons,bulkLL];have:=h a (by simp);have:=ih fun x hx=>h x (by simp[hx]);omega
 have h1:=hs t.Args ih
 rw[nodesT_eq,bulk_ty];omega
theorem nodesTs_bulk1 (l:List GTy):nodesTs l≤bulkLL (l.map rTy):=by
 induction l with
 |nil=>simp[nodesTs,bulkLL]
 |cons a l ih=>have:=nodesT_bulk1 a;rw[nodesTs,List.map_cons,bulkLL];omega
theorem nodesE_bulk1: ∀ e:GExp,nodesE e≤bulkL (rExp e):=by
 refine GExp.ind fun e ih=> ?_
 have hs: ∀ l:List GExp,(∀ a∈l,nodesE a≤bulkL (rExp a))→nodesEs l≤bulkLL (l.map rExp):=by
  intro l
  induction l with
  |nil=>intro _;simp[nodesEs,bulkLL]
  |cons a l ih=>intro h;rw[nodesEs,List.map_cons,bulkLL];have:=h a (by simp);have:=ih fun x hx=>h x (by simp[hx]);omega
 have h1:=hs e.Kids ih
 have h2:=nodesTs_bulk1 e.Types
 rw[nodesE_eq,bulk_expEq];omega
theorem nodes_binds1 (l:List GBind):nodesTs (l.map GBind.Typ)≤bulkLL (l.map rBind):=by
 induction l with
 |nil=>simp[nodesTs,bulkLL]
 |cons b l ih=>have:=nodesT_bulk1 b.Typ;have:=bulk_bind b;rw[List.map_cons,nodesTs,bulkLL_cons];omega
theorem defNodes_bulk1 (d:GDef):defNodes d≤bulkL (rDef d):=by
 have h1:=nodesE_bulk1 d.Body
 have h2:=nodes_binds1 d.Sig.Binders
 have h3:=nodes_binds1 d.Sig.Params
 have h4:=nodesT_bulk1 d.Sig.Result
 have h5:=bulk_sig d.Sig
 have h6:=bulk_def3 d
 unfold defNodes sigT
 simp only[nodesTs_app,nodesTs]
 omega
section
variable {ot:TypeId} {oz:EP}
theorem defSizeP (d:GDef) (ok:OkDef d) (hb:d.Sig.Binders.length≤100000000∧d.Sig.Params.length≤100000000) (hn:defNodes d≤1000000000) (S:St):cal (env ot oz) 61 [.agg (rDef d)] S=some (.tup [.int .i64 (defNodes d:Int),.int .i64 (defDepth d:Int)],S):=by
 obtain ⟨n1,n2⟩:=nodes_sig d hn
 have c1:=expNodesP (ot:=ot) (oz:=oz) d.Body ok.Body (by omega)
 have c2:=expDepthP (ot:=ot) (oz:=oz) d.Body ok.Body (by omega)
 have c3:=typesP (ot:=ot) (oz:=oz) d.Sig ok.Sig hb
 have hts:=sigT_ok ok.Sig
 have hlen:Short (sigT d.Sig).length:=by unfold Short maxLen sigT;simp;omega
 generalize hsg:sigT d.Sig=ty at*
 obtain ⟨ts',T2,hI,hr⟩:=loopR (E:=(env ot oz)) (c:=c61_l0) ty hlen (fun (m:Nat×Nat) a=>(m.1+nodesT a,max m.2 (depthT a)))
  (fun i m ts T=>ts=[(2,some (.int .i64 (m.1:Int))),(3,some (.int .i64 (m.2:Int))),(14,some (.sl .ro (ty.map rTy))),(15,some (.int .i64 (ty.length:Int))),(16,some (.int .i64 (i:Int)))]∧(∃ os,T=⟨S.obs++os,S.own⟩)∧m.1+nodesTs (ty.drop i)≤2000000000)
  (fun i m a ts T h1 h2 h3 h4 hh=>by
   obtain ⟨m,k⟩:=m
   obtain ⟨rfl,⟨os,rfl⟩,hm⟩:=hh
   rw[drop_at h1,nodesTs] at hm
   simp only at hm
   have c:=tyNodesP (ot:=ot) (oz:=oz) a (hts a h2) (by omega)
   have c':=tyDepthP (ot:=ot) (oz:=oz) a (hts a h2) (by omega)
   have mx:=mx_nat k (depthT a)
   have mx2:=mx_nat' k (depthT a)
   have w:=wrap_add (a:=m) (b:=nodesT a) (by omega)
   have g1: ∀ y,(S.obs++(os++[y]))[S.obs.length+os.length]?=some y:=fun y=>by simp
   have g2: ∀ y z,(S.obs++(os++[y])).set (S.obs.length+os.length) z=S.obs++(os++[z]):=fun y z=>by simp
   refine ⟨_,_,⟨rfl,⟨os++[.cells 34 (rTy a)],rfl⟩,by simp only;omega⟩,fun fin st=> ?_⟩
   (rw[c61_l0_w];simp only[c61_l0_b,c61_l0_a,go_sem,h1,h3,h4,c,c',mx,mx2,w,g1,g2];repeat' ((first|rw[guardO_t]|rw[guardO_f]|rw[cw_bool]);split<;>rename_i h<;>(try rw[Bool.not_eq_true] at h)<;>(try simp only[go_sem,c61_l0_a,h1,h3,h4,c,c',mx,mx2,w,g1,g2, *])))) (nodesE d.Body,depthE d.Body) _ S ⟨rfl,⟨[],by simp⟩,by rw[List.drop_zero];simp only;omega⟩
 obtain ⟨rfl,⟨os,rfl⟩,_⟩:=hI
 have hf: ∀ (l:List GTy) (m:Nat×Nat),l.foldl (fun (m:Nat×Nat) a=>(m.1+nodesT a,max m.2 (depthT a))) m=(m.1+nodesTs l,max m.2 (depthTs l)):=by
  intro l
  induction l with
  |nil=>intro m;simp[nodesTs,depthTs]
  |cons a l ih=>intro m;rw[List.foldl_cons,ih,nodesTs,depthTs];simp only[Prod.mk.injEq];constructor<;>omega
 rw[hf] at hr
 have fx: ∀ fin st (T:St) (x y:Int),run (env ot oz) fin st c61_l0 [(2,some (.int .i64 x)),(3,some (.int .i64 y)),(14,some (.sl .ro (ty.map rTy))),(15,some (.int .i64 (ty.length:Int))),(16,some (.int .i64 (ty.length:Int)))] T=aft (env ot oz) fin st (.exit 0) [(2,some (.int .i64 x)),(3,some (.int .i64 y)),(14,some (.sl .ro (ty.map rTy))),(15,some (.int .i64 (ty.length:Int))),(16,some (.int .i64 (ty.length:Int))),(17,some (.bool false))] T:=fun fin st T x y=>by
  (rw[c61_l0_w];simp only[c61_l0_b,c61_l0_a,go_sem];repeat' ((first|rw[guardO_t]|rw[guardO_f]|rw[cw_bool]);split<;>rename_i h<;>(try rw[Bool.not_eq_true] at h)<;>(try simp only[go_sem,c61_l0_a, *])))
 have hr:=fun fin st=>(hr fin st).trans (fx fin st _ _ _)
 have e1:nodesE d.Body+nodesTs ty=defNodes d:=by unfold defNodes;rw[hsg]
 have e2:max (depthE d.Body) (depthTs ty)=defDepth d:=by unfold defDepth;rw[hsg]
 simp only[e1,e2,Int.cast_ofNat_Int] at hr
 have cl:close S ⟨S.obs++os,S.own⟩ (.tup [.int .i64 (defNodes d:Int),.int .i64 (defDepth d:Int)])=(.tup [.int .i64 (defNodes d:Int),.int .i64 (defDepth d:Int)],S):=by
  rw[close_junk1];simp[sealW,sealL]
 generalize (⟨S.obs++os,S.own⟩:St)=T at*
 (rw[w_plain (fn:=c61) rfl rfl (by simp only[go_sem,c1,c2,c3,hr,cl]) rfl (by decide)];simp only[c61,c61_b,go_sem,c1,c2,c3,hr,cl];repeat' ((first|rw[guardO_t]|rw[guardO_f]|rw[cw_bool]);split<;>rename_i h<;>(try rw[Bool.not_eq_true] at h)<;>(try simp only[go_sem,c1,c2,c3,hr,cl, *])))
theorem expDefP (d:GDef) (ok:OkDef d) (hb:bulkL (rDef d)≤1048576) (S:St):cal (env ot oz) 26 [.agg (rDef d)] S=some (.bool (defOk d),S):=by
 have b1:=bulk_def3 d
 have b2:=bulk_sig d.Sig
 have b3:=binders_len d.Sig.Binders
 have b4:=binders_len d.Sig.Params
 have b5:=defNodes_bulk1 d
 have c1:=nfine (ot:=ot) (oz:=oz) d.Sig.Name
 have c2:=distP (ot:=ot) (oz:=oz) varS 60 (fun s S=>nvar (ot:=ot) (oz:=oz) s S) d.Sig.Binders ok.Sig.Binders.1 3
 have c3:=distP (ot:=ot) (oz:=oz) fineS 58 (fun s S=>nfine (ot:=ot) (oz:=oz) s S) d.Sig.Params ok.Sig.Params.1 4
 have c4:=defSizeP (ot:=ot) (oz:=oz) d ok (by omega) (by omega)
 have c5:=typesP (ot:=ot) (oz:=oz) d.Sig ok.Sig (by omega)
 have hlen:Short (sigT d.Sig).length:=by unfold Short maxLen sigT;simp;omega
 have c6:=allPTy (ot:=ot) (oz:=oz) (sigT d.Sig) (fun t=>rightT t&& !(hasT 9 t)) hlen 42 S fun t ht=>fineP (ot:=ot) (oz:=oz) t (sigT_ok ok.Sig t ht) S
 have e1:((sigT d.Sig).all fun t=>rightT t&& !(hasT 9 t))=typesOk (sigT d.Sig):=rfl
 rw[e1] at c6
 have c7:=rightP (ot:=ot) (oz:=oz) d.Body ok.Body
 have i1:decide ((d.Sig.Binders.length:Int)≤3)=decide (d.Sig.Binders.length≤3):=by apply Bool.eq_iff_iff.2;simp only[decide_eq_true_eq];omega
 have i2:decide ((d.Sig.Params.length:Int)≤4)=decide (d.Sig.Params.length≤4):=by apply Bool.eq_iff_iff.2;simp only[decide_eq_true_eq];omega
 have i3:decide ((defNodes d:Int)≤240)=decide (defNodes d≤240):=by apply Bool.eq_iff_iff.2;simp only[decide_eq_true_eq];omega
 have i4:decide ((defDepth d:Int)≤40)=decide (defDepth d≤40):=by apply Bool.eq_iff_iff.2;simp only[decide_eq_true_eq];omega
 rw[i1] at c2
 rw[i2] at c3
 unfold defOk sigOk
 generalize namesOk varS [] d.Sig.Binders=y1 at*
 generalize namesOk fineS [] d.Sig.Params=y2 at*
 generalize decide (d.Sig.Binders.length≤3)=y3 at*
 generalize decide (d.Sig.Params.length≤4)=y4 at*
 generalize decide (defNodes d≤240)=y5 at*
 generalize decide (defDepth d≤40)=y6 at*
 generalize typesOk (sigT d.Sig)=y7 at*
 cases q1:fineS d.Sig.Name with
 |false=>(rw[w_plain (fn:=c26) rfl rfl (by simp only[go_sem,c1,q1]) rfl (by decide)];simp only[c26,c26_b,c26_r1,c26_r4,go_sem,c1,q1];repeat' ((first|rw[guardO_t]|rw[guardO_f]|rw[cw_bool]);split<;>rename_i h<;>(try rw[Bool.not_eq_true] at h)<;>(try simp only[go_sem,c26_r1,c26_r4,c1,q1, *])))
 |true=>
  cases y1<;>cases y3<;>(try ((rw[w_plain (fn:=c26) rfl rfl (by simp only[go_sem,c1,q1,c2]) rfl (by decide)];simp only[c26,c26_b,c26_r1,c26_r4,go_sem,c1,q1,c2];repeat' ((first|rw[guardO_t]|rw[guardO_f]|rw[cw_bool]);split<;>rename_i h<;>(try rw[Bool.not_eq_true] at h)<;>(try simp only[go_sem,c26_r1,c26_r4,c1,q1,c2, *])));done))<;>cases y2<;>cases y4<;>(try ((rw[w_plain (fn:=c26) rfl rfl (by simp only[go_sem,c1,q1,c2,c3]) rfl (by decide)];simp only[c26,c26_b,c26_r1,c26_r4,go_sem,c1,q1,c2,c3];repeat' ((first|rw[guardO_t]|rw[guardO_f]|rw[cw_bool]);split<;>rename_i h<;>(try rw[Bool.not_eq_true] at h)<;>(try simp only[go_sem,c26_r1,c26_r4,c1,q1,c2,c3, *])));done))<;>cases y5<;>cases y6<;>cases y7<;>(rw[w_plain (fn:=c26) rfl rfl (by simp only[go_sem,c1,q1,c2,c3,c4,i3,i4,c5,c6,c7]) rfl (by decide)];simp only[c26,c26_b,c26_r1,c26_r4,go_sem,c1,q1,c2,c3,c4,i3,i4,c5,c6,c7];repeat' ((first|rw[guardO_t]|rw[guardO_f]|rw[cw_bool]);split<;>rename_i h<;>(try rw[Bool.not_eq_true] at h)<;>(try simp only[go_sem,c26_r1,c26_r4,c1,q1,c2,c3,c4,i3,i4,c5,c6,c7, *])))<;>(try simp_all [Bool.and_assoc])<;>(try omega)
theorem sigP (s:GSig) (ok:OkSig s) (hb:bulkL (rSig s)≤1048576) (S:St):cal (env ot oz) 15 [.agg (rSig s)] S=some (.str (sigS s),S):=by
 have b1:=bulk_sig s
 have h1:=binds_size ⟨#[32,60,58,32]⟩ (by decide) s.Binders
 have h2:=binds_size ⟨#[58,32]⟩ (by decide) s.Params
 have okb: ∀ l:List GBind,(∀ a∈l,OkBind a)→bulkLL (l.map rBind)≤1048576→ ∀ a∈l,OkBind a∧bulkL (rTy a.Typ)≤1048576:=fun l hl hk a ha=>⟨hl a ha,by have:=bulkLL_mem (r:=rBind) ha;have:=bulk_bind a;omega⟩
 have t1:=tbinds (ot:=ot) (oz:=oz) s.Binders ⟨#[32,60,58,32]⟩ ok.Binders.1 (okb _ ok.Binders.2 (by omega)) (by omega)
 have t2:=tbinds (ot:=ot) (oz:=oz) s.Params ⟨#[58,32]⟩ ok.Params.1 (okb _ ok.Params.2 (by omega)) (by omega)
 have t3:=tshow (ot:=ot) (oz:=oz) s.Result ok.Result (by omega)
 have s3:=showT_bulk s.Result
 have e1:(bindsT s.Binders ⟨#[32,60,58,32]⟩).size=(joinL [44,32] (s.Binders.map (bindT ⟨#[32,60,58,32]⟩))).length:=by unfold bindsT;rw[txt_size]
 have e2:(bindsT s.Params ⟨#[58,32]⟩).size=(joinL [44,32] (s.Params.map (bindT ⟨#[58,32]⟩))).length:=by unfold bindsT;rw[txt_size]
 unfold sigS
 cases q:decide (0<s.Binders.length) with
 |false=>
  have ec:bindersS s=⟨#[]⟩:=by unfold bindersS;rw[q];rfl
  rw[ec]
  have z1:=addS (a:=⟨#[100,101,102,32]⟩) (b:=s.Name) (by have L:=lits;(try simp only[app_size]);omega)
  have z2:=addS (a:=⟨#[100,101,102,32]⟩++s.Name) (b:=⟨#[]⟩) (by have L:=lits;(try simp only[app_size]);omega)
  have z3:=addS (a:=⟨#[100,101,102,32]⟩++s.Name++⟨#[]⟩) (b:=⟨#[40]⟩) (by have L:=lits;(try simp only[app_size]);omega)
  have z4:=addS (a:=⟨#[100,101,102,32]⟩++s.Name++⟨#[]⟩++⟨#[40]⟩) (b:=bindsT s.Params ⟨#[58,32]⟩) (by have L:=lits;(try simp only[app_size]);omega)
  have z5:=addS (a:=⟨#[100,101,102,32]⟩++s.Name++⟨#[]⟩++⟨#[40]⟩++bindsT s.Params ⟨#[58,32]⟩) (b:=⟨#[41,58,32]⟩) (by have L:=lits;(try simp only[app_size]);omega)
  have z6:=addS (a:=⟨#[100,101,102,32]⟩++s.Name++⟨#[]⟩++⟨#[40]⟩++bindsT s.Params ⟨#[58,32]⟩++⟨#[41,58,32]⟩) (b:=showT s.Result) (by have L:=lits;(try simp only[app_size]);omega)
  (rw[w_plain (fn:=c15) rfl rfl (by simp only[go_sem,q,t2,t3,↓z1,↓z2,↓z3,↓z4,↓z5,↓z6]) rfl (by decide)];simp only[c15,c15_b,go_sem,q,t2,t3,↓z1,↓z2,↓z3,↓z4,↓z5,↓z6];repeat' ((first|rw[guardO_t]|rw[guardO_f]|rw[cw_bool]);split<;>rename_i h<;>(try rw[Bool.not_eq_true] at h)<;>(try simp only[go_sem,q,t2,t3,↓z1,↓z2,↓z3,↓z4,↓z5,↓z6, *])))
 |true=>
  have ec:bindersS s=⟨#[91]⟩++bindsT s.Binders ⟨#[32,60,58,32]⟩++⟨#[93]⟩:=by unfold bindersS;rw[q];rfl
  rw[ec]
  have wz1:=addS (a:=⟨#[91]⟩) (b:=bindsT s.Binders ⟨#[32,60,58,32]⟩) (by have L:=lits;(try simp only[app_size]);omega)
  have wz2:=addS (a:=⟨#[91]⟩++bindsT s.Binders ⟨#[32,60,58,32]⟩) (b:=⟨#[93]⟩) (by have L:=lits;(try simp only[app_size]);omega)
  have z1:=addS (a:=⟨#[100,101,102,32]⟩) (b:=s.Name) (by have L:=lits;(try simp only[app_size]);omega)
  have z2:=addS (a:=⟨#[100,101,102,32]⟩++s.Name) (b:=(⟨#[91]⟩++bindsT s.Binders ⟨#[32,60,58,32]⟩++⟨#[93]⟩)) (by have L:=lits;(try simp only[app_size]);omega)
  have z3:=addS (a:=⟨#[100,101,102,32]⟩++s.Name++(⟨#[91]⟩++bindsT s.Binders ⟨#[32,60,58,32]⟩++⟨#[93]⟩)) (b:=⟨#[40]⟩) (by have L:=lits;(try simp only[app_size]);omega)
  have z4:=addS (a:=⟨#[100,101,102,32]⟩++s.Name++(⟨#[91]⟩++bindsT s.Binders ⟨#[32,60,58,32]⟩++⟨#[93]⟩)++⟨#[40]⟩) (b:=bindsT s.Params ⟨#[58,32]⟩) (by have L:=lits;(try simp only[app_size]);omega)
  have z5:=addS (a:=⟨#[100,101,102,32]⟩++s.Name++(⟨#[91]⟩++bindsT s.Binders ⟨#[32,60,58,32]⟩++⟨#[93]⟩)++⟨#[40]⟩++bindsT s.Params ⟨#[58,32]⟩) (b:=⟨#[41,58,32]⟩) (by have L:=lits;(try simp only[app_size]);omega)
  have z6:=addS (a:=⟨#[100,101,102,32]⟩++s.Name++(⟨#[91]⟩++bindsT s.Binders ⟨#[32,60,58,32]⟩++⟨#[93]⟩)++⟨#[40]⟩++bindsT s.Params ⟨#[58,32]⟩++⟨#[41,58,32]⟩) (b:=showT s.Result) (by have L:=lits;(try simp only[app_size]);omega)
  (rw[w_plain (fn:=c15) rfl rfl (by simp only[go_sem,q,t1,t2,t3,↓wz1,↓wz2,↓z1,↓z2,↓z3,↓z4,↓z5,↓z6]) rfl (by decide)];simp only[c15,c15_b,go_sem,q,t1,t2,t3,↓wz1,↓wz2,↓z1,↓z2,↓z3,↓z4,↓z5,↓z6];repeat' ((first|rw[guardO_t]|rw[guardO_f]|rw[cw_bool]);split<;>rename_i h<;>(try rw[Bool.not_eq_true] at h)<;>(try simp only[go_sem,q,t1,t2,t3,↓wz1,↓wz2,↓z1,↓z2,↓z3,↓z4,↓z5,↓z6, *])))
end
end Go.PE
