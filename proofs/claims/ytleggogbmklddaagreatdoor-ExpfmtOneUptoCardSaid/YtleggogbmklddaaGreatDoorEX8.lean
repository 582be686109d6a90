/-
  Expressions as texts, by the program: all of it. Conditions: each law's own.
-/
import Derived.Test.YtleggogbmklddaaGreatDoorEX7
namespace Go.PE
open Go Go.RowKit Go.Proofs
set_option linter.unusedVariables false
set_option linter.unusedSimpArgs false
set_option maxRecDepth 100000
theorem bulkLL_mem {α:Type} {r:α→List PV}: ∀ {l:List α} {a:α},a∈l→bulkL (r a)≤bulkLL (l.map r)
 |b::l,a,h=>by
  rw[List.map_cons,bulkLL]
  rcases List.mem_cons.1 h with h|h
  ·subst h;omega
  ·have:=bulkLL_mem (r:=r) h;omega
theorem okExp_n {e:GExp} (h:OkExp e):In64 e.N∧Short e.Name.size:=by cases h;exact ⟨by assumption,by assumption⟩
structure Fit1 (e:GExp):Prop where
 ok:OkExp e
 own:ownE e=true
 bulk:bulkL (rExp e)≤1048576
 sm:Sm (showE e)
 tys: ∀ t∈e.Types,OkTy t∧bulkL (rTy t)≤1048576
 name:e.Name.size≤1048576
 bnd:Sm (boundS e)
 call:Sm (callS e)
 list:(joinL [44,32] (e.Types.map showT)).length≤70368744177664
theorem fit1 {e:GExp} (ok:OkExp e) (hr:rightE e=true) (hb:bulkL (rExp e)≤1048576):Fit1 e:=by
 have h0:=bulk_expEq e
 have h1:=show_bulk e hr
 have h2:=bound_size e
 have h3:=callS_size e
 have h4:=listT_size e.Types
 have e4:(listT e.Types).size=(joinL [44,32] (e.Types.map showT)).length:=by unfold listT;rw[txt_size]
 refine ⟨ok,(right_own hr).1,hb,by unfold Sm;omega,fun t ht=>⟨(okExp_a ok).2.1.2 t ht, ?_⟩,by omega,by unfold Sm;omega,by unfold Sm;omega,by omega⟩
 have:=bulkLL_mem (r:=rTy) ht;omega
section
variable {ot:TypeId} {oz:EP}
theorem fmtBool (b:Bool) (S:St):cal (env ot oz) 94 [.bool b] S=some (.str (if b then ⟨#[116,114,117,101]⟩ else ⟨#[102,97,108,115,101]⟩),S):=by
 have h: ∀ S,cal (env ot oz) 120 [.bool b] S=some (.str (if b then ⟨#[116,114,117,101]⟩ else ⟨#[102,97,108,115,101]⟩),S):=fun S=>by
  cases b<;>(rw[w_plain (fn:=c120) rfl rfl (by simp only[go_sem]) rfl (by decide)];simp only[c120,c120_b,go_sem];repeat' ((first|rw[guardO_t]|rw[guardO_f]|rw[cw_bool]);split<;>rename_i h<;>(try rw[Bool.not_eq_true] at h)<;>(try simp only[go_sem, *])))
 (rw[w_plain (fn:=c94) rfl rfl (by simp only[go_sem,h]) rfl (by decide)];simp only[c94,c94_b,go_sem,h];repeat' ((first|rw[guardO_t]|rw[guardO_f]|rw[cw_bool]);split<;>rename_i h<;>(try rw[Bool.not_eq_true] at h)<;>(try simp only[go_sem,h, *])))
theorem valP (e:GExp) (F:Fit1 e) (hK:e.K=1∨e.K=2∨e.K=3∨e.K=4) (S:St):cal (env ot oz) 50 [.agg (rExp e)] S=some (.str (showE e),S):=by
 rcases hK with hK|hK|hK|hK
 ·have c:=itoa_w (ot:=ot) (oz:=oz) e.N (okExp_n F.ok).1
  rw[showE_1 hK]
  (rw[w_plain (fn:=c50) rfl rfl (by simp only[go_sem,hK,c]) rfl (by decide)];simp only[c50,c50_b,go_sem,hK,c];repeat' ((first|rw[guardO_t]|rw[guardO_f]|rw[cw_bool]);split<;>rename_i h<;>(try rw[Bool.not_eq_true] at h)<;>(try simp only[go_sem,hK,c, *])))
 ·have c:=fmtBool (ot:=ot) (oz:=oz) (e.N==1)
  rw[showE_2 hK]
  (rw[w_plain (fn:=c50) rfl rfl (by simp only[go_sem,hK,c]) rfl (by decide)];simp only[c50,c50_b,go_sem,hK,c];repeat' ((first|rw[guardO_t]|rw[guardO_f]|rw[cw_bool]);split<;>rename_i h<;>(try rw[Bool.not_eq_true] at h)<;>(try simp only[go_sem,hK,c, *])))
 ·have c:=fun S=>cal_ans (quote_ok (ot:=ot) (oz:=oz) e.Name (by have:=F.name;omega)) (S:=S)
  rw[showE_3 hK]
  (rw[w_plain (fn:=c50) rfl rfl (by simp only[go_sem,hK,c]) rfl (by decide)];simp only[c50,c50_b,go_sem,hK,c];repeat' ((first|rw[guardO_t]|rw[guardO_f]|rw[cw_bool]);split<;>rename_i h<;>(try rw[Bool.not_eq_true] at h)<;>(try simp only[go_sem,hK,c, *])))
 ·rw[showE_4 hK]
  (rw[w_plain (fn:=c50) rfl rfl (by simp only[go_sem,hK]) rfl (by decide)];simp only[c50,c50_b,go_sem,hK];repeat' ((first|rw[guardO_t]|rw[guardO_f]|rw[cw_bool]);split<;>rename_i h<;>(try rw[Bool.not_eq_true] at h)<;>(try simp only[go_sem,hK, *])))
theorem shownP: ∀ (e:GExp),OkExp e→rightE e=true→bulkL (rExp e)≤1048576→ ∀ S,cal (env ot oz) 23 [.agg (rExp e)] S=some (.str (showE e),S):=by
 refine GExp.ind fun e ih ok hr hb S=> ?_
 have F:=fit1 ok hr hb
 obtain ⟨ho,hk⟩:=right_own hr
 have f:=own_facts ho
 have hbe:=bulk_expEq e
 have ki: ∀ k∈e.Kids,Sm (showE k)∧ ∀ S,cal (env ot oz) 23 [.agg (rExp k)] S=some (.str (showE k),S):=fun k hm=>by
  have h1:=bulkLL_mem (r:=rExp) hm
  have ok':=(okExp_a ok).1.2 k hm
  exact ⟨(fit1 ok' (hk k hm) (by omega)).sm,ih k hm ok' (hk k hm) (by omega)⟩
 have bd:=boundP_ (ot:=ot) (oz:=oz) e F.bnd F.tys
 have sb:=F.bnd
 have sn:=F.name
 have ss:=F.sm
 unfold Sm at sb ss
 rcases own_kinds ho with hK|hK|hK|hK|hK|hK|hK|hK|hK|hK|hK|hK|hK
 ·have v:=valP (ot:=ot) (oz:=oz) e F (.inl hK)
  (rw[w_plain (fn:=c23) rfl rfl (by simp only[go_sem,hK,v]) rfl (by decide)];simp only[c23,c23_b,go_sem,hK,v];repeat' ((first|rw[guardO_t]|rw[guardO_f]|rw[cw_bool]);split<;>rename_i h<;>(try rw[Bool.not_eq_true] at h)<;>(try simp only[go_sem,hK,v, *])))
 ·have v:=valP (ot:=ot) (oz:=oz) e F (.inr (.inl hK))
  (rw[w_plain (fn:=c23) rfl rfl (by simp only[go_sem,hK,v]) rfl (by decide)];simp only[c23,c23_b,go_sem,hK,v];repeat' ((first|rw[guardO_t]|rw[guardO_f]|rw[cw_bool]);split<;>rename_i h<;>(try rw[Bool.not_eq_true] at h)<;>(try simp only[go_sem,hK,v, *])))
 ·have v:=valP (ot:=ot) (oz:=oz) e F (.inr (.inr (.inl hK)))
  (rw[w_plain (fn:=c23) rfl rfl (by simp only[go_sem,hK,v]) rfl (by decide)];simp only[c23,c23_b,go_sem,hK,v];repeat' ((first|rw[guardO_t]|rw[guardO_f]|rw[cw_bool]);split<;>rename_i h<;>(try rw[Bool.not_eq_true] at h)<;>(try simp only[go_sem,hK,v, *])))
 ·have v:=valP (ot:=ot) (oz:=oz) e F (.inr (.inr (.inr hK)))
  (rw[w_plain (fn:=c23) rfl rfl (by simp only[go_sem,hK,v]) rfl (by decide)];simp only[c23,c23_b,go_sem,hK,v];repeat' ((first|rw[guardO_t]|rw[guardO_f]|rw[cw_bool]);split<;>rename_i h<;>(try rw[Bool.not_eq_true] at h)<;>(try simp only[go_sem,hK,v, *])))
 ·obtain ⟨x,y,hxy⟩:=lenIs2 (f.2.2.2.2.2.1 hK).1
  obtain ⟨sx,cx'⟩:=ki x (by simp[hxy])
  unfold Sm at sx
  obtain ⟨sy,cy'⟩:=ki y (by simp[hxy])
  unfold Sm at sy
  rw[showE_5 hK hxy]
  have z1:=addS (a:=⟨#[108,101,116,32]⟩) (b:=boundS e) (by have L:=lits;(try simp only[app_size]);omega)
  have z2:=addS (a:=⟨#[108,101,116,32]⟩++boundS e) (b:=⟨#[32,61,32]⟩) (by have L:=lits;(try simp only[app_size]);omega)
  have z3:=addS (a:=⟨#[108,101,116,32]⟩++boundS e++⟨#[32,61,32]⟩) (b:=showE x) (by have L:=lits;(try simp only[app_size]);omega)
  have z4:=addS (a:=⟨#[108,101,116,32]⟩++boundS e++⟨#[32,61,32]⟩++showE x) (b:=⟨#[32,105,110,32]⟩) (by have L:=lits;(try simp only[app_size]);omega)
  have z5:=addS (a:=⟨#[108,101,116,32]⟩++boundS e++⟨#[32,61,32]⟩++showE x++⟨#[32,105,110,32]⟩) (b:=showE y) (by have L:=lits;(try simp only[app_size]);omega)
  (rw[w_plain (fn:=c23) rfl rfl (by simp only[go_sem,hK,hxy,bd,cx',cy',↓z1,↓z2,↓z3,↓z4,↓z5]) rfl (by decide)];simp only[c23,c23_b,go_sem,hK,hxy,bd,cx',cy',↓z1,↓z2,↓z3,↓z4,↓z5];repeat' ((first|rw[guardO_t]|rw[guardO_f]|rw[cw_bool]);split<;>rename_i h<;>(try rw[Bool.not_eq_true] at h)<;>(try simp only[go_sem,hK,hxy,bd,cx',cy',↓z1,↓z2,↓z3,↓z4,↓z5, *])))
 ·obtain ⟨x,y,z,hxy⟩:=lenIs3 (f.2.2.2.2.2.2.1 hK)
  obtain ⟨sx,cx'⟩:=ki x (by simp[hxy])
  unfold Sm at sx
  obtain ⟨sy,cy'⟩:=ki y (by simp[hxy])
  unfold Sm at sy
  obtain ⟨sz,cz'⟩:=ki z (by simp[hxy])
  unfold Sm at sz
  rw[showE_6 hK hxy]
  have z1:=addS (a:=⟨#[105,102,32]⟩) (b:=showE x) (by have L:=lits;(try simp only[app_size]);omega)
  have z2:=addS (a:=⟨#[105,102,32]⟩++showE x) (b:=⟨#[32,116,104,101,110,32]⟩) (by have L:=lits;(try simp only[app_size]);omega)
  have z3:=addS (a:=⟨#[105,102,32]⟩++showE x++⟨#[32,116,104,101,110,32]⟩) (b:=showE y) (by have L:=lits;(try simp only[app_size]);omega)
  have z4:=addS (a:=⟨#[105,102,32]⟩++showE x++⟨#[32,116,104,101,110,32]⟩++showE y) (b:=⟨#[32,101,108,115,101,32]⟩) (by have L:=lits;(try simp only[app_size]);omega)
  have z5:=addS (a:=⟨#[105,102,32]⟩++showE x++⟨#[32,116,104,101,110,32]⟩++showE y++⟨#[32,101,108,115,101,32]⟩) (b:=showE z) (by have L:=lits;(try simp only[app_size]);omega)
  (rw[w_plain (fn:=c23) rfl rfl (by simp only[go_sem,hK,hxy,cx',cy',cz',↓z1,↓z2,↓z3,↓z4,↓z5]) rfl (by decide)];simp only[c23,c23_b,go_sem,hK,hxy,cx',cy',cz',↓z1,↓z2,↓z3,↓z4,↓z5];repeat' ((first|rw[guardO_t]|rw[guardO_f]|rw[cw_bool]);split<;>rename_i h<;>(try rw[Bool.not_eq_true] at h)<;>(try simp only[go_sem,hK,hxy,cx',cy',cz',↓z1,↓z2,↓z3,↓z4,↓z5, *])))
 ·obtain ⟨x,hxy⟩:=lenIs1 (f.2.2.2.2.2.2.2.1 hK).1
  obtain ⟨sx,cx'⟩:=ki x (by simp[hxy])
  unfold Sm at sx
  rw[showE_7 hK hxy (f.2.2.2.2.2.2.2.1 hK).2]
  have z1:=addS (a:=⟨#[102,110,32]⟩) (b:=boundS e) (by have L:=lits;(try simp only[app_size]);omega)
  have z2:=addS (a:=⟨#[102,110,32]⟩++boundS e) (b:=⟨#[32,61,62,32]⟩) (by have L:=lits;(try simp only[app_size]);omega)
  have z3:=addS (a:=⟨#[102,110,32]⟩++boundS e++⟨#[32,61,62,32]⟩) (b:=showE x) (by have L:=lits;(try simp only[app_size]);omega)
  (rw[w_plain (fn:=c23) rfl rfl (by simp only[go_sem,hK,hxy,bd,cx',↓z1,↓z2,↓z3]) rfl (by decide)];simp only[c23,c23_b,go_sem,hK,hxy,bd,cx',↓z1,↓z2,↓z3];repeat' ((first|rw[guardO_t]|rw[guardO_f]|rw[cw_bool]);split<;>rename_i h<;>(try rw[Bool.not_eq_true] at h)<;>(try simp only[go_sem,hK,hxy,bd,cx',↓z1,↓z2,↓z3, *])))
 ·obtain ⟨x,y,hxy⟩:=lenIs2 (f.2.2.2.2.2.2.2.2.1 hK)
  obtain ⟨sx,cx'⟩:=ki x (by simp[hxy])
  unfold Sm at sx
  obtain ⟨sy,cy'⟩:=ki y (by simp[hxy])
  unfold Sm at sy
  have ax:=atP (ot:=ot) (oz:=oz) x 4 sx cx'
  have as_:=at_size x (showE x) 4
  rw[showE_8 hK hxy]
  have z1:=addS (a:=atS x (showE x) 4) (b:=⟨#[40]⟩) (by have L:=lits;(try simp only[app_size]);omega)
  have z2:=addS (a:=atS x (showE x) 4++⟨#[40]⟩) (b:=showE y) (by have L:=lits;(try simp only[app_size]);omega)
  have z3:=addS (a:=atS x (showE x) 4++⟨#[40]⟩++showE y) (b:=⟨#[41]⟩) (by have L:=lits;(try simp only[app_size]);omega)
  (rw[w_plain (fn:=c23) rfl rfl (by simp only[go_sem,hK,hxy,ax,cy',↓z1,↓z2,↓z3]) rfl (by decide)];simp only[c23,c23_b,go_sem,hK,hxy,ax,cy',↓z1,↓z2,↓z3];repeat' ((first|rw[guardO_t]|rw[guardO_f]|rw[cw_bool]);split<;>rename_i h<;>(try rw[Bool.not_eq_true] at h)<;>(try simp only[go_sem,hK,hxy,ax,cy',↓z1,↓z2,↓z3, *])))
 ·rw[showE_9 hK] at ss ⊢
  simp only[app_size] at ss
  obtain ⟨hll,h6⟩:=f.2.2.2.2.2.2.2.2.2.1 hK
  have fl: ∀ (ls ss:List ByteArray),ls.length=ss.length→(fieldsE ls ss).length=ss.length:=fun ls=>by
   induction ls with
   |nil=>intro ss h;cases ss;rfl;simp at h
   |cons l ls ih=>intro ss h;cases ss with
    |nil=>simp at h
    |cons s ss=>simp only[fieldsE,List.length_cons];rw[ih ss (by simpa using h)]
  have fg: ∀ (ls ss:List ByteArray) (i:Nat) (l s:ByteArray),ls[i]?=some l→ss[i]?=some s→(fieldsE ls ss)[i]?=some (l++⟨#[32,61,32]⟩++s):=fun ls=>by
   induction ls with
   |nil=>intro ss i l s h;simp at h
   |cons l' ls ih=>
    intro ss i l s h1 h2
    cases ss with
    |nil=>simp at h2
    |cons s' ss=>
     cases i with
     |zero=>simp at h1 h2;subst h1 h2;rfl
     |succ i=>simp only[List.getElem?_cons_succ] at h1 h2;simp only[fieldsE,List.getElem?_cons_succ];exact ih ss i l s h1 h2
  have kd:=kidsP (ot:=ot) (oz:=oz) e (fieldsE e.Labels (e.Kids.map showE)) (by omega) (by rw[fl _ _ (by simp;omega)];simp) 48 [.at_ (rExp e)] (fun n d=>by simp[sealL,sealW,rExp_sl]) (by omega) (fun i k t hk1 ht1 S=>by
   obtain ⟨sk,ck⟩:=ki k (mem_of_get hk1)
   have hlt:=getElem?_lt hk1
   obtain ⟨l,hl1⟩: ∃ l,e.Labels[i]?=some l:=⟨_,List.getElem?_eq_getElem (by omega)⟩
   have:=fg e.Labels (e.Kids.map showE) i l (showE k) hl1 (by rw[List.getElem?_map,hk1];rfl)
   rw[this] at ht1
   obtain rfl:=Option.some.inj ht1
   have hls:l.size≤1048576:=by
    have h1:=bulkLL_mem (r:=rStr) (mem_of_get hl1)
    have h2:bulkL (rStr l)=l.size+1:=by simp[rStr,bulkL,PV.bulk]
    omega
   unfold Sm at sk
   have z1:=addS (a:=l) (b:=⟨#[32,61,32]⟩) (by have L:=lits;(try simp only[app_size]);omega)
   have z2:=addS (a:=l++⟨#[32,61,32]⟩) (b:=showE k) (by have L:=lits;(try simp only[app_size]);omega)
   have hi:(i:Int)<(e.Labels.length:Int):=by omega
   simp only[List.cons_append,List.nil_append]
   (rw[w_plain (fn:=c48) rfl rfl (by simp only[go_sem,hl1,ck,hi,↓z1,↓z2]) rfl (by decide)];simp only[c48,c48_b,go_sem,hl1,ck,hi,↓z1,↓z2];repeat' ((first|rw[guardO_t]|rw[guardO_f]|rw[cw_bool]);split<;>rename_i h<;>(try rw[Bool.not_eq_true] at h)<;>(try simp only[go_sem,hl1,ck,hi,↓z1,↓z2, *]))))
  have z1:=addS (a:=⟨#[123]⟩) (b:=commaS (fieldsE e.Labels (e.Kids.map showE))) (by have L:=lits;(try simp only[app_size]);omega)
  have z2:=addS (a:=⟨#[123]⟩++commaS (fieldsE e.Labels (e.Kids.map showE))) (b:=⟨#[125]⟩) (by have L:=lits;(try simp only[app_size]);omega)
  (rw[w_plain (fn:=c23) rfl rfl (by simp only[go_sem,hK,kd,↓z1,↓z2]) rfl (by decide)];simp only[c23,c23_b,go_sem,hK,kd,↓z1,↓z2];repeat' ((first|rw[guardO_t]|rw[guardO_f]|rw[cw_bool]);split<;>rename_i h<;>(try rw[Bool.not_eq_true] at h)<;>(try simp only[go_sem,hK,kd,↓z1,↓z2, *])))
 ·obtain ⟨x,hxy⟩:=lenIs1 (f.2.2.2.2.2.2.2.2.2.2.1 hK).1
  obtain ⟨sx,cx'⟩:=ki x (by simp[hxy])
  unfold Sm at sx
  have ax:=atP (ot:=ot) (oz:=oz) x 4 sx cx'
  have as_:=at_size x (showE x) 4
  rw[showE_10 hK hxy (List.eq_nil_of_length_eq_zero (f.2.2.2.2.2.2.2.2.2.2.1 hK).2)]
  have z1:=addS (a:=atS x (showE x) 4) (b:=⟨#[46]⟩) (by have L:=lits;(try simp only[app_size]);omega)
  have z2:=addS (a:=atS x (showE x) 4++⟨#[46]⟩) (b:=e.Name) (by have L:=lits;(try simp only[app_size]);omega)
  (rw[w_plain (fn:=c23) rfl rfl (by simp only[go_sem,hK,hxy,ax,↓z1,↓z2]) rfl (by decide)];simp only[c23,c23_b,go_sem,hK,hxy,ax,↓z1,↓z2];repeat' ((first|rw[guardO_t]|rw[guardO_f]|rw[cw_bool]);split<;>rename_i h<;>(try rw[Bool.not_eq_true] at h)<;>(try simp only[go_sem,hK,hxy,ax,↓z1,↓z2, *])))
 ·obtain ⟨x,y,hxy⟩:=lenIs2 (f.2.2.2.2.2.2.2.2.2.2.2.1 hK)
  obtain ⟨sx,cx'⟩:=ki x (by simp[hxy])
  unfold Sm at sx
  obtain ⟨sy,cy'⟩:=ki y (by simp[hxy])
  unfold Sm at sy
  have te:=tightP (ot:=ot) (oz:=oz) e
  have et:tightE e=tightO e.N:=by unfold tightE;simp[hK]
  rw[et] at te
  have ax:=fun n=>atP (ot:=ot) (oz:=oz) x n sx cx'
  have ay:=fun n=>atP (ot:=ot) (oz:=oz) y n sy cy'
  have as_:=at_size x (showE x) (max (tightO e.N) 2)
  have as2:=at_size y (showE y) (tightO e.N+1)
  have op:=opP (ot:=ot) (oz:=oz) e.N
  have os_:=op_size e.N
  have to3:1≤tightO e.N∧tightO e.N≤3:=by unfold tightO;split<;>(try split)<;>omega
  have wr:IntKind.i64.wrap (tightO e.N+1)=tightO e.N+1:=wrap64 (by omega) (by omega)
  have mx:(if tightO e.N<2 then 2 else tightO e.N)=max (tightO e.N) 2:=by omega
  rw[showE_11 hK hxy]
  have z1:=addS (a:=atS x (showE x) (max (tightO e.N) 2)) (b:=⟨#[32]⟩) (by have L:=lits;(try simp only[app_size]);omega)
  have z2:=addS (a:=atS x (showE x) (max (tightO e.N) 2)++⟨#[32]⟩) (b:=opS e.N) (by have L:=lits;(try simp only[app_size]);omega)
  have z3:=addS (a:=atS x (showE x) (max (tightO e.N) 2)++⟨#[32]⟩++opS e.N) (b:=⟨#[32]⟩) (by have L:=lits;(try simp only[app_size]);omega)
  have z4:=addS (a:=atS x (showE x) (max (tightO e.N) 2)++⟨#[32]⟩++opS e.N++⟨#[32]⟩) (b:=atS y (showE y) (tightO e.N+1)) (by have L:=lits;(try simp only[app_size]);omega)
  have o:cal (env ot oz) 46 [.agg (rExp e)] S=some (.str (atS x (showE x) (max (tightO e.N) 2)++⟨#[32]⟩++opS e.N++⟨#[32]⟩++atS y (showE y) (tightO e.N+1)),S):=by
   (rw[w_plain (fn:=c46) rfl rfl (by simp only[go_sem,hxy,te,ax,ay,op,wr,mx,↓z1,↓z2,↓z3,↓z4]) rfl (by decide)];simp only[c46,c46_b,go_sem,hxy,te,ax,ay,op,wr,mx,↓z1,↓z2,↓z3,↓z4];repeat' ((first|rw[guardO_t]|rw[guardO_f]|rw[cw_bool]);split<;>rename_i h<;>(try rw[Bool.not_eq_true] at h)<;>(try simp only[go_sem,hxy,te,ax,ay,op,wr,mx,↓z1,↓z2,↓z3,↓z4, *])))
  (rw[w_plain (fn:=c23) rfl rfl (by simp only[go_sem,hK,o]) rfl (by decide)];simp only[c23,c23_b,go_sem,hK,o];repeat' ((first|rw[guardO_t]|rw[guardO_f]|rw[cw_bool]);split<;>rename_i h<;>(try rw[Bool.not_eq_true] at h)<;>(try simp only[go_sem,hK,o, *])))
 ·obtain ⟨t,ht⟩:=lenIs1 (f.2.2.2.2.2.2.2.2.2.2.2.2.1 hK).2
  obtain ⟨x,hxy⟩:=lenIs1 (f.2.2.2.2.2.2.2.2.2.2.2.2.1 hK).1
  obtain ⟨sx,cx'⟩:=ki x (by simp[hxy])
  unfold Sm at sx
  have ot_:=F.tys t (by simp[ht])
  have ct:=tshow (ot:=ot) (oz:=oz) t ot_.1 ot_.2
  have st_:=showT_bulk t
  have st2:=ot_.2
  rw[showE_12 hK hxy ht]
  have z1:=addS (a:=⟨#[40]⟩) (b:=showE x) (by have L:=lits;(try simp only[app_size]);omega)
  have z2:=addS (a:=⟨#[40]⟩++showE x) (b:=⟨#[32,58,32]⟩) (by have L:=lits;(try simp only[app_size]);omega)
  have z3:=addS (a:=⟨#[40]⟩++showE x++⟨#[32,58,32]⟩) (b:=showT t) (by have L:=lits;(try simp only[app_size]);omega)
  have z4:=addS (a:=⟨#[40]⟩++showE x++⟨#[32,58,32]⟩++showT t) (b:=⟨#[41]⟩) (by have L:=lits;(try simp only[app_size]);omega)
  (rw[w_plain (fn:=c23) rfl rfl (by simp only[go_sem,hK,hxy,ht,cx',ct,↓z1,↓z2,↓z3,↓z4]) rfl (by decide)];simp only[c23,c23_b,go_sem,hK,hxy,ht,cx',ct,↓z1,↓z2,↓z3,↓z4];repeat' ((first|rw[guardO_t]|rw[guardO_f]|rw[cw_bool]);split<;>rename_i h<;>(try rw[Bool.not_eq_true] at h)<;>(try simp only[go_sem,hK,hxy,ht,cx',ct,↓z1,↓z2,↓z3,↓z4, *])))
 ·rw[showE_13 hK] at ss ⊢
  have sc:=F.call
  unfold Sm at sc
  simp only[app_size] at ss
  have h13:=f.2.2.2.2.2.2.2.2.2.2.2.2.2 hK
  have kd:=kidsP (ot:=ot) (oz:=oz) e (e.Kids.map showE) (by omega) (by simp) 92 [] (fun _ _=>rfl) (by omega) (fun i k t hk1 ht1 S=>by
   obtain ⟨sk,ck⟩:=ki k (mem_of_get hk1)
   rw[List.getElem?_map,hk1] at ht1
   obtain rfl:=Option.some.inj ht1
   simp only[List.cons_append,List.nil_append]
   (rw[w_plain (fn:=c92) rfl rfl (by simp only[go_sem,ck]) rfl (by decide)];simp only[c92,c92_b,go_sem,ck];repeat' ((first|rw[guardO_t]|rw[guardO_f]|rw[cw_bool]);split<;>rename_i h<;>(try rw[Bool.not_eq_true] at h)<;>(try simp only[go_sem,ck, *]))))
  have hlT:Short e.Types.length:=by unfold Short maxLen;omega
  have lt:=tlist (ot:=ot) (oz:=oz) e.Types hlT F.tys F.list .ro
  have z1:=addS (a:=⟨#[99,97,108,108,32]⟩) (b:=e.Name) (by have L:=lits;(try simp only[app_size]);omega)
  have z2:=addS (a:=⟨#[99,97,108,108,32]⟩++e.Name) (b:=callS e) (by have L:=lits;(try simp only[app_size]);omega)
  have z3:=addS (a:=⟨#[99,97,108,108,32]⟩++e.Name++callS e) (b:=⟨#[40]⟩) (by have L:=lits;(try simp only[app_size]);omega)
  have z4:=addS (a:=⟨#[99,97,108,108,32]⟩++e.Name++callS e++⟨#[40]⟩) (b:=commaS (e.Kids.map showE)) (by have L:=lits;(try simp only[app_size]);omega)
  have z5:=addS (a:=⟨#[99,97,108,108,32]⟩++e.Name++callS e++⟨#[40]⟩++commaS (e.Kids.map showE)) (b:=⟨#[41]⟩) (by have L:=lits;(try simp only[app_size]);omega)
  have o:cal (env ot oz) 49 [.agg (rExp e)] S=some (.str (⟨#[99,97,108,108,32]⟩++e.Name++callS e++⟨#[40]⟩++commaS (e.Kids.map showE)++⟨#[41]⟩),S):=by
   cases q:e.Has with
   |false=>
    have ec:callS e=⟨#[]⟩:=by unfold callS;rw[q];rfl
    rw[ec] at z2 z3 z4 z5 ⊢
    (rw[w_plain (fn:=c49) rfl rfl (by simp only[go_sem,q,kd,↓z1,↓z2,↓z3,↓z4,↓z5]) rfl (by decide)];simp only[c49,c49_b,go_sem,q,kd,↓z1,↓z2,↓z3,↓z4,↓z5];repeat' ((first|rw[guardO_t]|rw[guardO_f]|rw[cw_bool]);split<;>rename_i h<;>(try rw[Bool.not_eq_true] at h)<;>(try simp only[go_sem,q,kd,↓z1,↓z2,↓z3,↓z4,↓z5, *])))
   |true=>
    have ec:callS e=⟨#[91]⟩++listT e.Types++⟨#[93]⟩:=by unfold callS;rw[q];rfl
    have lsz:=listT_size e.Types
    rw[ec] at z2 z3 z4 z5 ⊢
    have wz1:=addS (a:=⟨#[91]⟩) (b:=listT e.Types) (by have L:=lits;(try simp only[app_size]);omega)
    have wz2:=addS (a:=⟨#[91]⟩++listT e.Types) (b:=⟨#[93]⟩) (by have L:=lits;(try simp only[app_size]);omega)
    (rw[w_plain (fn:=c49) rfl rfl (by simp only[go_sem,q,kd,lt,↓wz1,↓wz2,↓z1,↓z2,↓z3,↓z4,↓z5]) rfl (by decide)];simp only[c49,c49_b,go_sem,q,kd,lt,↓wz1,↓wz2,↓z1,↓z2,↓z3,↓z4,↓z5];repeat' ((first|rw[guardO_t]|rw[guardO_f]|rw[cw_bool]);split<;>rename_i h<;>(try rw[Bool.not_eq_true] at h)<;>(try simp only[go_sem,q,kd,lt,↓wz1,↓wz2,↓z1,↓z2,↓z3,↓z4,↓z5, *])))
  (rw[w_plain (fn:=c23) rfl rfl (by simp only[go_sem,hK,o]) rfl (by decide)];simp only[c23,c23_b,go_sem,hK,o];repeat' ((first|rw[guardO_t]|rw[guardO_f]|rw[cw_bool]);split<;>rename_i h<;>(try rw[Bool.not_eq_true] at h)<;>(try simp only[go_sem,hK,o, *])))
theorem showP (e:GExp) (ok:OkExp e) (hb:bulkL (rExp e)≤1048576) (S:St):cal (env ot oz) 8 [.agg (rExp e)] S=some (.str (if rightE e then showE e else ⟨#[]⟩),S):=by
 have r:=rightP (ot:=ot) (oz:=oz) e ok
 cases q:rightE e with
 |true=>
  have c:=shownP (ot:=ot) (oz:=oz) e ok q hb
  (rw[w_plain (fn:=c8) rfl rfl (by simp only[go_sem,r,q,c]) rfl (by decide)];simp only[c8,c8_b,go_sem,r,q,c];repeat' ((first|rw[guardO_t]|rw[guardO_f]|rw[cw_bool]);split<;>rename_i h<;>(try rw[Bool.not_eq_true] at h)<;>(try simp only[go_sem,r,q,c, *])))
 |false=>(rw[w_plain (fn:=c8) rfl rfl (by simp only[go_sem,r,q]) rfl (by decide)];simp only[c8,c8_b,go_sem,r,q];repeat' ((first|rw[guardO_t]|rw[guardO_f]|rw[cw_bool]);split<;>rename_i h<;>(try rw[Bool.not_eq_true] at h)<;>(try simp only[go_sem,r,q, *])))
end
end Go.PE
