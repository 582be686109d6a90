/-
  One text, one definition. Conditions: numbers are of 64 bits.
-/
import Derived.Test.YtleggogbmklddaaGreatDoorDX1
import Derived.Test.YtleggogbmklddaaGreatDoorEXE
import Derived.Test.YtleggogbmklddaaGreatDoorEYB
namespace Go.PE
open Go Go.RowKit Go.Proofs
set_option linter.unusedVariables false
set_option linter.unusedSimpArgs false
set_option maxRecDepth 100000
def GoodB (b:GBind):Prop:=(∀ c∈b.Name.data.toList,alnum c=true)∧(∃ c r,b.Name.data.toList=c::r)∧rightT b.Typ=true
theorem bind_l (sg:ByteArray) (b:GBind) (h:rightT b.Typ=true) (z:List UInt8):(bindT sg b).data.toList++z=b.Name.data.toList++(sg.data.toList++(shL b.Typ++z)):=by
 unfold bindT
 simp only[append_l,showT_l h,List.append_assoc]
theorem bind_inj {sg:ByteArray} {c0:UInt8} {sr:List UInt8} (hs:sg.data.toList=c0::sr) (h0:alnum c0=false) {a b:GBind} (ga:GoodB a) (gb:GoodB b) {u v:List UInt8} (hu:outS u) (hv:outS v) (h:(bindT sg a).data.toList++u=(bindT sg b).data.toList++v):a=b∧u=v:=by
 rw[bind_l _ _ ga.2.2,bind_l _ _ gb.2.2,hs] at h
 obtain ⟨e1,e2⟩:=munch (u:=c0::(sr++(shL a.Typ++u))) (v:=c0::(sr++(shL b.Typ++v))) ga.1 gb.1 h0 h0 h
 have e2:shL a.Typ++u=shL b.Typ++v:=List.append_cancel_left (List.cons.inj e2).2
 obtain ⟨e3,e4⟩:=(one_both a.Typ ga.2.2).1 _ _ _ gb.2.2 hu hv e2
 refine ⟨?_,e4⟩
 have e5:a.Name=b.Name:=by rw[←txt_toList a.Name,←txt_toList b.Name,e1]
 cases a;cases b
 simp only at e5 e3
 rw[e3,e5]
theorem bindsR_inj {sg:ByteArray} {c0:UInt8} {sr:List UInt8} (hs:sg.data.toList=c0::sr) (h0:alnum c0=false) {x:UInt8} (hx:alnum x=false) (h32:x≠32) (h44:x≠44): ∀ (l m:List GBind) (u v:List UInt8),(∀ b∈l,GoodB b)→(∀ b∈m,GoodB b)→
  joinR [44,32] (l.map (bindT sg))++x::u=joinR [44,32] (m.map (bindT sg))++x::v→l=m∧u=v
 |[],[],u,v,_,_,h=>⟨rfl,by simpa [joinR] using h⟩
 |[],b::m,u,v,_,_,h=>by simp[joinR] at h;exact absurd h.1 h44
 |a::l,[],u,v,_,_,h=>by simp[joinR] at h;exact absurd h.1.symm h44
 |a::l,b::m,u,v,gl,gm,h=>by
  have so: ∀ (ts:List ByteArray) (w:List UInt8),outS (joinR [44,32] ts++x::w):=fun ts w=>by
   cases ts with
   |nil=>exact ⟨hx,fun h=>h32 h.1⟩
   |cons t r=>exact ⟨by decide,fun h=>absurd h.1 (by decide)⟩
  simp only[List.map_cons,joinR,List.append_assoc,List.cons_append,List.nil_append,List.cons.injEq,true_and] at h
  obtain ⟨e1,e2⟩:=bind_inj hs h0 (gl a (by simp)) (gm b (by simp)) (so _ _) (so _ _) h
  obtain ⟨e3,e4⟩:=bindsR_inj hs h0 hx h32 h44 l m u v (fun y hy=>gl y (by simp[hy])) (fun y hy=>gm y (by simp[hy])) e2
  exact ⟨by rw[e1,e3],e4⟩
theorem bindsL_inj {sg:ByteArray} {c0:UInt8} {sr:List UInt8} (hs:sg.data.toList=c0::sr) (h0:alnum c0=false) {x:UInt8} (hx:alnum x=false) (h32:x≠32) (h44:x≠44) (l m:List GBind) (u v:List UInt8) (gl: ∀ b∈l,GoodB b) (gm: ∀ b∈m,GoodB b)
  (h:(bindsT l sg).data.toList++x::u=(bindsT m sg).data.toList++x::v):l=m∧u=v:=by
 unfold bindsT at h
 rw[txt_data,txt_data] at h
 have no1: ∀ (b:GBind) (t w w':List UInt8),GoodB b→x::w≠(bindT sg b).data.toList++t++w':=fun b t w w' g e=>by
  rw[List.append_assoc,bind_l _ _ g.2.2] at e
  obtain ⟨g1,⟨c,r,g2⟩,_⟩:=g
  rw[g2] at e
  simp only[List.cons_append,List.cons.injEq] at e
  have:=g1 c (by simp[g2])
  rw[←e.1,hx] at this;exact absurd this (by decide)
 match l,m,gl,gm,h with
 |[],[],_,_,h=>exact ⟨rfl,by simpa [joinL] using h⟩
 |[],b::m,_,gm,h=>exact absurd h (no1 b _ _ _ (gm b (by simp)))
 |a::l,[],gl,_,h=>exact absurd h.symm (no1 a _ _ _ (gl a (by simp)))
 |a::l,b::m,gl,gm,h=>
  have h2:joinR [44,32] ((a::l).map (bindT sg))++x::u=joinR [44,32] ((b::m).map (bindT sg))++x::v:=by
   simp only[List.map_cons,joinR,joinL,List.append_assoc] at h ⊢
   rw[h]
  exact bindsR_inj hs h0 hx h32 h44 (a::l) (b::m) u v gl gm h2
theorem names_good {p:ByteArray→Bool}: ∀ {l:List GBind} {seen:List ByteArray},namesOk p seen l=true→ ∀ b∈l,p b.Name=true
 |[],_,_,b,h=>absurd h (by simp)
 |a::l,seen,h,b,hb=>by
  simp only[namesOk,Bool.and_eq_true] at h
  rcases List.mem_cons.1 hb with e|hb
  ·subst e;exact h.1.1
  ·exact names_good h.2 b hb
theorem sig_good {s:GSig} (h:sigOk s=true):fineS s.Name=true∧rightT s.Result=true∧(∀ b∈s.Binders,GoodB b)∧(∀ b∈s.Params,GoodB b):=by
 unfold sigOk at h
 simp only[Bool.and_eq_true] at h
 obtain ⟨h1,_,_,h2,h3,h4⟩:=h
 have ty: ∀ t∈sigT s,rightT t=true:=fun t ht=>by
  unfold typesOk at h2
  rw[List.all_eq_true] at h2
  have:=h2 t ht
  simp only[Bool.and_eq_true] at this;exact this.1
 refine ⟨h1,ty _ (by simp[sigT]),fun b hb=> ?_,fun b hb=> ?_⟩
 ·obtain ⟨a1,⟨c,r,a2,_⟩,_⟩:=var_al (names_good h3 b hb)
  exact ⟨a1,⟨c,r,a2⟩,ty _ (by simp[sigT];exact .inl ⟨b,hb,rfl⟩)⟩
 ·obtain ⟨a1,c,r,a2,_⟩:=fine_al (names_good h4 b hb)
  exact ⟨a1,⟨c,r,a2⟩,ty _ (by simp[sigT];exact .inr (.inl ⟨b,hb,rfl⟩))⟩
theorem sig_l {s:GSig} (h:rightT s.Result=true) (z:List UInt8):(sigS s).data.toList++z=[100,101,102,32]++(s.Name.data.toList++((bindersS s).data.toList++(40::((bindsT s.Params ⟨#[58,32]⟩).data.toList++(41::(58::32::(shL s.Result++z))))))):=by
 unfold sigS
 simp only[append_l,showT_l h]
 show [100,101,102,32]++s.Name.data.toList++(bindersS s).data.toList++[40]++(bindsT s.Params ⟨#[58,32]⟩).data.toList++[41,58,32]++shL s.Result++z=_
 simp
theorem binders_l (s:GSig):(bindersS s).data.toList=if s.Binders=[] then [] else 91::((bindsT s.Binders ⟨#[32,60,58,32]⟩).data.toList++[93]):=by
 unfold bindersS
 cases q:s.Binders with
 |nil=>rfl
 |cons b l=>
  rw[if_pos (by simp),if_neg (by simp)]
  simp only[append_l]
  rfl
theorem sig_inj {a b:GSig} (ha:sigOk a=true) (hb:sigOk b=true) {u v:List UInt8} (hu:outS u) (hv:outS v) (h:(sigS a).data.toList++u=(sigS b).data.toList++v):a=b∧u=v:=by
 obtain ⟨a1,a2,a3,a4⟩:=sig_good ha
 obtain ⟨b1,b2,b3,b4⟩:=sig_good hb
 rw[sig_l a2,sig_l b2] at h
 have h:=List.append_cancel_left h
 have oB: ∀ (s:GSig) (z:List UInt8),outA ((bindersS s).data.toList++(40::z)):=fun s z=>by
  rw[binders_l]
  split
  ·show alnum 40=false;decide
  ·show alnum 91=false;decide
 obtain ⟨e1,h⟩:=munch (fine_al a1).1 (fine_al b1).1 (oB _ _) (oB _ _) h
 rw[binders_l,binders_l] at h
 have e2:a.Binders=b.Binders∧40::((bindsT a.Params ⟨#[58,32]⟩).data.toList++(41::(58::32::(shL a.Result++u))))=40::((bindsT b.Params ⟨#[58,32]⟩).data.toList++(41::(58::32::(shL b.Result++v)))):=by
  by_cases qa:a.Binders=[]<;>by_cases qb:b.Binders=[]
  ·rw[if_pos qa,if_pos qb] at h;exact ⟨by rw[qa,qb],h⟩
  ·rw[if_pos qa,if_neg qb] at h;simp at h
  ·rw[if_neg qa,if_pos qb] at h;simp at h
  ·rw[if_neg qa,if_neg qb] at h
   simp only[List.cons_append,List.append_assoc,List.cons.injEq,true_and,List.nil_append] at h
   exact bindsL_inj (sg:=⟨#[32,60,58,32]⟩) (c0:=32) rfl (by decide) (x:=93) (by decide) (by decide) (by decide) _ _ _ _ a3 b3 h
 obtain ⟨e2,h⟩:=e2
 simp only[List.cons.injEq,true_and] at h
 obtain ⟨e3,h⟩:=bindsL_inj (sg:=⟨#[58,32]⟩) (c0:=58) rfl (by decide) (x:=41) (by decide) (by decide) (by decide) _ _ _ _ a4 b4 h
 simp only[List.cons.injEq,true_and] at h
 obtain ⟨e4,h⟩:=(one_both a.Result a2).1 _ _ _ b2 hu hv h
 refine ⟨?_,h⟩
 have e5:a.Name=b.Name:=by rw[←txt_toList a.Name,←txt_toList b.Name,e1]
 cases a;cases b
 simp only[GSig.Name,GSig.Binders,GSig.Params,GSig.Result] at e2 e3 e4 e5
 rw[e2,e3,e4,e5]
theorem def_inj {a b:GDef} (oa:OkDef a) (ob:OkDef b) (ha:defOk a=true) (hb:defOk b=true) (h:defS a=defS b):a=b:=by
 have s: ∀ d:GDef,(defS d).data.toList=(sigS d.Sig).data.toList++(32::61::32::eL d.Body):=fun d=>by
  unfold defS
  simp only[append_l]
  show (sigS d.Sig).data.toList++[32,61,32]++(showE d.Body).data.toList=_
  simp[eL]
 have h2:(defS a).data.toList=(defS b).data.toList:=by rw[h]
 rw[s,s] at h2
 have hs: ∀ d:GDef,defOk d=true→sigOk d.Sig=true∧rightE d.Body=true:=fun d hd=>by
  unfold defOk at hd;simp only[Bool.and_eq_true] at hd;exact ⟨hd.1,hd.2.1⟩
 have so: ∀ z:List UInt8,outS (32::61::32::z):=fun z=>⟨by decide,fun h=>absurd h.2 (by simp)⟩
 obtain ⟨e1,e2⟩:=sig_inj (hs a ha).1 (hs b hb).1 (so _) (so _) h2
 simp only[List.cons.injEq,true_and] at e2
 have e3:showE a.Body=showE b.Body:=by
  unfold eL at e2
  rw[←txt_toList (showE a.Body),←txt_toList (showE b.Body),e2]
 have e4:=show_inj oa.Body ob.Body (hs a ha).2 (hs b hb).2 e3
 cases a;cases b
 simp only[GDef.Sig,GDef.Body] at e1 e4
 rw[e1,e4]
end Go.PE
namespace Go.PE
open Go Go.RowKit Go.Proofs
set_option linter.unusedVariables false
set_option linter.unusedSimpArgs false
set_option maxRecDepth 100000
theorem sig_size (s:GSig):(sigS s).size≤20*bulkL (rSig s)+20:=by
 have b1:=bulk_sig s
 have h1:=binds_size ⟨#[32,60,58,32]⟩ (by decide) s.Binders
 have h2:=binds_size ⟨#[58,32]⟩ (by decide) s.Params
 have s3:=showT_bulk s.Result
 have e1:(bindsT s.Binders ⟨#[32,60,58,32]⟩).size=(joinL [44,32] (s.Binders.map (bindT ⟨#[32,60,58,32]⟩))).length:=by unfold bindsT;rw[txt_size]
 have e2:(bindsT s.Params ⟨#[58,32]⟩).size=(joinL [44,32] (s.Params.map (bindT ⟨#[58,32]⟩))).length:=by unfold bindsT;rw[txt_size]
 have e3:(bindersS s).size≤2+(bindsT s.Binders ⟨#[32,60,58,32]⟩).size:=by
  unfold bindersS
  split
  ·have L:=lits;(try simp only[app_size]);omega
  ·rw[lze];omega
 unfold sigS
 have L:=lits
 simp only[app_size]
 omega
section
variable {ot:TypeId} {oz:EP}
theorem def_z (d:GDef) (hr:rightE d.Body=true) (hb:bulkL (rDef d)≤1048576):(sigS d.Sig).size≤100000000∧(showE d.Body).size≤100000000∧bulkL (rSig d.Sig)≤1048576∧bulkL (rExp d.Body)≤1048576:=by
 have b1:=bulk_def3 d
 have h1:=sig_size d.Sig
 have h2:=show_bulk d.Body hr
 omega
theorem defOk_right {d:GDef} (h:defOk d=true):rightE d.Body=true:=by
 unfold defOk at h;simp only[Bool.and_eq_true] at h;exact h.2.1
theorem defP (d:GDef) (ok:OkDef d) (hb:bulkL (rDef d)≤1048576) (S:St):cal (env ot oz) 13 [.agg (rDef d)] S=some (.str (if defOk d then defS d else ⟨#[]⟩),S):=by
 have r:=expDefP (ot:=ot) (oz:=oz) d ok hb
 cases q:defOk d with
 |true=>
  obtain ⟨s1,s2,b1,b2⟩:=def_z d (defOk_right q) hb
  have c1:=sigP (ot:=ot) (oz:=oz) d.Sig ok.Sig b1
  have c2:=shownP (ot:=ot) (oz:=oz) d.Body ok.Body (defOk_right q) b2
  unfold defS
  have z1:=addS (a:=sigS d.Sig) (b:=⟨#[32,61,32]⟩) (by have L:=lits;(try simp only[app_size]);omega)
  have z2:=addS (a:=sigS d.Sig++⟨#[32,61,32]⟩) (b:=showE d.Body) (by have L:=lits;(try simp only[app_size]);omega)
  (rw[w_plain (fn:=c13) rfl rfl (by simp only[go_sem,r,q,c1,c2,↓z1,↓z2]) rfl (by decide)];simp only[c13,c13_b,go_sem,r,q,c1,c2,↓z1,↓z2];repeat' ((first|rw[guardO_t]|rw[guardO_f]|rw[cw_bool]);split<;>rename_i h<;>(try rw[Bool.not_eq_true] at h)<;>(try simp only[go_sem,r,q,c1,c2,↓z1,↓z2, *])))
 |false=>(rw[w_plain (fn:=c13) rfl rfl (by simp only[go_sem,r,q]) rfl (by decide)];simp only[c13,c13_b,go_sem,r,q];repeat' ((first|rw[guardO_t]|rw[guardO_f]|rw[cw_bool]);split<;>rename_i h<;>(try rw[Bool.not_eq_true] at h)<;>(try simp only[go_sem,r,q, *])))
end
end Go.PE
namespace Go.PE
open Go Go.RowKit Go.Proofs
set_option linter.unusedVariables false
set_option linter.unusedSimpArgs false
set_option maxRecDepth 100000
section
variable {ot:TypeId} {oz:EP}
set_option maxHeartbeats 4000000 in
theorem expfmtOne (a b:GDef) (x y:GExp) (oa:OkDef a) (ob:OkDef b) (ox:OkExp x) (oy:OkExp y) (ha:bulkL (rDef a)≤1048576) (hb:bulkL (rDef b)≤1048576) (hx:bulkL (rExp x)≤1048576) (hy:bulkL (rExp y)≤1048576):Ev (env ot oz) 5 [.agg (rDef a),.agg (rDef b),.agg (rExp x),.agg (rExp y)] .none (.bool true) .none:=by
 refine cal_ev ?_
 have aw:=aw15 (ot:=ot) (oz:=oz)
 obtain ⟨m1,s1⟩:=allE_n (ot:=ot) (oz:=oz) a oa
 obtain ⟨m2,s2⟩:=allE_n (ot:=ot) (oz:=oz) b ob
 obtain ⟨m3,s3⟩:=muchE_n (ot:=ot) (oz:=oz) x ox
 obtain ⟨m4,s4⟩:=muchE_n (ot:=ot) (oz:=oz) y oy
 have b1:=defNodes_bulk1 a
 have b2:=defNodes_bulk1 b
 have d1:=def14 (ot:=ot) (oz:=oz) a oa (by omega)
 have d2:=def14 (ot:=ot) (oz:=oz) b ob (by omega)
 have d3:=right14 (ot:=ot) (oz:=oz) x ox
 have d4:=right14 (ot:=ot) (oz:=oz) y oy
 have k1:=defP (ot:=ot) (oz:=oz) a oa ha
 have k2:=defP (ot:=ot) (oz:=oz) b ob hb
 have k3:=showP (ot:=ot) (oz:=oz) x ox hx
 have k4:=showP (ot:=ot) (oz:=oz) y oy hy
 have e1:=sameDef14 (ot:=ot) (oz:=oz) a b oa ob
 have e2:=same14 (ot:=ot) (oz:=oz) x ox y oy
 have l1:defOk a=true→defOk b=true→strEq (defS a) (defS b)=sameDef a b:=fun h1 h2=>by
  apply Bool.eq_iff_iff.2
  rw[strEq_iff,sameDef_iff]
  exact ⟨def_inj oa ob h1 h2,fun h=>by rw[h]⟩
 have l2:rightE x=true→rightE y=true→strEq (showE x) (showE y)=sameE x y:=fun h1 h2=>by
  apply Bool.eq_iff_iff.2
  rw[strEq_iff,sameE_iff]
  exact ⟨show_inj ox oy h1 h2,fun h=>by rw[h]⟩
 generalize defS a=ta at*
 generalize defS b=tb at*
 generalize showE x=tx at*
 generalize showE y=ty at*
 generalize sameDef a b=sd at*
 generalize sameE x y=se at*
 generalize defOk a=qa at*
 generalize defOk b=qb at*
 generalize rightE x=qx at*
 generalize rightE y=qy at*
 have ne: ∀ b:Bool,(b !=b)=false:=fun b=>by cases b<;>rfl
 cases q1:decide ((600:Int)<m1) with
 |true=>(rw[w_plain (fn:=c5) rfl rfl (by simp only[go_sem,s1,q1,aw]) rfl (by decide)];simp only[c5,c5_b,c5_r1,c5_r3,c5_r5,go_sem,s1,q1,aw];repeat' ((first|rw[guardO_t]|rw[guardO_f]|rw[cw_bool]);split<;>rename_i h<;>(try rw[Bool.not_eq_true] at h)<;>(try simp only[go_sem,c5_r1,c5_r3,c5_r5,s1,q1,aw, *])))
 |false=>
  cases q2:decide ((600:Int)<m2) with
  |true=>(rw[w_plain (fn:=c5) rfl rfl (by simp only[go_sem,s1,q1,s2,q2,aw]) rfl (by decide)];simp only[c5,c5_b,c5_r1,c5_r3,c5_r5,go_sem,s1,q1,s2,q2,aw];repeat' ((first|rw[guardO_t]|rw[guardO_f]|rw[cw_bool]);split<;>rename_i h<;>(try rw[Bool.not_eq_true] at h)<;>(try simp only[go_sem,c5_r1,c5_r3,c5_r5,s1,q1,s2,q2,aw, *])))
  |false=>
   cases q3:decide ((600:Int)<m3) with
   |true=>(rw[w_plain (fn:=c5) rfl rfl (by simp only[go_sem,s1,q1,s2,q2,s3,q3,aw]) rfl (by decide)];simp only[c5,c5_b,c5_r1,c5_r3,c5_r5,go_sem,s1,q1,s2,q2,s3,q3,aw];repeat' ((first|rw[guardO_t]|rw[guardO_f]|rw[cw_bool]);split<;>rename_i h<;>(try rw[Bool.not_eq_true] at h)<;>(try simp only[go_sem,c5_r1,c5_r3,c5_r5,s1,q1,s2,q2,s3,q3,aw, *])))
   |false=>
    cases q4:decide ((600:Int)<m4) with
    |true=>(rw[w_plain (fn:=c5) rfl rfl (by simp only[go_sem,s1,q1,s2,q2,s3,q3,s4,q4,aw]) rfl (by decide)];simp only[c5,c5_b,c5_r1,c5_r3,c5_r5,go_sem,s1,q1,s2,q2,s3,q3,s4,q4,aw];repeat' ((first|rw[guardO_t]|rw[guardO_f]|rw[cw_bool]);split<;>rename_i h<;>(try rw[Bool.not_eq_true] at h)<;>(try simp only[go_sem,c5_r1,c5_r3,c5_r5,s1,q1,s2,q2,s3,q3,s4,q4,aw, *])))
    |false=>
     cases qa<;>cases qb<;>cases qx<;>cases qy<;>(try have l1:=l1 rfl rfl)<;>(try have l2:=l2 rfl rfl)<;>simp only[if_true,if_false,Bool.false_eq_true] at k1 k2 k3 k4<;>
      (rw[w_plain (fn:=c5) rfl rfl (by simp only[go_sem,s1,q1,s2,q2,s3,q3,s4,q4,d1,d2,d3,d4,k1,k2,k3,k4,e1,e2,l1,l2,ne,aw]) rfl (by decide)];simp only[c5,c5_b,c5_r1,c5_r3,c5_r5,go_sem,s1,q1,s2,q2,s3,q3,s4,q4,d1,d2,d3,d4,k1,k2,k3,k4,e1,e2,l1,l2,ne,aw];repeat' ((first|rw[guardO_t]|rw[guardO_f]|rw[cw_bool]);split<;>rename_i h<;>(try rw[Bool.not_eq_true] at h)<;>(try simp only[go_sem,c5_r1,c5_r3,c5_r5,s1,q1,s2,q2,s3,q3,s4,q4,d1,d2,d3,d4,k1,k2,k3,k4,e1,e2,l1,l2,ne,aw, *])))
end
end Go.PE
