/-
  Types as texts, by the program. Conditions: each law's own (texts of at most 2^46 bytes).
-/
import Derived.Test.YtleggogbmklddaaGreatDoorR3Q
import Derived.Test.YtleggogbmklddaaGreatDoorTP
namespace Go.PE
open Go Go.RowKit Go.Proofs
set_option linter.unusedVariables false
set_option linter.unusedSimpArgs false
set_option maxRecDepth 100000
section
variable {ot:TypeId} {oz:EP}
theorem joined_l0Ty (l:List GTy) (ts:List ByteArray) (hl:Short l.length) (ht:ts.length=l.length) (f:FuncId) (first caps:List PV) (hc: ∀ n d,sealL n d caps=some caps) (hf: ∀ n d,sealL n d first=some first) (B:Nat) (hB:B≤70368744177664)
  (hp: ∀ (i:Nat) a t,l[i]?=some a→ts[i]?=some t→ ∀ S,cal (env ot oz) f (first++[.int .i64 (i:Int),.agg (rTy a)]++caps) S=some (.str t,S)) (S:St): ∀ (rest:List GTy) (i:Nat) (bs:List UInt8) (os:List Ob),l.drop (i+1)=rest→bs.length+(joinR [44,32] (ts.drop (i+1))).length≤B→ ∃ os',∀ (fin:Kont (PV×St)) (st:List Fw),
  run (env ot oz) fin st c109_l0 [(1,some (.fn f first caps)),(5,some (.ref S.obs.length 0)),(8,some (.sl .ro (l.map rTy))),(9,some (.int .i64 (l.length:Int))),(10,some (.int .i64 ((i+1:Nat):Int)))] (BX S bs os)=
   aft (env ot oz) fin st (.exit 0) [(1,some (.fn f first caps)),(5,some (.ref S.obs.length 0)),(8,some (.sl .ro (l.map rTy))),(9,some (.int .i64 (l.length:Int))),(10,some (.int .i64 ((i+1+rest.length:Nat):Int))),(11,some (.bool false))] (BX S (bs++joinR [44,32] (ts.drop (i+1))) os')
 |[],i,bs,os,h,hb=>by
  have hlt:=lt_no (drop_nil h)
  have ht0:ts.drop (i+1)=[]:=List.drop_eq_nil_of_le (by rw[ht];exact drop_nil h)
  refine ⟨os,fun fin st=> ?_⟩
  rw[ht0]
  simp only[joinR,List.append_nil]
  (rw[c109_l0_w];simp only[c109_l0_b,c109_l0_a,go_sem,hlt])
 |a::r,i,bs,os,h,hb=>by
  obtain ⟨h1,h2,h3⟩:=drop_cons h
  unfold Short maxLen at hl
  have e:i+1+(a::r).length=i+1+1+r.length:=by simp only[List.length_cons];omega
  have w:=wrap_succ (i:=i+1) (n:=l.length) h3 (by omega)
  have hlt:((i+1:Nat):Int)<(l.length:Int):=by omega
  have hz:(0:Int)<((i+1:Nat):Int):=by omega
  obtain ⟨t,ht1⟩: ∃ t,ts[i+1]?=some t:=⟨_,List.getElem?_eq_getElem (by omega)⟩
  have htd:ts.drop (i+1)=t::ts.drop (i+1+1):=by
   rw[List.drop_eq_getElem_cons (by omega)]
   congr 1
   rw[List.getElem?_eq_getElem (by omega)] at ht1;exact Option.some.inj ht1
  rw[htd] at hb ⊢
  simp only[joinR,List.length_append,List.length_cons,List.length_nil] at hb
  have hs:=size_data t
  have c1:=fun os=>ws_w (ot:=ot) (oz:=oz) S bs os ⟨#[44,32]⟩ (by show _+2≤_;omega)
  have c2:=fun os=>ws_w (ot:=ot) (oz:=oz) S (bs++[44,32]) os t (by simp;omega)
  have ca:=hp (i+1) a t h1 ht1
  simp only[List.append_assoc,List.cons_append,List.nil_append] at ca
  obtain ⟨os',ih⟩:=joined_l0Ty l ts (by unfold Short maxLen;omega) ht f first caps hc hf B hB hp S r (i+1) (bs++[44,32]++t.data.toList) (os++[.cells 34 (rTy a)]) h2 (by simp;omega)
  refine ⟨os',fun fin st=> ?_⟩
  have ih:=ih fin st
  simp only[joinR]
  rw[e]
  simp only[List.append_assoc,List.cons_append,List.nil_append] at ih c1 c2 ⊢
  have bl:=bx_len S
  have ba:=bx_app S
  have bg:=bx_get S
  have be:=bx_set S
  (rw[c109_l0_w];simp only[c109_l0_b,c109_l0_a,go_sem,hlt,h1,w,hz,ih,c1,c2,ca,bl,ba,bg,be])
theorem joined_firstTy (l:List GTy) (ts:List ByteArray) (hl:Short l.length) (ht:ts.length=l.length) (f:FuncId) (first caps:List PV) (hc: ∀ n d,sealL n d caps=some caps) (hf: ∀ n d,sealL n d first=some first)
  (hB:(joinL [44,32] ts).length≤70368744177664)
  (hp: ∀ (i:Nat) a t,l[i]?=some a→ts[i]?=some t→ ∀ S,cal (env ot oz) f (first++[.int .i64 (i:Int),.agg (rTy a)]++caps) S=some (.str t,S)) (S:St): ∃ S',close S S' (.str (txt (joinL [44,32] ts)))=(.str (txt (joinL [44,32] ts)),S)∧ ∀ (fin:Kont (PV×St)) (st:List Fw),∃ i:Int,∃ S1,
  run (env ot oz) fin st c109_l0 [(1,some (.fn f first caps)),(5,some (.ref S.obs.length 0)),(8,some (.sl .ro (l.map rTy))),(9,some (.int .i64 (l.length:Int))),(10,some (.int .i64 0))] (B0 S [])=
   aft (env ot oz) fin st (.exit 0) [(1,some (.fn f first caps)),(5,some (.ref S.obs.length 0)),(8,some (.sl .ro (l.map rTy))),(9,some (.int .i64 (l.length:Int))),(10,some (.int .i64 i)),(11,some (.bool false))] S1∧
   cal (env ot oz) 105 [.ref S.obs.length 0] S1=some (.str (txt (joinL [44,32] ts)),S'):=by
 cases l with
 |nil=>
  have:ts=[]:=List.eq_nil_of_length_eq_zero ht
  subst this
  refine ⟨B0 S [],closeB0 S [] (plain_str _),fun fin st=>⟨0,B0 S [], ?_,str0_w S []⟩⟩
  (rw[c109_l0_w];simp only[c109_l0_b,c109_l0_a,go_sem])
 |cons a r=>
  match ts,ht with
  |t::tr,ht=>
  have hs:=size_data t
  simp only[joinL,List.length_append] at hB
  have ca:=hp 0 a t rfl rfl
  simp only[List.append_assoc,List.cons_append,List.nil_append,Int.cast_ofNat_Int] at ca
  have c2:=fun os=>ws0_w (ot:=ot) (oz:=oz) S os t (by omega)
  have bl:=b0_len S []
  have ba:=b0_app S []
  have bg:=b0_get S []
  have be:=b0_set S []
  simp only[List.nil_append,List.length_nil,Nat.add_zero] at bl ba bg be
  have hl1:(0:Int)<((r.length+1:Nat):Int):=by omega
  have key: ∃ os',∀ (fin:Kont (PV×St)) (st:List Fw),run (env ot oz) fin st c109_l0 [(1,some (.fn f first caps)),(5,some (.ref S.obs.length 0)),(8,some (.sl .ro ((a::r).map rTy))),(9,some (.int .i64 ((a::r).length:Int))),(10,some (.int .i64 0))] (B0 S [])=
   aft (env ot oz) fin st (.exit 0) [(1,some (.fn f first caps)),(5,some (.ref S.obs.length 0)),(8,some (.sl .ro ((a::r).map rTy))),(9,some (.int .i64 ((a::r).length:Int))),(10,some (.int .i64 ((0+1+r.length:Nat):Int))),(11,some (.bool false))] (BX S (joinL [44,32] (t::tr)) os'):=by
   obtain ⟨os',ih⟩:=joined_l0Ty (ot:=ot) (oz:=oz) (a::r) (t::tr) hl ht f first caps hc hf 70368744177664 (by omega) hp S r 0 t.data.toList ([]++[.cells 34 (rTy a)]) rfl (by simpa using hB)
   refine ⟨os',fun fin st=> ?_⟩
   have ih:=ih fin st
   have e:(t::tr).drop (0+1)=tr:=rfl
   rw[e] at ih
   simp only[joinL]
   simp only[List.map_cons,List.length_cons,List.nil_append,List.cons_append,Nat.zero_add,cast_1] at ih ca bg be ba ⊢
   (rw[c109_l0_w];simp only[c109_l0_b,c109_l0_a,go_sem,hl1,ih,c2,ca,bl,ba,bg,be])
  obtain ⟨os',key⟩:=key
  refine ⟨BZ S (joinL [44,32] (t::tr)) os',closeBZ S _ os' (plain_str _),fun fin st=>⟨_,_,key fin st,strX_w S _ os' (by simp only[joinL,List.length_append];omega)⟩⟩
theorem joined_eqTy (l:List GTy) (ts:List ByteArray) (hl:Short l.length) (ht:ts.length=l.length) (f:FuncId) (first caps:List PV) (hc: ∀ n d,sealL n d caps=some caps) (hf: ∀ n d,sealL n d first=some first)
  (hB:(joinL [44,32] ts).length≤70368744177664)
  (hp: ∀ (i:Nat) a t,l[i]?=some a→ts[i]?=some t→ ∀ S,cal (env ot oz) f (first++[.int .i64 (i:Int),.agg (rTy a)]++caps) S=some (.str t,S)) (S:St):cal (env ot oz) 109 [.sl .ro (l.map rTy),.fn f first caps] S=some (.str (txt (joinL [44,32] ts)),S):=by
 obtain ⟨S',hcl,h⟩:=joined_firstTy (ot:=ot) (oz:=oz) l ts hl ht f first caps hc hf hB hp S
 obtain ⟨i,S1,h,hstr⟩:=h (endF S c109.res) [.block 0,.seq (.seq (.reg 9 [⟨some 24,.call (.con (.fn 105 [] [])) [(.tmp 5)],none,Q0⟩,⟨some 4,.mv (.tmp 24),none,Q0⟩] false (some [4])) .ret)]
 have b0:=b0_start S
 simp only[c109] at h
 (rw[w_plain (fn:=c109) rfl rfl (by simp only[go_sem,hc,hf,b0,h,hstr,hcl]) rfl (by decide)];simp only[c109,c109_b,go_sem,hc,hf,b0,h,hstr,hcl])
theorem joined_l0Bind (l:List GBind) (ts:List ByteArray) (hl:Short l.length) (ht:ts.length=l.length) (f:FuncId) (first caps:List PV) (hc: ∀ n d,sealL n d caps=some caps) (hf: ∀ n d,sealL n d first=some first) (B:Nat) (hB:B≤70368744177664)
  (hp: ∀ (i:Nat) a t,l[i]?=some a→ts[i]?=some t→ ∀ S,cal (env ot oz) f (first++[.int .i64 (i:Int),.agg (rBind a)]++caps) S=some (.str t,S)) (S:St): ∀ (rest:List GBind) (i:Nat) (bs:List UInt8) (os:List Ob),l.drop (i+1)=rest→bs.length+(joinR [44,32] (ts.drop (i+1))).length≤B→ ∃ os',∀ (fin:Kont (PV×St)) (st:List Fw),
  run (env ot oz) fin st c63_l0 [(1,some (.fn f first caps)),(5,some (.ref S.obs.length 0)),(8,some (.sl .ro (l.map rBind))),(9,some (.int .i64 (l.length:Int))),(10,some (.int .i64 ((i+1:Nat):Int)))] (BX S bs os)=
   aft (env ot oz) fin st (.exit 0) [(1,some (.fn f first caps)),(5,some (.ref S.obs.length 0)),(8,some (.sl .ro (l.map rBind))),(9,some (.int .i64 (l.length:Int))),(10,some (.int .i64 ((i+1+rest.length:Nat):Int))),(11,some (.bool false))] (BX S (bs++joinR [44,32] (ts.drop (i+1))) os')
 |[],i,bs,os,h,hb=>by
  have hlt:=lt_no (drop_nil h)
  have ht0:ts.drop (i+1)=[]:=List.drop_eq_nil_of_le (by rw[ht];exact drop_nil h)
  refine ⟨os,fun fin st=> ?_⟩
  rw[ht0]
  simp only[joinR,List.append_nil]
  (rw[c63_l0_w];simp only[c63_l0_b,c63_l0_a,go_sem,hlt])
 |a::r,i,bs,os,h,hb=>by
  obtain ⟨h1,h2,h3⟩:=drop_cons h
  unfold Short maxLen at hl
  have e:i+1+(a::r).length=i+1+1+r.length:=by simp only[List.length_cons];omega
  have w:=wrap_succ (i:=i+1) (n:=l.length) h3 (by omega)
  have hlt:((i+1:Nat):Int)<(l.length:Int):=by omega
  have hz:(0:Int)<((i+1:Nat):Int):=by omega
  obtain ⟨t,ht1⟩: ∃ t,ts[i+1]?=some t:=⟨_,List.getElem?_eq_getElem (by omega)⟩
  have htd:ts.drop (i+1)=t::ts.drop (i+1+1):=by
   rw[List.drop_eq_getElem_cons (by omega)]
   congr 1
   rw[List.getElem?_eq_getElem (by omega)] at ht1;exact Option.some.inj ht1
  rw[htd] at hb ⊢
  simp only[joinR,List.length_append,List.length_cons,List.length_nil] at hb
  have hs:=size_data t
  have c1:=fun os=>ws_w (ot:=ot) (oz:=oz) S bs os ⟨#[44,32]⟩ (by show _+2≤_;omega)
  have c2:=fun os=>ws_w (ot:=ot) (oz:=oz) S (bs++[44,32]) os t (by simp;omega)
  have ca:=hp (i+1) a t h1 ht1
  simp only[List.append_assoc,List.cons_append,List.nil_append] at ca
  obtain ⟨os',ih⟩:=joined_l0Bind l ts (by unfold Short maxLen;omega) ht f first caps hc hf B hB hp S r (i+1) (bs++[44,32]++t.data.toList) (os++[.cells 66 (rBind a)]) h2 (by simp;omega)
  refine ⟨os',fun fin st=> ?_⟩
  have ih:=ih fin st
  simp only[joinR]
  rw[e]
  simp only[List.append_assoc,List.cons_append,List.nil_append] at ih c1 c2 ⊢
  have bl:=bx_len S
  have ba:=bx_app S
  have bg:=bx_get S
  have be:=bx_set S
  (rw[c63_l0_w];simp only[c63_l0_b,c63_l0_a,go_sem,hlt,h1,w,hz,ih,c1,c2,ca,bl,ba,bg,be])
theorem joined_firstBind (l:List GBind) (ts:List ByteArray) (hl:Short l.length) (ht:ts.length=l.length) (f:FuncId) (first caps:List PV) (hc: ∀ n d,sealL n d caps=some caps) (hf: ∀ n d,sealL n d first=some first)
  (hB:(joinL [44,32] ts).length≤70368744177664)
  (hp: ∀ (i:Nat) a t,l[i]?=some a→ts[i]?=some t→ ∀ S,cal (env ot oz) f (first++[.int .i64 (i:Int),.agg (rBind a)]++caps) S=some (.str t,S)) (S:St): ∃ S',close S S' (.str (txt (joinL [44,32] ts)))=(.str (txt (joinL [44,32] ts)),S)∧ ∀ (fin:Kont (PV×St)) (st:List Fw),∃ i:Int,∃ S1,
  run (env ot oz) fin st c63_l0 [(1,some (.fn f first caps)),(5,some (.ref S.obs.length 0)),(8,some (.sl .ro (l.map rBind))),(9,some (.int .i64 (l.length:Int))),(10,some (.int .i64 0))] (B0 S [])=
   aft (env ot oz) fin st (.exit 0) [(1,some (.fn f first caps)),(5,some (.ref S.obs.length 0)),(8,some (.sl .ro (l.map rBind))),(9,some (.int .i64 (l.length:Int))),(10,some (.int .i64 i)),(11,some (.bool false))] S1∧
   cal (env ot oz) 105 [.ref S.obs.length 0] S1=some (.str (txt (joinL [44,32] ts)),S'):=by
 cases l with
 |nil=>
  have:ts=[]:=List.eq_nil_of_length_eq_zero ht
  subst this
  refine ⟨B0 S [],closeB0 S [] (plain_str _),fun fin st=>⟨0,B0 S [], ?_,str0_w S []⟩⟩
  (rw[c63_l0_w];simp only[c63_l0_b,c63_l0_a,go_sem])
 |cons a r=>
  match ts,ht with
  |t::tr,ht=>
  have hs:=size_data t
  simp only[joinL,List.length_append] at hB
  have ca:=hp 0 a t rfl rfl
  simp only[List.append_assoc,List.cons_append,List.nil_append,Int.cast_ofNat_Int] at ca
  have c2:=fun os=>ws0_w (ot:=ot) (oz:=oz) S os t (by omega)
  have bl:=b0_len S []
  have ba:=b0_app S []
  have bg:=b0_get S []
  have be:=b0_set S []
  simp only[List.nil_append,List.length_nil,Nat.add_zero] at bl ba bg be
  have hl1:(0:Int)<((r.length+1:Nat):Int):=by omega
  have key: ∃ os',∀ (fin:Kont (PV×St)) (st:List Fw),run (env ot oz) fin st c63_l0 [(1,some (.fn f first caps)),(5,some (.ref S.obs.length 0)),(8,some (.sl .ro ((a::r).map rBind))),(9,some (.int .i64 ((a::r).length:Int))),(10,some (.int .i64 0))] (B0 S [])=
   aft (env ot oz) fin st (.exit 0) [(1,some (.fn f first caps)),(5,some (.ref S.obs.length 0)),(8,some (.sl .ro ((a::r).map rBind))),(9,some (.int .i64 ((a::r).length:Int))),(10,some (.int .i64 ((0+1+r.length:Nat):Int))),(11,some (.bool false))] (BX S (joinL [44,32] (t::tr)) os'):=by
   obtain ⟨os',ih⟩:=joined_l0Bind (ot:=ot) (oz:=oz) (a::r) (t::tr) hl ht f first caps hc hf 70368744177664 (by omega) hp S r 0 t.data.toList ([]++[.cells 66 (rBind a)]) rfl (by simpa using hB)
   refine ⟨os',fun fin st=> ?_⟩
   have ih:=ih fin st
   have e:(t::tr).drop (0+1)=tr:=rfl
   rw[e] at ih
   simp only[joinL]
   simp only[List.map_cons,List.length_cons,List.nil_append,List.cons_append,Nat.zero_add,cast_1] at ih ca bg be ba ⊢
   (rw[c63_l0_w];simp only[c63_l0_b,c63_l0_a,go_sem,hl1,ih,c2,ca,bl,ba,bg,be])
  obtain ⟨os',key⟩:=key
  refine ⟨BZ S (joinL [44,32] (t::tr)) os',closeBZ S _ os' (plain_str _),fun fin st=>⟨_,_,key fin st,strX_w S _ os' (by simp only[joinL,List.length_append];omega)⟩⟩
theorem joined_eqBind (l:List GBind) (ts:List ByteArray) (hl:Short l.length) (ht:ts.length=l.length) (f:FuncId) (first caps:List PV) (hc: ∀ n d,sealL n d caps=some caps) (hf: ∀ n d,sealL n d first=some first)
  (hB:(joinL [44,32] ts).length≤70368744177664)
  (hp: ∀ (i:Nat) a t,l[i]?=some a→ts[i]?=some t→ ∀ S,cal (env ot oz) f (first++[.int .i64 (i:Int),.agg (rBind a)]++caps) S=some (.str t,S)) (S:St):cal (env ot oz) 63 [.sl .ro (l.map rBind),.fn f first caps] S=some (.str (txt (joinL [44,32] ts)),S):=by
 obtain ⟨S',hcl,h⟩:=joined_firstBind (ot:=ot) (oz:=oz) l ts hl ht f first caps hc hf hB hp S
 obtain ⟨i,S1,h,hstr⟩:=h (endF S c63.res) [.block 0,.seq (.seq (.reg 9 [⟨some 24,.call (.con (.fn 105 [] [])) [(.tmp 5)],none,Q0⟩,⟨some 4,.mv (.tmp 24),none,Q0⟩] false (some [4])) .ret)]
 have b0:=b0_start S
 simp only[c63] at h
 (rw[w_plain (fn:=c63) rfl rfl (by simp only[go_sem,hc,hf,b0,h,hstr,hcl]) rfl (by decide)];simp only[c63,c63_b,go_sem,hc,hf,b0,h,hstr,hcl])
end
end Go.PE
