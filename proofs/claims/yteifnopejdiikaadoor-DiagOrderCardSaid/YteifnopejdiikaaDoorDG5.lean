/-
  All diagnoses, in order, each once: by the program. Conditions: each law's own.
-/
import Derived.Test.YteifnopejdiikaaDoorDG4
namespace Go.PE
open Go Go.RowKit Go.Proofs
set_option linter.unusedVariables false
set_option linter.unusedSimpArgs false
set_option maxRecDepth 100000
def MRowD (T:St) (t:TypeId) (n0:Nat) (v:PV) (xs:List GDiag):Prop:=(xs=[]∧v= .sl .null [])∨(xs≠[]∧ ∃ k,v= .msl (n0+k) 0 xs.length 3∧T.obs[n0+k]?=some (.row t (xs.flatMap rDiag)))
theorem mrowD_app (S:St) (os:List Ob) (t:TypeId) (v:PV) (out:List GDiag) (s:GDiag) (h:MRowD ⟨S.obs++os,S.own⟩ t S.obs.length v out) (hb:out.length≤1000000000):
  ∃ os',appM ⟨S.obs++os,S.own⟩ t 3 32 v [rDiag s]=some (.msl (S.obs.length+os.length) 0 (out++[s]).length 3,⟨S.obs++os',S.own⟩)∧MRowD ⟨S.obs++os',S.own⟩ t S.obs.length (.msl (S.obs.length+os.length) 0 (out++[s]).length 3) (out++[s]):=by
 rcases h with ⟨rfl,rfl⟩|⟨hn,k,rfl,hk⟩
 ·refine ⟨os++[.row t (rDiag s)], ?_,.inr ⟨by simp,os.length,rfl, ?_⟩⟩
  ·simp[appM,headOk,rDiag_len]
  ·simp
 ·have hk2:k<os.length:=by have:=getElem?_lt hk;simp at this;exact this
  refine ⟨os.set k .dead++[.row t ((out++[s]).flatMap rDiag)], ?_,.inr ⟨by simp,os.length,rfl, ?_⟩⟩
  ·have h0:0<out.length:=by cases out;exact absurd rfl hn;simp
   have h1:(out.length+1)*32≤140737488355328:=by omega
   have h2:out.length+1≤9223372036854775807:=by omega
   have h3:=dflat_len out
   simp[appM,headOk,hk,h0,h1,h2,rDiag_len,h3,app_set]
  ·simp only[app_get]
   have hl:(os.set k .dead).length=os.length:=by simp
   rw[List.getElem?_append_right (by omega),hl];simp
theorem mrowD_more (S:St) (os:List Ob) (t:TypeId) (v:PV) (out:List GDiag) (x:Ob) (h:MRowD ⟨S.obs++os,S.own⟩ t S.obs.length v out):MRowD ⟨S.obs++(os++[x]),S.own⟩ t S.obs.length v out:=by
 rcases h with h|⟨hn,k,hv,hk⟩
 ·exact .inl h
 ·refine .inr ⟨hn,k,hv, ?_⟩
  simp only[app_get] at hk ⊢
  rw[List.getElem?_append_left (getElem?_lt hk)];exact hk
theorem cal_known {E:Env} {f:FuncId} {F:List PV→St→Option (PV×St)} {args args':List PV} {S:St} (h:E.known f=some F) (ha:askD args=some args'):cal E f args S=F args' S:=w_known h ha
def GrowD (w0 w:List Nat) (g:Tag) (xs:List GDiag):Prop:=g= .exact∨(g= .null∧xs=[])∨ ∃ k,g= .own (w0.length+k) 31∧w[k]?=some (xs.length*3)
theorem growD_app (O:List Ob) (w0 w:List Nat) (g:Tag) (xs ys:List GDiag) (h:GrowD w0 w g xs) (hl:xs.length+ys.length≤1000000000):
  ∃ g' w',appP ⟨O,w0++w⟩ 31 3 32 g (xs.map rDiag) (ys.map rDiag)=some (.sl g' ((xs++ys).map rDiag),⟨O,w0++w'⟩)∧GrowD w0 w' g' (xs++ys):=by
 by_cases hy:ys=[]
 ·subst hy;exact ⟨g,w,by simp[appP],by rw[List.append_nil];exact h⟩
 ·have hye:(ys.map rDiag).isEmpty=false:=by cases ys;exact absurd rfl hy;rfl
  have h1:(xs.map rDiag).length=xs.length:=by simp
  have h2:(ys.map rDiag).length=ys.length:=by simp
  have h3:(xs.length+ys.length)*32≤140737488355328∧xs.length+ys.length≤9223372036854775807:=by omega
  rcases h with rfl|⟨rfl,rfl⟩|⟨k,rfl,hk⟩
  ·refine ⟨.own (w0.length+w.length) 31,w++[(xs.length+ys.length)*3], ?_,.inr (.inr ⟨w.length,rfl,by simp⟩)⟩
   unfold appP
   rw[hye,h1,h2,rDiag_ok,rDiag_ok]
   simp only[h3,and_self,if_true,Bool.false_eq_true,if_false,List.map_append,List.length_append,List.append_assoc,Nat.zero_lt_succ,show (0<3)=True by simp]
  ·refine ⟨.own (w0.length+w.length) 31,w++[(([]:List GDiag).length+ys.length)*3], ?_,.inr (.inr ⟨w.length,rfl,by simp⟩)⟩
   unfold appP
   rw[hye,h1,h2,rDiag_ok,rDiag_ok]
   simp only[h3,and_self,if_true,Bool.false_eq_true,if_false,List.map_append,List.length_append,List.append_assoc,Nat.zero_lt_succ,show (0<3)=True by simp]
  ·refine ⟨.own (w0.length+k) 31,w.set k ((xs.length+ys.length)*3), ?_,.inr (.inr ⟨k,rfl, ?_⟩)⟩
   ·unfold appP
    rw[hye,h1,h2,rDiag_ok,rDiag_ok]
    have e1:(w0++w)[w0.length+k]?=some (xs.length*3):=by rw[List.getElem?_append_right (by omega)];simpa using hk
    have e2: ∀ x,(w0++w).set (w0.length+k) x=w0++w.set k x:=fun x=>by rw[List.set_append_right _ _ (by omega)];simp
    simp only[h3,and_self,if_true,Bool.false_eq_true,if_false,List.map_append,e1,e2,show (0<3)=True by simp]
   ·have:=getElem?_lt hk
    simp[this]
theorem growD_close (S:St) (os:List Ob) (w:List Nat) (g:Tag) (xs:List GDiag):close S ⟨S.obs++os,S.own++w⟩ (.sl g (xs.map rDiag))=(.sl .ro (xs.map rDiag),S):=by
 rw[close_junk]
 simp only[sealW,rDiag_sll,Option.map_some]
def allD (l:List GDiag):List GDiag:=(allO ahD l).take 20
section
variable {ot:TypeId} {oz:EP}
theorem sortD_w (T:St) (l:Nat) (xs:List GDiag) (t:TypeId) (hT:T.obs[l]?=some (.row t (xs.flatMap rDiag))) (hn:xs≠[]) (hs:xs.length≤1000000000):
  cal (env ot oz) 21 [.msl l 0 xs.length 3,.fn 22 [] []] T=some (.un,⟨T.obs.set l (.row t ((srtO ahD xs).flatMap rDiag)),T.own⟩):=by
 rw[cal_known (F:=sfF) rfl (args':=[.msl l 0 xs.length 3,.fn 22 [] []]) (by simp only[askD,sealL,sealW,Nat.not_lt_zero,if_false,and_self,if_true,Option.map_some,Option.bind_some])]
 have h0:0<xs.length:=by cases xs;exact absurd rfl hn;simp
 have h1:(22=22∧3=3∧0<xs.length∧xs.length<4611686018427387904):=⟨rfl,rfl,h0,by omega⟩
 have h2:0+xs.length*3≤(xs.flatMap rDiag).length:=by rw[dflat_len];omega
 have h3:((xs.flatMap rDiag).drop 0).take (xs.length*3)=xs.flatMap rDiag:=by
  rw[List.drop_zero];exact List.take_of_length_le (by rw[dflat_len];omega)
 have h4:setRow (xs.flatMap rDiag) 0 ((srtO ahD xs).flatMap rDiag)=(srtO ahD xs).flatMap rDiag:=setRow_all (by rw[dflat_len,dflat_len,srtO_len])
 simp only[sfF,h1,if_true,hT,h2,h3,dgsOf_map,h4]
 simp
theorem sortD_none (g:Tag) (T:St):cal (env ot oz) 21 [.sl g [],.fn 22 [] []] T=some (.un,T):=by
 rw[cal_known (F:=sfF) rfl (args':=[.sl .ro [],.fn 22 [] []]) (by simp only[askD,sealL,sealW,sealLL,Option.map_some,Option.bind_some])]
 rfl
theorem compactD_none (g:Tag) (T:St):cal (env ot oz) 23 [.sl g []] T=some (.sl .ro [],T):=by
 refine cal_tag1 ?_ (fun n d=>by simp[sealLL])
 (rw[w_plain (fn:=c23) rfl rfl (by simp only[go_sem]) rfl (by decide)];simp only[c23,c23_b,go_sem];repeat' ((first|rw[guardO_t]|rw[guardO_f]|rw[cw_bool]);split<;>rename_i h<;>(try rw[Bool.not_eq_true] at h)<;>(try simp only[go_sem, *])))
def aI (l:List GDiag) (S:St) (i:Nat) (out:List GDiag) (ts:Tmps) (T:St):Prop:= ∃ v os,ts=[(3,some (v)),(9,some (.sl .ro (l.map rDiag))),(10,some (.int .i64 (l.length:Int))),(11,some (.int .i64 (i:Int)))]∧T=⟨S.obs++os,S.own⟩∧MRowD T 45 S.obs.length v out∧out.length≤i
theorem all_l0 (l:List GDiag) (hl:l.length≤1000000000) (S:St): ∃ v os,MRowD ⟨S.obs++os,S.own⟩ 45 S.obs.length v l∧ ∀ fin st,run (env ot oz) fin st c7_l0 [(3,some (.sl .null [])),(9,some (.sl .ro (l.map rDiag))),(10,some (.int .i64 (l.length:Int))),(11,some (.int .i64 0))] S=
  aft (env ot oz) fin st (.exit 0) [(3,some (v)),(9,some (.sl .ro (l.map rDiag))),(10,some (.int .i64 (l.length:Int))),(11,some (.int .i64 (l.length:Int))),(12,some (.bool false))] ⟨S.obs++os,S.own⟩:=by
 obtain ⟨ts,T,hI,hr⟩:=loopR (E:=(env ot oz)) (c:=c7_l0) l (by unfold Short maxLen;omega) (fun out d=>out++[d]) (aI l S)
  (fun i out d ts T h1 h2 h3 h4 hI=>by
   obtain ⟨v,os,rfl,rfl,hM,hle⟩:=hI
   have hM2:=mrowD_more S os 45 v out (.cells 31 (rDiag d)) hM
   obtain ⟨os',ap,hM3⟩:=mrowD_app S _ 45 v out d hM2 (by omega)
   have g1: ∀ y,(S.obs++(os++[y]))[S.obs.length+os.length]?=some y:=fun y=>by simp
   have g2: ∀ y z,(S.obs++(os++[y])).set (S.obs.length+os.length) z=S.obs++(os++[z]):=fun y z=>by simp
   refine ⟨_,_,⟨_,os',rfl,rfl,hM3,by simp;omega⟩,fun fin st=> ?_⟩
   generalize hv:PV.msl (S.obs.length+(os++[Ob.cells 31 (rDiag d)]).length) 0 (out++[d]).length 3=v2 at*
   (rw[c7_l0_w];simp only[c7_l0_b,c7_l0_a,go_sem,h1,h3,h4,ap,g1,g2];repeat' ((first|rw[guardO_t]|rw[guardO_f]|rw[cw_bool]);split<;>rename_i h<;>(try rw[Bool.not_eq_true] at h)<;>(try simp only[go_sem,c7_l0_a,h1,h3,h4,ap,g1,g2, *])))) [] _ S ⟨.sl .null [],[],rfl,by simp,.inl ⟨rfl,rfl⟩,by simp⟩
 obtain ⟨v,os,rfl,rfl,hM,_⟩:=hI
 have hf: ∀ (m out:List GDiag),m.foldl (fun out d=>out++[d]) out=out++m:=by
  intro m
  induction m with
  |nil=>intro out;simp
  |cons a m ih=>intro out;rw[List.foldl_cons,ih];simp
 rw[hf,List.nil_append] at hM
 refine ⟨v,os,hM,fun fin st=> ?_⟩
 have:=hr fin st
 simp only[Int.cast_ofNat_Int] at this
 rw[this]
 (rw[c7_l0_w];simp only[c7_l0_b,c7_l0_a,go_sem];repeat' ((first|rw[guardO_t]|rw[guardO_f]|rw[cw_bool]);split<;>rename_i h<;>(try rw[Bool.not_eq_true] at h)<;>(try simp only[go_sem,c7_l0_a, *])))
theorem cells_at2 {xs:List GDiag} {i:Nat} {x:GDiag} (zs:List PV) (h:xs[i]?=some x):((xs.flatMap rDiag++zs).drop (i*3)).take 3=rDiag x∧3≤(xs.flatMap rDiag++zs).length - i*3:=by
 obtain ⟨h1,h2⟩:=cells_at h
 have hi:=getElem?_lt h
 have hl:=dflat_len xs
 refine ⟨?_,by rw[List.length_append];omega⟩
 rw[List.drop_append_of_le_length (by omega),List.take_append_of_le_length (by rw[List.length_drop];omega)]
 exact h1
def bI (ys:List GDiag) (zs:List PV) (S:St) (k:Nat) (i:Nat) (out:List GDiag) (ts:Tmps) (T:St):Prop:= ∃ g os w,ts=[(6,some (.sl g (out.map rDiag))),(24,some (.msl (S.obs.length+k) 0 ys.length 3)),(25,some (.int .i64 (ys.length:Int))),(26,some (.int .i64 (i:Int)))]∧T=⟨S.obs++os,S.own++w⟩∧os[k]?=some (.row 45 (ys.flatMap rDiag++zs))∧GrowD S.own w g out∧out.length=min i 20
theorem all_l1 (ys:List GDiag) (zs:List PV) (hl:ys.length≤1000000000) (S:St) (os:List Ob) (k:Nat) (hk:os[k]?=some (.row 45 (ys.flatMap rDiag++zs))): ∃ g os' w,GrowD S.own w g (ys.take 20)∧ ∀ fin st,run (env ot oz) fin st c7_l1 [(6,some (.sl .null [])),(24,some (.msl (S.obs.length+k) 0 ys.length 3)),(25,some (.int .i64 (ys.length:Int))),(26,some (.int .i64 0))] ⟨S.obs++os,S.own⟩=
  aft (env ot oz) fin st (.exit 2) [(6,some (.sl g ((ys.take 20).map rDiag))),(24,some (.msl (S.obs.length+k) 0 ys.length 3)),(25,some (.int .i64 (ys.length:Int))),(26,some (.int .i64 (ys.length:Int))),(27,some (.bool false))] ⟨S.obs++os',S.own++w⟩:=by
 obtain ⟨ts,T,hI,hr⟩:=loopR (E:=(env ot oz)) (c:=c7_l1) ys (by unfold Short maxLen;omega) (fun out d=>if out.length<20 then out++[d] else out) (bI ys zs S k)
  (fun i out d ts T h1 h2 h3 h4 hI=>by
   obtain ⟨g,os,w,rfl,rfl,hk,hG,hle⟩:=hI
   obtain ⟨x1,x2⟩:=cells_at2 zs h1
   have hkl:=getElem?_lt hk
   have gk:(S.obs++os)[S.obs.length+k]?=some (.row 45 (ys.flatMap rDiag++zs)):=by rw[app_get];exact hk
   have g1: ∀ y,(S.obs++(os++[y]))[S.obs.length+os.length]?=some y:=fun y=>by simp
   have g2: ∀ y z,(S.obs++(os++[y])).set (S.obs.length+os.length) z=S.obs++(os++[z]):=fun y z=>by simp
   have hk2: ∀ y,(os++[y])[k]?=some (.row 45 (ys.flatMap rDiag++zs)):=fun y=>by rw[List.getElem?_append_left hkl];exact hk
   by_cases hi:i<20
   ·have d1:decide ((i:Int)<20)=true:=decide_eq_true (by omega)
    obtain ⟨g',w',ap,hG'⟩:=growD_app (S.obs++(os++[.cells 45 (rDiag d)])) S.own w g out [d] hG (by simp;omega)
    rw[if_pos (by omega)]
    simp only[List.map_append,List.map_cons,List.map_nil] at ap
    refine ⟨_,_,⟨g',_,w',rfl,rfl,hk2 (.cells 45 (rDiag d)),hG',by simp;omega⟩,fun fin st=> ?_⟩
    simp only[List.map_append,List.map_cons,List.map_nil]
    generalize ys.flatMap rDiag++zs=cs at*
    (rw[c7_l1_w];simp only[c7_l1_b,c7_l1_a,go_sem,gk,h3,h4,x1,x2,ap,g1,g2,d1];repeat' ((first|rw[guardO_t]|rw[guardO_f]|rw[cw_bool]);split<;>rename_i h<;>(try rw[Bool.not_eq_true] at h)<;>(try simp only[go_sem,c7_l1_a,gk,h3,h4,x1,x2,ap,g1,g2,d1, *])))
   ·have d1:decide ((i:Int)<20)=false:=decide_eq_false (by omega)
    rw[if_neg (by omega)]
    refine ⟨_,_,⟨g,_,w,rfl,rfl,hk2 (.cells 45 (rDiag d)),hG,by omega⟩,fun fin st=> ?_⟩
    generalize ys.flatMap rDiag++zs=cs at*
    (rw[c7_l1_w];simp only[c7_l1_b,c7_l1_a,go_sem,gk,h3,h4,x1,x2,g1,g2,d1];repeat' ((first|rw[guardO_t]|rw[guardO_f]|rw[cw_bool]);split<;>rename_i h<;>(try rw[Bool.not_eq_true] at h)<;>(try simp only[go_sem,c7_l1_a,gk,h3,h4,x1,x2,g1,g2,d1, *])))) [] _ ⟨S.obs++os,S.own⟩ ⟨.null,os,[],rfl,by simp,hk,.inr (.inl ⟨rfl,rfl⟩),by simp⟩
 obtain ⟨g,os',w,rfl,rfl,_,hG,_⟩:=hI
 have hf: ∀ (m out:List GDiag),out.length≤20→m.foldl (fun out d=>if out.length<20 then out++[d] else out) out=(out++m).take 20:=by
  intro m
  induction m with
  |nil=>intro out h;rw[List.foldl_nil,List.append_nil,List.take_of_length_le h]
  |cons a m ih=>
   intro out h
   rw[List.foldl_cons]
   by_cases h2:out.length<20
   ·rw[if_pos h2,ih _ (by simp;omega)];simp
   ·rw[if_neg h2,ih _ h]
    rw[List.take_append_of_le_length (by omega),List.take_append_of_le_length (by omega)]
 rw[hf _ _ (by simp),List.nil_append] at hG hr
 refine ⟨g,os',w,hG,fun fin st=> ?_⟩
 have:=hr fin st
 simp only[Int.cast_ofNat_Int,List.map_nil] at this
 rw[this]
 (rw[c7_l1_w];simp only[c7_l1_b,c7_l1_a,go_sem];repeat' ((first|rw[guardO_t]|rw[guardO_f]|rw[cw_bool]);split<;>rename_i h<;>(try rw[Bool.not_eq_true] at h)<;>(try simp only[go_sem,c7_l1_a, *])))
theorem allP (l:List GDiag) (hl:l.length≤1000000000) (S:St):cal (env ot oz) 7 [.sl .ro (l.map rDiag)] S=some (.sl .ro ((allD l).map rDiag),S):=by
 obtain ⟨v,os,hM,f⟩:=all_l0 (ot:=ot) (oz:=oz) l hl S
 have e0:allD l=(cmpO (srtO ahD l)).take 20:=by unfold allD;rw[all_sort ahD_ord]
 rcases hM with ⟨rfl,rfl⟩|⟨hn,k,rfl,hk⟩
 ·have h1:=sortD_none (ot:=ot) (oz:=oz) .null ⟨S.obs++os,S.own⟩
  have h2:=compactD_none (ot:=ot) (oz:=oz) .null ⟨S.obs++os,S.own⟩
  have cl:close S ⟨S.obs++os,S.own⟩ (.sl .null [])=(.sl .ro [],S):=by rw[close_junk1];simp[sealW,sealLL]
  have e1:allD []=[]:=rfl
  rw[e1]
  simp only[List.map_nil,List.length_nil,Int.cast_ofNat_Int] at f
  have f1: ∀ fin st T,run (env ot oz) fin st c7_l1 [(6,some (.sl .null [])),(24,some (.sl .ro [])),(25,some (.int .i64 0)),(26,some (.int .i64 0))] T=aft (env ot oz) fin st (.exit 2) [(6,some (.sl .null [])),(24,some (.sl .ro [])),(25,some (.int .i64 0)),(26,some (.int .i64 0)),(27,some (.bool false))] T:=fun fin st T=>by
   (rw[c7_l1_w];simp only[c7_l1_b,c7_l1_a,go_sem];repeat' ((first|rw[guardO_t]|rw[guardO_f]|rw[cw_bool]);split<;>rename_i h<;>(try rw[Bool.not_eq_true] at h)<;>(try simp only[go_sem,c7_l1_a, *])))
  generalize (⟨S.obs++os,S.own⟩:St)=T at*
  (rw[w_plain (fn:=c7) rfl rfl (by simp only[go_sem,f,h1,h2,f1,cl]) rfl (by decide)];simp only[c7,c7_b,go_sem,f,h1,h2,f1,cl];repeat' ((first|rw[guardO_t]|rw[guardO_f]|rw[cw_bool]);split<;>rename_i h<;>(try rw[Bool.not_eq_true] at h)<;>(try simp only[go_sem,f,h1,h2,f1,cl, *])))
 ·have hk0:=hk
  simp only[app_get] at hk0
  have hkl:=getElem?_lt hk0
  have hln:=srtO_len l
  have h1:=sortD_w (ot:=ot) (oz:=oz) ⟨S.obs++os,S.own⟩ (S.obs.length+k) l 45 hk hn hl
  have hn2:srtO ahD l≠[]:=by intro e;rw[e] at hln;exact hn (List.eq_nil_of_length_eq_zero hln.symm)
  obtain ⟨zs,h2⟩:=compactD (ot:=ot) (oz:=oz) (S.obs.length+k) 45 (srtO ahD l) ⟨S.obs++os.set k (.row 45 ((srtO ahD l).flatMap rDiag)),S.own⟩ (by simp[hkl]) hn2 (by rw[hln];exact hl)
  rw[hln] at h2
  simp only[app_set,List.set_set] at h1 h2
  have hcl:=cmpO_le (srtO ahD l)
  obtain ⟨g,os',w,hG,f1⟩:=all_l1 (ot:=ot) (oz:=oz) (cmpO (srtO ahD l)) zs (by omega) S (os.set k (.row 45 ((cmpO (srtO ahD l)).flatMap rDiag++zs))) k (by simp[hkl])
  have cl:=growD_close S os' w g ((cmpO (srtO ahD l)).take 20)
  rw[e0]
  generalize (⟨S.obs++os',S.own++w⟩:St)=T3 at*
  generalize (⟨S.obs++os.set k (.row 45 ((cmpO (srtO ahD l)).flatMap rDiag++zs)),S.own⟩:St)=T2 at*
  generalize (⟨S.obs++os.set k (.row 45 ((srtO ahD l).flatMap rDiag)),S.own⟩:St)=T1 at*
  generalize (⟨S.obs++os,S.own⟩:St)=T at*
  (rw[w_plain (fn:=c7) rfl rfl (by simp only[go_sem,f,h1,h2,f1,cl]) rfl (by decide)];simp only[c7,c7_b,go_sem,f,h1,h2,f1,cl];repeat' ((first|rw[guardO_t]|rw[guardO_f]|rw[cw_bool]);split<;>rename_i h<;>(try rw[Bool.not_eq_true] at h)<;>(try simp only[go_sem,f,h1,h2,f1,cl, *])))
end
end Go.PE
