/-
  Definitions that are right, by the program: all of it. Conditions: each law's own.
-/
import Derived.Test.YtleggogbmklddaaGreatDoorEXC
namespace Go.PE
open Go Go.RowKit Go.Proofs
set_option linter.unusedVariables false
set_option linter.unusedSimpArgs false
set_option maxRecDepth 100000
theorem tS_obs (S:St) (out:List GTy):(tS S out).obs=S.obs:=by unfold tS accS;split<;>rfl
theorem tS_mk (S:St) (out:List GTy):tS S out=⟨S.obs,(tS S out).own⟩:=by rw[←tS_obs S out]
theorem tTy_appO (O:List Ob) (S:St) (out:List GTy) (t:GTy) (h:out.length+1≤1000000000000):appP ⟨O,(tS S out).own⟩ 34 5 80 (tG S out) (out.map rTy) [rTy t]=some (.sl (tG S (out++[t])) ((out++[t]).map rTy),⟨O,(tS S (out++[t])).own⟩):=by
 have:=tTy_app S out t h
 rw[tS_mk S out,tS_mk S (out++[t])] at this
 exact appP_obs2 this
theorem tOwn_nil (S:St):(tS S []).own=S.own:=rfl
theorem tOwn_ex (S:St) (out:List GTy): ∃ w,(tS S out).own=S.own++w:=by
 unfold tS accS
 split
 ·exact ⟨[],by simp⟩
 ·exact ⟨_,rfl⟩
section
variable {ot:TypeId} {oz:EP}
theorem typesP (s:GSig) (ok:OkSig s) (hb:s.Binders.length≤100000000∧s.Params.length≤100000000) (S:St):cal (env ot oz) 62 [.agg (rSig s)] S=some (.sl .ro ((sigT s).map rTy),S):=by
 have hf: ∀ (l:List GBind) (out:List GTy),l.foldl (fun out b=>out++[b.Typ]) out=out++l.map GBind.Typ:=by
  intro l
  induction l with
  |nil=>intro out;simp
  |cons a l ih=>intro out;rw[List.foldl_cons,ih];simp
 obtain ⟨ts',T2,hI,hr⟩:=loopR (E:=(env ot oz)) (c:=c62_l0) s.Binders ok.Binders.1 (fun (out:List GTy) b=>out++[b.Typ])
  (fun i out ts T=>ts=[(1,some (.at_ (rSig s))),(3,some (.sl (tG S out) (out.map rTy))),(9,some (.sl .ro (s.Binders.map rBind))),(10,some (.int .i64 (s.Binders.length:Int))),(11,some (.int .i64 (i:Int)))]∧(∃ os,T=⟨S.obs++os,(tS S out).own⟩)∧out.length=i)
  (fun i out b ts T h1 h2 h3 h4 hh=>by
   obtain ⟨rfl,⟨os,rfl⟩,hl⟩:=hh
   have ap:=tTy_appO (S.obs++(os++[.cells 66 (rBind b)])) S out b.Typ (by omega)
   have g1: ∀ y,(S.obs++(os++[y]))[S.obs.length+os.length]?=some y:=fun y=>by simp
   have g2: ∀ y z,(S.obs++(os++[y])).set (S.obs.length+os.length) z=S.obs++(os++[z]):=fun y z=>by simp
   refine ⟨_,_,⟨rfl,⟨os++[.cells 66 (rBind b)],rfl⟩,by simp[hl]⟩,fun fin st=> ?_⟩
   generalize tG S (out++[b.Typ])=gg at*
   generalize tG S out=g0 at*
   (rw[c62_l0_w];simp only[c62_l0_b,c62_l0_a,go_sem,h1,h3,h4,ap,g1,g2];repeat' ((first|rw[guardO_t]|rw[guardO_f]|rw[cw_bool]);split<;>rename_i h<;>(try rw[Bool.not_eq_true] at h)<;>(try simp only[go_sem,c62_l0_a,h1,h3,h4,ap,g1,g2, *])))) [] _ S ⟨rfl,⟨[],by simp[tOwn_nil]⟩,rfl⟩
 obtain ⟨rfl,⟨os,rfl⟩,_⟩:=hI
 rw[hf,List.nil_append] at hr
 have fx: ∀ fin st (T:St) (g:Tag) (out:List GTy),run (env ot oz) fin st c62_l0 [(1,some (.at_ (rSig s))),(3,some (.sl g (out.map rTy))),(9,some (.sl .ro (s.Binders.map rBind))),(10,some (.int .i64 (s.Binders.length:Int))),(11,some (.int .i64 (s.Binders.length:Int)))] T=aft (env ot oz) fin st (.exit 0) [(1,some (.at_ (rSig s))),(3,some (.sl g (out.map rTy))),(9,some (.sl .ro (s.Binders.map rBind))),(10,some (.int .i64 (s.Binders.length:Int))),(11,some (.int .i64 (s.Binders.length:Int))),(12,some (.bool false))] T:=fun fin st T g out=>by
  (rw[c62_l0_w];simp only[c62_l0_b,c62_l0_a,go_sem];repeat' ((first|rw[guardO_t]|rw[guardO_f]|rw[cw_bool]);split<;>rename_i h<;>(try rw[Bool.not_eq_true] at h)<;>(try simp only[go_sem,c62_l0_a, *])))
 have hr:=fun fin st=>(hr fin st).trans (fx fin st _ _ _)
 obtain ⟨ts2,T3,hI2,hr2⟩:=loopR (E:=(env ot oz)) (c:=c62_l1) s.Params ok.Params.1 (fun (out:List GTy) b=>out++[b.Typ])
  (fun i out ts T=>ts=[(1,some (.at_ (rSig s))),(3,some (.sl (tG S out) (out.map rTy))),(22,some (.sl .ro (s.Params.map rBind))),(23,some (.int .i64 (s.Params.length:Int))),(24,some (.int .i64 (i:Int)))]∧(∃ os,T=⟨S.obs++os,(tS S out).own⟩)∧out.length=s.Binders.length+i)
  (fun i out b ts T h1 h2 h3 h4 hh=>by
   obtain ⟨rfl,⟨os,rfl⟩,hl⟩:=hh
   have ap:=tTy_appO (S.obs++(os++[.cells 66 (rBind b)])) S out b.Typ (by omega)
   have g1: ∀ y,(S.obs++(os++[y]))[S.obs.length+os.length]?=some y:=fun y=>by simp
   have g2: ∀ y z,(S.obs++(os++[y])).set (S.obs.length+os.length) z=S.obs++(os++[z]):=fun y z=>by simp
   refine ⟨_,_,⟨rfl,⟨os++[.cells 66 (rBind b)],rfl⟩,by simp[hl];omega⟩,fun fin st=> ?_⟩
   generalize tG S (out++[b.Typ])=gg at*
   generalize tG S out=g0 at*
   (rw[c62_l1_w];simp only[c62_l1_b,c62_l1_a,go_sem,h1,h3,h4,ap,g1,g2];repeat' ((first|rw[guardO_t]|rw[guardO_f]|rw[cw_bool]);split<;>rename_i h<;>(try rw[Bool.not_eq_true] at h)<;>(try simp only[go_sem,c62_l1_a,h1,h3,h4,ap,g1,g2, *])))) (s.Binders.map GBind.Typ) _ ⟨S.obs++os,(tS S (s.Binders.map GBind.Typ)).own⟩ ⟨rfl,⟨os,rfl⟩,by simp⟩
 obtain ⟨rfl,⟨os2,rfl⟩,_⟩:=hI2
 rw[hf] at hr2
 have gx: ∀ fin st (T:St) (g:Tag) (out:List GTy),run (env ot oz) fin st c62_l1 [(1,some (.at_ (rSig s))),(3,some (.sl g (out.map rTy))),(22,some (.sl .ro (s.Params.map rBind))),(23,some (.int .i64 (s.Params.length:Int))),(24,some (.int .i64 (s.Params.length:Int)))] T=aft (env ot oz) fin st (.exit 2) [(1,some (.at_ (rSig s))),(3,some (.sl g (out.map rTy))),(22,some (.sl .ro (s.Params.map rBind))),(23,some (.int .i64 (s.Params.length:Int))),(24,some (.int .i64 (s.Params.length:Int))),(25,some (.bool false))] T:=fun fin st T g out=>by
  (rw[c62_l1_w];simp only[c62_l1_b,c62_l1_a,go_sem];repeat' ((first|rw[guardO_t]|rw[guardO_f]|rw[cw_bool]);split<;>rename_i h<;>(try rw[Bool.not_eq_true] at h)<;>(try simp only[go_sem,c62_l1_a, *])))
 have hr2:=fun fin st=>(hr2 fin st).trans (gx fin st _ _ _)
 simp only[Int.cast_ofNat_Int,List.map_nil,tG_nil] at hr hr2
 have ap:=tTy_appO (S.obs++os2) S (s.Binders.map GBind.Typ++s.Params.map GBind.Typ) s.Result (by simp;omega)
 obtain ⟨w,hw⟩:=tOwn_ex S (s.Binders.map GBind.Typ++s.Params.map GBind.Typ++[s.Result])
 have cl:close S ⟨S.obs++os2,(tS S (s.Binders.map GBind.Typ++s.Params.map GBind.Typ++[s.Result])).own⟩ (.sl (tG S (s.Binders.map GBind.Typ++s.Params.map GBind.Typ++[s.Result])) ((s.Binders.map GBind.Typ++s.Params.map GBind.Typ++[s.Result]).map rTy))=(.sl .ro ((s.Binders.map GBind.Typ++s.Params.map GBind.Typ++[s.Result]).map rTy),S):=by
  rw[hw,close_junk]
  simp only[sealW,rTy_sll,Option.map_some]
 unfold sigT
 generalize (⟨S.obs++os2,(tS S (s.Binders.map GBind.Typ++s.Params.map GBind.Typ++[s.Result])).own⟩:St)=T3 at*
 generalize tG S (s.Binders.map GBind.Typ++s.Params.map GBind.Typ++[s.Result])=g3 at*
 generalize (⟨S.obs++os2,(tS S (s.Binders.map GBind.Typ++s.Params.map GBind.Typ)).own⟩:St)=T2 at*
 generalize tG S (s.Binders.map GBind.Typ++s.Params.map GBind.Typ)=g2 at*
 generalize (⟨S.obs++os,(tS S (s.Binders.map GBind.Typ)).own⟩:St)=T1 at*
 generalize tG S (s.Binders.map GBind.Typ)=gg1 at*
 generalize s.Binders.map GBind.Typ++s.Params.map GBind.Typ++[s.Result]=o3 at*
 generalize s.Binders.map GBind.Typ++s.Params.map GBind.Typ=o2 at*
 generalize s.Binders.map GBind.Typ=o1 at*
 (rw[w_plain (fn:=c62) rfl rfl (by simp only[go_sem,hr,hr2,ap,cl]) rfl (by decide)];simp only[c62,c62_b,go_sem,hr,hr2,ap,cl];repeat' ((first|rw[guardO_t]|rw[guardO_f]|rw[cw_bool]);split<;>rename_i h<;>(try rw[Bool.not_eq_true] at h)<;>(try simp only[go_sem,hr,hr2,ap,cl, *])))
theorem dist_loop (p:ByteArray→Bool) (f:FuncId) (hp: ∀ s S,cal (env ot oz) f [.str s] S=some (.bool (p s),S)) (l:List GBind) (hl:Short l.length) (most:Int) (S:St): ∀ (rest:List GBind) (i:Nat) (es:List (ByteArray×PV×Nat)) (c:Nat) (os:List Ob) (names:List ByteArray),l.drop i=rest→i≤l.length→MapOk es names→
  ∃ es' c' os',∀ fin st,run (env ot oz) fin st c59_l0 [(0,some (.sl .ro (l.map rBind))),(1,some (.int .i64 most)),(2,some (.fn f [] [])),(7,some (.mp S.obs.length)),(11,some (.sl .ro (l.map rBind))),(12,some (.int .i64 (l.length:Int))),(13,some (.int .i64 (i:Int)))] ⟨S.obs++Ob.map es c::os,S.own⟩=
   if namesOk p names rest then aft (env ot oz) fin st (.exit 0) [(0,some (.sl .ro (l.map rBind))),(1,some (.int .i64 most)),(2,some (.fn f [] [])),(7,some (.mp S.obs.length)),(11,some (.sl .ro (l.map rBind))),(12,some (.int .i64 (l.length:Int))),(13,some (.int .i64 (l.length:Int))),(14,some (.bool false))] ⟨S.obs++Ob.map es' c'::os',S.own⟩ else aft (env ot oz) fin st .ret [(6,some (.bool false))] ⟨S.obs++Ob.map es' c'::os',S.own⟩:=by
 intro rest
 induction rest with
 |nil=>
  intro i es c os names h hi hM
  have h0:=drop_nil h
  obtain rfl:i=l.length:=by omega
  refine ⟨es,c,os,fun fin st=> ?_⟩
  simp only[namesOk,if_true]
  generalize (⟨S.obs++Ob.map es c::os,S.own⟩:St)=T
  (rw[c59_l0_w];simp only[c59_l0_b,c59_l0_a,c59_r5,go_sem];repeat' ((first|rw[guardO_t]|rw[guardO_f]|rw[cw_bool]);split<;>rename_i h<;>(try rw[Bool.not_eq_true] at h)<;>(try simp only[go_sem,c59_r5,c59_l0_a, *])))
 |cons b r ih=>
  intro i es c os names h hi hM
  obtain ⟨h1,h2,h3⟩:=drop_cons h
  have hl':=hl
  unfold Short maxLen at hl'
  have h4:=wrap_succ (i:=i) (n:=l.length) h3 (by omega)
  have hlt:(i:Int)<(l.length:Int):=by omega
  have g0: ∀ os',(S.obs++Ob.map es c::os')[S.obs.length]?=some (.map es c):=fun os'=>by simp
  have g1: ∀ y,(S.obs++Ob.map es c::(os++[y]))[S.obs.length+(os.length+1)]?=some y:=fun y=>by simp
  have g2: ∀ y z,(S.obs++Ob.map es c::(os++[y])).set (S.obs.length+(os.length+1)) z=S.obs++Ob.map es c::(os++[z]):=fun y z=>by simp
  have g3: ∀ os' z,(S.obs++Ob.map es c::os').set S.obs.length z=S.obs++z::os':=fun os' z=>by simp
  have hq:=hp b.Name
  have hany: ∀ ns:List ByteArray,ns.any (strEq b.Name)=true↔b.Name∈ns:=fun ns=>by
   rw[List.any_eq_true]
   constructor
   ·rintro ⟨x,hx,hh⟩;rw[strEq_iff.1 hh];exact hx
   ·intro hx;exact ⟨_,hx,strEq_refl _⟩
  rcases hM b.Name with ⟨k1,k2⟩|⟨k,n,k1,k2,k3,k4⟩
  ·have q0:names.any (strEq b.Name)=false:=by
    cases q:names.any (strEq b.Name) with
    |false=>rfl
    |true=>exact absurd ((hany names).1 q) k2
   cases q:p b.Name with
   |false=>
    rw[q] at hq
    refine ⟨es,c,os++[.cells 66 (rBind b)],fun fin st=> ?_⟩
    simp only[namesOk,q,q0,Bool.false_and,Bool.false_eq_true,if_false]
    (rw[c59_l0_w];simp only[c59_l0_b,c59_l0_a,c59_r5,go_sem,h1,hlt,h4,hq,k1,g0,g1,g2,g3];repeat' ((first|rw[guardO_t]|rw[guardO_f]|rw[cw_bool]);split<;>rename_i h<;>(try rw[Bool.not_eq_true] at h)<;>(try simp only[go_sem,c59_r5,c59_l0_a,h1,hlt,h4,hq,k1,g0,g1,g2,g3, *])))
   |true=>
    rw[q] at hq
    obtain ⟨es',c',os',hr⟩:=ih (i+1) _ (c+1) (os++[.cells 66 (rBind b)]) _ h2 (by omega) (mapOk_new hM b.Name k1 c)
    refine ⟨es',c',os',fun fin st=> ?_⟩
    simp only[namesOk,q,q0,Bool.true_and,Bool.not_false]
    rw[←hr]
    (rw[c59_l0_w];simp only[c59_l0_b,c59_l0_a,c59_r5,go_sem,h1,hlt,h4,hq,k1,g0,g1,g2,g3];repeat' ((first|rw[guardO_t]|rw[guardO_f]|rw[cw_bool]);split<;>rename_i h<;>(try rw[Bool.not_eq_true] at h)<;>(try simp only[go_sem,c59_r5,c59_l0_a,h1,hlt,h4,hq,k1,g0,g1,g2,g3, *])))
  ·have q0:names.any (strEq b.Name)=true:=(hany names).2 k2
   have kz:decide (0<k)=true:=by simp;omega
   refine ⟨es,c,os++[.cells 66 (rBind b)],fun fin st=> ?_⟩
   simp only[namesOk,q0,Bool.not_true,Bool.and_false,Bool.false_and,Bool.false_eq_true,if_false]
   (rw[c59_l0_w];simp only[c59_l0_b,c59_l0_a,c59_r5,go_sem,h1,hlt,h4,k1,kz,g0,g1,g2,g3];repeat' ((first|rw[guardO_t]|rw[guardO_f]|rw[cw_bool]);split<;>rename_i h<;>(try rw[Bool.not_eq_true] at h)<;>(try simp only[go_sem,c59_r5,c59_l0_a,h1,hlt,h4,k1,kz,g0,g1,g2,g3, *])))
theorem distP (p:ByteArray→Bool) (f:FuncId) (hp: ∀ s S,cal (env ot oz) f [.str s] S=some (.bool (p s),S)) (l:List GBind) (hl:Short l.length) (most:Int) (S:St):
  cal (env ot oz) 59 [.sl .ro (l.map rBind),.int .i64 most,.fn f [] []] S=some (.bool (namesOk p [] l&&decide ((l.length:Int)≤most)),S):=by
 obtain ⟨es,c,os,hr⟩:=dist_loop (ot:=ot) (oz:=oz) p f hp l hl most S l 0 [] 0 [] [] rfl (Nat.zero_le _) mapOk_nil
 have cl: ∀ b:Bool,close S ⟨S.obs++Ob.map es c::os,S.own⟩ (.bool b)=(.bool b,S):=fun b=>by
  rw[close_junk1];simp[sealW]
 simp only[Int.cast_ofNat_Int] at hr
 cases q:namesOk p [] l<;>simp only[q,if_true,if_false,Bool.false_eq_true] at hr<;>generalize (⟨S.obs++Ob.map es c::os,S.own⟩:St)=T at* <;>(rw[w_plain (fn:=c59) rfl rfl (by simp only[go_sem,hr,cl]) rfl (by decide)];simp only[c59,c59_b,c59_r5,go_sem,hr,cl];repeat' ((first|rw[guardO_t]|rw[guardO_f]|rw[cw_bool]);split<;>rename_i h<;>(try rw[Bool.not_eq_true] at h)<;>(try simp only[go_sem,c59_r5,hr,cl, *])))
end
end Go.PE
