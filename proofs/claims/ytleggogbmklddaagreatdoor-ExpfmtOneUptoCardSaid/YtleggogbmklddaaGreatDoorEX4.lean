/-
  What the program says of types with seals, and of expressions that are right. Conditions: each law's own.
-/
import Derived.Test.YtleggogbmklddaaGreatDoorEX2
import Derived.Test.YtleggogbmklddaaGreatDoorTP
namespace Go.PE
open Go Go.RowKit Go.Proofs
set_option linter.unusedVariables false
set_option linter.unusedSimpArgs false
set_option maxRecDepth 100000
section
variable {ot:TypeId} {oz:EP}
def hR (S:St) (k:Int) (st:Nat) (pd:Option (Option Nat)):ELoop:=⟨[8],c86_f0_a,c86_f0_b,[(3,some (.at_ [.int .i64 k])),(4,some (.ref S.obs.length 0))],st,pd⟩
def hS (S:St) (k:Int) (b:Bool) (st:Nat) (pd:Option (Option Nat)) (os:List Ob):St:=⟨S.obs++ .cells 4 [.bool b]:: .loop (hR S k st pd)::os,S.own⟩
def hT (S:St) (k:Int) (b:Bool) (os:List Ob):St:=hS S k b (if b then 2 else 0) (if b then some none else none) os
theorem hS_cell (S:St) (k:Int) (b:Bool) (st:Nat) (pd:Option (Option Nat)) (os:List Ob):(hS S k b st pd os).obs[S.obs.length]?=some (.cells 4 [.bool b]):=by simp[hS]
theorem hS_loop (S:St) (k:Int) (b:Bool) (st:Nat) (pd:Option (Option Nat)) (os:List Ob):(hS S k b st pd os).obs[S.obs.length+1]?=some (.loop (hR S k st pd)):=by simp[hS]
theorem hS_len (S:St) (k:Int) (b:Bool) (st:Nat) (pd:Option (Option Nat)) (os:List Ob):(hS S k b st pd os).obs.length=S.obs.length+2+os.length:=by simp[hS];omega
theorem hS_set (S:St) (k:Int) (b b':Bool) (st:Nat) (pd:Option (Option Nat)) (os:List Ob):(hS S k b st pd os).obs.set S.obs.length (.cells 4 [.bool b'])=(hS S k b' st pd os).obs:=by simp[hS]
theorem hS_own (S:St) (k:Int) (b:Bool) (st:Nat) (pd:Option (Option Nat)) (os:List Ob):(hS S k b st pd os).own=S.own:=rfl
theorem hS_setL (S:St) (k:Int) (b:Bool) (st st':Nat) (pd pd':Option (Option Nat)) (os:List Ob):setLoop (hS S k b st pd os) (S.obs.length+1) st' pd'=some (hS S k b st' pd' os):=by
 unfold setLoop
 rw[hS_loop]
 simp[hS,hR]
theorem hS_app (S:St) (k:Int) (b:Bool) (st:Nat) (pd:Option (Option Nat)) (os:List Ob) (x:Ob):(⟨(hS S k b st pd os).obs++[x],(hS S k b st pd os).own⟩:St)=hS S k b st pd (os++[x]):=by simp[hS]
theorem hT_app (S:St) (k:Int) (b:Bool) (os:List Ob) (x:Ob):(⟨(hT S k b os).obs++[x],(hT S k b os).own⟩:St)=hT S k b (os++[x]):=hS_app _ _ _ _ _ _ _
theorem has_round (S:St) (k:Int) (x:GTy) (os:List Ob):cal (env ot oz) yid [.yld (S.obs.length+1),.agg (rTy x)] (hT S k false os)=some (.bool (!(x.K==k)),hT S k (x.K==k) (os++[.cells 34 (rTy x)])):=by
 have key: ∀ r,run (env ot oz) (rndE (S.obs.length+1)) [] c86_f0_b [(3,some (.at_ [.int .i64 k])),(4,some (.ref S.obs.length 0)),(5,some (.ref (S.obs.length+2+os.length) 0))] (hS S k false 1 none (os++[.cells 34 (rTy x)]))=r→
   cal (env ot oz) yid [.yld (S.obs.length+1),.agg (rTy x)] (hS S k false 0 none os)=r:=fun r h=>by
  rw[w_yield (r:=hR S k 0 none) (vs':=[.agg (rTy x)]) rfl rfl (hS_loop S k false 0 none os) rfl (by simp only[hR];kernel_rfl) (by simp only[go_sem,rTy_sl])]
  have g1:=hS_len S k false 0 none os
  have e1:=hS_app S k false 0 none os (.cells 34 (rTy x))
  have hrun: ∀ (T0 T1:St),T0.obs.length=S.obs.length+2+os.length→(⟨T0.obs++[.cells 34 (rTy x)],T0.own⟩:St)=T1→run (env ot oz) (rndE (S.obs.length+1)) [.rnd (S.obs.length+1) (hR S k 0 none).bd] (hR S k 0 none).asg (bindP (hR S k 0 none).ps [.agg (rTy x)] (hR S k 0 none).ts) T0=aft (env ot oz) (rndE (S.obs.length+1)) [.rnd (S.obs.length+1) (hR S k 0 none).bd] .normal [(3,some (.at_ [.int .i64 k])),(4,some (.ref S.obs.length 0)),(5,some (.ref (S.obs.length+2+os.length) 0))] T1:=fun T0 T1 q1 q2=>by
   have q3: ∀ y z,(T0.obs++[y]).set (S.obs.length+2+os.length) z=T0.obs++[z]:=fun y z=>by rw[←q1];simp
   have q4: ∀ y,(T0.obs++[y])[S.obs.length+2+os.length]?=some y:=fun y=>by rw[←q1];simp
   simp only[hR,c86_f0_a,bindP,go_sem,q1,q2,q3,q4]
  rw[hrun _ _ g1 e1,a_rnd_n (hS_loop S k false 0 none _) rfl (hS_setL S k false 0 1 none _ _)]
  exact h
 have g1:=hS_cell S k false 1 none (os++[.cells 34 (rTy x)])
 have g2:(hS S k false 1 none (os++[.cells 34 (rTy x)])).obs[S.obs.length+2+os.length]?=some (.cells 34 (rTy x)):=by
  simp only[hS]
  rw[Nat.add_assoc,app_get]
  have:2+os.length=os.length+2:=by omega
  rw[this];simp
 unfold hT
 simp only[Bool.false_eq_true,if_false]
 refine key _ ?_
 cases hk:(x.K==k) with
 |false=>
  simp only[Bool.false_eq_true,if_false]
  have e2:=hS_setL S k false 1 0 none none (os++[.cells 34 (rTy x)])
  generalize hS S k false 1 none (os++[.cells 34 (rTy x)])=T1 at*
  simp only[c86_f0_b,go_sem,g1,g2,hk,rndE,e2,Bool.not_false]
 |true=>
  simp only[if_true]
  have e3:=hS_set S k false true 1 none (os++[.cells 34 (rTy x)])
  have e5:=hS_own S k false 1 none (os++[.cells 34 (rTy x)])
  have e6:(⟨(hS S k true 1 none (os++[.cells 34 (rTy x)])).obs,S.own⟩:St)=hS S k true 1 none (os++[.cells 34 (rTy x)]):=rfl
  have e2:=hS_setL S k true 1 2 none (some none) (os++[.cells 34 (rTy x)])
  generalize hS S k false 1 none (os++[.cells 34 (rTy x)])=T1 at*
  generalize hS S k true 1 none (os++[.cells 34 (rTy x)])=T2 at*
  simp only[c86_f0_b,go_sem,g1,g2,hk,e3,e5]
  simp only[e6,rndE,e2,Option.map_some,Bool.not_true]
theorem has_close (S:St) (k:Int) (os os':List Ob) (v:PV): ∃ os2,∀ v:PV,(∀ n d,sealW n d v=some v)→close (hT S k false os) (hT S k false os') v=(v,hT S k false os2):=by
 by_cases hc:(beqO ((hT S k false os').obs.take (hT S k false os).obs.length) (hT S k false os).obs&&(hT S k false os').own.take (hT S k false os).own.length==(hT S k false os).own)=true
 ·exact ⟨os,fun v hv=>by unfold close;simp only[hc,if_true,hv]⟩
 ·exact ⟨os',fun v hv=>by unfold close;simp only[hc,Bool.false_eq_true,if_false]⟩
theorem has_close2 (S:St) (k:Int) (os os':List Ob) (v:PV):close (hT S k false os) (hT S k true os') v=(v,hT S k true os'):=by
 unfold close
 have: ¬ (beqO ((hT S k true os').obs.take (hT S k false os).obs.length) (hT S k false os).obs&&(hT S k true os').own.take (hT S k false os).own.length==(hT S k false os).own)=true:=by
  intro h
  simp only[Bool.and_eq_true] at h
  have e:=beqO_sound h.1
  have h1:=hS_cell S k false 0 none os
  have h2:=hS_cell S k true 2 (some none) os'
  have h3:(hT S k false os).obs[S.obs.length]?=some (.cells 4 [.bool true]):=by
   rw[←e,List.getElem?_take,if_pos (by have:=hS_len S k false 0 none os;show _<(hS S k false 0 none os).obs.length;omega)]
   exact h2
  have h4:(hT S k false os).obs[S.obs.length]?=some (.cells 4 [.bool false]):=h1
  rw[h3] at h4;injection h4 with h4;injection h4 with _ h4;injection h4 with h4;injection h4 with h4;cases h4
 simp only[this,Bool.false_eq_true,if_false]
theorem has_walk (S:St) (k:Int): ∀ t,OkTy t→ ∀ os,∃ os',cal (env ot oz) 130 [.agg (rTy t),.yld (S.obs.length+1)] (hT S k false os)=some (.bool (!(hasT k t)),hT S k (hasT k t) os'):=by
 refine GTy.ind fun t ih ok os=> ?_
 obtain ⟨a1,a2⟩:=okTy_a ok
 have y:=has_round (ot:=ot) (oz:=oz) S k t os
 rw[hasT_eq]
 cases hk:(t.K==k) with
 |true=>
  rw[hk] at y
  have cl:=has_close2 S k os (os++[.cells 34 (rTy t)]) (.bool false)
  refine ⟨os++[.cells 34 (rTy t)], ?_⟩
  simp only[Bool.true_or,Bool.not_true] at y ⊢
  generalize hT S k true (os++[.cells 34 (rTy t)])=T2 at*
  generalize hT S k false os=T1 at*
  (rw[w_plain (fn:=c130) rfl rfl (by simp only[go_sem,y,cl]) rfl (by decide)];simp only[c130,c130_b,go_sem,y,cl];repeat' ((first|rw[guardO_t]|rw[guardO_f]|rw[cw_bool]);split<;>rename_i h<;>(try rw[Bool.not_eq_true] at h)<;>(try simp only[go_sem,y,cl, *])))
 |false=>
  rw[hk] at y
  simp only[Bool.false_or,Bool.not_false] at y ⊢
  have key: ∀ (rest:List GTy) (i:Nat) (os:List Ob),t.Args.drop i=rest→i≤t.Args.length→ ∃ os',∀ fin st,run (env ot oz) fin st c130_l0 [(1,some (.yld (S.obs.length+1))),(12,some (.sl .ro (t.Args.map rTy))),(13,some (.int .i64 (t.Args.length:Int))),(14,some (.int .i64 (i:Int)))] (hT S k false os)=
    if rest.any (hasT k) then aft (env ot oz) fin st .ret [(4,some (.bool false))] (hT S k true os') else aft (env ot oz) fin st (.exit 0) [(1,some (.yld (S.obs.length+1))),(12,some (.sl .ro (t.Args.map rTy))),(13,some (.int .i64 (t.Args.length:Int))),(14,some (.int .i64 (t.Args.length:Int))),(15,some (.bool false))] (hT S k false os'):=by
   intro rest
   induction rest with
   |nil=>
    intro i os h hi
    have h0:=drop_nil h
    obtain rfl:i=t.Args.length:=by omega
    refine ⟨os,fun fin st=> ?_⟩
    generalize hT S k false os=T1
    simp only[List.any_nil,Bool.false_eq_true,if_false]
    (rw[c130_l0_w];simp only[c130_l0_b,c130_l0_a,go_sem];repeat' ((first|rw[guardO_t]|rw[guardO_f]|rw[cw_bool]);split<;>rename_i h<;>(try rw[Bool.not_eq_true] at h)<;>(try simp only[go_sem,c130_l0_a, *])))
   |cons a r ihr=>
    intro i os h hi
    obtain ⟨h1,h2,h3⟩:=drop_cons h
    have a1':=a1
    unfold Short maxLen at a1'
    have w:=wrap_succ (i:=i) (n:=t.Args.length) h3 (by omega)
    have hlt:(i:Int)<(t.Args.length:Int):=by omega
    obtain ⟨os1,c⟩:=ih a (mem_of_get h1) (a2 a (mem_of_get h1)) (os++[.cells 34 (rTy a)])
    rw[←hT_app] at c
    cases q:hasT k a with
    |true=>
     rw[q] at c
     refine ⟨os1,fun fin st=> ?_⟩
     simp only[List.any_cons,q,Bool.true_or,if_true]
     generalize hT S k true os1=T2 at*
     generalize hT S k false os=T1 at*
     simp only[Bool.not_true] at c
     (rw[c130_l0_w];simp only[c130_l0_b,c130_l0_a,go_sem,h1,hlt,c];repeat' ((first|rw[guardO_t]|rw[guardO_f]|rw[cw_bool]);split<;>rename_i h<;>(try rw[Bool.not_eq_true] at h)<;>(try simp only[go_sem,c130_l0_a,h1,hlt,c, *])))
    |false=>
     rw[q] at c
     obtain ⟨os2,hr⟩:=ihr (i+1) os1 h2 (by omega)
     refine ⟨os2,fun fin st=> ?_⟩
     simp only[List.any_cons,q,Bool.false_or]
     rw[←hr]
     generalize hT S k false os1=T2 at*
     generalize hT S k false os=T1 at*
     simp only[Bool.not_false] at c
     (rw[c130_l0_w];simp only[c130_l0_b,c130_l0_a,go_sem,h1,hlt,c,w];repeat' ((first|rw[guardO_t]|rw[guardO_f]|rw[cw_bool]);split<;>rename_i h<;>(try rw[Bool.not_eq_true] at h)<;>(try simp only[go_sem,c130_l0_a,h1,hlt,c,w, *])))
  obtain ⟨os',f0⟩:=key t.Args 0 (os++[.cells 34 (rTy t)]) rfl (Nat.zero_le _)
  simp only[Int.cast_ofNat_Int] at f0
  cases q:t.Args.any (hasT k) with
  |true=>
   simp only[q,if_true] at f0
   have cl:=has_close2 S k os os' (.bool false)
   refine ⟨os', ?_⟩
   generalize hT S k true os'=T3 at*
   generalize hT S k false (os++[.cells 34 (rTy t)])=T2 at*
   generalize hT S k false os=T1 at*
   (rw[w_plain (fn:=c130) rfl rfl (by simp only[go_sem,y,f0,cl]) rfl (by decide)];simp only[c130,c130_b,go_sem,y,f0,cl];repeat' ((first|rw[guardO_t]|rw[guardO_f]|rw[cw_bool]);split<;>rename_i h<;>(try rw[Bool.not_eq_true] at h)<;>(try simp only[go_sem,y,f0,cl, *])))
  |false=>
   simp only[q,Bool.false_eq_true,if_false] at f0
   obtain ⟨os2,cl⟩:=has_close S k os os' .un
   have cl:=cl (.bool true) (fun _ _=>by simp[sealW])
   refine ⟨os2, ?_⟩
   generalize hT S k false os2=T4 at*
   generalize hT S k false os'=T3 at*
   generalize hT S k false (os++[.cells 34 (rTy t)])=T2 at*
   generalize hT S k false os=T1 at*
   (rw[w_plain (fn:=c130) rfl rfl (by simp only[go_sem,y,f0,cl]) rfl (by decide)];simp only[c130,c130_b,go_sem,y,f0,cl];repeat' ((first|rw[guardO_t]|rw[guardO_f]|rw[cw_bool]);split<;>rename_i h<;>(try rw[Bool.not_eq_true] at h)<;>(try simp only[go_sem,y,f0,cl, *])))
theorem has_range (t:GTy) (ok:OkTy t) (k:Int) (S:St): ∃ os,∀ fin st,run (env ot oz) fin st (.rangeF (some [3,4]) (.tmp 7) [8] c86_f0_a c86_f0_b) [(3,some (.at_ [.int .i64 k])),(4,some (.ref S.obs.length 0)),(7,some (.fn 129 [] [.at_ (rTy t)]))] ⟨S.obs++[.cells 4 [.bool false]],S.own⟩=
  aft (env ot oz) fin st (if hasT k t then .ret else .normal) [(3,some (.at_ [.int .i64 k])),(4,some (.ref S.obs.length 0))] (hS S k (hasT k t) 3 (if hasT k t then some none else none) os):=by
 obtain ⟨os1,c⟩:=has_walk (ot:=ot) (oz:=oz) S k t ok []
 have c2: ∃ os2,cal (env ot oz) 129 [.yld (S.obs.length+1),.at_ (rTy t)] (hT S k false [])=some (.un,hT S k (hasT k t) os2):=by
  cases q:hasT k t with
  |true=>
   rw[q] at c
   have cl':close (hT S k false []) (hT S k true os1) (.tup [])=(.un,hT S k true os1):=has_close2 S k [] os1 (.tup [])
   refine ⟨os1, ?_⟩
   generalize hT S k true os1=T2 at*
   generalize hT S k false []=T1 at*
   (rw[w_plain (fn:=c129) rfl rfl (by simp only[go_sem,c,cl']) rfl (by decide)];simp only[c129,c129_b,go_sem,c,cl'];repeat' ((first|rw[guardO_t]|rw[guardO_f]|rw[cw_bool]);split<;>rename_i h<;>(try rw[Bool.not_eq_true] at h)<;>(try simp only[go_sem,c,cl', *])))
  |false=>
   rw[q] at c
   obtain ⟨os2,cl⟩:=has_close S k [] os1 .un
   have cl:=cl (.tup []) (fun _ _=>by simp[sealW,sealL])
   refine ⟨os2, ?_⟩
   generalize hT S k false os2=T3 at*
   generalize hT S k false os1=T2 at*
   generalize hT S k false []=T1 at*
   (rw[w_plain (fn:=c129) rfl rfl (by simp only[go_sem,c,cl]) rfl (by decide)];simp only[c129,c129_b,go_sem,c,cl];repeat' ((first|rw[guardO_t]|rw[guardO_f]|rw[cw_bool]);split<;>rename_i h<;>(try rw[Bool.not_eq_true] at h)<;>(try simp only[go_sem,c,cl, *])))
 obtain ⟨os2,c2⟩:=c2
 refine ⟨os2,fun fin st=> ?_⟩
 rw[w_range (f:=129) (first:=[]) (caps:=[.at_ (rTy t)]) (by simp only[go_sem])]
 have e1:(⟨S.obs++[Ob.cells 4 [.bool false]],S.own⟩:St).obs.length=S.obs.length+1:=by simp
 have e2:({(⟨S.obs++[Ob.cells 4 [.bool false]],S.own⟩:St) with obs:=(⟨S.obs++[Ob.cells 4 [.bool false]],S.own⟩:St).obs++[.loop ⟨[8],c86_f0_a,c86_f0_b,sel (some [3,4]) [(3,some (.at_ [.int .i64 k])),(4,some (.ref S.obs.length 0)),(7,some (.fn 129 [] [.at_ (rTy t)]))],0,none⟩]}:St)=hT S k false []:=by
  simp[hT,hS,hR,sel,PE.look]
 rw[e2,e1]
 simp only[List.nil_append,List.cons_append]
 rw[c2]
 unfold hT
 cases hasT k t<;>simp only[stepFw,hS_loop,stepFw2,hR,if_true,Bool.false_eq_true,if_false]<;>rw[if_neg (by decide)]<;>simp[hS,hR,pendX,sel,PE.look]
theorem nodesP (t:GTy) (S:St):cal (env ot oz) 115 [.agg (rTy t)] S=some (.fn 129 [] [.at_ (rTy t)],S):=by
 (rw[w_plain (fn:=c115) rfl rfl (by simp only[go_sem]) rfl (by decide)];simp only[c115,c115_b,go_sem];repeat' ((first|rw[guardO_t]|rw[guardO_f]|rw[cw_bool]);split<;>rename_i h<;>(try rw[Bool.not_eq_true] at h)<;>(try simp only[go_sem, *])))
theorem hasP (k:Int) (t:GTy) (ok:OkTy t) (S:St):cal (env ot oz) 86 [.agg (rTy t),.int .i64 k] S=some (.bool (hasT k t),S):=by
 have w:=nodesP (ot:=ot) (oz:=oz) t
 obtain ⟨os,hr⟩:=has_range (ot:=ot) (oz:=oz) t ok k S
 cases q:hasT k t with
 |true=>
  simp only[q,if_true] at hr
  have g1:=hS_cell S k true 3 (some none) os
  have cl:close S (hS S k true 3 (some none) os) (.bool true)=(.bool true,S):=by
   unfold hS;rw[close_junk1];simp[sealW]
  generalize hS S k true 3 (some none) os=T at*
  (rw[w_plain (fn:=c86) rfl rfl (by simp only[go_sem,w,hr,g1,cl]) rfl (by decide)];simp only[c86,c86_b,go_sem,w,hr,g1,cl];repeat' ((first|rw[guardO_t]|rw[guardO_f]|rw[cw_bool]);split<;>rename_i h<;>(try rw[Bool.not_eq_true] at h)<;>(try simp only[go_sem,w,hr,g1,cl, *])))
 |false=>
  simp only[q,if_false,Bool.false_eq_true] at hr
  have g1:=hS_cell S k false 3 none os
  have g2:=hS_set S k false false 3 none os
  have cl:close S (hS S k false 3 none os) (.bool false)=(.bool false,S):=by
   unfold hS;rw[close_junk1];simp[sealW]
  have e5:=hS_own S k false 3 none os
  have e6:(⟨(hS S k false 3 none os).obs,S.own⟩:St)=hS S k false 3 none os:=rfl
  generalize hS S k false 3 none os=T at*
  (rw[w_plain (fn:=c86) rfl rfl (by simp only[go_sem,w,hr,g1,g2,cl,e5,e6]) rfl (by decide)];simp only[c86,c86_b,go_sem,w,hr,g1,g2,cl,e5,e6];repeat' ((first|rw[guardO_t]|rw[guardO_f]|rw[cw_bool]);split<;>rename_i h<;>(try rw[Bool.not_eq_true] at h)<;>(try simp only[go_sem,w,hr,g1,g2,cl,e5,e6, *])))
theorem fineP (t:GTy) (ok:OkTy t) (S:St):cal (env ot oz) 42 [.agg (rTy t)] S=some (.bool (rightT t&& !(hasT 9 t)),S):=by
 have r:=right_eq (ot:=ot) (oz:=oz) t ok
 have h:=hasP (ot:=ot) (oz:=oz) 9 t ok
 cases q:rightT t<;>(rw[w_plain (fn:=c42) rfl rfl (by simp only[go_sem,r,h,q]) rfl (by decide)];simp only[c42,c42_b,c42_r1,go_sem,r,h,q];repeat' ((first|rw[guardO_t]|rw[guardO_f]|rw[cw_bool]);split<;>rename_i h<;>(try rw[Bool.not_eq_true] at h)<;>(try simp only[go_sem,c42_r1,r,h,q, *])))
theorem allPTy (l:List GTy) (p:GTy→Bool) (hl:Short l.length) (f:FuncId) (S:St) (hp: ∀ a∈l,cal (env ot oz) f [.agg (rTy a)] S=some (.bool (p a),S)):
  cal (env ot oz) 41 [.sl .ro (l.map rTy),.fn f [] []] S=some (.bool (l.all p),S):=by
 have h1: ∀ a∈l,cal (env ot oz) 85 ([]++[.agg (rTy a)]++[.at_ [.fn f [] []]]) S=some (.bool (!(p a)),S):=fun a ha=>by
  have c:=hp a ha
  simp only[List.nil_append,List.cons_append]
  (rw[w_plain (fn:=c85) rfl rfl (by simp only[go_sem,c]) rfl (by decide)];simp only[c85,c85_b,go_sem,c];repeat' ((first|rw[guardO_t]|rw[guardO_f]|rw[cw_bool]);split<;>rename_i h<;>(try rw[Bool.not_eq_true] at h)<;>(try simp only[go_sem,c, *])))
 have c:=containsFTy (ot:=ot) (oz:=oz) l (fun a=> !(p a)) hl 85 [] [.at_ [.fn f [] []]] S (fun _ _=>rfl) (fun _ _=>by simp[sealL,sealW]) h1
 have e:(l.any fun a=> !(p a))= !(l.all p):=by
  rw[List.not_all_eq_any_not]
 rw[e] at c
 (rw[w_plain (fn:=c41) rfl rfl (by simp only[go_sem,c]) rfl (by decide)];simp only[c41,c41_b,go_sem,c];repeat' ((first|rw[guardO_t]|rw[guardO_f]|rw[cw_bool]);split<;>rename_i h<;>(try rw[Bool.not_eq_true] at h)<;>(try simp only[go_sem,c, *])))
theorem allPExp (l:List GExp) (p:GExp→Bool) (hl:Short l.length) (f:FuncId) (S:St) (hp: ∀ a∈l,cal (env ot oz) f [.agg (rExp a)] S=some (.bool (p a),S)):
  cal (env ot oz) 43 [.sl .ro (l.map rExp),.fn f [] []] S=some (.bool (l.all p),S):=by
 have h1: ∀ a∈l,cal (env ot oz) 88 ([]++[.agg (rExp a)]++[.at_ [.fn f [] []]]) S=some (.bool (!(p a)),S):=fun a ha=>by
  have c:=hp a ha
  simp only[List.nil_append,List.cons_append]
  (rw[w_plain (fn:=c88) rfl rfl (by simp only[go_sem,c]) rfl (by decide)];simp only[c88,c88_b,go_sem,c];repeat' ((first|rw[guardO_t]|rw[guardO_f]|rw[cw_bool]);split<;>rename_i h<;>(try rw[Bool.not_eq_true] at h)<;>(try simp only[go_sem,c, *])))
 have c:=containsFExp (ot:=ot) (oz:=oz) l (fun a=> !(p a)) hl 88 [] [.at_ [.fn f [] []]] S (fun _ _=>rfl) (fun _ _=>by simp[sealL,sealW]) h1
 have e:(l.any fun a=> !(p a))= !(l.all p):=by
  rw[List.not_all_eq_any_not]
 rw[e] at c
 (rw[w_plain (fn:=c43) rfl rfl (by simp only[go_sem,c]) rfl (by decide)];simp only[c43,c43_b,go_sem,c];repeat' ((first|rw[guardO_t]|rw[guardO_f]|rw[cw_bool]);split<;>rename_i h<;>(try rw[Bool.not_eq_true] at h)<;>(try simp only[go_sem,c, *])))
end
end Go.PE
