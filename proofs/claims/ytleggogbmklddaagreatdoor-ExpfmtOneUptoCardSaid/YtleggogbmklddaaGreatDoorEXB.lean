/-
  How many nodes types and expressions have, and how deep they are, by the program. Conditions: each law's own.
-/
import Derived.Test.YtleggogbmklddaaGreatDoorEX4
namespace Go.PE
open Go Go.RowKit Go.Proofs
set_option linter.unusedVariables false
set_option linter.unusedSimpArgs false
set_option maxRecDepth 100000
theorem wrap_add {a b:Nat} (h:a+b≤9223372036854775807):IntKind.i64.wrap ((a:Int)+(b:Int))=((a+b:Nat):Int):=add_nat h
theorem wrap_one {a:Nat} (h:a+1≤9223372036854775807):IntKind.i64.wrap ((a:Int)+1)=((a+1:Nat):Int):=by
 have:=wrap_add (a:=a) (b:=1) h
 simpa using this
section
variable {ot:TypeId} {oz:EP}
def nR (S:St) (st:Nat):ELoop:=⟨[6],c102_f0_a,c102_f0_b,[(2,some (.int .i64 0)),(3,some (.ref S.obs.length 0))],st,none⟩
def nSt (S:St) (n:Nat) (st:Nat) (os:List Ob):St:=⟨S.obs++ .cells 3 [.int .i64 (n:Int)]:: .loop (nR S st)::os,S.own⟩
theorem nSt_cell (S:St) (n st:Nat) (os:List Ob):(nSt S n st os).obs[S.obs.length]?=some (.cells 3 [.int .i64 (n:Int)]):=by simp[nSt]
theorem nSt_loop (S:St) (n st:Nat) (os:List Ob):(nSt S n st os).obs[S.obs.length+1]?=some (.loop (nR S st)):=by simp[nSt]
theorem nSt_len (S:St) (n st:Nat) (os:List Ob):(nSt S n st os).obs.length=S.obs.length+2+os.length:=by simp[nSt];omega
theorem nSt_set (S:St) (n n' st:Nat) (os:List Ob):(nSt S n st os).obs.set S.obs.length (.cells 3 [.int .i64 (n':Int)])=(nSt S n' st os).obs:=by simp[nSt]
theorem nSt_own (S:St) (n st:Nat) (os:List Ob):(nSt S n st os).own=S.own:=rfl
theorem nSt_setL (S:St) (n st st':Nat) (os:List Ob):setLoop (nSt S n st os) (S.obs.length+1) st' none=some (nSt S n st' os):=by
 unfold setLoop
 rw[nSt_loop]
 simp[nSt,nR]
theorem nSt_app (S:St) (n st:Nat) (os:List Ob) (x:Ob):(⟨(nSt S n st os).obs++[x],(nSt S n st os).own⟩:St)=nSt S n st (os++[x]):=by simp[nSt]
theorem nodes_round (S:St) (n:Nat) (x:GTy) (os:List Ob) (hn:n+1≤9223372036854775807):cal (env ot oz) yid [.yld (S.obs.length+1),.agg (rTy x)] (nSt S n 0 os)=some (.bool true,nSt S (n+1) 0 os):=by
 rw[w_yield (r:=nR S 0) (vs':=[.agg (rTy x)]) rfl rfl (nSt_loop S n 0 os) rfl (by simp only[nR];kernel_rfl) (by simp only[go_sem,rTy_sl])]
 have hrun: ∀ (T0:St),run (env ot oz) (rndE (S.obs.length+1)) [.rnd (S.obs.length+1) (nR S 0).bd] (nR S 0).asg (bindP (nR S 0).ps [.agg (rTy x)] (nR S 0).ts) T0=aft (env ot oz) (rndE (S.obs.length+1)) [.rnd (S.obs.length+1) (nR S 0).bd] .normal [(6,some (.agg (rTy x))),(2,some (.int .i64 0)),(3,some (.ref S.obs.length 0))] T0:=fun T0=>by
  simp only[nR,c102_f0_a,bindP,go_sem]
 rw[hrun,a_rnd_n (nSt_loop S n 0 _) rfl (nSt_setL S n 0 1 _)]
 have g1:=nSt_cell S n 1 os
 have e3:=nSt_set S n (n+1) 1 os
 have e5:=nSt_own S n 1 os
 have e6:(⟨(nSt S (n+1) 1 os).obs,S.own⟩:St)=nSt S (n+1) 1 os:=rfl
 have e2:=nSt_setL S (n+1) 1 0 os
 have w:=wrap_one hn
 generalize nSt S n 1 os=T1 at*
 generalize nSt S (n+1) 1 os=T2 at*
 simp only[nR,c102_f0_b,go_sem,g1,w,e3,e5]
 simp only[e6,rndE,e2,Option.map_some]
theorem nodes_close (S:St) (n n':Nat) (os os':List Ob) (v:PV) (h:n'≠n):close (nSt S n 0 os) (nSt S n' 0 os') v=(v,nSt S n' 0 os'):=by
 unfold close
 have: ¬ (beqO ((nSt S n' 0 os').obs.take (nSt S n 0 os).obs.length) (nSt S n 0 os).obs&&(nSt S n' 0 os').own.take (nSt S n 0 os).own.length==(nSt S n 0 os).own)=true:=by
  intro hh
  simp only[Bool.and_eq_true] at hh
  have e:=beqO_sound hh.1
  have h1:=nSt_cell S n 0 os
  have h2:=nSt_cell S n' 0 os'
  have h3:(nSt S n 0 os).obs[S.obs.length]?=some (.cells 3 [.int .i64 (n':Int)]):=by
   rw[←e,List.getElem?_take,if_pos (by have:=nSt_len S n 0 os;omega)]
   exact h2
  rw[h3] at h1;injection h1 with h1;injection h1 with _ h1;injection h1 with h1;injection h1 with _ h1;omega
 simp only[this,Bool.false_eq_true,if_false]
theorem nodes_walk (S:St): ∀ t,OkTy t→ ∀ n os,n+nodesT t≤1000000000000→ ∃ os',cal (env ot oz) 130 [.agg (rTy t),.yld (S.obs.length+1)] (nSt S n 0 os)=some (.bool true,nSt S (n+nodesT t) 0 os'):=by
 refine GTy.ind fun t ih ok n os hn=> ?_
 obtain ⟨a1,a2⟩:=okTy_a ok
 rw[nodesT_eq] at hn ⊢
 have y:=nodes_round (ot:=ot) (oz:=oz) S n t os (by omega)
 obtain ⟨ts',T2,hI,hr⟩:=loopR (E:=(env ot oz)) (c:=c130_l0) t.Args a1 (fun m a=>m+nodesT a)
  (fun i m ts T=>ts=[(1,some (.yld (S.obs.length+1))),(12,some (.sl .ro (t.Args.map rTy))),(13,some (.int .i64 (t.Args.length:Int))),(14,some (.int .i64 (i:Int)))]∧(∃ os,T=nSt S m 0 os)∧m+nodesTs (t.Args.drop i)≤1000000000000)
  (fun i m a ts T h1 h2 h3 h4 hh=>by
   obtain ⟨rfl,⟨os,rfl⟩,hm⟩:=hh
   rw[drop_at h1,nodesTs] at hm
   obtain ⟨os1,c⟩:=ih a h2 (a2 a h2) m (os++[.cells 34 (rTy a)]) (by omega)
   rw[←nSt_app] at c
   refine ⟨_,_,⟨rfl,⟨os1,rfl⟩,by omega⟩,fun fin st=> ?_⟩
   generalize nSt S (m+nodesT a) 0 os1=T2 at*
   generalize nSt S m 0 os=T1 at*
   (rw[c130_l0_w];simp only[c130_l0_b,c130_l0_a,go_sem,h1,h3,h4,c];repeat' ((first|rw[guardO_t]|rw[guardO_f]|rw[cw_bool]);split<;>rename_i h<;>(try rw[Bool.not_eq_true] at h)<;>(try simp only[go_sem,c130_l0_a,h1,h3,h4,c, *])))) (n+1) _ (nSt S (n+1) 0 os) ⟨rfl,⟨os,rfl⟩,by rw[List.drop_zero];omega⟩
 obtain ⟨rfl,⟨os2,rfl⟩,_⟩:=hI
 rw[sum_fold nodesT nodesTs rfl (fun _ _=>rfl)] at hr
 have e:n+1+nodesTs t.Args=n+(nodesTs t.Args+1):=by omega
 rw[e] at hr
 have cl:=nodes_close S n (n+(nodesTs t.Args+1)) os os2 (.bool true) (by omega)
 have ex: ∀ T fin st,run (env ot oz) fin st c130_l0 [(1,some (.yld (S.obs.length+1))),(12,some (.sl .ro (t.Args.map rTy))),(13,some (.int .i64 (t.Args.length:Int))),(14,some (.int .i64 (t.Args.length:Int)))] T=aft (env ot oz) fin st (.exit 0) [(1,some (.yld (S.obs.length+1))),(12,some (.sl .ro (t.Args.map rTy))),(13,some (.int .i64 (t.Args.length:Int))),(14,some (.int .i64 (t.Args.length:Int))),(15,some (.bool false))] T:=fun T fin st=>by
  (rw[c130_l0_w];simp only[c130_l0_b,c130_l0_a,go_sem];repeat' ((first|rw[guardO_t]|rw[guardO_f]|rw[cw_bool]);split<;>rename_i h<;>(try rw[Bool.not_eq_true] at h)<;>(try simp only[go_sem,c130_l0_a, *])))
 have hr:=fun fin st=>(hr fin st).trans (ex _ fin st)
 simp only[Int.cast_ofNat_Int] at hr
 refine ⟨os2, ?_⟩
 generalize nSt S (n+(nodesTs t.Args+1)) 0 os2=T3 at*
 generalize nSt S (n+1) 0 os=T2 at*
 generalize nSt S n 0 os=T1 at*
 (rw[w_plain (fn:=c130) rfl rfl (by simp only[go_sem,y,hr,cl]) rfl (by decide)];simp only[c130,c130_b,go_sem,y,hr,cl];repeat' ((first|rw[guardO_t]|rw[guardO_f]|rw[cw_bool]);split<;>rename_i h<;>(try rw[Bool.not_eq_true] at h)<;>(try simp only[go_sem,y,hr,cl, *])))
theorem tyNodesP (t:GTy) (ok:OkTy t) (hn:nodesT t≤1000000000000) (S:St):cal (env ot oz) 102 [.agg (rTy t)] S=some (.int .i64 (nodesT t:Int),S):=by
 have w:=nodesP (ot:=ot) (oz:=oz) t
 obtain ⟨os1,c⟩:=nodes_walk (ot:=ot) (oz:=oz) S t ok 0 [] (by omega)
 rw[Nat.zero_add] at c
 have hpos:nodesT t≠0:=by rw[nodesT_eq];omega
 have cl:=nodes_close S 0 (nodesT t) [] os1 (.tup []) hpos
 have c2:cal (env ot oz) 129 [.yld (S.obs.length+1),.at_ (rTy t)] (nSt S 0 0 [])=some (.un,nSt S (nodesT t) 0 os1):=by
  generalize nSt S (nodesT t) 0 os1=T2 at*
  generalize nSt S 0 0 []=T1 at*
  (rw[w_plain (fn:=c129) rfl rfl (by simp only[go_sem,c,cl]) rfl (by decide)];simp only[c129,c129_b,go_sem,c,cl];repeat' ((first|rw[guardO_t]|rw[guardO_f]|rw[cw_bool]);split<;>rename_i h<;>(try rw[Bool.not_eq_true] at h)<;>(try simp only[go_sem,c,cl, *])))
 have hr: ∀ fin st,run (env ot oz) fin st (.rangeF (some [2,3]) (.tmp 5) [6] c102_f0_a c102_f0_b) [(2,some (.int .i64 0)),(3,some (.ref S.obs.length 0)),(5,some (.fn 129 [] [.at_ (rTy t)]))] ⟨S.obs++[.cells 3 [.int .i64 0]],S.own⟩=
   aft (env ot oz) fin st .normal [(2,some (.int .i64 0)),(3,some (.ref S.obs.length 0))] (nSt S (nodesT t) 3 os1):=fun fin st=>by
  rw[w_range (f:=129) (first:=[]) (caps:=[.at_ (rTy t)]) (by simp only[go_sem])]
  have e1:(⟨S.obs++[Ob.cells 3 [.int .i64 0]],S.own⟩:St).obs.length=S.obs.length+1:=by simp
  have e2:({(⟨S.obs++[Ob.cells 3 [.int .i64 0]],S.own⟩:St) with obs:=(⟨S.obs++[Ob.cells 3 [.int .i64 0]],S.own⟩:St).obs++[.loop ⟨[6],c102_f0_a,c102_f0_b,sel (some [2,3]) [(2,some (.int .i64 0)),(3,some (.ref S.obs.length 0)),(5,some (.fn 129 [] [.at_ (rTy t)]))],0,none⟩]}:St)=nSt S 0 0 []:=by
   simp[nSt,nR,sel,PE.look]
  rw[e2,e1]
  simp only[List.nil_append,List.cons_append]
  rw[c2]
  simp only[stepFw,nSt_loop,stepFw2,nR]
  rw[if_neg (by decide)]
  simp[nSt,nR,pendX,sel,PE.look]
 have g1:=nSt_cell S (nodesT t) 3 os1
 have cl2:close S (nSt S (nodesT t) 3 os1) (.int .i64 (nodesT t:Int))=(.int .i64 (nodesT t:Int),S):=by
  unfold nSt;rw[close_junk1];simp[sealW]
 generalize nSt S (nodesT t) 3 os1=T at*
 (rw[w_plain (fn:=c102) rfl rfl (by simp only[go_sem,w,hr,g1,cl2]) rfl (by decide)];simp only[c102,c102_b,go_sem,w,hr,g1,cl2];repeat' ((first|rw[guardO_t]|rw[guardO_f]|rw[cw_bool]);split<;>rename_i h<;>(try rw[Bool.not_eq_true] at h)<;>(try simp only[go_sem,w,hr,g1,cl2, *])))
theorem tyDepthP: ∀ (t:GTy),OkTy t→nodesT t≤1000000000000→ ∀ S,cal (env ot oz) 103 [.agg (rTy t)] S=some (.int .i64 (depthT t:Int),S):=by
 refine GTy.ind fun t ih ok hn S=> ?_
 obtain ⟨a1,a2⟩:=okTy_a ok
 rw[nodesT_eq] at hn
 obtain ⟨ts',T2,hI,hr⟩:=loopR (E:=(env ot oz)) (c:=c103_l0) t.Args a1 (fun m a=>max m (depthT a))
  (fun i m ts T=>ts=[(3,some (.int .i64 (m:Int))),(7,some (.sl .ro (t.Args.map rTy))),(8,some (.int .i64 (t.Args.length:Int))),(9,some (.int .i64 (i:Int)))]∧ ∃ os,T=⟨S.obs++os,S.own⟩)
  (fun i m a ts T h1 h2 h3 h4 hh=>by
   obtain ⟨rfl,os,rfl⟩:=hh
   have hm:=nodesTs_mem h2
   have c:=ih a h2 (a2 a h2) (by omega)
   have mx:=mx_nat m (depthT a)
   have mx2:=mx_nat' m (depthT a)
   refine ⟨_,_,⟨rfl,os++[.cells 34 (rTy a)],rfl⟩,fun fin st=> ?_⟩
   have g1: ∀ y,(S.obs++(os++[y]))[S.obs.length+os.length]?=some y:=fun y=>by simp
   have g2: ∀ y z,(S.obs++(os++[y])).set (S.obs.length+os.length) z=S.obs++(os++[z]):=fun y z=>by simp
   (rw[c103_l0_w];simp only[c103_l0_b,c103_l0_a,go_sem,h1,h3,h4,c,mx,mx2,g1,g2];repeat' ((first|rw[guardO_t]|rw[guardO_f]|rw[cw_bool]);split<;>rename_i h<;>(try rw[Bool.not_eq_true] at h)<;>(try simp only[go_sem,c103_l0_a,h1,h3,h4,c,mx,mx2,g1,g2, *])))) 0 _ S ⟨rfl,[],by simp⟩
 obtain ⟨rfl,os,rfl⟩:=hI
 rw[max_fold depthT depthTs rfl (fun _ _=>rfl),Nat.zero_max] at hr
 have ex: ∀ T fin st,run (env ot oz) fin st c103_l0 [(3,some (.int .i64 (depthTs t.Args:Int))),(7,some (.sl .ro (t.Args.map rTy))),(8,some (.int .i64 (t.Args.length:Int))),(9,some (.int .i64 (t.Args.length:Int)))] T=aft (env ot oz) fin st (.exit 0) [(3,some (.int .i64 (depthTs t.Args:Int))),(7,some (.sl .ro (t.Args.map rTy))),(8,some (.int .i64 (t.Args.length:Int))),(9,some (.int .i64 (t.Args.length:Int))),(10,some (.bool false))] T:=fun T fin st=>by
  (rw[c103_l0_w];simp only[c103_l0_b,c103_l0_a,go_sem];repeat' ((first|rw[guardO_t]|rw[guardO_f]|rw[cw_bool]);split<;>rename_i h<;>(try rw[Bool.not_eq_true] at h)<;>(try simp only[go_sem,c103_l0_a, *])))
 have hr:=fun fin st=>(hr fin st).trans (ex _ fin st)
 have hd:=depths_nodes t.Args
 have w:=wrap_one (a:=depthTs t.Args) (by omega)
 have cl:close S ⟨S.obs++os,S.own⟩ (.int .i64 ((depthTs t.Args+1:Nat):Int))=(.int .i64 ((depthTs t.Args+1:Nat):Int),S):=by
  rw[close_junk1];simp[sealW]
 rw[depthT_eq]
 simp only[Int.cast_ofNat_Int] at hr
 generalize (⟨S.obs++os,S.own⟩:St)=T at*
 (rw[w_plain (fn:=c103) rfl rfl (by simp only[go_sem,hr,w,cl]) rfl (by decide)];simp only[c103,c103_b,go_sem,hr,w,cl];repeat' ((first|rw[guardO_t]|rw[guardO_f]|rw[cw_bool]);split<;>rename_i h<;>(try rw[Bool.not_eq_true] at h)<;>(try simp only[go_sem,hr,w,cl, *])))
end
end Go.PE
