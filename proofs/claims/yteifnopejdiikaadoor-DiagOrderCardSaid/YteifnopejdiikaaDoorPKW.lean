/-
  slices.Clone over diagnoses, as a function that is known: what it hands back is the caller's own. Conditions: each law's own.
-/
import Derived.Test.YteifnopejdiikaaDoorPE21
import Derived.Test.YteifnopejdiikaaDoorProg
import Derived.WalkKit
import Derived.KernelRfl
namespace Go.PE
open Go Go.RowKit Go.Proofs
set_option linter.unusedVariables false
set_option linter.unusedSimpArgs false
set_option maxRecDepth 100000
def endR (res:List ERes):Kont (PV×St)
 | .normal,ts,S=>(resVs ts S res).map fun vs=>(oneOrTup vs,S)
 | .ret,ts,S=>(resVs ts S res).map fun vs=>(oneOrTup vs,S)
 |_,_,_=>none
theorem ret_raw {P:Program} {G:Glob} {nt:Nat} {fn:Func} {rs:List ERes} (hrs:fn.results.toList.mapM (cRes P)=some rs) {S1 S':St} {C C1:Ctx} {w w1:World} {ts:Tmps} {tmps:Array Value} {r:PV} (h:(resVs ts S1 rs).map (fun vs=>(oneOrTup vs,S1))=some (r,S')) (hT1:TR nt C1 w1 ts tmps) (hW1:WRel G C1 S1 w1) (hs1:Step C w C1 w1):
  ∃ v,(results fn tmps).run P w1= .ok v w1∧RetR G C w r S' (.returned v) w1:=by
 simp only[Option.map_eq_some_iff] at h
 obtain ⟨pvs,hp,hcl⟩:=h
 obtain ⟨us,hus,hru⟩:=resVs_run hW1 hT1 hrs hp
 have hres:(results fn tmps).run P w1= .ok (if h:us.toArray.size=1 then us.toArray[0] else .tuple us.toArray) w1:=by
  unfold results
  rw[Array.mapM_eq_mapM_toList]
  simp only[Sem.run_bind,Sem.run_map,Sem.run_pure]
  exact congrArg (fun r:Result (List Value)=>(r.andThen fun a w'=>Result.ok a.toArray w').andThen fun a w'=>Result.ok (if h:a.size=1 then a[0] else Value.tuple a) w') hus
 injection hcl with e1 e2
 subst e1 e2
 exact ⟨_,hres,C1,_,rfl,oneOrTup_rep hru,hW1,hs1⟩
theorem raw_ok {P:Program} {E:Env} (hE:EnvOk P E) {f:FuncId} {c:EFn} (ht:E.tab f=some c) (hd:c.dfr=none) {args args':List PV} {S S':St} {r:PV} (ha:askD args=some args') (hl:args.length=c.np) (hle:c.np≤c.ntmps)
  (h:run E (endR c.res) [] c.body (frameOf 0 args') S=some (r,S')):CallSpec P E.G f args S r S':=by
 obtain ⟨n,hv⟩:=(lim_some (run_mono _)).1 h
 have ihE:=(all_ok hE n).2
 obtain ⟨_,fn,hf',hcf,hname⟩:=hE.tab f c ht
 obtain ⟨np,ntm,rs',cb,dfr,rc⟩:=c
 have hd':dfr=none:=hd
 subst hd'
 simp only[cFn,bind,Option.bind_eq_some_iff] at hcf
 obtain ⟨body,hb,rs,hrs,hcf⟩:=hcf
 intro C w vs hW hR
 have hR':=askD_rep hR ha
 refine callsOfFF (r:=none) (n:=0) (callsIn_of_wp_marks hf' hb trivial ?_)
 split at hcf
 ·simp only[Option.bind_eq_some_iff,Option.some.injEq] at hcf
  obtain ⟨_,_,_,_,_,_,_,_,hcf⟩:=hcf
  have:=congrArg EFn.dfr hcf
  simp[EFn.strip] at this
 ·simp only[Option.bind_eq_some_iff,Option.some.injEq] at hcf
  obtain ⟨cb',hcb,hcf⟩:=hcf
  simp only[EFn.strip,EFn.mk.injEq] at hcf
  obtain ⟨rfl,rfl,rfl,rfl,hd,_⟩:=hcf
  have hT0:=frame_start (P:=P) (nt:=fn.ntmps) hR hR' hl hle
  refine body_core (R:=RetR E.G C w r S') ihE hcb hv hW hW (.refl C w) hT0 0 (fun id ts S=>by simp[konN,endR]) (fun x ts' S1 C' w' tmps' hx hK hT' hW' hs' _=> ?_) (fun v ts' S1 C' w' tmps' u hK=>by simp[konN,endR] at hK)
  have hK':(resVs ts' S1 rs).map (fun vs=>(oneOrTup vs,S1))=some (r,S'):=by
   rcases hx with rfl|rfl<;>exact hK
  exact ret_raw hrs hK' hT' hW' hs'
def clC:EFn:=⟨1,8,[.tmp 2],(.seq (.reg 0 [⟨some 2,.mv (.con (.sl .null [])),none,Q0⟩] false (some [0]))
 (.seq (.seq (.reg 1 [⟨some 3,.mv (.tmp 0),none,Q0⟩,⟨some 4,.eqL false (.tmp 3) (.con (.sl .null [])),none,Q0⟩] false (some [0,4]))
 (.cond (.tmp 4) (.seq (.reg 2 [⟨some 2,.mv (.con (.sl .null [])),none,Q0⟩] false (some [2]))
 .ret) .skip))
 (.seq (.reg 3 [⟨some 5,.rows 0 3 [(.str ⟨#[]⟩),(.int .i64 0),(.int .i64 0)] [],none,Q0⟩,⟨some 6,.mv (.tmp 0),none,Q0⟩,⟨some 7,.app 31 3 32 (.tmp 5) (.tmp 6),none,Q0⟩,⟨some 2,.mv (.tmp 7),none,Q0⟩] false (some [2]))
 .ret))),none,true⟩
theorem clC_ok:cFn Tryd.prog Tryd.f24=some clC.strip:=by kernel_rfl
def clF (args:List PV) (S:St):Option (PV×St):=
 match askD args with
  |some [.sl .ro xs]=>if xs.isEmpty then some (.sl .exact [],S) else appP S 31 3 32 .exact [] xs
  |_=>none
theorem enter_cl:Enter Tryd.prog 24:=⟨_,Tryd.func24,by kernel_rfl,by kernel_rfl⟩
def clE (G:Glob):Env:=⟨G,findE [(24,clC)],fun _=>none⟩
theorem clE_tab:TabOk Tryd.prog [(24,clC)]:=⟨⟨by decide,Tryd.f24,Tryd.func24,clC_ok,by kernel_rfl⟩,trivial⟩
theorem clE_ok (G:Glob) (hG:G.prog=Tryd.prog):EnvOk Tryd.prog (clE G):=⟨by kernel_rfl,hG,fun f c h=>clE_tab.find f c h,fun f F h=>by cases h⟩
theorem cl_nil (a:Option Addr) (cap:Nat) (w:World):(Sem.run Tryd.prog (Go.binOp .eql 22 (.slice a 0 cap) (.slice none 0 0)) w)= .ok (.bool a.isNone) w:=by
 have hE:(Op.equal 22 (.slice a 0 cap) (.slice none 0 0)).run Tryd.prog w= .ok a.isNone w:=eq_run fun d=>by
  unfold Op.equalIn;cases a<;>simp[underlying_run Tryd.underlying22]
 simp[Go.binOp,hE]
set_option maxHeartbeats 2000000 in
theorem cl_walk (a:Option Addr) (cap:Nat) (w:World):Calls Tryd.prog 24 #[.slice a 0 cap] w fun e w'=> ∃ a',e= .returned (.slice a' 0 0)∧(w'=w∨ ∃ o,w'=w.alloc o):=by
 cases a with
 |none=>
  go_enter Tryd.func24,Tryd.ntmps24
  go_wp2
  rw[cl_nil]
  simp only[Result.andThen,Option.isNone_none,Option.isNone_some]
  rw[Oper.upon_value]
  go_wp2
  go_ret
  exact ⟨_,rfl,.inl rfl⟩
 |some a=>
  go_enter Tryd.func24,Tryd.ntmps24
  go_wp2
  rw[cl_nil]
  simp only[Result.andThen,Option.isNone_none,Option.isNone_some]
  rw[Oper.upon_value]
  go_wp2
  go_ret
  exact ⟨_,rfl,.inr ⟨_,rfl⟩⟩
theorem clF_spec (G:Glob) (hG:G.prog=Tryd.prog) (args:List PV) (S:St) (r:PV) (S':St) (h:clF args S=some (r,S')):CallSpec Tryd.prog G 24 args S r S':=by
 unfold clF at h
 split at h
 ·rename_i xs ha
  cases xs with
  |nil=>
   simp only[List.isEmpty_nil,if_true] at h
   injection h with h;injection h with e1 e2;subst e1 e2
   intro C w vs hW hR
   have hR:=askD_rep hR ha
   match vs,hR with
   |[],hR=>have:=hR.1;simp at this
   |_::_::_,hR=>have:=hR.1;simp at this
   |[v],hR=>
   have rp:=hR.2 0 _ v rfl rfl
   cases rp with
   |sl _ _ a n cap sz hn=>
    cases hn
    refine (cl_walk a cap w).mono ?_
    rintro e w' ⟨a',rfl,hw⟩
    have hb:Below w.heap.size w w':=by
     rcases hw with rfl|⟨o,rfl⟩
     ·exact .refl _ _
     ·exact below_push _ _
    refine ⟨C,_,rfl,.sl .exact [] a' 0 0 0 rfl (by simp) (fun j r h=>by simp at h) (fun h=>by cases h) (fun _=>rfl) (fun h=>absurd rfl h) ?_ ?_ ?_ ?_,hW.of_below hb,.of_below hb C⟩
    ·intro j r i p h;simp at h
    ·intro b off j r i p _ h;simp at h
    ·intro b off j r i p v _ h;simp at h
    ·intro k e h;cases h
  |cons x xs=>
   simp only[List.isEmpty_cons,if_false,Bool.false_eq_true] at h
   have hlen:args.length=1:=by
    have:=(sealL_spec ha).1;simpa using this.symm
   refine raw_ok (E:=clE G) (clE_ok G hG) (c:=clC) rfl rfl ha hlen (by decide) ?_
   have h0:=h
   unfold appP at h0
   simp only[List.isEmpty_cons,Bool.false_eq_true,if_false] at h0
   split at h0
   ·injection h0 with h0;injection h0 with e1 e2;subst e1 e2
    simp only[clC,h,endR,reduceIte,Nat.reduceEqDiff,Nat.reduceAdd,Nat.reduceSub,Nat.reduceMul,Nat.reduceLeDiff,Nat.reduceLT,Int.reduceNeg,Int.reduceEq,Int.reduceLT,Int.reduceLE,Int.reduceNe,Int.reduceToNat,Int.reduceAdd,Int.reduceMul,Int.reduceSub,Int.reduceBEq,EOpd.isCon,frameOf,evOps_nil,evOps_cons,evOps_consg,stepO_some,stepO_q,guardO_yes,guardO_tf,guardO_ft,guardO_un,stepR_some,stepC_true,stepC_false,kont_seq_n,kont_seq_e,kont_seq_r,kont_block_n,kont_block_e,kont_block_r,kont_loop_n,kont_loop_e,kont_loop_r,kont_nil_n,kont_nil_r,lev_skip,lev_reg,lev_seq,lev_cond,lev_block,lev_exit,lev_ret,endF_n,endF_r,stepE_some,evOp,EOpd.val,wantedE,PE.put,PE.look,derefP,St.cells,rowOf,binP,idxP,boundP,optVal,vals,PV.okc,PV.cells,sel,resVs,resV,oneOrTup,close_same,sealW,Option.bind_some,Option.map_some,Option.bind_none,Option.map_none,List.map_cons,List.map_nil,Bool.false_and,Bool.not_false,Bool.not_true,Bool.true_and,Bool.false_eq_true,if_false,if_true,List.drop_succ_cons,List.drop_zero,List.getElem?_cons_zero,List.getElem?_cons_succ,List.length_cons,List.length_nil,ite_self,ne_eq,not_true_eq_false,not_false_eq_true,and_true,true_and,decide_eq_true_eq,Bool.or_eq_true,St.beq_refl,Nat.le_refl,List.take_succ_cons,List.take_zero,List.append_nil,List.nil_append,List.cons_append,eq_self,List.length_map,List.getElem?_map,Int.natCast_nonneg,Int.toNat_natCast,Nat.zero_le,Nat.zero_add,Nat.add_zero,List.getElem?_drop,List.length_drop,List.drop_drop,Int.zero_add,decide_true,decide_false,beq_self_eq_true,fillP,setRow,List.set_cons_zero,List.set_cons_succ,Bool.or_false,Bool.false_or,Bool.or_true,Bool.true_or,Bool.and_true,Bool.and_false,Bool.not_not,List.length_set,gt_iff_lt,ge_iff_le,Option.some.injEq,Prod.mk.injEq,app_get,app_get0,app_set,app_set0,List.length_append,List.append_assoc,sealL,sealLL,close_junk1,askD,Int.cast_ofNat_Int,Int.natCast_pos,Nat.zero_lt_succ,Nat.lt_irrefl,Nat.lt_add_one,or_self,or_false,false_or,and_false,false_and,or_true,true_or,and_self,headOk_nil,headOk_cons,repRow,chunk,Nat.mul_one,Nat.one_mul,List.isEmpty_cons,List.isEmpty_nil,List.map_append,strEq_refl,eqCells,eqAtom,bne_self_eq_false,Bool.bne_false,Bool.false_bne,Bool.bne_true,rw_some,cw_true,cw_false,stepO_l,stepO_o,stepO_os,w_regP,pw_some,a_nil_p,a_seq_p,a_again_p,a_block_p,a_seq_n,a_seq_e,a_seq_r,a_block_n,a_block_e,a_block_r,a_again_e,a_again_r,a_nil_n,a_nil_r,w_skip,w_reg,w_seq,w_cond,w_block,w_exit,w_ret,close_none,none_obs,none_own]
   ·cases h0
 ·cases h
theorem clF_mv (B:St) (args:List PV) (S:St) (r:PV) (S':St) (h:clF args S=some (r,S')):clF (mBL B args) (mS B S)=some (mB B r,mS B S'):=by
 unfold clF at h ⊢
 split at h
 ·rename_i xs ha
  have e:askD (mBL B args)=some [.sl .ro (mBLL B xs)]:=by rw[askD_mv,ha];rfl
  rw[e]
  cases xs with
  |nil=>
   simp only[List.isEmpty_nil,if_true] at h
   injection h with h;injection h with e1 e2;subst e1 e2
   rfl
  |cons x xs=>
   simp only[List.isEmpty_cons,if_false,Bool.false_eq_true] at h
   have:=appP_mv (B:=B) h
   have e2:mBLL B (x::xs)=mBL B x::mBLL B xs:=rfl
   rw[e2] at this ⊢
   exact this
 ·cases h
end Go.PE
