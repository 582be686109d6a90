/-
  This seat's functions bear no private numbers in their code; so closed calls are settled anywhere. No conditions.
-/
import Derived.Attr
import Derived.KernelRfl
import Derived.Test.YtleggogbmklddaaGreatDoorPQ
import Derived.Test.YtleggogbmklddaaGreatDoorPJ
import Derived.Test.YtleggogbmklddaaGreatDoorPKN
namespace Go.PE
open Go Go.RowKit Go.Proofs
set_option linter.unusedVariables false
set_option linter.unusedSimpArgs false
set_option maxRecDepth 100000
def tabFree:List (Nat×EFn)→Bool
 |[]=>true
 |(_,c)::l=>c.free&&tabFree l
theorem tabFree_find: ∀ {l:List (Nat×EFn)},tabFree l=true→ ∀ f c,findE l f=some c→c.free=true
 |[],_,f,c,h=>by cases h
 |(k,c')::l,ht,f,c,h=>by
  simp only[tabFree,Bool.and_eq_true] at ht
  simp only[findE] at h
  split at h
  ·injection h with h;subst h;exact ht.1
  ·exact tabFree_find ht.2 f c h
theorem ccF_mv (B:St) (args:List PV) (S:St) (r:PV) (S':St) (h:ccF args S=some (r,S')):ccF (mBL B args) (mS B S)=some (mB B r,mS B S'):=by
 unfold ccF at h
 split at h
 ·rename_i l
  have e:mBL B [.ref l 0]=[.ref (B.obs.length+l) 0]:=rfl
  rw[e]
  unfold ccF
  simp only[mS_ob]
  split at h
  ·rename_i t x hob
   rw[hob]
   split at h
   ·rename_i ht
    injection h with h;injection h with h1 h2;subst h1 h2
    simp only[Option.map_some,mBO,mvO,mvL,mvV,ht,if_true,mS_obs_set]
   ·cases h
  ·rename_i t l' x hob
   rw[hob]
   split at h
   ·rename_i hl
    injection h with h;injection h with h1 h2;subst h1 h2
    simp only[Option.map_some,mBO,mvO,mvL,mvV,hl,if_true]
   ·cases h
  ·cases h
 ·cases h
theorem itF_mv (B:St) (args:List PV) (S:St) (r:PV) (S':St) (h:itF args S=some (r,S')):itF (mBL B args) (mS B S)=some (mB B r,mS B S'):=by
 unfold itF at h
 split at h
 ·rename_i n
  split at h
  ·rename_i hn
   injection h with h;injection h with h1 h2;subst h1 h2
   show itF [.int .i64 n] (mS B S)=_
   unfold itF
   simp only[hn,and_self,if_true];rfl
  ·cases h
 ·cases h
theorem env_free (t:TypeId) (z:EP):EnvFree (env t z):=by
 refine ⟨fun g cs h=> ?_,fun f c h=>tabFree_find (show tabFree tabL=true by kernel_rfl) f c h,fun B f F h=> ?_⟩
 ·simp only[env,gtab] at h
  (repeat' split at h)<;>first|(cases h;done)|(injection h with h;subst h;rfl)
 ·simp only[env,knownF] at h
  (repeat' split at h)<;>first|(cases h;done)|(injection h with h;subst h;intro args S r S' hh;first|exact jnF_mv B args S r S' hh|exact srF_mv B args S r S' hh|exact cpF_mv B args S r S' hh|exact ccF_mv B args S r S' hh|exact itF_mv B args S r S' hh|exact ibF_mv B args S r S' hh|exact scF_mv B args S r S' hh|exact piF_mv B args S r S' hh|exact fcF_mv B args S r S' hh|exact faF_mv B args S r S' hh)
end Go.PE
namespace Go.PE
open Go Go.RowKit Go.Proofs
attribute[go_sem_proc] reduceIte Nat.reduceEqDiff Nat.reduceAdd Nat.reduceSub Nat.reduceMul Nat.reduceLeDiff Nat.reduceLT Int.reduceNeg Int.reduceEq Int.reduceLT Int.reduceLE Int.reduceNe Int.reduceToNat Int.reduceAdd Int.reduceMul Int.reduceSub Int.reduceBEq
attribute[go_sem] EOpd.isCon frameOf evOps_nil evOps_cons evOps_consg stepO_some stepO_q guardO_yes guardO_tf guardO_ft guardO_un stepR_some stepC_true stepC_false kont_seq_n kont_seq_e kont_seq_r kont_block_n kont_block_e kont_block_r kont_loop_n kont_loop_e kont_loop_r kont_nil_n kont_nil_r lev_skip lev_reg lev_seq lev_cond lev_block lev_exit lev_ret endF_n endF_r stepE_some evOp EOpd.val wantedE PE.put PE.look derefP St.cells rowOf binP idxP boundP optVal vals PV.okc PV.cells sel resVs resV oneOrTup close_same sealW Option.bind_some Option.map_some Option.bind_none Option.map_none List.map_cons List.map_nil Bool.false_and Bool.not_false Bool.not_true Bool.true_and Bool.false_eq_true if_false if_true List.drop_succ_cons List.drop_zero List.getElem?_cons_zero List.getElem?_cons_succ List.length_cons List.length_nil ite_self ne_eq not_true_eq_false not_false_eq_true and_true true_and decide_eq_true_eq Bool.or_eq_true St.beq_refl Nat.le_refl List.take_succ_cons List.take_zero List.append_nil List.nil_append List.cons_append eq_self List.length_map List.getElem?_map Int.natCast_nonneg Int.toNat_natCast Nat.zero_le Nat.zero_add Nat.add_zero List.getElem?_drop List.length_drop List.drop_drop Int.zero_add decide_true decide_false beq_self_eq_true fillP setRow List.set_cons_zero List.set_cons_succ Bool.or_false Bool.false_or Bool.or_true Bool.true_or Bool.and_true Bool.and_false Bool.not_not List.length_set gt_iff_lt ge_iff_le Option.some.injEq Prod.mk.injEq app_get app_get0 app_set app_set0 List.length_append List.append_assoc sealL sealLL rStr_sll rInt_sll rByte_sll rStr_ok rInt_ok rByte_ok close_junk1 askD Int.cast_ofNat_Int Int.natCast_pos Nat.zero_lt_succ Nat.lt_irrefl Nat.lt_add_one or_self or_false false_or and_false false_and or_true true_or and_self headOk_nil headOk_cons repRow chunk Nat.mul_one Nat.one_mul List.isEmpty_cons List.isEmpty_nil List.map_append strEq_refl eqCells eqAtom bne_self_eq_false Bool.bne_false Bool.false_bne Bool.bne_true rw_some cw_true cw_false stepO_l w_regP pw_some a_nil_p a_seq_p a_again_p a_block_p a_seq_n a_seq_e a_seq_r a_block_n a_block_e a_block_r a_again_e a_again_r a_nil_n a_nil_r w_skip w_reg w_seq w_cond w_block w_exit w_ret close_none none_obs none_own
end Go.PE
namespace Go.PE
open Go Go.RowKit Go.Proofs
set_option linter.unusedVariables false
set_option linter.unusedSimpArgs false
set_option maxRecDepth 100000
theorem close_keep {S0 S:St} {v:PV} (h1:S.obs.length=S0.obs.length) (h2:S.own.length=S0.own.length) (hv:Plain v):close S0 S v=(v,S):=by
 unfold close
 split
 ·rename_i h
  simp only[Bool.and_eq_true,beq_iff_eq] at h
  have e1:=beqO_sound h.1
  have e2:=h.2
  rw[List.take_of_length_le (by omega)] at e1 e2
  rw[hv]
  obtain ⟨a,b⟩:=S;obtain ⟨c,d⟩:=S0
  simp only at e1 e2;subst e1 e2;rfl
 ·rfl
theorem close_turn {S0 S:St} {v:PV} {l:Nat} (hl:l<S0.obs.length) (h:S.obs[l]?≠S0.obs[l]?):close S0 S v=(v,S):=by
 unfold close
 split
 ·rename_i hc
  simp only[Bool.and_eq_true] at hc
  have e1:=beqO_sound hc.1
  refine absurd ?_ h
  rw[←e1,List.getElem?_take,if_pos hl]
 ·rfl
section
variable {ot:TypeId} {oz:EP}
def BX (S:St):List UInt8→List Ob→St
 |[],os=>⟨S.obs++ .cells 90 [.ref S.obs.length 0,.sl .null []]::os,S.own⟩
 |b::bs,os=>⟨S.obs++ .cells 90 [.ref S.obs.length 0,.sl (.own S.own.length 5) ((b::bs).map rByte)]::os,S.own++[bs.length+1]⟩
def B0 (S:St) (os:List Ob):St:=⟨S.obs++ .cells 90 [.nilp,.sl .null []]::os,S.own⟩
def BZ (S:St):List UInt8→List Ob→St
 |[],os=>⟨S.obs++ .cells 90 [.ref S.obs.length 0,.sl .null []]::os,S.own⟩
 |b::bs,os=>⟨S.obs++ .cells 90 [.ref S.obs.length 0,.sl (.own S.own.length 5) ((b::bs).map rByte)]::os,S.own++[bs.length+1+1]⟩
theorem closeB0 (S:St) (os:List Ob) {v:PV} (hv:Plain v):close S (B0 S os) v=(v,S):=by
 unfold B0;rw[close_junk1,hv]
theorem closeBZ (S:St) (bs:List UInt8) (os:List Ob) {v:PV} (hv:Plain v):close S (BZ S bs os) v=(v,S):=by
 cases bs<;>unfold BZ
 ·rw[close_junk1,hv]
 ·rw[close_junk,hv]
theorem cc_call (n l:Nat) (S:St):(lvl (env ot oz) (n+1)).call 124 [.ref l 0] S=ccF [.ref l 0] S:=call_known rfl (by simp only[askD,sealL,sealW,Nat.not_lt_zero,if_false,Option.map_some,Option.bind_some])
theorem closeX1 (S:St) (os:List Ob) (x:List PV) (hx:x≠[.nilp,.sl .null []]) (v:PV) (ow:List Nat):close (B0 S os) ⟨S.obs++ .cells 90 x::os,ow⟩ v=(v,⟨S.obs++ .cells 90 x::os,ow⟩):=by
 refine close_turn (l:=S.obs.length) (by simp[B0]) ?_
 simp only[B0,app_get0,List.getElem?_cons_zero]
 intro h;injection h with h;injection h with _ h;exact hx h
theorem closeX2 (S:St) (b:UInt8) (bs cs:List UInt8) (os:List Ob) (x:List PV) (v:PV) (hv:Plain v) (m:Nat):
  close (BX S (b::bs) os) ⟨S.obs++ .cells 90 x::os,S.own++[m]⟩ v=(v,⟨S.obs++ .cells 90 x::os,S.own++[m]⟩):=
 close_keep (by simp[BX]) (by simp[BX]) hv
theorem closeX3 (S:St) (os:List Ob) (x:List PV) (hx:x≠[.ref S.obs.length 0,.sl .null []]) (v:PV) (ow:List Nat):close (BX S [] os) ⟨S.obs++ .cells 90 x::os,ow⟩ v=(v,⟨S.obs++ .cells 90 x::os,ow⟩):=by
 refine close_turn (l:=S.obs.length) (by simp[BX]) ?_
 simp only[BX,app_get0,List.getElem?_cons_zero]
 intro h;injection h with h;injection h with _ h;exact hx h
theorem plain_nilifc:Plain .nilifc:=fun _ _=>by simp[sealW]
theorem wb0 (S:St) (os:List Ob) (b:UInt8) (c:Int) (hc:c=(b.toNat:Int)) (n:Nat):(lvl (env ot oz) (n+3)).call 121 [.ref S.obs.length 0,.int .u8 c] (B0 S os)=some (.nilifc,BX S [b] os):=by
 subst hc
 rw[call_plain (fn:=c121) rfl rfl (by simp only[go_sem]) rfl (by decide)]
 generalize hB:endF (B0 S os)=fe
 simp only[c121,c121_b,B0,go_sem,appP,cc_call,ccF]
 subst hB
 simp only[endF_r,resVs,resV,PE.look,if_true,Option.bind_some,Option.map_some,stepE_some,oneOrTup]
 rw[closeX1 S os _ (by simp)]
 rfl
theorem wb (S:St) (bs:List UInt8) (os:List Ob) (b:UInt8) (c:Int) (hc:c=(b.toNat:Int)) (hl:bs.length+1≤140737488355328) (n:Nat):(lvl (env ot oz) (n+3)).call 121 [.ref S.obs.length 0,.int .u8 c] (BX S bs os)=some (.nilifc,BX S (bs++[b]) os):=by
 subst hc
 rw[call_plain (fn:=c121) rfl rfl (by simp only[go_sem]) rfl (by decide)]
 cases bs with
 |nil=>
  generalize hB:endF (BX S [] os)=fe
  simp only[c121,c121_b,BX,go_sem,appP,cc_call,ccF]
  subst hB
  simp only[endF_r,resVs,resV,PE.look,if_true,Option.bind_some,Option.map_some,stepE_some,oneOrTup]
  rw[closeX3 S os _ (by simp)]
  rfl
 |cons a bs=>
  generalize hB:endF (BX S (a::bs) os)=fe
  have h1:(bs.length+1+1≤140737488355328∧bs.length+1+1≤9223372036854775807):=by simp only[List.length_cons] at hl;omega
  have h2:((a::bs).map rByte).length=bs.length+1:=by simp
  have h3:headOk 1 ((a::bs).map rByte)=true:=rByte_ok _
  generalize hr:(a::bs).map rByte=rs at*
  simp only[c121,c121_b,BX,hr,go_sem,appP,cc_call,ccF,h1,h2,h3]
  subst hB
  simp only[endF_r,resVs,resV,PE.look,if_true,Option.bind_some,Option.map_some,stepE_some,oneOrTup]
  rw[closeX2 S a bs bs os _ _ plain_nilifc]
  subst hr
  simp[rByte]
theorem ws0 (S:St) (os:List Ob) (s:ByteArray) (hl:s.size≤140737488355328) (n:Nat):(lvl (env ot oz) (n+3)).call 104 [.ref S.obs.length 0,.str s] (B0 S os)=some (.tup [.int .i64 (s.size:Int),.nilifc],BX S s.data.toList os):=by
 rw[call_plain (fn:=c104) rfl rfl (by simp only[go_sem]) rfl (by decide)]
 generalize hB:endF (B0 S os)=fe
 have hd:=size_data s
 cases hs:s.data.toList with
 |nil=>
  simp only[c104,c104_b,B0,go_sem,appP,cc_call,ccF,hs,rowsOfBytes_eq]
  subst hB
  simp only[endF_r,resVs,resV,PE.look,if_true,if_false,reduceIte,Nat.reduceEqDiff,Option.bind_some,Option.map_some,stepE_some,oneOrTup]
  rw[closeX1 S os _ (by simp)]
  rfl
 |cons b bs=>
  rw[hs] at hd
  have h1:bs.length+1≤140737488355328∧bs.length+1≤9223372036854775807:=by simp only[List.length_cons] at hd;omega
  have h4:((b::bs).map rByte).length=bs.length+1:=by simp
  have h5:headOk 1 ((b::bs).map rByte)=true:=rByte_ok _
  have h6:((b::bs).map rByte).isEmpty=false:=by simp
  generalize hq:(b::bs).map rByte=qs at*
  simp only[c104,c104_b,B0,go_sem,appP,cc_call,ccF,hs,rowsOfBytes_eq,hq,h1,h4,h5,h6]
  subst hB
  simp only[endF_r,resVs,resV,PE.look,if_true,if_false,reduceIte,Nat.reduceEqDiff,Option.bind_some,Option.map_some,stepE_some,oneOrTup]
  rw[closeX1 S os _ (by simp)]
  subst hq
  rfl
theorem ws (S:St) (bs:List UInt8) (os:List Ob) (s:ByteArray) (hl:bs.length+s.size≤140737488355328) (n:Nat):(lvl (env ot oz) (n+3)).call 104 [.ref S.obs.length 0,.str s] (BX S bs os)=some (.tup [.int .i64 (s.size:Int),.nilifc],BX S (bs++s.data.toList) os):=by
 rw[call_plain (fn:=c104) rfl rfl (by simp only[go_sem]) rfl (by decide)]
 have hd:=size_data s
 have hp:Plain (.tup [.int .i64 (s.size:Int),.nilifc]):=fun _ _=>by simp[sealW,sealL]
 cases bs with
 |nil=>
  generalize hB:endF (BX S [] os)=fe
  cases hs:s.data.toList with
  |nil=>
   simp only[c104,c104_b,BX,go_sem,appP,cc_call,ccF,hs,rowsOfBytes_eq]
   subst hB
   simp only[endF_r,resVs,resV,PE.look,if_true,if_false,reduceIte,Nat.reduceEqDiff,Option.bind_some,Option.map_some,stepE_some,oneOrTup]
   rw[close_keep (by simp[BX]) (by simp[BX]) hp]
  |cons b bs=>
   rw[hs] at hd
   have h1:bs.length+1≤140737488355328∧bs.length+1≤9223372036854775807:=by simp only[List.length_cons,List.length_nil] at hd hl;omega
   have h4:((b::bs).map rByte).length=bs.length+1:=by simp
   have h5:headOk 1 ((b::bs).map rByte)=true:=rByte_ok _
   have h6:((b::bs).map rByte).isEmpty=false:=by simp
   have hne:((b::bs).map rByte)≠[]:=by simp
   have e:BX S (b::bs) os=⟨S.obs++ .cells 90 [.ref S.obs.length 0,.sl (.own S.own.length 5) ((b::bs).map rByte)]::os,S.own++[bs.length+1]⟩:=rfl
   rw[List.nil_append,e]
   generalize hq:(b::bs).map rByte=qs at*
   simp only[c104,c104_b,BX,go_sem,appP,cc_call,ccF,hs,rowsOfBytes_eq,hq,h1,h4,h5,h6]
   subst hB
   simp only[endF_r,resVs,resV,PE.look,if_true,if_false,reduceIte,Nat.reduceEqDiff,Option.bind_some,Option.map_some,stepE_some,oneOrTup]
   rw[closeX3 S os _ (by simp)]
 |cons a bs=>
  generalize hB:endF (BX S (a::bs) os)=fe
  cases hs:s.data.toList with
  |nil=>
   simp only[c104,c104_b,BX,go_sem,appP,cc_call,ccF,hs,rowsOfBytes_eq]
   subst hB
   simp only[endF_r,resVs,resV,PE.look,if_true,if_false,reduceIte,Nat.reduceEqDiff,Option.bind_some,Option.map_some,stepE_some,oneOrTup]
   rw[close_keep (by simp[BX]) (by simp[BX]) hp]
  |cons b cs=>
   rw[hs] at hd
   have h1:(bs.length+1+(cs.length+1))≤140737488355328∧(bs.length+1+(cs.length+1))≤9223372036854775807:=by simp only[List.length_cons] at hd hl;omega
   have h2:((a::bs).map rByte).length=bs.length+1:=by simp
   have h3:headOk 1 ((a::bs).map rByte)=true:=rByte_ok _
   have h4:((b::cs).map rByte).length=cs.length+1:=by simp
   have h5:headOk 1 ((b::cs).map rByte)=true:=rByte_ok _
   have h6:((b::cs).map rByte).isEmpty=false:=by simp
   have h7:(bs++b::cs).length+1=bs.length+1+(cs.length+1):=by simp;omega
   generalize hr:(a::bs).map rByte=rs at*
   generalize hq:(b::cs).map rByte=qs at*
   simp only[c104,c104_b,BX,hr,go_sem,appP,cc_call,ccF,hs,rowsOfBytes_eq,hq,h1,h2,h3,h4,h5,h6]
   subst hB
   simp only[endF_r,resVs,resV,PE.look,if_true,if_false,reduceIte,Nat.reduceEqDiff,Option.bind_some,Option.map_some,stepE_some,oneOrTup]
   rw[closeX2 S a bs bs os _ _ hp]
   subst hr hq
   simp[BX]
   omega
theorem str0 (S:St) (os:List Ob) (n:Nat):(lvl (env ot oz) (n+2)).call 105 [.ref S.obs.length 0] (B0 S os)=some (.str (txt []),B0 S os):=by
 rw[call_plain (fn:=c105) rfl rfl (by simp only[go_sem]) rfl (by decide)]
 generalize hB:endF (B0 S os)=fe
 simp only[c105,c105_b,B0,go_sem]
 subst hB
 simp only[endF_r,resVs,resV,PE.look,if_true,if_false,reduceIte,Nat.reduceEqDiff,Option.bind_some,Option.map_some,stepE_some,oneOrTup]
 rw[close_keep (by simp[B0]) (by simp[B0]) (plain_str _)]
 rfl
theorem strX (S:St) (bs:List UInt8) (os:List Ob) (hl:bs.length≤140737488355328) (n:Nat):(lvl (env ot oz) (n+2)).call 105 [.ref S.obs.length 0] (BX S bs os)=some (.str (txt bs),BZ S bs os):=by
 rw[call_plain (fn:=c105) rfl rfl (by simp only[go_sem]) rfl (by decide)]
 cases bs with
 |nil=>
  generalize hB:endF (BX S [] os)=fe
  simp only[c105,c105_b,BX,go_sem]
  subst hB
  simp only[endF_r,resVs,resV,PE.look,if_true,if_false,reduceIte,Nat.reduceEqDiff,Option.bind_some,Option.map_some,stepE_some,oneOrTup]
  rw[close_keep (by simp[BX]) (by simp[BX]) (plain_str _)]
  rfl
 |cons b bs=>
  generalize hB:endF (BX S (b::bs) os)=fe
  have h1:bs.length+1≤9223372036854775807:=by simp only[List.length_cons] at hl;omega
  have h4:((b::bs).map rByte).length=bs.length+1:=by simp
  have h5:bytesOf ((b::bs).map rByte)=some (b::bs):=bytesOf_map _
  generalize hq:(b::bs).map rByte=qs at*
  simp only[c105,c105_b,BX,hq,go_sem,h1,h4,h5]
  subst hB
  simp only[endF_r,resVs,resV,PE.look,if_true,if_false,reduceIte,Nat.reduceEqDiff,Option.bind_some,Option.map_some,stepE_some,oneOrTup]
  rw[close_keep (by simp[BX]) (by simp[BX]) (plain_str _)]
  subst hq
  rfl
end
end Go.PE
