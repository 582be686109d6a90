/-
  Texts that grow (strings.Builder), evaluated. Conditions: each law's own (texts of at most 2^47 bytes).
-/
import Derived.Test.YteifnopejdiikaaDoorPA
namespace Go.PE
open Go Go.RowKit Go.Proofs
set_option linter.unusedVariables false
set_option linter.unusedSimpArgs false
set_option maxRecDepth 100000
theorem close_keep {S0 S:St} {v:PV} (h1:S.obs.length=S0.obs.length) (h2:S.own.length=S0.own.length) (hv:Plain v):close S0 S v=(v,S):=by
 unfold close
 split
 ·rename_i h
  simp only[Bool.and_eq_true,beq_iff_eq] at h
  have e1:=beqO_sound h.1
  have e2:=h.2
  rw[List.take_of_length_le (by omega)] at e1 e2
  rw[hv]
  obtain ⟨a,b⟩:=S;obtain ⟨c,d⟩:=S0
  simp only at e1 e2;subst e1 e2;rfl
 ·rfl
theorem close_turn {S0 S:St} {v:PV} {l:Nat} (hl:l<S0.obs.length) (h:S.obs[l]?≠S0.obs[l]?):close S0 S v=(v,S):=by
 unfold close
 split
 ·rename_i hc
  simp only[Bool.and_eq_true] at hc
  have e1:=beqO_sound hc.1
  refine absurd ?_ h
  rw[←e1,List.getElem?_take,if_pos hl]
 ·rfl
section
variable {ot:TypeId} {oz:EP}
def BX (S:St):List UInt8→List Ob→St
 |[],os=>⟨S.obs++ .cells 64 [.ref S.obs.length 0,.sl .null []]::os,S.own⟩
 |b::bs,os=>⟨S.obs++ .cells 64 [.ref S.obs.length 0,.sl (.own S.own.length 5) ((b::bs).map rByte)]::os,S.own++[bs.length+1]⟩
def B0 (S:St) (os:List Ob):St:=⟨S.obs++ .cells 64 [.nilp,.sl .null []]::os,S.own⟩
def BZ (S:St):List UInt8→List Ob→St
 |[],os=>⟨S.obs++ .cells 64 [.ref S.obs.length 0,.sl .null []]::os,S.own⟩
 |b::bs,os=>⟨S.obs++ .cells 64 [.ref S.obs.length 0,.sl (.own S.own.length 5) ((b::bs).map rByte)]::os,S.own++[bs.length+1+1]⟩
theorem closeB0 (S:St) (os:List Ob) {v:PV} (hv:Plain v):close S (B0 S os) v=(v,S):=by
 unfold B0;rw[close_junk1,hv]
theorem closeBZ (S:St) (bs:List UInt8) (os:List Ob) {v:PV} (hv:Plain v):close S (BZ S bs os) v=(v,S):=by
 cases bs<;>unfold BZ
 ·rw[close_junk1,hv]
 ·rw[close_junk,hv]
theorem cc_call (n l:Nat) (S:St):(lvl (env ot oz) (n+1)).call 42 [.ref l 0] S=ccF [.ref l 0] S:=call_known rfl (by simp only[askD,sealL,sealW,Nat.not_lt_zero,if_false,Option.map_some,Option.bind_some])
theorem closeX1 (S:St) (os:List Ob) (x:List PV) (hx:x≠[.nilp,.sl .null []]) (v:PV) (ow:List Nat):close (B0 S os) ⟨S.obs++ .cells 64 x::os,ow⟩ v=(v,⟨S.obs++ .cells 64 x::os,ow⟩):=by
 refine close_turn (l:=S.obs.length) (by simp[B0]) ?_
 simp only[B0,app_get0,List.getElem?_cons_zero]
 intro h;injection h with h;injection h with _ h;exact hx h
theorem closeX2 (S:St) (b:UInt8) (bs cs:List UInt8) (os:List Ob) (x:List PV) (v:PV) (hv:Plain v) (m:Nat):
  close (BX S (b::bs) os) ⟨S.obs++ .cells 64 x::os,S.own++[m]⟩ v=(v,⟨S.obs++ .cells 64 x::os,S.own++[m]⟩):=
 close_keep (by simp[BX]) (by simp[BX]) hv
theorem closeX3 (S:St) (os:List Ob) (x:List PV) (hx:x≠[.ref S.obs.length 0,.sl .null []]) (v:PV) (ow:List Nat):close (BX S [] os) ⟨S.obs++ .cells 64 x::os,ow⟩ v=(v,⟨S.obs++ .cells 64 x::os,ow⟩):=by
 refine close_turn (l:=S.obs.length) (by simp[BX]) ?_
 simp only[BX,app_get0,List.getElem?_cons_zero]
 intro h;injection h with h;injection h with _ h;exact hx h
theorem ws0 (S:St) (os:List Ob) (s:ByteArray) (hl:s.size≤140737488355328) (n:Nat):(lvl (env ot oz) (n+3)).call 28 [.ref S.obs.length 0,.str s] (B0 S os)=some (.tup [.int .i64 (s.size:Int),.nilifc],BX S s.data.toList os):=by
 rw[call_plain (fn:=c28) rfl rfl (by simp only[go_sem]) rfl (by decide)]
 generalize hB:endF (B0 S os)=fe
 have hd:=size_data s
 cases hs:s.data.toList with
 |nil=>
  simp only[c28,c28_b,B0,go_sem,appP,cc_call,ccF,hs,rowsOfBytes_eq]
  subst hB
  simp only[endF_r,resVs,resV,PE.look,if_true,if_false,reduceIte,Nat.reduceEqDiff,Option.bind_some,Option.map_some,stepE_some,oneOrTup]
  rw[closeX1 S os _ (by simp)]
  rfl
 |cons b bs=>
  rw[hs] at hd
  have h1:bs.length+1≤140737488355328∧bs.length+1≤9223372036854775807:=by simp only[List.length_cons] at hd;omega
  have h4:((b::bs).map rByte).length=bs.length+1:=by simp
  have h5:headOk 1 ((b::bs).map rByte)=true:=rByte_ok _
  have h6:((b::bs).map rByte).isEmpty=false:=by simp
  generalize hq:(b::bs).map rByte=qs at*
  simp only[c28,c28_b,B0,go_sem,appP,cc_call,ccF,hs,rowsOfBytes_eq,hq,h1,h4,h5,h6]
  subst hB
  simp only[endF_r,resVs,resV,PE.look,if_true,if_false,reduceIte,Nat.reduceEqDiff,Option.bind_some,Option.map_some,stepE_some,oneOrTup]
  rw[closeX1 S os _ (by simp)]
  subst hq
  rfl
theorem ws (S:St) (bs:List UInt8) (os:List Ob) (s:ByteArray) (hl:bs.length+s.size≤140737488355328) (n:Nat):(lvl (env ot oz) (n+3)).call 28 [.ref S.obs.length 0,.str s] (BX S bs os)=some (.tup [.int .i64 (s.size:Int),.nilifc],BX S (bs++s.data.toList) os):=by
 rw[call_plain (fn:=c28) rfl rfl (by simp only[go_sem]) rfl (by decide)]
 have hd:=size_data s
 have hp:Plain (.tup [.int .i64 (s.size:Int),.nilifc]):=fun _ _=>by simp[sealW,sealL]
 cases bs with
 |nil=>
  generalize hB:endF (BX S [] os)=fe
  cases hs:s.data.toList with
  |nil=>
   simp only[c28,c28_b,BX,go_sem,appP,cc_call,ccF,hs,rowsOfBytes_eq]
   subst hB
   simp only[endF_r,resVs,resV,PE.look,if_true,if_false,reduceIte,Nat.reduceEqDiff,Option.bind_some,Option.map_some,stepE_some,oneOrTup]
   rw[close_keep (by simp[BX]) (by simp[BX]) hp]
  |cons b bs=>
   rw[hs] at hd
   have h1:bs.length+1≤140737488355328∧bs.length+1≤9223372036854775807:=by simp only[List.length_cons,List.length_nil] at hd hl;omega
   have h4:((b::bs).map rByte).length=bs.length+1:=by simp
   have h5:headOk 1 ((b::bs).map rByte)=true:=rByte_ok _
   have h6:((b::bs).map rByte).isEmpty=false:=by simp
   have hne:((b::bs).map rByte)≠[]:=by simp
   have e:BX S (b::bs) os=⟨S.obs++ .cells 64 [.ref S.obs.length 0,.sl (.own S.own.length 5) ((b::bs).map rByte)]::os,S.own++[bs.length+1]⟩:=rfl
   rw[List.nil_append,e]
   generalize hq:(b::bs).map rByte=qs at*
   simp only[c28,c28_b,BX,go_sem,appP,cc_call,ccF,hs,rowsOfBytes_eq,hq,h1,h4,h5,h6]
   subst hB
   simp only[endF_r,resVs,resV,PE.look,if_true,if_false,reduceIte,Nat.reduceEqDiff,Option.bind_some,Option.map_some,stepE_some,oneOrTup]
   rw[closeX3 S os _ (by simp)]
 |cons a bs=>
  generalize hB:endF (BX S (a::bs) os)=fe
  cases hs:s.data.toList with
  |nil=>
   simp only[c28,c28_b,BX,go_sem,appP,cc_call,ccF,hs,rowsOfBytes_eq]
   subst hB
   simp only[endF_r,resVs,resV,PE.look,if_true,if_false,reduceIte,Nat.reduceEqDiff,Option.bind_some,Option.map_some,stepE_some,oneOrTup]
   rw[close_keep (by simp[BX]) (by simp[BX]) hp]
  |cons b cs=>
   rw[hs] at hd
   have h1:(bs.length+1+(cs.length+1))≤140737488355328∧(bs.length+1+(cs.length+1))≤9223372036854775807:=by simp only[List.length_cons] at hd hl;omega
   have h2:((a::bs).map rByte).length=bs.length+1:=by simp
   have h3:headOk 1 ((a::bs).map rByte)=true:=rByte_ok _
   have h4:((b::cs).map rByte).length=cs.length+1:=by simp
   have h5:headOk 1 ((b::cs).map rByte)=true:=rByte_ok _
   have h6:((b::cs).map rByte).isEmpty=false:=by simp
   have h7:(bs++b::cs).length+1=bs.length+1+(cs.length+1):=by simp;omega
   generalize hr:(a::bs).map rByte=rs at*
   generalize hq:(b::cs).map rByte=qs at*
   simp only[c28,c28_b,BX,hr,go_sem,appP,cc_call,ccF,hs,rowsOfBytes_eq,hq,h1,h2,h3,h4,h5,h6]
   subst hB
   simp only[endF_r,resVs,resV,PE.look,if_true,if_false,reduceIte,Nat.reduceEqDiff,Option.bind_some,Option.map_some,stepE_some,oneOrTup]
   rw[closeX2 S a bs bs os _ _ hp]
   subst hr hq
   simp[BX]
   omega
theorem str0 (S:St) (os:List Ob) (n:Nat):(lvl (env ot oz) (n+2)).call 30 [.ref S.obs.length 0] (B0 S os)=some (.str (txt []),B0 S os):=by
 rw[call_plain (fn:=c30) rfl rfl (by simp only[go_sem]) rfl (by decide)]
 generalize hB:endF (B0 S os)=fe
 simp only[c30,c30_b,B0,go_sem]
 subst hB
 simp only[endF_r,resVs,resV,PE.look,if_true,if_false,reduceIte,Nat.reduceEqDiff,Option.bind_some,Option.map_some,stepE_some,oneOrTup]
 rw[close_keep (by simp[B0]) (by simp[B0]) (plain_str _)]
 rfl
theorem strX (S:St) (bs:List UInt8) (os:List Ob) (hl:bs.length≤140737488355328) (n:Nat):(lvl (env ot oz) (n+2)).call 30 [.ref S.obs.length 0] (BX S bs os)=some (.str (txt bs),BZ S bs os):=by
 rw[call_plain (fn:=c30) rfl rfl (by simp only[go_sem]) rfl (by decide)]
 cases bs with
 |nil=>
  generalize hB:endF (BX S [] os)=fe
  simp only[c30,c30_b,BX,go_sem]
  subst hB
  simp only[endF_r,resVs,resV,PE.look,if_true,if_false,reduceIte,Nat.reduceEqDiff,Option.bind_some,Option.map_some,stepE_some,oneOrTup]
  rw[close_keep (by simp[BX]) (by simp[BX]) (plain_str _)]
  rfl
 |cons b bs=>
  generalize hB:endF (BX S (b::bs) os)=fe
  have h1:bs.length+1≤9223372036854775807:=by simp only[List.length_cons] at hl;omega
  have h4:((b::bs).map rByte).length=bs.length+1:=by simp
  have h5:bytesOf ((b::bs).map rByte)=some (b::bs):=bytesOf_map _
  generalize hq:(b::bs).map rByte=qs at*
  simp only[c30,c30_b,BX,hq,go_sem,h1,h4,h5]
  subst hB
  simp only[endF_r,resVs,resV,PE.look,if_true,if_false,reduceIte,Nat.reduceEqDiff,Option.bind_some,Option.map_some,stepE_some,oneOrTup]
  rw[close_keep (by simp[BX]) (by simp[BX]) (plain_str _)]
  subst hq
  rfl
end
end Go.PE
