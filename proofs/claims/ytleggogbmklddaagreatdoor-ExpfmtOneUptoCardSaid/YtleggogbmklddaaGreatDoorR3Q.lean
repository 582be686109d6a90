/-
  The stepping set: the rows of this seat's data types. No conditions.
-/
import Derived.Test.YtleggogbmklddaaGreatDoorPB
import Derived.Test.YtleggogbmklddaaGreatDoorTypes
namespace Go.PE
open Go Go.RowKit Go.Proofs
attribute[go_sem] Int.lt_irrefl cast_1 wrap_m1 wrap_0 wrap_1 wrap_2 wrap_3 wrap_4 wrap_5 wrap_6 wrap_7 wrap_8 wrap_9 wrap_10 wrap_11 setRow_succ rTy_mk rExp_mk rTy_len rTy_take rTy_g0 rTy_g1 rTy_g2 rTy_g3 rTy_g4 rTy_set rTy_sl rTy_sll rTy_ok rBind_len rBind_take rBind_g0 rBind_s1_5 rBind_g1 rBind_g2 rBind_g3 rBind_g4 rBind_g5 rBind_set rBind_sl rBind_sll rBind_ok rExp_len rExp_take rExp_g0 rExp_g1 rExp_g2 rExp_g3 rExp_g4 rExp_g5 rExp_g6 rExp_set rExp_sl rExp_sll rExp_ok rSig_len rSig_take rSig_g0 rSig_g1 rSig_g2 rSig_s3_5 rSig_g3 rSig_g4 rSig_g5 rSig_g6 rSig_g7 rSig_set rSig_sl rSig_sll rSig_ok rDef_len rDef_take rDef_s0_8 rDef_g0 rDef_g1 rDef_g2 rDef_s3_5 rDef_g3 rDef_g4 rDef_g5 rDef_g6 rDef_g7 rDef_s8_7 rDef_g8 rDef_g9 rDef_g10 rDef_g11 rDef_g12 rDef_g13 rDef_g14 rDef_set rDef_sl rDef_sll rDef_ok rStr_eq rInt_eq rByte_eq
end Go.PE
namespace Go.PE
open Go Go.RowKit Go.Proofs
set_option linter.unusedVariables false
set_option linter.unusedSimpArgs false
set_option maxRecDepth 100000
theorem digF_len: ∀ (f n:Nat),(digF f n).length≤f
 |0,n=>by simp[digF]
 |f+1,n=>by
  unfold digF
  split
  ·simp
  ·have:=digF_len f (n / 10)
   simp;omega
theorem digF_one {f n:Nat} (h:n<10):digF (f+1) n=[UInt8.ofNat (48+n)]:=by rw[digF,if_pos h]
theorem digF_more {f n:Nat} (h: ¬ n<10):digF (f+1) n=digF f (n / 10)++[UInt8.ofNat (48+n % 10)]:=by rw[digF,if_neg h]
theorem numS_21 (n:Int):(numS n).size≤21:=by
 unfold numS numL
 have a1:=digF_len 20 n.natAbs
 have a2:=digF_len 20 n.toNat
 split<;>simp[ByteArray.size]<;>omega
section
variable {ot:TypeId} {oz:EP}
theorem itoa_call (n:Int) (h:In64 n) (m:Nat) (S:St):(lvl (env ot oz) (m+1)).call 93 [.int .i64 n] S=some (.str (numS n),S):=by
 rw[call_known (F:=itF) rfl (args':=[.int .i64 n]) (by simp only[askD,sealL,sealW,Option.map_some,Option.bind_some])]
 simp only[itF]
 exact if_pos h
theorem itoa_ok (n:Int) (h:In64 n):Ans (env ot oz) 93 [.int .i64 n] (.str (numS n)):=⟨1,itoa_call n h 0⟩
theorem itoa_w (n:Int) (h:In64 n) (S:St):cal (env ot oz) 93 [.int .i64 n] S=some (.str (numS n),S):=cal_at (itoa_call n h 0 S)
end
end Go.PE
namespace Go.PE
open Go Go.RowKit Go.Proofs
set_option linter.unusedVariables false
set_option linter.unusedSimpArgs false
set_option maxRecDepth 100000
section
variable {ot:TypeId} {oz:EP}
theorem ws0_w (S:St) (os:List Ob) (s:ByteArray) (hl:s.size≤140737488355328):cal (env ot oz) 104 [.ref S.obs.length 0,.str s] (B0 S os)=some (.tup [.int .i64 (s.size:Int),.nilifc],BX S s.data.toList os):=cal_at (ws0 S os s hl 0)
theorem ws_w (S:St) (bs:List UInt8) (os:List Ob) (s:ByteArray) (hl:bs.length+s.size≤140737488355328):cal (env ot oz) 104 [.ref S.obs.length 0,.str s] (BX S bs os)=some (.tup [.int .i64 (s.size:Int),.nilifc],BX S (bs++s.data.toList) os):=cal_at (ws S bs os s hl 0)
theorem str0_w (S:St) (os:List Ob):cal (env ot oz) 105 [.ref S.obs.length 0] (B0 S os)=some (.str (txt []),B0 S os):=cal_at (str0 S os 0)
theorem strX_w (S:St) (bs:List UInt8) (os:List Ob) (hl:bs.length≤140737488355328):cal (env ot oz) 105 [.ref S.obs.length 0] (BX S bs os)=some (.str (txt bs),BZ S bs os):=cal_at (strX S bs os hl 0)
theorem bx_len (S:St) (bs:List UInt8) (os:List Ob):(BX S bs os).obs.length=S.obs.length+1+os.length:=by cases bs<;>simp[BX]<;>omega
theorem bx_app (S:St) (bs:List UInt8) (os:List Ob) (o:Ob):(⟨(BX S bs os).obs++[o],(BX S bs os).own⟩:St)=BX S bs (os++[o]):=by cases bs<;>simp[BX]
theorem bx_get (S:St) (bs:List UInt8) (os:List Ob) (o:Ob):(BX S bs (os++[o])).obs[S.obs.length+1+os.length]?=some o:=by
 have h: ∀ x:Ob,(S.obs++x::(os++[o]))[S.obs.length+1+os.length]?=some o:=fun x=>by
  rw[List.getElem?_append_right (by omega),show S.obs.length+1+os.length - S.obs.length=os.length+1 by omega,List.getElem?_cons_succ]
  simp
 cases bs<;>exact h _
theorem bx_set (S:St) (bs:List UInt8) (os:List Ob) (o p:Ob):(⟨(BX S bs (os++[o])).obs.set (S.obs.length+1+os.length) p,(BX S bs (os++[o])).own⟩:St)=BX S bs (os++[p]):=by
 have h: ∀ x:Ob,(S.obs++x::(os++[o])).set (S.obs.length+1+os.length) p=S.obs++x::(os++[p]):=fun x=>by
  rw[List.set_append_right _ _ (by omega),show S.obs.length+1+os.length - S.obs.length=os.length+1 by omega,List.set_cons_succ]
  simp
 cases bs<;>simp only[BX,h]
theorem b0_len (S:St) (os:List Ob):(B0 S os).obs.length=S.obs.length+1+os.length:=by simp[B0];omega
theorem b0_app (S:St) (os:List Ob) (o:Ob):(⟨(B0 S os).obs++[o],(B0 S os).own⟩:St)=B0 S (os++[o]):=by simp[B0]
theorem b0_get (S:St) (os:List Ob) (o:Ob):(B0 S (os++[o])).obs[S.obs.length+1+os.length]?=some o:=by
 show (S.obs++_::(os++[o]))[S.obs.length+1+os.length]?=some o
 rw[List.getElem?_append_right (by omega),show S.obs.length+1+os.length - S.obs.length=os.length+1 by omega,List.getElem?_cons_succ]
 simp
theorem b0_set (S:St) (os:List Ob) (o p:Ob):(⟨(B0 S (os++[o])).obs.set (S.obs.length+1+os.length) p,(B0 S (os++[o])).own⟩:St)=B0 S (os++[p]):=by
 simp only[B0]
 rw[List.set_append_right _ _ (by omega),show S.obs.length+1+os.length - S.obs.length=os.length+1 by omega,List.set_cons_succ]
 simp
theorem b0_start (S:St):(⟨S.obs++[.cells 90 [.nilp,.sl .null []]],S.own⟩:St)=B0 S []:=rfl
end
def joinR (b:List UInt8):List ByteArray→List UInt8
 |[]=>[]
 |t::r=>b++(t.data.toList++joinR b r)
def joinL (b:List UInt8):List ByteArray→List UInt8
 |[]=>[]
 |t::r=>t.data.toList++joinR b r
end Go.PE
namespace Go.PE
open Go Go.RowKit Go.Proofs
set_option linter.unusedVariables false
set_option linter.unusedSimpArgs false
set_option maxRecDepth 100000
section
variable {ot:TypeId} {oz:EP}
abbrev w64 (n:Int):Int:=IntKind.i64.wrap n
def labF:Int→List ByteArray→Int
 |n,[]=>n
 |n,s::r=>labF (w64 (n+w64 ((s.size:Int).tdiv 8))) r
mutual
def muchT:GTy→Int
 | .mk K N Name Labels Args=>muchTs (labF (w64 (w64 (1+w64 ((Name.size:Int).tdiv 8))+(Labels.length:Int))) (Labels.take 1000)) Args
def muchTs:Int→List GTy→Int
 |n,[]=>n
 |n,a::r=>if n<3000 then muchTs (w64 (n+muchT a)) r else n
end
theorem muchT_l0 (t:GTy) (ht:Short t.Labels.length): ∀ (rest:List ByteArray) (i:Nat) (n:Int),t.Labels.drop i=rest→ ∃ i':Int,∀ f,rest.length+2≤f→ ∀ (S:St) (fin:Kont (PV×St)) (st:List Fr),
  (lvl (env ot oz) f).ev c21_l0 [(1,some (.at_ (rTy t))),(3,some (.int .i64 n)),(4,some (.int .i64 (i:Int)))] S (kont (env ot oz) fin st)=
   kont (env ot oz) fin st (.exit 0) [(1,some (.at_ (rTy t))),(3,some (.int .i64 (labF n (rest.take (1000 - i))))),(4,some (.int .i64 i')),(23,some (.bool false))] S
 |[],i,n,h=>by
  refine ⟨i,fun f hf S fin st=> ?_⟩
  obtain ⟨k,rfl⟩: ∃ k,f=k+1:=⟨f - 1,by omega⟩
  have hlt:=lt_no (drop_nil h)
  (rw[c21_l0_step];simp only[c21_l0_b,c21_r3,c21_r7,go_sem,hlt,List.take_nil,labF])
 |s::r,i,n,h=>by
  obtain ⟨h1,h2,h3⟩:=drop_cons h
  unfold Short maxLen at ht
  have hlt:(i:Int)<(t.Labels.length:Int):=by omega
  by_cases hi:i<1000
  ·obtain ⟨i',ih⟩:=muchT_l0 t ht r (i+1) (w64 (n+w64 ((s.size:Int).tdiv 8))) h2
   refine ⟨i',fun f hf S fin st=> ?_⟩
   obtain ⟨k,rfl⟩: ∃ k,f=k+1:=⟨f - 1,by omega⟩
   have ih:=ih k (by simp only[List.length_cons] at hf;omega) S fin st
   have hi':(i:Int)<1000:=by omega
   have w:=wrap_succ (i:=i) (n:=t.Labels.length) h3 (by omega)
   have e:(s::r).take (1000 - i)=s::r.take (1000 - (i+1)):=by rw[show 1000 - i=(1000 - (i+1))+1 by omega,List.take_succ_cons]
   rw[e,labF]
   (rw[c21_l0_step];simp only[c21_l0_b,c21_r3,c21_r7,go_sem,hlt,hi',h1,w])
   exact ih
  ·refine ⟨i,fun f hf S fin st=> ?_⟩
   obtain ⟨k,rfl⟩: ∃ k,f=k+1:=⟨f - 1,by omega⟩
   have hi': ¬ (i:Int)<1000:=by omega
   have e:(s::r).take (1000 - i)=[]:=by rw[show 1000 - i=0 by omega];rfl
   rw[e,labF]
   (rw[c21_l0_step];simp only[c21_l0_b,c21_r3,c21_r7,go_sem,hlt,hi',h1])
theorem muchT_l1 (t:GTy) (ht:Short t.Args.length) (N:Nat): ∀ (rest:List GTy) (i:Nat) (n:Int),t.Args.drop i=rest→(∀ a∈rest,∀ m,N≤m→ ∀ S,(lvl (env ot oz) m).call 21 [.agg (rTy a)] S=some (.int .i64 (muchT a),S))→ ∃ i':Int,∀ f,rest.length+N+2≤f→ ∀ (S:St) (fin:Kont (PV×St)) (st:List Fr),
  (lvl (env ot oz) f).ev c21_l1 [(1,some (.at_ (rTy t))),(3,some (.int .i64 n)),(5,some (.int .i64 (i:Int)))] S (kont (env ot oz) fin st)=
   kont (env ot oz) fin st (.exit 2) [(1,some (.at_ (rTy t))),(3,some (.int .i64 (muchTs n rest))),(5,some (.int .i64 i')),(43,some (.bool false))] S
 |[],i,n,h,hc=>by
  refine ⟨i,fun f hf S fin st=> ?_⟩
  obtain ⟨k,rfl⟩: ∃ k,f=k+1:=⟨f - 1,by omega⟩
  have hlt:=lt_no (drop_nil h)
  (rw[c21_l1_step];simp only[c21_l1_b,c21_r3,c21_r7,go_sem,hlt,muchTs])
 |a::r,i,n,h,hc=>by
  obtain ⟨h1,h2,h3⟩:=drop_cons h
  unfold Short maxLen at ht
  have hlt:(i:Int)<(t.Args.length:Int):=by omega
  by_cases hi:n<3000
  ·obtain ⟨i',ih⟩:=muchT_l1 t ht N r (i+1) (w64 (n+muchT a)) h2 fun b hb=>hc b (List.mem_cons_of_mem _ hb)
   refine ⟨i',fun f hf S fin st=> ?_⟩
   obtain ⟨k,rfl⟩: ∃ k,f=k+1:=⟨f - 1,by omega⟩
   have ih:=ih k (by simp only[List.length_cons] at hf;omega) S fin st
   have ca:=hc a (by simp) k (by omega)
   have w:=wrap_succ (i:=i) (n:=t.Args.length) h3 (by omega)
   rw[muchTs,if_pos hi]
   (rw[c21_l1_step];simp only[c21_l1_b,c21_r3,c21_r7,go_sem,hlt,hi,h1,w,ca])
   exact ih
  ·refine ⟨i,fun f hf S fin st=> ?_⟩
   obtain ⟨k,rfl⟩: ∃ k,f=k+1:=⟨f - 1,by omega⟩
   rw[muchTs,if_neg hi]
   (rw[c21_l1_step];simp only[c21_l1_b,c21_r3,c21_r7,go_sem,hlt,hi,h1])
theorem muchT_ok: ∀ (t:GTy),OkTy t→Ans (env ot oz) 21 [.agg (rTy t)] (.int .i64 (muchT t)):=by
 refine GTy.ind fun t ih ok=> ?_
 have ok':=ok
 obtain ⟨K,N,Name,Labels,Args,hK,hN,hName,hLabels,hArgs,hArgs'⟩:=ok'
 obtain ⟨M,hM⟩:=all_le (p:=fun n (a:GTy)=> ∀ S,(lvl (env ot oz) n).call 21 [.agg (rTy a)] S=some (.int .i64 (muchT a),S)) (fun n m k hm h S=>call_mono hm (h S)) (l:=Args) (fun a ha=>ih a ha (hArgs' a ha))
 obtain ⟨i1,f1⟩:=muchT_l0 (ot:=ot) (oz:=oz) (.mk K N Name Labels Args) hLabels.1 Labels 0 (w64 (w64 (1+w64 ((Name.size:Int).tdiv 8))+(Labels.length:Int))) rfl
 obtain ⟨i2,f2⟩:=muchT_l1 (ot:=ot) (oz:=oz) (.mk K N Name Labels Args) hArgs M Args 0 (labF (w64 (w64 (1+w64 ((Name.size:Int).tdiv 8))+(Labels.length:Int))) (Labels.take 1000)) rfl (fun a ha m hm S=>call_mono hm (hM a ha S))
 refine ⟨Labels.length+Args.length+M+4,fun S=> ?_⟩
 have f1:=f1 (Labels.length+Args.length+M+3) (by omega)
 have f2:=f2 (Labels.length+Args.length+M+3) (by omega)
 have e:muchT (.mk K N Name Labels Args)=muchTs (labF (w64 (w64 (1+w64 ((Name.size:Int).tdiv 8))+(Labels.length:Int))) (Labels.take 1000)) Args:=by rw[muchT]
 simp only[Int.cast_ofNat_Int,Nat.sub_zero,rTy_mk] at f1 f2
 (rw[call_plain (fn:=c21) rfl rfl (by simp only[go_sem,f1,f2,e]) rfl (by decide)];simp only[c21,c21_b,c21_r3,c21_r7,go_sem,f1,f2,e])
end
end Go.PE
namespace Go.PE
open Go Go.RowKit Go.Proofs
set_option linter.unusedVariables false
set_option linter.unusedSimpArgs false
set_option maxRecDepth 100000
section
variable {ot:TypeId} {oz:EP}
def hx (k:Nat):UInt8:=if k<10 then UInt8.ofNat (48+k) else UInt8.ofNat (87+k)
def qc (c:UInt8):List UInt8:=
 if ((c.toNat:Int)==34)||((c.toNat:Int)==92) then [92,c] else if (c.toNat:Int)==10 then [92,110] else if (c.toNat:Int)<32∨126<(c.toNat:Int) then [92,120,hx (c.toNat / 16),hx (c.toNat % 16)] else [c]
def quoteS (s:ByteArray):ByteArray:=txt (34::s.data.toList.flatMap qc++[34])
theorem hexAt: ∀ k,k<16→([48,49,50,51,52,53,54,55,56,57,97,98,99,100,101,102]:List UInt8)[k]?=some (hx k):=by decide
theorem shr4 (n:Nat) (h:n<256):binP .shr (.int .u8 (n:Int)) (.int .u64 4)=some (.int .u8 ((n / 16:Nat):Int)):=by
 have: ∀ n,n<256→((n:Nat):Int).fdiv (2 ^ min 4 IntKind.u8.bits)=((n / 16:Nat):Int):=by decide+kernel
 simp[binP,this n h]
theorem and15 (n:Nat) (h:n<256):binP .and (.int .u8 (n:Int)) (.int .u8 15)=some (.int .u8 ((n % 16:Nat):Int)):=by
 have: ∀ n,n<256→IntKind.u8.wrap ((BitVec.ofInt IntKind.u8.bits ((n:Nat):Int)&&&BitVec.ofInt IntKind.u8.bits 15).toNat:Int)=((n % 16:Nat):Int):=by decide+kernel
 simp only[binP,if_true]
 rw[this n h]
theorem hexSize:((#[48,49,50,51,52,53,54,55,56,57,97,98,99,100,101,102]:Array UInt8).size:Int)=16:=rfl
theorem quote_loop (l:List UInt8) (hl:l.length≤1099511627776) (S:St) (fin:Kont (PV×St)) (st:List Fr): ∀ (rest:List UInt8) (i:Nat) (bs:List UInt8),l.drop i=rest→bs.length+4*rest.length≤70368744177664→ ∀ n,rest.length+4≤n→
  (lvl (env ot oz) n).ev c95_l0 [(3,some (.ref S.obs.length 0)),(8,some (.sl .ro (l.map rByte))),(9,some (.int .i64 (l.length:Int))),(10,some (.int .i64 (i:Int)))] (BX S bs []) (kont (env ot oz) fin st)=
   kont (env ot oz) fin st (.exit 0) [(3,some (.ref S.obs.length 0)),(8,some (.sl .ro (l.map rByte))),(9,some (.int .i64 (l.length:Int))),(10,some (.int .i64 ((i+rest.length:Nat):Int))),(11,some (.bool false))] (BX S (bs++rest.flatMap qc) [])
 |[],i,bs,h,hb,n,hn=>by
  obtain ⟨k,rfl⟩: ∃ k,n=k+1:=⟨n - 1,by omega⟩
  (rw[c95_l0_step];simp only[c95_l0_b,c95_r7,c95_r12,go_sem,lt_no (drop_nil h),List.flatMap_nil])
 |c::r,i,bs,h,hb,n,hn=>by
  obtain ⟨k,rfl⟩: ∃ k,n=k+4:=⟨n - 4,by omega⟩
  obtain ⟨h1,h2,h3⟩:=drop_cons h
  simp only[List.length_cons] at hb hn
  have e:i+(c::r).length=i+1+r.length:=by simp only[List.length_cons];omega
  have hb2:c.toNat<256:=c.toNat_lt
  have w:=wrap_succ (i:=i) (n:=l.length) h3 (by omega)
  have hlt:(i:Int)<(l.length:Int):=by omega
  have ih:=fun ds (hd:ds.length≤4)=>quote_loop l hl S fin st r (i+1) (bs++ds) h2 (by simp only[List.length_append];omega) (k+3) (by omega)
  rw[e]
  cases q1:((c.toNat:Int)==34) with
  |true=>
   have f1:=wb (ot:=ot) (oz:=oz) S bs [] 92 92 rfl (by omega) k
   have f2:=wb (ot:=ot) (oz:=oz) S (bs++[92]) [] c _ rfl (by simp;omega) k
   have qe:qc c=[92,c]:=by simp[qc,q1]
   have ih:=ih [92,c] (by simp)
   simp only[List.flatMap_cons,qe]
   (rw[c95_l0_step];simp only[c95_l0_b,c95_r7,c95_r12,go_sem,hlt,h1,q1,f1,f2,w,ih])
  |false=>
   cases q2:((c.toNat:Int)==92) with
   |true=>
    have f1:=wb (ot:=ot) (oz:=oz) S bs [] 92 92 rfl (by omega) k
    have f2:=wb (ot:=ot) (oz:=oz) S (bs++[92]) [] c _ rfl (by simp;omega) k
    have qe:qc c=[92,c]:=by simp[qc,q2]
    have ih:=ih [92,c] (by simp)
    simp only[List.flatMap_cons,qe]
    (rw[c95_l0_step];simp only[c95_l0_b,c95_r7,c95_r12,go_sem,hlt,h1,q1,q2,f1,f2,w,ih])
   |false=>
    cases q3:((c.toNat:Int)==10) with
    |true=>
     have f1:=ws (ot:=ot) (oz:=oz) S bs [] ⟨#[92,110]⟩ (by simp[ByteArray.size];omega) k
     have qe:qc c=[92,110]:=by simp[qc,q1,q2,q3]
     have ih:=ih [92,110] (by simp)
     simp only[List.flatMap_cons,qe]
     (rw[c95_l0_step];simp only[c95_l0_b,c95_r7,c95_r12,go_sem,hlt,h1,q1,q2,q3,f1,w,ih])
    |false=>
     have hexes:(c.toNat:Int)<32∨126<(c.toNat:Int)→qc c=[92,120,hx (c.toNat / 16),hx (c.toNat % 16)]:=fun hh=>by simp only[qc,q1,q2,q3,Bool.or_self,Bool.false_eq_true,if_false,hh,if_true]
     have f1:=ws (ot:=ot) (oz:=oz) S bs [] ⟨#[92,120]⟩ (by simp[ByteArray.size];omega) k
     by_cases q4:(c.toNat:Int)<32
     ·have qe:=hexes (.inl q4)
      have s1:=shr4 c.toNat hb2
      have s2:=and15 c.toNat hb2
      have l1:((c.toNat / 16:Nat):Int)<16:=by omega
      have l2:((c.toNat % 16:Nat):Int)<16:=by omega
      have g1:=hexAt (c.toNat / 16) (by omega)
      have g2:=hexAt (c.toNat % 16) (by omega)
      have f2:=wb (ot:=ot) (oz:=oz) S (bs++[92,120]) [] (hx (c.toNat / 16)) _ rfl (by simp;omega) k
      have f3:=wb (ot:=ot) (oz:=oz) S (bs++[92,120,hx (c.toNat / 16)]) [] (hx (c.toNat % 16)) _ rfl (by simp;omega) k
      have ih:=ih [92,120,hx (c.toNat / 16),hx (c.toNat % 16)] (by simp)
      simp only[List.flatMap_cons,qe]
      generalize c.toNat / 16=x1 at*
      generalize c.toNat % 16=x2 at*
      (rw[c95_l0_step];simp only[c95_l0_b,c95_r7,c95_r12,go_sem,hlt,h1,q1,q2,q3,q4,f1,f2,f3,w,ih,↓s1,↓s2,l1,l2,g1,g2,hexSize])
     ·by_cases q5:126<(c.toNat:Int)
      ·have qe:=hexes (.inr q5)
       have s1:=shr4 c.toNat hb2
       have s2:=and15 c.toNat hb2
       have l1:((c.toNat / 16:Nat):Int)<16:=by omega
       have l2:((c.toNat % 16:Nat):Int)<16:=by omega
       have g1:=hexAt (c.toNat / 16) (by omega)
       have g2:=hexAt (c.toNat % 16) (by omega)
       have f2:=wb (ot:=ot) (oz:=oz) S (bs++[92,120]) [] (hx (c.toNat / 16)) _ rfl (by simp;omega) k
       have f3:=wb (ot:=ot) (oz:=oz) S (bs++[92,120,hx (c.toNat / 16)]) [] (hx (c.toNat % 16)) _ rfl (by simp;omega) k
       have ih:=ih [92,120,hx (c.toNat / 16),hx (c.toNat % 16)] (by simp)
       simp only[List.flatMap_cons,qe]
       generalize c.toNat / 16=x1 at*
       generalize c.toNat % 16=x2 at*
       (rw[c95_l0_step];simp only[c95_l0_b,c95_r7,c95_r12,go_sem,hlt,h1,q1,q2,q3,q4,q5,f1,f2,f3,w,ih,↓s1,↓s2,l1,l2,g1,g2,hexSize])
      ·have f1:=wb (ot:=ot) (oz:=oz) S bs [] c _ rfl (by omega) k
       have qe:qc c=[c]:=by simp only[qc,q1,q2,q3,Bool.or_self,Bool.false_eq_true,if_false,q4,q5,or_self]
       have ih:=ih [c] (by simp)
       simp only[List.flatMap_cons,qe]
       (rw[c95_l0_step];simp only[c95_l0_b,c95_r7,c95_r12,go_sem,hlt,h1,q1,q2,q3,q4,q5,f1,w,ih])
theorem quote_ok (s:ByteArray) (hs:s.size≤1099511627776):Ans (env ot oz) 95 [.str s] (.str (quoteS s)):=by
 have hd:=size_data s
 refine ⟨s.data.toList.length+10,fun S=> ?_⟩
 have f1:=wb0 (ot:=ot) (oz:=oz) S [] 34 34 rfl (s.data.toList.length+5)
 have f2:=fun fin st=>quote_loop (ot:=ot) (oz:=oz) s.data.toList (by omega) S fin st s.data.toList 0 [34] rfl (by simp;omega) (s.data.toList.length+9) (by omega)
 have hq:(s.data.toList.flatMap qc).length≤4*s.data.toList.length:=by
  generalize s.data.toList=l
  induction l with
  |nil=>simp
  |cons c l ih=>
   have:(qc c).length≤4:=by unfold qc;split<;>(try split)<;>(try split)<;>simp
   simp only[List.flatMap_cons,List.length_append,List.length_cons];omega
 have f3:=wb (ot:=ot) (oz:=oz) S ([34]++s.data.toList.flatMap qc) [] 34 34 rfl (by simp only[List.length_append,List.length_cons,List.length_nil];omega) (s.data.toList.length+5)
 have f4:=strX (ot:=ot) (oz:=oz) S ([34]++s.data.toList.flatMap qc++[34]) [] (by simp only[List.length_append,List.length_cons,List.length_nil];omega) (s.data.toList.length+6)
 have f5:=closeBZ S ([34]++s.data.toList.flatMap qc++[34]) [] (plain_str (quoteS s))
 have e:quoteS s=txt ([34]++s.data.toList.flatMap qc++[34]):=rfl
 rw[←e] at f4
 have f0:(⟨S.obs++[.cells 90 [.nilp,.sl .null []]],S.own⟩:St)=B0 S []:=rfl
 simp only[Int.cast_ofNat_Int,Nat.add_assoc,Nat.reduceAdd,List.cons_append,List.nil_append,List.append_assoc] at f1 f2 f3 f4 f5
 (rw[call_plain (fn:=c95) rfl rfl (by simp only[go_sem,rowsOfBytes_eq,f0,f1,f2,f3,f4,f5,Nat.add_assoc]) rfl (by decide)];simp only[c95,c95_b,c95_r7,c95_r12,go_sem,rowsOfBytes_eq,f0,f1,f2,f3,f4,f5,Nat.add_assoc])
end
end Go.PE
namespace Go.PE
open Go Go.RowKit Go.Proofs
set_option linter.unusedVariables false
set_option linter.unusedSimpArgs false
set_option maxRecDepth 100000
section
variable {ot:TypeId} {oz:EP}
end
end Go.PE
