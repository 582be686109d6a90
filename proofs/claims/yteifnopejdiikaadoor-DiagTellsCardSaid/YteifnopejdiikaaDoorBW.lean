/-
  The stepping set: the rows of this seat's data types. No conditions.
-/
import Derived.Test.YteifnopejdiikaaDoorPA
import Derived.Test.YteifnopejdiikaaDoorPB
import Derived.Test.YteifnopejdiikaaDoorTypes
namespace Go.PE
open Go Go.RowKit Go.Proofs
attribute[go_sem] Int.lt_irrefl cast_1 wrap_m1 wrap_0 wrap_1 wrap_2 wrap_3 wrap_4 wrap_5 wrap_6 wrap_7 wrap_8 wrap_9 wrap_10 wrap_11 setRow_succ rLabel_eq rLabel_sll rLabel_ok rDiag_len rDiag_take rDiag_s0_2 rDiag_g0 rDiag_g1 rDiag_g2 rDiag_set rDiag_sl rDiag_sll rDiag_ok rStr_eq rInt_eq rByte_eq
end Go.PE
namespace Go.PE
open Go Go.RowKit Go.Proofs
set_option linter.unusedVariables false
set_option linter.unusedSimpArgs false
set_option maxRecDepth 100000
theorem digF_len: ∀ (f n:Nat),(digF f n).length≤f
 |0,n=>by simp[digF]
 |f+1,n=>by
  unfold digF
  split
  ·simp
  ·have:=digF_len f (n / 10)
   simp;omega
theorem digF_one {f n:Nat} (h:n<10):digF (f+1) n=[UInt8.ofNat (48+n)]:=by rw[digF,if_pos h]
theorem digF_more {f n:Nat} (h: ¬ n<10):digF (f+1) n=digF f (n / 10)++[UInt8.ofNat (48+n % 10)]:=by rw[digF,if_neg h]
theorem byte_one {k:Nat} (h:k<256):bytesOf [[.int .u8 (k:Int)]]=some [UInt8.ofNat k]:=by
 have h':(0:Int)≤(k:Int)∧(k:Int)<256:=by omega
 simp[bytesOf,h']
theorem numS_21 (n:Int):(numS n).size≤21:=by
 unfold numS numL
 have a1:=digF_len 20 n.natAbs
 have a2:=digF_len 20 n.toNat
 split<;>simp[ByteArray.size]<;>omega
section
variable {ot:TypeId} {oz:EP}
theorem itoa_call (n:Int) (h:In64 n) (m:Nat) (S:St):(lvl (env ot oz) (m+1)).call 29 [.int .i64 n] S=some (.str (numS n),S):=by
 rw[call_known (F:=itF) rfl (args':=[.int .i64 n]) (by simp only[askD,sealL,sealW,Option.map_some,Option.bind_some])]
 simp only[itF]
 exact if_pos h
theorem itoa_w (n:Int) (h:In64 n) (S:St):cal (env ot oz) 29 [.int .i64 n] S=some (.str (numS n),S):=cal_at (itoa_call n h 0 S)
end
end Go.PE
namespace Go.PE
open Go Go.RowKit Go.Proofs
set_option linter.unusedVariables false
set_option linter.unusedSimpArgs false
set_option maxRecDepth 100000
section
variable {ot:TypeId} {oz:EP}
theorem ws0_w (S:St) (os:List Ob) (s:ByteArray) (hl:s.size≤140737488355328):cal (env ot oz) 28 [.ref S.obs.length 0,.str s] (B0 S os)=some (.tup [.int .i64 (s.size:Int),.nilifc],BX S s.data.toList os):=cal_at (ws0 S os s hl 0)
theorem ws_w (S:St) (bs:List UInt8) (os:List Ob) (s:ByteArray) (hl:bs.length+s.size≤140737488355328):cal (env ot oz) 28 [.ref S.obs.length 0,.str s] (BX S bs os)=some (.tup [.int .i64 (s.size:Int),.nilifc],BX S (bs++s.data.toList) os):=cal_at (ws S bs os s hl 0)
theorem str0_w (S:St) (os:List Ob):cal (env ot oz) 30 [.ref S.obs.length 0] (B0 S os)=some (.str (txt []),B0 S os):=cal_at (str0 S os 0)
theorem strX_w (S:St) (bs:List UInt8) (os:List Ob) (hl:bs.length≤140737488355328):cal (env ot oz) 30 [.ref S.obs.length 0] (BX S bs os)=some (.str (txt bs),BZ S bs os):=cal_at (strX S bs os hl 0)
theorem bx_len (S:St) (bs:List UInt8) (os:List Ob):(BX S bs os).obs.length=S.obs.length+1+os.length:=by cases bs<;>simp[BX]<;>omega
theorem bx_app (S:St) (bs:List UInt8) (os:List Ob) (o:Ob):(⟨(BX S bs os).obs++[o],(BX S bs os).own⟩:St)=BX S bs (os++[o]):=by cases bs<;>simp[BX]
theorem bx_get (S:St) (bs:List UInt8) (os:List Ob) (o:Ob):(BX S bs (os++[o])).obs[S.obs.length+1+os.length]?=some o:=by
 have h: ∀ x:Ob,(S.obs++x::(os++[o]))[S.obs.length+1+os.length]?=some o:=fun x=>by
  rw[List.getElem?_append_right (by omega),show S.obs.length+1+os.length - S.obs.length=os.length+1 by omega,List.getElem?_cons_succ]
  simp
 cases bs<;>exact h _
theorem bx_set (S:St) (bs:List UInt8) (os:List Ob) (o p:Ob):(⟨(BX S bs (os++[o])).obs.set (S.obs.length+1+os.length) p,(BX S bs (os++[o])).own⟩:St)=BX S bs (os++[p]):=by
 have h: ∀ x:Ob,(S.obs++x::(os++[o])).set (S.obs.length+1+os.length) p=S.obs++x::(os++[p]):=fun x=>by
  rw[List.set_append_right _ _ (by omega),show S.obs.length+1+os.length - S.obs.length=os.length+1 by omega,List.set_cons_succ]
  simp
 cases bs<;>simp only[BX,h]
theorem b0_len (S:St) (os:List Ob):(B0 S os).obs.length=S.obs.length+1+os.length:=by simp[B0];omega
theorem b0_app (S:St) (os:List Ob) (o:Ob):(⟨(B0 S os).obs++[o],(B0 S os).own⟩:St)=B0 S (os++[o]):=by simp[B0]
theorem b0_get (S:St) (os:List Ob) (o:Ob):(B0 S (os++[o])).obs[S.obs.length+1+os.length]?=some o:=by
 show (S.obs++_::(os++[o]))[S.obs.length+1+os.length]?=some o
 rw[List.getElem?_append_right (by omega),show S.obs.length+1+os.length - S.obs.length=os.length+1 by omega,List.getElem?_cons_succ]
 simp
theorem b0_set (S:St) (os:List Ob) (o p:Ob):(⟨(B0 S (os++[o])).obs.set (S.obs.length+1+os.length) p,(B0 S (os++[o])).own⟩:St)=B0 S (os++[p]):=by
 simp only[B0]
 rw[List.set_append_right _ _ (by omega),show S.obs.length+1+os.length - S.obs.length=os.length+1 by omega,List.set_cons_succ]
 simp
end
end Go.PE
