/-
  Small laws for proofs about evaluated code: lists from a place on, numbers, texts. Conditions: each law's own.
-/
import Derived.Test.YteifnopejdiikaaDoorPF
import Derived.IntWalk
namespace Go.PE
open Go Go.RowKit
set_option linter.unusedVariables false
set_option linter.unusedSimpArgs false
theorem drop_cons {α:Type} {l:List α} {i:Nat} {c:α} {r:List α} (h:l.drop i=c::r):l[i]?=some c∧l.drop (i+1)=r∧i<l.length:=by
 have hi:i<l.length:=by
  by_cases hi:i<l.length
  ·exact hi
  ·rw[List.drop_eq_nil_of_le (by omega)] at h;cases h
 rw[List.drop_eq_getElem_cons hi] at h
 injection h with h1 h2
 exact ⟨by rw[List.getElem?_eq_getElem hi,h1],h2,hi⟩
theorem wrap64 {n:Int} (h: -9223372036854775808≤n) (h':n≤9223372036854775807):IntKind.i64.wrap n=n:=IntWalk.i64_in n ⟨h,h'⟩
theorem wrap_succ {i n:Nat} (h:i<n) (hn:n≤9223372036854775807):IntKind.i64.wrap ((i:Int)+1)=((i+1:Nat):Int):=by
 rw[wrap64 (by omega) (by omega)];omega
theorem wrap_nat {n:Nat} (hn:n≤9223372036854775807):IntKind.i64.wrap (n:Int)=(n:Int):=wrap64 (by omega) (by omega)
theorem lt_yes {i n:Nat} (h:i<n):decide ((i:Int)<(n:Int))=true:=by simp;omega
def txt (l:List UInt8):ByteArray:=⟨l.toArray⟩
theorem txt_toList (s:ByteArray):txt s.data.toList=s:=by simp[txt]
theorem wrap_0:IntKind.i64.wrap 0=0:=by decide
theorem wrap_1:IntKind.i64.wrap 1=1:=by decide
theorem wrap_2:IntKind.i64.wrap 2=2:=by decide
theorem wrap_3:IntKind.i64.wrap 3=3:=by decide
theorem wrap_4:IntKind.i64.wrap 4=4:=by decide
theorem wrap_5:IntKind.i64.wrap 5=5:=by decide
theorem wrap_6:IntKind.i64.wrap 6=6:=by decide
theorem wrap_7:IntKind.i64.wrap 7=7:=by decide
theorem wrap_8:IntKind.i64.wrap 8=8:=by decide
theorem wrap_9:IntKind.i64.wrap 9=9:=by decide
theorem wrap_10:IntKind.i64.wrap 10=10:=by decide
theorem wrap_11:IntKind.i64.wrap 11=11:=by decide
theorem wrap_m1:IntKind.i64.wrap (-1)= -1:=by decide
theorem cast_1:((1:Nat):Int)=1:=rfl
theorem setRow_succ (c:PV): ∀ (vs cs:List PV) (k:Nat),setRow (c::cs) (k+1) vs=c::setRow cs k vs
 |[],cs,k=>rfl
 |v::vs,cs,k=>by
  show setRow ((c::cs).set (k+1) v) (k+1+1) vs=c::setRow (cs.set k v) (k+1) vs
  rw[List.set_cons_succ,setRow_succ c vs]
theorem mem_of_get {α:Type} {l:List α} {i:Nat} {a:α} (h:l[i]?=some a):a∈l:=List.mem_of_getElem? h
end Go.PE
