/-
  errors.As, and package fault's Code and At, and Def, at an error of the program's own (a place; names around it): known functions. Conditions: each law's own.
-/
import Derived.Test.YteifnopejdiikaaDoorProg
import Derived.Test.YteifnopejdiikaaDoorPE18
import Derived.WalkKit
import Derived.LaidEql
import Derived.Stop.Asserts
import Derived.RowKitTokens
import Derived.Below
import Derived.Lib.Hide
import Derived.Deep.LoopGhost
import Derived.Deep.QuietTactic
import Derived.BigQuiet
import Derived.MapKept
namespace Go.PE
open Go Go.RowKit Go.Extern.Stop Go.Stop Go.Extern Go.Proofs
set_option linter.unusedVariables false
set_option linter.unusedSimpArgs false
theorem ext_TypeOf (args:Array Value) (w:World):(callFunc 58 args).run Tryd.prog w=((ReflectliteType.typeOf args).run Tryd.prog w).andThen (fun v w'=> .ok (.value v) w'):=
 @run_callFunc_extern Tryd.prog 58 _ ReflectliteType.typeOf Tryd.func58 (by kernel_rfl) (by kernel_rfl) (by kernel_rfl) (by kernel_rfl) args w
theorem cell_blk {w:World} {g i:Nat} {cs:Array Value} {t:TypeId} {v:Value} (h:w.heap[g]?=some (.cells cs t (0,0))) (hv:cs[i]?=some v):w.cell? ⟨g,i,none⟩=some v:=by
 simp[World.cell?,h,hv]
theorem heap_new (w:World) (o:Obj):(w.alloc o).heap[w.heap.size]?=some o:=by
 show (w.heap.push o)[w.heap.size]?=_
 simp
theorem setCell_below {B:Nat} {w w1:World} (h:Below B w w1) (p:Addr) (v:Value):Below B (w.setCell p v) (w1.setCell p v):=by
 refine ⟨h.os,h.tape,h.output,by simpa using h.size,fun k hk=> ?_⟩
 have hk':=h.block k hk
 simp only[World.setCell]
 by_cases e:p.block=k
 ·subst e
  simp only[Array.getElem?_modify,if_true,hk']
 ·simp only[Array.getElem?_modify,if_neg e,hk']
theorem rlm (z:Sem Value) (f:TypeId→Addr→Nat→Nat→Sem Value) (v:Value):
  ReflectliteValue.method z f #[v]=(do match←ReflectliteValue.parts v with|none=>z|some (t,a,fl)=>f t a fl (fl % 32)):=rfl
theorem rls (v x:Value):ReflectliteValue.set #[v,x]=(do
  let (some (dst,a,fl),some (src,b,_)):=(←ReflectliteValue.parts v,←ReflectliteValue.parts x)
   | unsupported (.noEntry "extern/(internal/reflectlite.Value).Set.zeroValue")
  if fl / ReflectliteValue.flagAddr % 2 == 0 then unsupported (.noEntry "extern/(internal/reflectlite.Value).Set.unaddressable")
  let val←loadVar src b
  if←Rtype.directlyAssignable dst src then storeVar dst a val
  else if←Rtype.implements dst src then
   if (←Rtype.kind src)==20 then
    match val with
    | .nilIface => unsupported (.noEntry "extern/reflectlite: a nil value of one interface type handed on as a value of another")
    |_=>storeVar dst a val
   else storeVar dst a (.iface src val)
  else panicString ("reflectlite.Set: value of type " ++ (← Rtype.spelt src) ++ " is not assignable to type " ++ (← Rtype.spelt dst))
  pure (.tuple #[])):=rfl
theorem ext_ValueOf (args:Array Value) (w:World):(callFunc 38 args).run Tryd.prog w=((ReflectliteValue.unpack (args.getD 0 (.tuple #[]))).run Tryd.prog w).andThen (fun v w'=> .ok (.value v) w'):=
 @run_callFunc_extern Tryd.prog 38 _ (fun args=>ReflectliteValue.unpack (args.getD 0 (.tuple #[]))) Tryd.func38 (by kernel_rfl) (by kernel_rfl) (by kernel_rfl) (by kernel_rfl) args w
theorem ext_Type (args : Array Value) (w : World) : (callFunc 39 args).run Tryd.prog w = ((ReflectliteValue.methodAny (ReflectliteValue.valueError "reflectlite.Value.Type" 0) (fun t _ _ _ => ReflectliteType.toType t) args).run Tryd.prog w).andThen (fun v w' => .ok (.value v) w') :=
 @run_callFunc_extern Tryd.prog 39 _ (ReflectliteValue.methodAny (ReflectliteValue.valueError "reflectlite.Value.Type" 0) (fun t _ _ _ => ReflectliteType.toType t)) Tryd.func39 (by kernel_rfl) (by kernel_rfl) (by kernel_rfl) (by kernel_rfl) args w
theorem ext_IsNil (args : Array Value) (w : World) : (callFunc 40 args).run Tryd.prog w = ((ReflectliteValue.method (ReflectliteValue.valueError "reflectlite.Value.IsNil" 0) ReflectliteValue.isNil args).run Tryd.prog w).andThen (fun v w' => .ok (.value v) w') :=
 @run_callFunc_extern Tryd.prog 40 _ (ReflectliteValue.method (ReflectliteValue.valueError "reflectlite.Value.IsNil" 0) ReflectliteValue.isNil) Tryd.func40 (by kernel_rfl) (by kernel_rfl) (by kernel_rfl) (by kernel_rfl) args w
theorem ext_Kind (args:Array Value) (w:World):(callFunc 94 args).run Tryd.prog w=(((ReflectliteType.abiMethod fun t=>do pure (.int .u8 (←Rtype.kind t))) args).run Tryd.prog w).andThen (fun v w'=> .ok (.value v) w'):=
 @run_callFunc_extern Tryd.prog 94 _ (ReflectliteType.abiMethod fun t=>do pure (.int .u8 (←Rtype.kind t))) Tryd.func94 (by kernel_rfl) (by kernel_rfl) (by kernel_rfl) (by kernel_rfl) args w
theorem ext_Elem (args:Array Value) (w:World):(callFunc 109 args).run Tryd.prog w=((ReflectliteType.method ReflectliteType.elem args).run Tryd.prog w).andThen (fun v w'=> .ok (.value v) w'):=
 @run_callFunc_extern Tryd.prog 109 _ (ReflectliteType.method ReflectliteType.elem) Tryd.func109 (by kernel_rfl) (by kernel_rfl) (by kernel_rfl) (by kernel_rfl) args w
theorem ext_Implements (args : Array Value) (w : World) : (callFunc 110 args).run Tryd.prog w = ((ReflectliteType.relation "Implements" ReflectliteType.implements_ args).run Tryd.prog w).andThen (fun v w' => .ok (.value v) w') :=
 @run_callFunc_extern Tryd.prog 110 _ (ReflectliteType.relation "Implements" ReflectliteType.implements_) Tryd.func110 (by kernel_rfl) (by kernel_rfl) (by kernel_rfl) (by kernel_rfl) args w
theorem ext_AssignableTo (args : Array Value) (w : World) : (callFunc 107 args).run Tryd.prog w = ((ReflectliteType.relation "AssignableTo" ReflectliteType.assignableTo args).run Tryd.prog w).andThen (fun v w' => .ok (.value v) w') :=
 @run_callFunc_extern Tryd.prog 107 _ (ReflectliteType.relation "AssignableTo" ReflectliteType.assignableTo) Tryd.func107 (by kernel_rfl) (by kernel_rfl) (by kernel_rfl) (by kernel_rfl) args w
theorem ext_ElemV (args : Array Value) (w : World) : (callFunc 59 args).run Tryd.prog w = ((ReflectliteValue.method (ReflectliteValue.valueError "reflectlite.Value.Elem" 0) ReflectliteValue.elem args).run Tryd.prog w).andThen (fun v w' => .ok (.value v) w') :=
 @run_callFunc_extern Tryd.prog 59 _ (ReflectliteValue.method (ReflectliteValue.valueError "reflectlite.Value.Elem" 0) ReflectliteValue.elem) Tryd.func59 (by kernel_rfl) (by kernel_rfl) (by kernel_rfl) (by kernel_rfl) args w
theorem ext_Set (args:Array Value) (w:World):(callFunc 60 args).run Tryd.prog w=((ReflectliteValue.set args).run Tryd.prog w).andThen (fun v w'=> .ok (.value v) w'):=
 @run_callFunc_extern Tryd.prog 60 _ ReflectliteValue.set Tryd.func60 (by kernel_rfl) (by kernel_rfl) (by kernel_rfl) (by kernel_rfl) args w
theorem mKind (h : Value) (w : World) : (Go.method 266 105 (.agg #[h]) "Kind").run Tryd.prog w = .ok (94, h) w := by kernel_rfl
theorem mElem (h : Value) (w : World) : (Go.method 266 105 (.agg #[h]) "Elem").run Tryd.prog w = .ok (109, .agg #[h]) w := by kernel_rfl
theorem mImplements (h : Value) (w : World) : (Go.method 266 105 (.agg #[h]) "Implements").run Tryd.prog w = .ok (110, .agg #[h]) w := by kernel_rfl
theorem mAssignableTo (h : Value) (w : World) : (Go.method 266 105 (.agg #[h]) "AssignableTo").run Tryd.prog w = .ok (107, .agg #[h]) w := by kernel_rfl
theorem valueOfTPlace (t:Addr) (w:World):(ReflectliteValue.unpack (.iface 54 (.pointer (some t)))).run Tryd.prog w= .ok (.agg #[.pointer (some ⟨5,54,none⟩),.pointer (some ⟨w.heap.size,0,none⟩),.int .u64 150]) (w.alloc (.cells #[.pointer (some t)] 54)):=by kernel_rfl
theorem typeTPlace (a : Addr) (w : World) : (ReflectliteValue.methodAny (ReflectliteValue.valueError "reflectlite.Value.Type" 0) (fun t _ _ _ => ReflectliteType.toType t) #[.agg #[.pointer (some ⟨5, 54, none⟩), .pointer (some a), .int .u64 150]]).run Tryd.prog w = .ok (.iface 105 (.agg #[.pointer (some ⟨5, 54, none⟩)])) w := by kernel_rfl
theorem kindTPlace (w:World):((ReflectliteType.abiMethod fun t=>(fun a:Nat=>Value.int IntKind.u8 (a:Int)) <$> Rtype.kind t) #[.pointer (some ⟨5,54,none⟩)]).run Tryd.prog w= .ok (.int .u8 22) w:=by kernel_rfl
theorem kindPPlace (w:World):((ReflectliteType.abiMethod fun t=>(fun a:Nat=>Value.int IntKind.u8 (a:Int)) <$> Rtype.kind t) #[.pointer (some ⟨5,52,none⟩)]).run Tryd.prog w= .ok (.int .u8 22) w:=by kernel_rfl
theorem partsTPlace (a:Addr) (w:World):(ReflectliteValue.parts (.agg #[.pointer (some ⟨5,54,none⟩),.pointer (some a),.int .u64 150])).run Tryd.prog w= .ok (some (54,a,150)) w:=by kernel_rfl
theorem isNilTPlace (a p:Addr) (W:World) (ha:W.cell? a=some (.pointer (some p))):
  (ReflectliteValue.method (ReflectliteValue.valueError "reflectlite.Value.IsNil" 0) ReflectliteValue.isNil #[.agg #[.pointer (some ⟨5, 54, none⟩), .pointer (some a), .int .u64 150]]).run Tryd.prog W = .ok (.bool false) W := by
 rw[rlm]
 simp only[Sem.run_bind,partsTPlace,Result.andThen]
 simp[ReflectliteValue.isNil,loadVar,isAgg,underlying,Tryd.underlying54,ha,Result.andThen]
theorem elemTPlace (w:World):(ReflectliteType.method ReflectliteType.elem #[.agg #[.pointer (some ⟨5,54,none⟩)]]).run Tryd.prog w= .ok (.iface 105 (.agg #[.pointer (some ⟨5,52,none⟩)])) w:=by kernel_rfl
theorem implPPlace (w : World) : (ReflectliteType.relation "Implements" ReflectliteType.implements_ #[.agg #[.pointer (some ⟨5, 52, none⟩)], .iface 105 (.agg #[.pointer (some ⟨5, 36, none⟩)])]).run Tryd.prog w = .ok (.bool true) w := by kernel_rfl
theorem typeOfPPlace (v:Value) (w:World):(ReflectliteType.typeOf #[.iface 52 v]).run Tryd.prog w= .ok (.iface 105 (.agg #[.pointer (some ⟨5,52,none⟩)])) w:=by kernel_rfl
theorem assignPPlace (w : World) : (ReflectliteType.relation "AssignableTo" ReflectliteType.assignableTo #[.agg #[.pointer (some ⟨5, 52, none⟩)], .iface 105 (.agg #[.pointer (some ⟨5, 52, none⟩)])]).run Tryd.prog w = .ok (.bool true) w := by kernel_rfl
theorem valueOfPPlace (e:Addr) (w:World):(ReflectliteValue.unpack (.iface 52 (.pointer (some e)))).run Tryd.prog w
  = .ok (.agg #[.pointer (some ⟨5,52,none⟩),.pointer (some ⟨w.heap.size,0,none⟩),.int .u64 150]) (w.alloc (.cells #[.pointer (some e)] 52)):=by kernel_rfl
theorem elemOfTPlace (w:World):(Rtype.elem? 54).run Tryd.prog w= .ok (some 52) w:=by kernel_rfl
theorem mkPPlace (p:Addr) (w:World):(ReflectliteValue.mk 52 p ReflectliteValue.flagAddr).run Tryd.prog w= .ok (.agg #[.pointer (some ⟨5,52,none⟩),.pointer (some p),.int .u64 406]) w:=by kernel_rfl
theorem elemVPlace (a p:Addr) (W:World) (ha:W.cell? a=some (.pointer (some p))):
  (ReflectliteValue.method (ReflectliteValue.valueError "reflectlite.Value.Elem" 0) ReflectliteValue.elem #[.agg #[.pointer (some ⟨5, 54, none⟩), .pointer (some a), .int .u64 150]]).run Tryd.prog W
   = .ok (.agg #[.pointer (some ⟨5,52,none⟩),.pointer (some p),.int .u64 406]) W:=by
 rw[rlm]
 simp only[Sem.run_bind,partsTPlace,Result.andThen]
 simp[ReflectliteValue.elem,loadVar,isAgg,underlying,Tryd.underlying54,ha,Result.andThen,elemOfTPlace,mkPPlace]
theorem partsPaPlace (a:Addr) (w:World):(ReflectliteValue.parts (.agg #[.pointer (some ⟨5,52,none⟩),.pointer (some a),.int .u64 406])).run Tryd.prog w= .ok (some (52,a,406)) w:=by kernel_rfl
theorem partsPPlace (a:Addr) (w:World):(ReflectliteValue.parts (.agg #[.pointer (some ⟨5,52,none⟩),.pointer (some a),.int .u64 150])).run Tryd.prog w= .ok (some (52,a,150)) w:=by kernel_rfl
theorem directPPlace (w:World):(Rtype.directlyAssignable 52 52).run Tryd.prog w= .ok true w:=by kernel_rfl
theorem setPPlace (ta b e:Addr) (old:Value) (W:World) (hb:W.cell? b=some (.pointer (some e))) (ht:W.cell? ta=some old) (hf:W.frozen? ta=false):
  (ReflectliteValue.set #[.agg #[.pointer (some ⟨5,52,none⟩),.pointer (some ta),.int .u64 406],.agg #[.pointer (some ⟨5,52,none⟩),.pointer (some b),.int .u64 150]]).run Tryd.prog W
   = .ok (.tuple #[]) (W.setCell ta (.pointer (some e))):=by
 rw[rls]
 simp only[Sem.run_bind,partsPaPlace,partsPPlace,Result.andThen]
 simp[ReflectliteValue.flagAddr,loadVar,isAgg,underlying,Tryd.underlying52,hb,Result.andThen,directPPlace,storeVar,Value.cells,storeCells,Addr.add]
 rw[run_store Tryd.prog W ta _ _ (by rfl)]
 simp[ht,hf]
theorem blk_self {w w':World} {t:Nat} {x v:Value} {ty:TypeId} (ht:w.heap[t]?=some (.cells #[x] ty (0,0))) (hb:Below w.heap.size (w.setCell ⟨t,0,none⟩ v) w'):w'.heap[t]?=some (.cells #[v] ty (0,0)):=by
 rw[hb.block t (Array.getElem?_eq_some_iff.1 ht).1]
 simp[World.setCell,Array.getElem?_modify,ht,Array.setIfInBounds]
theorem below_set {w w':World} {t:Nat} {v:Value} (ht:t<w.heap.size) (hb:Below w.heap.size (w.setCell ⟨t,0,none⟩ v) w'):Below t w w':=by
 refine ⟨hb.os,hb.tape,hb.output,by simpa using hb.size,fun k hk=> ?_⟩
 by_cases h:k<w.heap.size
 ·rw[hb.block k h]
  simp only[World.setCell,Array.getElem?_modify,if_neg (show ¬ t=k by omega)]
 ·rw[Array.getElem?_eq_none (by omega:w.heap.size≤k)]
  by_cases h2:k<w'.heap.size
  ·exact absurd hk (by omega)
  ·rw[Array.getElem?_eq_none (by omega:w'.heap.size≤k)]
def errV:Value:= .iface 105 (.agg #[.pointer (some ⟨5,36,none⟩)])
theorem valueOfTNamed (t:Addr) (w:World):(ReflectliteValue.unpack (.iface 58 (.pointer (some t)))).run Tryd.prog w= .ok (.agg #[.pointer (some ⟨5,58,none⟩),.pointer (some ⟨w.heap.size,0,none⟩),.int .u64 150]) (w.alloc (.cells #[.pointer (some t)] 58)):=by kernel_rfl
theorem typeTNamed (a : Addr) (w : World) : (ReflectliteValue.methodAny (ReflectliteValue.valueError "reflectlite.Value.Type" 0) (fun t _ _ _ => ReflectliteType.toType t) #[.agg #[.pointer (some ⟨5, 58, none⟩), .pointer (some a), .int .u64 150]]).run Tryd.prog w = .ok (.iface 105 (.agg #[.pointer (some ⟨5, 58, none⟩)])) w := by kernel_rfl
theorem kindTNamed (w:World):((ReflectliteType.abiMethod fun t=>(fun a:Nat=>Value.int IntKind.u8 (a:Int)) <$> Rtype.kind t) #[.pointer (some ⟨5,58,none⟩)]).run Tryd.prog w= .ok (.int .u8 22) w:=by kernel_rfl
theorem kindPNamed (w:World):((ReflectliteType.abiMethod fun t=>(fun a:Nat=>Value.int IntKind.u8 (a:Int)) <$> Rtype.kind t) #[.pointer (some ⟨5,57,none⟩)]).run Tryd.prog w= .ok (.int .u8 22) w:=by kernel_rfl
theorem partsTNamed (a:Addr) (w:World):(ReflectliteValue.parts (.agg #[.pointer (some ⟨5,58,none⟩),.pointer (some a),.int .u64 150])).run Tryd.prog w= .ok (some (58,a,150)) w:=by kernel_rfl
theorem isNilTNamed (a p:Addr) (W:World) (ha:W.cell? a=some (.pointer (some p))):
  (ReflectliteValue.method (ReflectliteValue.valueError "reflectlite.Value.IsNil" 0) ReflectliteValue.isNil #[.agg #[.pointer (some ⟨5, 58, none⟩), .pointer (some a), .int .u64 150]]).run Tryd.prog W = .ok (.bool false) W := by
 rw[rlm]
 simp only[Sem.run_bind,partsTNamed,Result.andThen]
 simp[ReflectliteValue.isNil,loadVar,isAgg,underlying,Tryd.underlying58,ha,Result.andThen]
theorem elemTNamed (w:World):(ReflectliteType.method ReflectliteType.elem #[.agg #[.pointer (some ⟨5,58,none⟩)]]).run Tryd.prog w= .ok (.iface 105 (.agg #[.pointer (some ⟨5,57,none⟩)])) w:=by kernel_rfl
theorem implPNamed (w : World) : (ReflectliteType.relation "Implements" ReflectliteType.implements_ #[.agg #[.pointer (some ⟨5, 57, none⟩)], .iface 105 (.agg #[.pointer (some ⟨5, 36, none⟩)])]).run Tryd.prog w = .ok (.bool true) w := by kernel_rfl
theorem typeOfPNamed (v:Value) (w:World):(ReflectliteType.typeOf #[.iface 57 v]).run Tryd.prog w= .ok (.iface 105 (.agg #[.pointer (some ⟨5,57,none⟩)])) w:=by kernel_rfl
theorem assignPNamed (w : World) : (ReflectliteType.relation "AssignableTo" ReflectliteType.assignableTo #[.agg #[.pointer (some ⟨5, 57, none⟩)], .iface 105 (.agg #[.pointer (some ⟨5, 57, none⟩)])]).run Tryd.prog w = .ok (.bool true) w := by kernel_rfl
theorem valueOfPNamed (e:Addr) (w:World):(ReflectliteValue.unpack (.iface 57 (.pointer (some e)))).run Tryd.prog w
  = .ok (.agg #[.pointer (some ⟨5,57,none⟩),.pointer (some ⟨w.heap.size,0,none⟩),.int .u64 150]) (w.alloc (.cells #[.pointer (some e)] 57)):=by kernel_rfl
theorem elemOfTNamed (w:World):(Rtype.elem? 58).run Tryd.prog w= .ok (some 57) w:=by kernel_rfl
theorem mkPNamed (p:Addr) (w:World):(ReflectliteValue.mk 57 p ReflectliteValue.flagAddr).run Tryd.prog w= .ok (.agg #[.pointer (some ⟨5,57,none⟩),.pointer (some p),.int .u64 406]) w:=by kernel_rfl
theorem elemVNamed (a p:Addr) (W:World) (ha:W.cell? a=some (.pointer (some p))):
  (ReflectliteValue.method (ReflectliteValue.valueError "reflectlite.Value.Elem" 0) ReflectliteValue.elem #[.agg #[.pointer (some ⟨5, 58, none⟩), .pointer (some a), .int .u64 150]]).run Tryd.prog W
   = .ok (.agg #[.pointer (some ⟨5,57,none⟩),.pointer (some p),.int .u64 406]) W:=by
 rw[rlm]
 simp only[Sem.run_bind,partsTNamed,Result.andThen]
 simp[ReflectliteValue.elem,loadVar,isAgg,underlying,Tryd.underlying58,ha,Result.andThen,elemOfTNamed,mkPNamed]
theorem partsPaNamed (a:Addr) (w:World):(ReflectliteValue.parts (.agg #[.pointer (some ⟨5,57,none⟩),.pointer (some a),.int .u64 406])).run Tryd.prog w= .ok (some (57,a,406)) w:=by kernel_rfl
theorem partsPNamed (a:Addr) (w:World):(ReflectliteValue.parts (.agg #[.pointer (some ⟨5,57,none⟩),.pointer (some a),.int .u64 150])).run Tryd.prog w= .ok (some (57,a,150)) w:=by kernel_rfl
theorem directPNamed (w:World):(Rtype.directlyAssignable 57 57).run Tryd.prog w= .ok true w:=by kernel_rfl
theorem setPNamed (ta b e:Addr) (old:Value) (W:World) (hb:W.cell? b=some (.pointer (some e))) (ht:W.cell? ta=some old) (hf:W.frozen? ta=false):
  (ReflectliteValue.set #[.agg #[.pointer (some ⟨5,57,none⟩),.pointer (some ta),.int .u64 406],.agg #[.pointer (some ⟨5,57,none⟩),.pointer (some b),.int .u64 150]]).run Tryd.prog W
   = .ok (.tuple #[]) (W.setCell ta (.pointer (some e))):=by
 rw[rls]
 simp only[Sem.run_bind,partsPaNamed,partsPNamed,Result.andThen]
 simp[ReflectliteValue.flagAddr,loadVar,isAgg,underlying,Tryd.underlying57,hb,Result.andThen,directPNamed,storeVar,Value.cells,storeCells,Addr.add]
 rw[run_store Tryd.prog W ta _ _ (by rfl)]
 simp[ht,hf]
theorem assignNoNamed_Place (w : World) : (ReflectliteType.relation "AssignableTo" ReflectliteType.assignableTo #[.agg #[.pointer (some ⟨5, 52, none⟩)], .iface 105 (.agg #[.pointer (some ⟨5, 57, none⟩)])]).run Tryd.prog w = .ok (.bool false) w := by kernel_rfl
theorem assignNoNamed_Errno (w : World) : (ReflectliteType.relation "AssignableTo" ReflectliteType.assignableTo #[.agg #[.pointer (some ⟨5, 29, none⟩)], .iface 105 (.agg #[.pointer (some ⟨5, 57, none⟩)])]).run Tryd.prog w = .ok (.bool false) w := by kernel_rfl
theorem typeOfErrno (v:Value) (w:World):(ReflectliteType.typeOf #[.iface 29 v]).run Tryd.prog w= .ok (.iface 105 (.agg #[.pointer (some ⟨5,29,none⟩)])) w:=by kernel_rfl
theorem typeOfNm (v:Value) (w:World):(ReflectliteType.typeOf #[.iface 57 v]).run Tryd.prog w= .ok (.iface 105 (.agg #[.pointer (some ⟨5,57,none⟩)])) w:=by kernel_rfl
theorem assignNoPlace_Named (w : World) : (ReflectliteType.relation "AssignableTo" ReflectliteType.assignableTo #[.agg #[.pointer (some ⟨5, 57, none⟩)], .iface 105 (.agg #[.pointer (some ⟨5, 52, none⟩)])]).run Tryd.prog w = .ok (.bool false) w := by kernel_rfl
theorem taAs (T:TypeId) (hT:T=52∨T=57∨T=29) (v:Value) (w:World):(Instr.typeAssert (.iface T v) 36 110 true).run Tryd.prog w= .ok (.tuple #[.nilIface,.bool false]) w:=by
 rcases hT with rfl|rfl|rfl<;>exact run_typeAssert_lacksB Tryd.underlying110 (by kernel_rfl) (by kernel_rfl) v 36 w
theorem taUn (T:TypeId) (hT:T=52∨T=57) (v:Value) (w:World):(Instr.typeAssert (.iface T v) 36 113 true).run Tryd.prog w= .ok (.tuple #[.iface T v,.bool true]) w:=by
 rcases hT with rfl|rfl<;>exact run_typeAssert_hasB Tryd.underlying113 (by kernel_rfl) v 36 w
theorem mUnPlace (a : Addr) (w : World) : (Go.method 266 52 (.pointer (some a)) "Unwrap").run Tryd.prog w = .ok (99, .pointer (some a)) w := by kernel_rfl
theorem mUnNamed (a : Addr) (w : World) : (Go.method 266 57 (.pointer (some a)) "Unwrap").run Tryd.prog w = .ok (101, .pointer (some a)) w := by kernel_rfl
theorem taUnErrno (v:Value) (w:World):(Instr.typeAssert (.iface 29 v) 36 113 true).run Tryd.prog w= .ok (.tuple #[.nilIface,.bool false]) w:=run_typeAssert_lacksB Tryd.underlying113 (by kernel_rfl) (by kernel_rfl) v 36 w
theorem taUs (v:Value) (w:World):(Instr.typeAssert (.iface 29 v) 36 115 true).run Tryd.prog w= .ok (.tuple #[.nilIface,.bool false]) w:=run_typeAssert_lacksB Tryd.underlying115 (by kernel_rfl) (by kernel_rfl) v 36 w
theorem unw_place (g o:Nat) (c:Int) (w:World) (h0:w.cell? ⟨g,o,none⟩=some (.int .i64 c)):Calls Tryd.prog 99 #[.pointer (some ⟨g,o,none⟩)] w fun e w'=>e= .returned (.iface 29 (.int .i64 c))∧w=w':=by
 go_enter Tryd.func99,Tryd.ntmps99
 go_wp2
 go_ret
 exact ⟨rfl,rfl⟩
theorem unw_named (g o:Nat) (u:Value) (w:World) (h0:w.cell? ⟨g,o+1,none⟩=some u):Calls Tryd.prog 101 #[.pointer (some ⟨g,o,none⟩)] w fun e w'=>e= .returned u∧w=w':=by
 go_enter Tryd.func101,Tryd.ntmps101
 go_wp2
 go_ret
 exact ⟨rfl,rfl⟩
inductive Er
 |place (c n:Int)
 |named (s:ByteArray) (e:Er)
def Er.At (w:World):Er→Value→Prop
 | .place c n,v=> ∃ g o,v= .iface 52 (.pointer (some ⟨g,o,none⟩))∧w.cell? ⟨g,o,none⟩=some (.int .i64 c)∧w.cell? ⟨g,o+1,none⟩=some (.int .i64 n)
 | .named s e,v=> ∃ g o u,v= .iface 57 (.pointer (some ⟨g,o,none⟩))∧w.cell? ⟨g,o,none⟩=some (.string s)∧w.cell? ⟨g,o+1,none⟩=some u∧e.At w u
def Er.code:Er→Int
 | .place c _=>c
 | .named _ e=>e.code
def Er.pos:Er→Int
 | .place _ n=>n
 | .named _ e=>e.pos
def Er.depth:Er→Nat
 | .place _ _=>1
 | .named _ e=>e.depth+1
def Er.defOf:Er→ByteArray→ByteArray
 | .place _ _,d=>d
 | .named s e,_=>e.defOf s
def Er.first:Er→Option (ByteArray×Er)
 | .place _ _=>none
 | .named s e=>some (s,e)
theorem Er.At.shape {w:World} {e:Er} {v:Value} (h:e.At w v): ∃ T a,v= .iface T (.pointer (some a))∧(T=52∨T=57):=by
 cases e with
 |place c n=>obtain ⟨g,o,rfl,_⟩:=h;exact ⟨_,_,rfl,by simp⟩
 |named s e=>obtain ⟨g,o,_,rfl,_⟩:=h;exact ⟨_,_,rfl,by simp⟩
theorem cell_up {w0 w:World} (hk:Below w0.heap.size w0 w) {p:Addr} {v:Value} (h:w0.cell? p=some v):w.cell? p=some v:=(hk.cell (World.block_lt_of_cell? w0 p h)).trans h
theorem below_up {w0 w:World} (hk:Below w0.heap.size w0 w) (o:Obj):Below w0.heap.size w0 (w.alloc o):=hk.alloc hk.size o
structure Aside (p:Prop):Prop where mk::(out:p)
def EV (w:World):Prop:=w.cell? ⟨0,0,none⟩=some errV
theorem EV.up {w0 w:World} (hk:Below w0.heap.size w0 w) (h:EV w0):EV w:=cell_up hk h
def FoundPlace (er:Er) (w0 w:World) (t:Nat) (b:Bool) (w':World):Prop:=
 b=true∧ ∃ g o,w0.cell? ⟨g,o,none⟩=some (.int .i64 er.code)∧w0.cell? ⟨g,o+1,none⟩=some (.int .i64 er.pos)∧Below w.heap.size (w.setCell ⟨t,0,none⟩ (.pointer (some ⟨g,o,none⟩))) w'
def HeadPlace (er:Er) (w0:World) (k:Nat) (v:Value):Prop:= ∃ e:Er,e.At w0 v∧e.code=er.code∧e.pos=er.pos∧k=e.depth
theorem down_Place {er:Er} {w0 w W w':World} {t:Nat} {b:Bool} (hb:Below w.heap.size w W) (h:FoundPlace er w0 W t b w'):FoundPlace er w0 w t b w':=by
 obtain ⟨hbt,g,o,h1,h2,hw⟩:=h
 exact ⟨hbt,g,o,h1,h2,(setCell_below hb _ _).trans (hw.mono hb.size)⟩
set_option maxRecDepth 100000 in
set_option maxHeartbeats 2000000 in
theorem as_Place (er:Er) (v:Value) (t b:Nat) (x:Value) (w0 w:World) (h:er.At w0 v) (hk:Below w0.heap.size w0 w) (ht:w.heap[t]?=some (.cells #[x] 52 (0,0))) (hb:w.heap[b]?=some (.cells #[.pointer (some ⟨t,0,none⟩)] 54 (0,0))):
  Calls Tryd.prog 41 #[v,.iface 54 (.pointer (some ⟨t,0,none⟩)),.agg #[.pointer (some ⟨5,54,none⟩),.pointer (some ⟨b,0,none⟩),.int .u64 150],.iface 105 (.agg #[.pointer (some ⟨5,52,none⟩)])] w (fun e w'=> ∃ b,e= .returned (.bool b)∧FoundPlace er w0 w t b w'):=by
 have HK:=Lib.hid hk
 clear hk
 have h0:HeadPlace er w0 er.depth v:=⟨er,h,rfl,rfl,rfl⟩
 obtain ⟨k0,hk0⟩: ∃ k,er.depth=k:=⟨_,rfl⟩
 rw[hk0] at h0
 have H0:=Lib.hid h0
 clear h0 hk0 h
 have hbl:=(Array.getElem?_eq_some_iff.1 hb).1
 have htl:=(Array.getElem?_eq_some_iff.1 ht).1
 have el:=elemVPlace ⟨b,0,none⟩ ⟨t,0,none⟩ (w.alloc (.cells #[.pointer (some ⟨5,54,none⟩),.pointer (some ⟨b,0,none⟩),.int .u64 150] 79)) (by rw[World.cell?_alloc_lt _ _ ⟨b,0,none⟩ hbl];exact cell_blk hb rfl)
 have st: ∀ e:Addr,_:=fun e=>setPPlace ⟨t,0,none⟩ ⟨w.heap.size+1,0,none⟩ e x ((w.alloc (.cells #[.pointer (some ⟨5,54,none⟩),.pointer (some ⟨b,0,none⟩),.int .u64 150] 79)).alloc (.cells #[.pointer (some e)] 52))
  (by rw[World.cell?_alloc_at _ _ _ _ (by simp)];rfl)
  (by rw[World.cell?_alloc_lt _ _ ⟨t,0,none⟩ (by simp;omega),World.cell?_alloc_lt _ _ ⟨t,0,none⟩ htl];exact cell_blk ht rfl)
  (by rw[World.frozen?_alloc_old _ _ ⟨t,0,none⟩ (by simp;omega),World.frozen?_alloc_old _ _ ⟨t,0,none⟩ (by simp;omega)];simp[World.frozen?,ht])
 have x1:=ext_TypeOf
 have x2:=ext_ElemV
 have x3:=ext_ValueOf
 have x4:=ext_Set
 have x5:=ext_AssignableTo
 have mA:=mAssignableTo
 clear ht hb
 go_enter Tryd.func41,Tryd.ntmps41
 go_wp2
 go_loopg [0] k0 (fun k v w'=>HeadPlace er w0 k v∧w'=w.alloc (.cells #[.pointer (some ⟨5,54,none⟩),.pointer (some ⟨b,0,none⟩),.int .u64 150] 79))
 case atStart=>exact ⟨H0.out,rfl⟩
 case round=>
  obtain ⟨hh,rfl⟩:=hrel
  obtain ⟨e,he,hr,hr2,hk⟩:=hh
  subst hk
  cases e with
  |place c n=>
   obtain ⟨g,o,rfl,hg,hg2⟩:=he
   have H1:=Lib.hid hr
   have H12:=Lib.hid hr2
   have H2:=Lib.hid hg
   have H3:=Lib.hid hg2
   clear hr hr2 hg hg2
   have h1:=typeOfPPlace
   have h2:=assignPPlace
   have h3:=valueOfPPlace
   have st':=st ⟨g,o,none⟩
   clear st
   go_wp2
   go_ret
   exact ⟨_,rfl,rfl,g,o,H1.out▸H2.out,H12.out▸H3.out,((Below.refl _ _).alloc (by simp) _).alloc (by simp) _⟩
  |named s e=>
   obtain ⟨g,o,u,rfl,hg,hg2,hu⟩:=he
   obtain ⟨T,a,rfl,hT⟩:=hu.shape
   have hu':=Lib.hid hu
   clear hu
   have H1:=Lib.hid hr
   have H12:=Lib.hid hr2
   have hW:=Lib.hid (cell_up (below_up HK.out (.cells #[.pointer (some ⟨5,54,none⟩),.pointer (some ⟨b,0,none⟩),.int .u64 150] 79)) hg2)
   clear hr hr2 hg hg2
   have h1:=typeOfNm
   have h2:=assignNoPlace_Named
   have h3:=taAs 57 (by decide)
   have h4:=taUn 57 (by decide)
   have hm:=mUnNamed
   go_wp2_with (go_at_call 101;refine (unw_named g o _ _ hW.out).mono ?_;rintro e w' ⟨rfl,rfl⟩)
   go_roundg e.depth
   case rel=>exact ⟨⟨e,hu'.out,H1.out,H12.out,rfl⟩,rfl⟩
   case measure=>simp[Er.depth]
set_option maxRecDepth 100000 in
set_option maxHeartbeats 4000000 in
theorem As_Place (er:Er) (v:Value) (t:Nat) (x:Value) (w0 w:World) (h:er.At w0 v) (hk:Below w0.heap.size w0 w) (ht:w.heap[t]?=some (.cells #[x] 52 (0,0))) (hE:w.cell? ⟨0,0,none⟩=some errV):
  Calls Tryd.prog 27 #[v,.iface 54 (.pointer (some ⟨t,0,none⟩))] w (fun e w'=> ∃ b,e= .returned (.bool b)∧FoundPlace er w0 w t b w'):=by
 unfold errV at hE
 obtain ⟨T,a,rfl,hT⟩:=h.shape
 have H:=Lib.hid h
 have Ht:=Lib.hid ht
 have htl:=(Array.getElem?_eq_some_iff.1 ht).1
 have hEl:=World.block_lt_of_cell? w ⟨0,0,none⟩ hE
 have n8:=isNilTPlace ⟨w.heap.size,0,none⟩ ⟨t,0,none⟩ ((w.alloc (.cells #[.pointer (some ⟨t,0,none⟩)] 54)).alloc (.cells #[.pointer (some ⟨5,54,none⟩),.pointer (some ⟨w.heap.size,0,none⟩),.int .u64 150] 79)) (by simp)
 have hg2:((w.alloc (.cells #[.pointer (some ⟨t,0,none⟩)] 54)).alloc (.cells #[.pointer (some ⟨5,54,none⟩),.pointer (some ⟨w.heap.size,0,none⟩),.int .u64 150] 79)).cell? ⟨0,0,none⟩=some (.iface 105 (.agg #[.pointer (some ⟨5,36,none⟩)])):=by
  rw[World.cell?_alloc_lt _ _ ⟨0,0,none⟩ (by have:(0:Nat)<w.heap.size:=hEl;simp<;>omega),World.cell?_alloc_lt _ _ ⟨0,0,none⟩ hEl];exact hE
 have hbl:=Lib.hid (((Below.refl w.heap.size w).alloc (Nat.le_refl _) (.cells #[.pointer (some ⟨t,0,none⟩)] 54)).alloc (by simp) (.cells #[.pointer (some ⟨5,54,none⟩),.pointer (some ⟨w.heap.size,0,none⟩),.int .u64 150] 79))
 have hbb:((w.alloc (.cells #[.pointer (some ⟨t,0,none⟩)] 54)).alloc (.cells #[.pointer (some ⟨5,54,none⟩),.pointer (some ⟨w.heap.size,0,none⟩),.int .u64 150] 79)).heap[w.heap.size]?=some (.cells #[.pointer (some ⟨t,0,none⟩)] 54 (0,0)):=by
  rw[Below.heap_alloc _ _ _ (by simp)];exact heap_new w _
 have hC:=Lib.hid (as_Place er _ t w.heap.size x w0 _ H.out (below_up (below_up hk (.cells #[.pointer (some ⟨t,0,none⟩)] 54)) (.cells #[.pointer (some ⟨5,54,none⟩),.pointer (some ⟨w.heap.size,0,none⟩),.int .u64 150] 79)) ((hbl.out.block t htl).trans Ht.out) hbb)
 have htl:=Lib.hid htl
 clear h ht hE hbb hEl hk
 have x1:=ext_ValueOf
 have x2:=ext_Type
 have x3:=ext_Kind
 have x4:=ext_IsNil
 have x5:=ext_Elem
 have x6:=ext_Implements
 have f1:=valueOfTPlace ⟨t,0,none⟩
 have f2:=typeTPlace
 have f3:=kindTPlace
 have f4:=kindPPlace
 have f5:=elemTPlace
 have f6:=implPPlace
 have mK:=mKind
 have mE:=mElem
 have mI:=mImplements
 go_enter Tryd.func27,Tryd.ntmps27
 go_wp2_with (go_at_call 41;refine hC.out.mono ?_;rintro e w' ⟨bb,rfl,hF⟩;have HF:=Lib.hid hF;clear hF)
 go_ret
 exact ⟨_,rfl,down_Place hbl.out HF.out⟩
def FoundNamed (er:Er) (w0 w:World) (t:Nat) (b:Bool) (w':World):Prop:=
 match er.first with
 |some (s,n)=>b=true∧ ∃ g o,(∃ u,w0.cell? ⟨g,o,none⟩=some (.string s)∧w0.cell? ⟨g,o+1,none⟩=some u∧n.At w0 u)∧Below w.heap.size (w.setCell ⟨t,0,none⟩ (.pointer (some ⟨g,o,none⟩))) w'
 |none=>b=false∧Below w.heap.size w w'
def HeadNamed (er:Er) (w0:World) (k:Nat) (v:Value):Prop:=(∃ e:Er,e.At w0 v∧e.first=er.first∧k=e.depth)∨(∃ c:Int,v= .iface 29 (.int .i64 c)∧er.first=none∧k=0)
theorem found_yes_Named {er e:Er} {s:ByteArray} {w0 w w':World} {t:Nat} (h:(Er.named s e).first=er.first) (g o:Nat) (u:Value) (h1:w0.cell? ⟨g,o,none⟩=some (.string s)) (h2:w0.cell? ⟨g,o+1,none⟩=some u) (hu:e.At w0 u) (hb:Below w.heap.size (w.setCell ⟨t,0,none⟩ (.pointer (some ⟨g,o,none⟩))) w'):FoundNamed er w0 w t true w':=by
 unfold FoundNamed
 rw[←h]
 exact ⟨rfl,g,o,⟨u,h1,h2,hu⟩,hb⟩
theorem found_no_Named {er:Er} {w0 w w':World} {t:Nat} (h:none=er.first) (hb:Below w.heap.size w w'):FoundNamed er w0 w t false w':=by
 unfold FoundNamed
 rw[←h]
 exact ⟨rfl,hb⟩
theorem down_Named {er:Er} {w0 w W w':World} {t:Nat} {b:Bool} (hb:Below w.heap.size w W) (h:FoundNamed er w0 W t b w'):FoundNamed er w0 w t b w':=by
 unfold FoundNamed at h ⊢
 split at h
 ·obtain ⟨hbt,g,o,hg,hw⟩:=h
  exact ⟨hbt,g,o,hg,(setCell_below hb _ _).trans (hw.mono hb.size)⟩
 ·exact ⟨h.1,hb.trans (h.2.mono hb.size)⟩
set_option maxRecDepth 100000 in
set_option maxHeartbeats 2000000 in
theorem as_Named (er:Er) (v:Value) (t b:Nat) (x:Value) (w0 w:World) (h:er.At w0 v) (hk:Below w0.heap.size w0 w) (ht:w.heap[t]?=some (.cells #[x] 57 (0,0))) (hb:w.heap[b]?=some (.cells #[.pointer (some ⟨t,0,none⟩)] 58 (0,0))):
  Calls Tryd.prog 41 #[v,.iface 58 (.pointer (some ⟨t,0,none⟩)),.agg #[.pointer (some ⟨5,58,none⟩),.pointer (some ⟨b,0,none⟩),.int .u64 150],.iface 105 (.agg #[.pointer (some ⟨5,57,none⟩)])] w (fun e w'=> ∃ b,e= .returned (.bool b)∧FoundNamed er w0 w t b w'):=by
 have HK:=Lib.hid hk
 clear hk
 have h0:HeadNamed er w0 er.depth v:= .inl ⟨er,h,rfl,rfl⟩
 obtain ⟨k0,hk0⟩: ∃ k,er.depth=k:=⟨_,rfl⟩
 rw[hk0] at h0
 have H0:=Lib.hid h0
 clear h0 hk0 h
 have hbl:=(Array.getElem?_eq_some_iff.1 hb).1
 have htl:=(Array.getElem?_eq_some_iff.1 ht).1
 have el:=elemVNamed ⟨b,0,none⟩ ⟨t,0,none⟩ (w.alloc (.cells #[.pointer (some ⟨5,58,none⟩),.pointer (some ⟨b,0,none⟩),.int .u64 150] 79)) (by rw[World.cell?_alloc_lt _ _ ⟨b,0,none⟩ hbl];exact cell_blk hb rfl)
 have st: ∀ e:Addr,_:=fun e=>setPNamed ⟨t,0,none⟩ ⟨w.heap.size+1,0,none⟩ e x ((w.alloc (.cells #[.pointer (some ⟨5,58,none⟩),.pointer (some ⟨b,0,none⟩),.int .u64 150] 79)).alloc (.cells #[.pointer (some e)] 57))
  (by rw[World.cell?_alloc_at _ _ _ _ (by simp)];rfl)
  (by rw[World.cell?_alloc_lt _ _ ⟨t,0,none⟩ (by simp;omega),World.cell?_alloc_lt _ _ ⟨t,0,none⟩ htl];exact cell_blk ht rfl)
  (by rw[World.frozen?_alloc_old _ _ ⟨t,0,none⟩ (by simp;omega),World.frozen?_alloc_old _ _ ⟨t,0,none⟩ (by simp;omega)];simp[World.frozen?,ht])
 have x1:=ext_TypeOf
 have x2:=ext_ElemV
 have x3:=ext_ValueOf
 have x4:=ext_Set
 have x5:=ext_AssignableTo
 have mA:=mAssignableTo
 clear ht hb
 go_enter Tryd.func41,Tryd.ntmps41
 go_wp2
 go_loopg [0] k0 (fun k v w'=>HeadNamed er w0 k v∧w'=w.alloc (.cells #[.pointer (some ⟨5,58,none⟩),.pointer (some ⟨b,0,none⟩),.int .u64 150] 79))
 case atStart=>exact ⟨H0.out,rfl⟩
 case round=>
  obtain ⟨hh,rfl⟩:=hrel
  rcases hh with ⟨e,he,hr,hk⟩|⟨c,rfl,hr,hk⟩
  ·subst hk
   cases e with
   |named s e=>
    obtain ⟨g,o,u,rfl,hg,hg2,hu⟩:=he
    have H1:=Lib.hid hr
    have H2:=Lib.hid hg
    have H22:=Lib.hid hg2
    have H3:=Lib.hid hu
    clear hr hg hg2 hu
    have h1:=typeOfPNamed
    have h2:=assignPNamed
    have h3:=valueOfPNamed
    have st':=st ⟨g,o,none⟩
    clear st
    go_wp2
    go_ret
    exact ⟨_,rfl,found_yes_Named H1.out g o u H2.out H22.out H3.out (((Below.refl _ _).alloc (by simp) _).alloc (by simp) _)⟩
   |place c n=>
    obtain ⟨g,o,rfl,hg,hg2⟩:=he
    have H1:=Lib.hid hr
    have hW:=Lib.hid (cell_up (below_up HK.out (.cells #[.pointer (some ⟨5,58,none⟩),.pointer (some ⟨b,0,none⟩),.int .u64 150] 79)) hg)
    clear hr hg hg2
    have h1:=typeOfPPlace
    have h2:=assignNoNamed_Place
    have h3:=taAs 52 (by decide)
    have h4:=taUn 52 (by decide)
    have hm:=mUnPlace
    go_wp2_with (go_at_call 99;refine (unw_place g o _ _ hW.out).mono ?_;rintro e w' ⟨rfl,rfl⟩)
    go_roundg 0
    case rel=>exact ⟨.inr ⟨c,rfl,H1.out.symm,rfl⟩,rfl⟩
    case measure=>simp[Er.depth]
  ·have H1:=Lib.hid hr
   clear hr
   have h1:=typeOfErrno
   have h2:=assignNoNamed_Errno
   have h3:=taAs 29 (by decide)
   have h4:=taUnErrno
   have h5:=taUs
   go_wp2
   go_ret
   exact ⟨_,rfl,found_no_Named H1.out.symm ((Below.refl _ _).alloc (Nat.le_refl _) _)⟩
set_option maxRecDepth 100000 in
set_option maxHeartbeats 4000000 in
theorem As_Named (er:Er) (v:Value) (t:Nat) (x:Value) (w0 w:World) (h:er.At w0 v) (hk:Below w0.heap.size w0 w) (ht:w.heap[t]?=some (.cells #[x] 57 (0,0))) (hE:w.cell? ⟨0,0,none⟩=some errV):
  Calls Tryd.prog 27 #[v,.iface 58 (.pointer (some ⟨t,0,none⟩))] w (fun e w'=> ∃ b,e= .returned (.bool b)∧FoundNamed er w0 w t b w'):=by
 unfold errV at hE
 obtain ⟨T,a,rfl,hT⟩:=h.shape
 have H:=Lib.hid h
 have Ht:=Lib.hid ht
 have htl:=(Array.getElem?_eq_some_iff.1 ht).1
 have hEl:=World.block_lt_of_cell? w ⟨0,0,none⟩ hE
 have n8:=isNilTNamed ⟨w.heap.size,0,none⟩ ⟨t,0,none⟩ ((w.alloc (.cells #[.pointer (some ⟨t,0,none⟩)] 58)).alloc (.cells #[.pointer (some ⟨5,58,none⟩),.pointer (some ⟨w.heap.size,0,none⟩),.int .u64 150] 79)) (by simp)
 have hg2:((w.alloc (.cells #[.pointer (some ⟨t,0,none⟩)] 58)).alloc (.cells #[.pointer (some ⟨5,58,none⟩),.pointer (some ⟨w.heap.size,0,none⟩),.int .u64 150] 79)).cell? ⟨0,0,none⟩=some (.iface 105 (.agg #[.pointer (some ⟨5,36,none⟩)])):=by
  rw[World.cell?_alloc_lt _ _ ⟨0,0,none⟩ (by have:(0:Nat)<w.heap.size:=hEl;simp<;>omega),World.cell?_alloc_lt _ _ ⟨0,0,none⟩ hEl];exact hE
 have hbl:=Lib.hid (((Below.refl w.heap.size w).alloc (Nat.le_refl _) (.cells #[.pointer (some ⟨t,0,none⟩)] 58)).alloc (by simp) (.cells #[.pointer (some ⟨5,58,none⟩),.pointer (some ⟨w.heap.size,0,none⟩),.int .u64 150] 79))
 have hbb:((w.alloc (.cells #[.pointer (some ⟨t,0,none⟩)] 58)).alloc (.cells #[.pointer (some ⟨5,58,none⟩),.pointer (some ⟨w.heap.size,0,none⟩),.int .u64 150] 79)).heap[w.heap.size]?=some (.cells #[.pointer (some ⟨t,0,none⟩)] 58 (0,0)):=by
  rw[Below.heap_alloc _ _ _ (by simp)];exact heap_new w _
 have hC:=Lib.hid (as_Named er _ t w.heap.size x w0 _ H.out (below_up (below_up hk (.cells #[.pointer (some ⟨t,0,none⟩)] 58)) (.cells #[.pointer (some ⟨5,58,none⟩),.pointer (some ⟨w.heap.size,0,none⟩),.int .u64 150] 79)) ((hbl.out.block t htl).trans Ht.out) hbb)
 have htl:=Lib.hid htl
 clear h ht hE hbb hEl hk
 have x1:=ext_ValueOf
 have x2:=ext_Type
 have x3:=ext_Kind
 have x4:=ext_IsNil
 have x5:=ext_Elem
 have x6:=ext_Implements
 have f1:=valueOfTNamed ⟨t,0,none⟩
 have f2:=typeTNamed
 have f3:=kindTNamed
 have f4:=kindPNamed
 have f5:=elemTNamed
 have f6:=implPNamed
 have mK:=mKind
 have mE:=mElem
 have mI:=mImplements
 go_enter Tryd.func27,Tryd.ntmps27
 go_wp2_with (go_at_call 41;refine hC.out.mono ?_;rintro e w' ⟨bb,rfl,hF⟩;have HF:=Lib.hid hF;clear hF)
 go_ret
 exact ⟨_,rfl,down_Named hbl.out HF.out⟩
theorem As_hit (er:Er) (v:Value) (t:Nat) (x:Value) (w0 w:World) (h:er.At w0 v) (hk:Below w0.heap.size w0 w) (hlt:w0.heap.size≤t) (ht:w.heap[t]?=some (.cells #[x] 52 (0,0))) (hE:EV w):
  Calls Tryd.prog 27 #[v,.iface 54 (.pointer (some ⟨t,0,none⟩))] w fun e w'=>e= .returned (.bool true)∧ ∃ g o,w'.cell? ⟨t,0,none⟩=some (.pointer (some ⟨g,o,none⟩))∧w'.cell? ⟨g,o,none⟩=some (.int .i64 er.code)∧w'.cell? ⟨g,o+1,none⟩=some (.int .i64 er.pos)∧Below t w w':=by
 refine (As_Place er v t x w0 w h hk ht hE).mono ?_
 rintro e w' ⟨b,rfl,rfl,g,o,h1,h2,hw⟩
 have hs:=below_set (Array.getElem?_eq_some_iff.1 ht).1 hw
 have hk2:=hk.trans (hs.mono hlt)
 exact ⟨rfl,g,o,cell_blk (blk_self ht hw) rfl,cell_up hk2 h1,cell_up hk2 h2,hs⟩
set_option maxRecDepth 100000 in
set_option maxHeartbeats 1000000 in
theorem Code_nil (w:World):Calls Tryd.prog 14 #[.nilIface] w fun e w'=>e= .returned (.int .i64 0)∧Below w.heap.size w w':=by
 go_enter Tryd.func14,Tryd.ntmps14
 go_wp2
 go_ret
 exact ⟨rfl,Below.refl _ _⟩
set_option maxRecDepth 100000 in
set_option maxHeartbeats 1000000 in
theorem Code_er (er:Er) (v:Value) (w:World) (h:er.At w v) (hE:EV w):Calls Tryd.prog 14 #[v] w fun e w'=>e= .returned (.int .i64 er.code)∧Below w.heap.size w w':=by
 have hb:=(Below.refl w.heap.size w).alloc (Nat.le_refl _) (.cells #[.pointer none] 52)
 have hC:=Lib.hid (As_hit er v w.heap.size _ w _ h hb (Nat.le_refl _) (heap_new w _) (hE.up hb))
 have HB:=Lib.hid hb
 obtain ⟨T,a,rfl,_⟩:=h.shape
 clear h hE hb
 go_enter Tryd.func14,Tryd.ntmps14
 go_wp2_with (go_at_call 27;refine hC.out.mono ?_;rintro e w' ⟨rfl,g,o,ht,hg0,hg1,hw⟩;have HW:=Lib.hid hw;clear hw)
 go_ret
 exact ⟨rfl,HB.out.trans HW.out⟩
set_option maxRecDepth 100000 in
set_option maxHeartbeats 1000000 in
theorem At_nil (w:World):Calls Tryd.prog 15 #[.nilIface] w fun e w'=>e= .returned (.int .i64 (-1))∧Below w.heap.size w w':=by
 go_enter Tryd.func15,Tryd.ntmps15
 go_wp2
 go_ret
 exact ⟨rfl,(Below.refl _ _).alloc (Nat.le_refl _) _⟩
set_option maxRecDepth 100000 in
set_option maxHeartbeats 1000000 in
theorem At_er (er:Er) (v:Value) (w:World) (h:er.At w v) (hE:EV w):Calls Tryd.prog 15 #[v] w fun e w'=>e= .returned (.int .i64 er.pos)∧Below w.heap.size w w':=by
 have hb:=(Below.refl w.heap.size w).alloc (Nat.le_refl _) (.cells #[.pointer none] 52)
 have hC:=Lib.hid (As_hit er v w.heap.size _ w _ h hb (Nat.le_refl _) (heap_new w _) (hE.up hb))
 have HB:=Lib.hid hb
 obtain ⟨T,a,rfl,_⟩:=h.shape
 clear h hE hb
 go_enter Tryd.func15,Tryd.ntmps15
 go_wp2_with (go_at_call 27;refine hC.out.mono ?_;rintro e w' ⟨rfl,g,o,ht,hg0,hg1,hw⟩;have HW:=Lib.hid hw;clear hw)
 go_ret
 exact ⟨rfl,HB.out.trans HW.out⟩
def HeadDef (w0:World) (d:ByteArray) (k:Nat) (s:ByteArray) (v:Value):Prop:=
 (v= .nilIface∧s=d∧k=0)∨(∃ e:Er,e.At w0 v∧e.defOf s=d∧k=e.depth+1)
theorem Below.drewN' {B:Nat} {a w:World} (h:Below B a w) (n:Nat):Below B a (w.drewN n):=⟨h.os,h.tape,h.output,h.size,h.block⟩
theorem Named_no (er:Er) (v:Value) (t:Nat) (x:Value) (w0 w:World) (h:er.At w0 v) (hk:Below w0.heap.size w0 w) (ht:w.heap[t]?=some (.cells #[x] 57 (0,0))) (hE:EV w) (hr:er.first=none):
  Calls Tryd.prog 27 #[v,.iface 58 (.pointer (some ⟨t,0,none⟩))] w fun e w'=>e= .returned (.bool false)∧Below w.heap.size w w':=by
 refine (As_Named er v t x w0 w h hk ht hE).mono ?_
 rintro e w' ⟨b,rfl,hF⟩
 unfold FoundNamed at hF
 rw[hr] at hF
 exact ⟨by rw[hF.1],hF.2⟩
theorem Named_hit (er:Er) (v:Value) (t:Nat) (x:Value) (w0 w:World) (h:er.At w0 v) (hk:Below w0.heap.size w0 w) (hlt:w0.heap.size≤t) (ht:w.heap[t]?=some (.cells #[x] 57 (0,0))) (hE:EV w) {s:ByteArray} {e0:Er} (hr:er.first=some (s,e0)):
  Calls Tryd.prog 27 #[v,.iface 58 (.pointer (some ⟨t,0,none⟩))] w fun e w'=>e= .returned (.bool true)∧ ∃ g o u,w'.cell? ⟨t,0,none⟩=some (.pointer (some ⟨g,o,none⟩))∧w'.cell? ⟨g,o,none⟩=some (.string s)∧w'.cell? ⟨g,o+1,none⟩=some u∧(∃ y,w'.heap[t]?=some (.cells #[y] 57 (0,0)))∧e0.At w0 u∧Below w0.heap.size w0 w':=by
 refine (As_Named er v t x w0 w h hk ht hE).mono ?_
 rintro e w' ⟨b,rfl,hF⟩
 unfold FoundNamed at hF
 rw[hr] at hF
 obtain ⟨rfl,g,o,⟨u,h1,h2,hu⟩,hw⟩:=hF
 have hk2:=hk.trans ((below_set (Array.getElem?_eq_some_iff.1 ht).1 hw).mono hlt)
 exact ⟨rfl,g,o,u,cell_blk (blk_self ht hw) rfl,cell_up hk2 h1,cell_up hk2 h2,⟨_,blk_self ht hw⟩,hu,hk2⟩
theorem defOf_first {e:Er} {d:ByteArray}:e.defOf d=match e.first with|some (s,e')=>e'.defOf s|none=>d:=by cases e<;>rfl
theorem first_depth {e e':Er} {s:ByteArray} (h:e.first=some (s,e')):e'.depth<e.depth:=by
 cases e with
 |place c n=>cases h
 |named s e=>injection h with h;injection h with _ h;subst h;simp[Er.depth]
set_option maxRecDepth 100000 in
set_option maxHeartbeats 4000000 in
theorem Def_head (v:Value) (d:ByteArray) (k0:Nat) (w:World) (h0:HeadDef w d k0 ⟨#[]⟩ v) (hE:EV w):Calls Tryd.prog 16 #[v] w fun e w'=>e= .returned (.string d)∧Below w.heap.size w w':=by
 have H0:=Lib.hid h0
 have HE:=Lib.hid hE
 clear h0 hE
 go_enter Tryd.func16,Tryd.ntmps16
 go_wp2
 go_loopg [0,3] k0 (fun k v d' w'=> ∃ s:ByteArray,d'= .string s∧HeadDef w d k s v∧(∃ x,w'.heap[w.heap.size]?=some (.cells #[x] 57 (0,0)))∧Aside (Below w.heap.size w w'))
 case atStart=>exact ⟨_,rfl,H0.out,⟨_,heap_new _ _⟩,⟨(Below.refl _ _).alloc (Nat.le_refl _) _⟩⟩
 case round=>
  clear H0
  obtain ⟨s,rfl,hh,⟨x,hx⟩,hB⟩:=hrel
  rcases hh with ⟨rfl,rfl,rfl⟩|⟨e,he,hd,hk⟩
  ·go_wp2
   go_ret
   exact ⟨rfl,hB.out⟩
  ·obtain ⟨T,a,rfl,_⟩:=he.shape
   rcases hf:e.first with _|⟨s',e'⟩
   ·have hC:=Lib.hid (Named_no e _ w.heap.size x w wr he hB.out hx (HE.out.up hB.out) hf)
    have hd':s=d:=by
     have h1:=defOf_first (e:=e) (d:=s)
     rw[hf] at h1
     exact h1.symm.trans hd
    subst hd'
    clear hd hf he hx hk
    go_wp2_with (go_at_call 27;refine hC.out.mono ?_;rintro e w' ⟨rfl,hw⟩;have HW:=Aside.mk hw;clear hw)
    go_ret
    exact ⟨rfl,hB.out.trans (HW.out.mono hB.out.size)⟩
   ·have hC:=Lib.hid (Named_hit e _ w.heap.size x w wr he hB.out (Nat.le_refl _) hx (HE.out.up hB.out) hf)
    have hd':e'.defOf s'=d:=by
     have h1:=defOf_first (e:=e) (d:=s)
     rw[hf] at h1
     exact h1.symm.trans hd
    have hD:=Lib.hid hd'
    have hdep:=first_depth hf
    clear hd hf he hx hd'
    go_wp2_with (go_at_call 27;refine hC.out.mono ?_;rintro e w' ⟨rfl,g,o,u,ht,hg0,hg1,htb,hu,hw⟩;have HW:=Aside.mk hw;have HT:=Lib.hid htb;have HU:=Lib.hid hu;clear hw htb hu)
    obtain ⟨T',a',hua,_⟩:=HU.out.shape
    subst hua
    go_quiet (fail)
    go_wp2
    go_roundg (e'.depth+1)
    case measure=>omega
    case rel=>exact ⟨_,rfl,.inr ⟨e',HU.out,hD.out,rfl⟩,HT.out,⟨Below.drewN' HW.out _⟩⟩
def EvIs (G:Glob):Prop:= ∃ t z,G.blk 0=some (.cells #[errV] t z)
def erF:Nat→PV→Option Er
 |_,.ifc t (.at_ [.int .i64 c,.int .i64 n])=>if t=52 then some (.place c n) else none
 |f+1,.ifc t (.at_ [.str s,e])=>if t=57 then (erF f e).map (.named s) else none
 |_,_=>none
theorem er_at {C:Ctx} {w:World}: ∀ (f:Nat) (p:PV) (e:Er) (v:Value),erF f p=some e→Rep C w p v→e.At w v:=by
 intro f
 induction f with
 |zero=>
  intro p e v h hr
  unfold erF at h
  split at h
  ·split at h
   ·rename_i ht;subst ht
    injection h with h;subst h
    cases hr with|ifc _ _ u hu=>
    cases hu with
    |at_ cs b off hb hi ha hc hr=>
    refine ⟨b,off,rfl, ?_, ?_⟩
    ·obtain ⟨v,hv⟩:=hc 0 _ rfl
     have:=hr 0 _ v rfl hv
     cases this;exact hv
    ·obtain ⟨v,hv⟩:=hc 1 _ rfl
     have:=hr 1 _ v rfl hv
     cases this;exact hv
   ·cases h
  ·simp_all
  ·cases h
 |succ f ih=>
  intro p e v h hr
  unfold erF at h
  split at h
  ·split at h
   ·rename_i ht;subst ht
    injection h with h;subst h
    cases hr with|ifc _ _ u hu=>
    cases hu with
    |at_ cs b off hb hi ha hc hr=>
    refine ⟨b,off,rfl, ?_, ?_⟩
    ·obtain ⟨v,hv⟩:=hc 0 _ rfl
     have:=hr 0 _ v rfl hv
     cases this;exact hv
    ·obtain ⟨v,hv⟩:=hc 1 _ rfl
     have:=hr 1 _ v rfl hv
     cases this;exact hv
   ·cases h
  ·rename_i f' t s q hf
   obtain rfl:f=f':=by omega
   split at h
   ·rename_i ht;subst ht
    simp only[Option.map_eq_some_iff] at h
    obtain ⟨e',he',rfl⟩:=h
    cases hr with|ifc _ _ u hu=>
    cases hu with
    |at_ cs b off hb hi ha hc hr=>
    obtain ⟨v0,hv0⟩:=hc 0 _ rfl
    have h0:=hr 0 _ v0 rfl hv0
    obtain ⟨v1,hv1⟩:=hc 1 _ rfl
    have h1:=hr 1 _ v1 rfl hv1
    cases h0
    exact ⟨b,off,v1,rfl,hv0,hv1,ih _ _ _ he' h1⟩
   ·cases h
  ·cases h
def fcF:List PV→St→Option (PV×St)
 |[.nilifc],S=>some (.int .i64 0,S)
 |[e],S=>(erF 4 e).map fun er=>(.int .i64 er.code,S)
 |_,_=>none
def faF:List PV→St→Option (PV×St)
 |[.nilifc],S=>some (.int .i64 (-1),S)
 |[e],S=>(erF 4 e).map fun er=>(.int .i64 er.pos,S)
 |_,_=>none
theorem enter_fc:Enter Tryd.prog 14:=⟨_,Tryd.func14,by kernel_rfl,by kernel_rfl⟩
theorem enter_fa:Enter Tryd.prog 15:=⟨_,Tryd.func15,by kernel_rfl,by kernel_rfl⟩
theorem EvIs.ev {G:Glob} (hG:EvIs G) {C:Ctx} {S:St} {w:World} (hW:WRel G C S w):EV w:=by
 obtain ⟨t,z,hb⟩:=hG
 obtain ⟨h1,_,_⟩:=hW.blk _ _ hb
 simp[EV,World.cell?,h1]
theorem rep_one {C:Ctx} {w:World} {p:PV} {vs:List Value} (h:RepL C w [p] vs): ∃ v,vs=[v]∧Rep C w p v:=by
 match vs,h with
 |[],h=>have:=h.1;simp at this
 |_::_::_,h=>have:=h.1;simp at this
 |[v],h=>exact ⟨v,rfl,h.2 0 _ v rfl rfl⟩
theorem fcF_spec (G:Glob) (hG:EvIs G) (args:List PV) (S:St) (r:PV) (S':St) (h:fcF args S=some (r,S')):CallSpec Tryd.prog G 14 args S r S':=by
 intro C w vs hW hR
 have hE:=hG.ev hW
 unfold fcF at h
 split at h
 ·injection h with h;injection h with e1 e2;subst e1 e2
  obtain ⟨v,rfl,rp⟩:=rep_one hR
  cases rp
  refine (Code_nil w).mono ?_
  rintro e w' ⟨rfl,hb⟩
  exact ⟨C,_,rfl,.int _ _,hW.of_below hb,.of_below hb C⟩
 ·simp only[Option.map_eq_some_iff,Prod.mk.injEq] at h
  obtain ⟨er,he,e1,e2⟩:=h
  subst e1 e2
  obtain ⟨v,rfl,rp⟩:=rep_one hR
  refine (Code_er er v w (er_at 4 _ _ _ he rp) hE).mono ?_
  rintro e w' ⟨rfl,hb⟩
  exact ⟨C,_,rfl,.int _ _,hW.of_below hb,.of_below hb C⟩
 ·cases h
theorem faF_spec (G:Glob) (hG:EvIs G) (args:List PV) (S:St) (r:PV) (S':St) (h:faF args S=some (r,S')):CallSpec Tryd.prog G 15 args S r S':=by
 intro C w vs hW hR
 have hE:=hG.ev hW
 unfold faF at h
 split at h
 ·injection h with h;injection h with e1 e2;subst e1 e2
  obtain ⟨v,rfl,rp⟩:=rep_one hR
  cases rp
  refine (At_nil w).mono ?_
  rintro e w' ⟨rfl,hb⟩
  exact ⟨C,_,rfl,.int _ _,hW.of_below hb,.of_below hb C⟩
 ·simp only[Option.map_eq_some_iff,Prod.mk.injEq] at h
  obtain ⟨er,he,e1,e2⟩:=h
  subst e1 e2
  obtain ⟨v,rfl,rp⟩:=rep_one hR
  refine (At_er er v w (er_at 4 _ _ _ he rp) hE).mono ?_
  rintro e w' ⟨rfl,hb⟩
  exact ⟨C,_,rfl,.int _ _,hW.of_below hb,.of_below hb C⟩
 ·cases h
def fdF:List PV→St→Option (PV×St)
 |[.nilifc],S=>some (.str ⟨#[]⟩,S)
 |[e],S=>(erF 4 e).map fun er=>(.str (er.defOf ⟨#[]⟩),S)
 |_,_=>none
theorem enter_fd:Enter Tryd.prog 16:=⟨_,Tryd.func16,by kernel_rfl,by kernel_rfl⟩
theorem fdF_spec (G:Glob) (hG:EvIs G) (args:List PV) (S:St) (r:PV) (S':St) (h:fdF args S=some (r,S')):CallSpec Tryd.prog G 16 args S r S':=by
 intro C w vs hW hR
 have hE:=hG.ev hW
 unfold fdF at h
 split at h
 ·injection h with h;injection h with e1 e2;subst e1 e2
  obtain ⟨v,rfl,rp⟩:=rep_one hR
  cases rp
  refine (Def_head _ ⟨#[]⟩ 0 w (.inl ⟨rfl,rfl,rfl⟩) hE).mono ?_
  rintro e w' ⟨rfl,hb⟩
  exact ⟨C,_,rfl,.str _,hW.of_below hb,.of_below hb C⟩
 ·simp only[Option.map_eq_some_iff,Prod.mk.injEq] at h
  obtain ⟨er,he,e1,e2⟩:=h
  subst e1 e2
  obtain ⟨v,rfl,rp⟩:=rep_one hR
  refine (Def_head v (er.defOf ⟨#[]⟩) (er.depth+1) w (.inr ⟨er,er_at 4 _ _ _ he rp,rfl,rfl⟩) hE).mono ?_
  rintro e w' ⟨rfl,hb⟩
  exact ⟨C,_,rfl,.str _,hW.of_below hb,.of_below hb C⟩
 ·cases h
end Go.PE
