/-
  errors.As, and package fault's Code and At, at an error of the program's own that is a place: known functions. Conditions: each law's own.
-/
import Derived.Test.YtaofeleeinjclaaGreatDoorProg
import Derived.Test.YtaofeleeinjclaaGreatDoorPE18
import Derived.WalkKit
import Derived.LaidEql
import Derived.Stop.Asserts
import Derived.RowKitTokens
import Derived.Below
import Derived.Lib.Hide
import Derived.Deep.LoopGhost
import Derived.MapKept
namespace Go.PE
open Go Go.RowKit Go.Extern.Stop Go.Stop Go.Extern Go.Proofs
set_option linter.unusedVariables false
set_option linter.unusedSimpArgs false
theorem ext_TypeOf (args : Array Value) (w : World) : (callFunc 105 args).run Tryz.prog w = ((ReflectliteType.typeOf args).run Tryz.prog w).andThen (fun v w' => .ok (.value v) w') :=
  @run_callFunc_extern Tryz.prog 105 _ ReflectliteType.typeOf Tryz.func105 (by kernel_rfl) (by kernel_rfl) (by kernel_rfl) (by kernel_rfl) args w
theorem cell_blk {w : World} {g i : Nat} {cs : Array Value} {t : TypeId} {v : Value} (h : w.heap[g]? = some (.cells cs t (0,0))) (hv : cs[i]? = some v) : w.cell? ⟨g, i, none⟩ = some v := by
  simp [World.cell?, h, hv]
theorem heap_new (w : World) (o : Obj) : (w.alloc o).heap[w.heap.size]? = some o := by
  show (w.heap.push o)[w.heap.size]? = _
  simp
theorem setCell_below {B : Nat} {w w1 : World} (h : Below B w w1) (p : Addr) (v : Value) : Below B (w.setCell p v) (w1.setCell p v) := by
  refine ⟨h.os, h.tape, h.output, by simpa using h.size, fun k hk => ?_⟩
  have hk' := h.block k hk
  simp only [World.setCell]
  by_cases e : p.block = k
  · subst e
    simp only [Array.getElem?_modify, if_true, hk']
  · simp only [Array.getElem?_modify, if_neg e, hk']
theorem rlm (z : Sem Value) (f : TypeId → Addr → Nat → Nat → Sem Value) (v : Value) :
    ReflectliteValue.method z f #[v] = (do match ← ReflectliteValue.parts v with | none => z | some (t, a, fl) => f t a fl (fl % 32)) := rfl
theorem rls (v x : Value) : ReflectliteValue.set #[v, x] = (do
    let (some (dst, a, fl), some (src, b, _)) := (← ReflectliteValue.parts v, ← ReflectliteValue.parts x)
      | unsupported (.noEntry "extern/(internal/reflectlite.Value).Set.zeroValue")
    if fl / ReflectliteValue.flagAddr % 2 == 0 then unsupported (.noEntry "extern/(internal/reflectlite.Value).Set.unaddressable")
    let val ← loadVar src b
    if ← Rtype.directlyAssignable dst src then storeVar dst a val
    else if ← Rtype.implements dst src then
      if (← Rtype.kind src) == 20 then
        match val with
        | .nilIface => unsupported (.noEntry "extern/reflectlite: a nil value of one interface type handed on as a value of another")
        | _ => storeVar dst a val
      else storeVar dst a (.iface src val)
    else panicString ("reflectlite.Set: value of type " ++ (← Rtype.spelt src) ++ " is not assignable to type " ++ (← Rtype.spelt dst))
    pure (.tuple #[])) := rfl
theorem ext_ValueOf (args : Array Value) (w : World) : (callFunc 68 args).run Tryz.prog w = ((ReflectliteValue.unpack (args.getD 0 (.tuple #[]))).run Tryz.prog w).andThen (fun v w' => .ok (.value v) w') :=
  @run_callFunc_extern Tryz.prog 68 _ (fun args => ReflectliteValue.unpack (args.getD 0 (.tuple #[]))) Tryz.func68 (by kernel_rfl) (by kernel_rfl) (by kernel_rfl) (by kernel_rfl) args w
theorem ext_Type (args : Array Value) (w : World) : (callFunc 69 args).run Tryz.prog w = ((ReflectliteValue.methodAny (ReflectliteValue.valueError "reflectlite.Value.Type" 0) (fun t _ _ _ => ReflectliteType.toType t) args).run Tryz.prog w).andThen (fun v w' => .ok (.value v) w') :=
  @run_callFunc_extern Tryz.prog 69 _ (ReflectliteValue.methodAny (ReflectliteValue.valueError "reflectlite.Value.Type" 0) (fun t _ _ _ => ReflectliteType.toType t)) Tryz.func69 (by kernel_rfl) (by kernel_rfl) (by kernel_rfl) (by kernel_rfl) args w
theorem ext_IsNil (args : Array Value) (w : World) : (callFunc 70 args).run Tryz.prog w = ((ReflectliteValue.method (ReflectliteValue.valueError "reflectlite.Value.IsNil" 0) ReflectliteValue.isNil args).run Tryz.prog w).andThen (fun v w' => .ok (.value v) w') :=
  @run_callFunc_extern Tryz.prog 70 _ (ReflectliteValue.method (ReflectliteValue.valueError "reflectlite.Value.IsNil" 0) ReflectliteValue.isNil) Tryz.func70 (by kernel_rfl) (by kernel_rfl) (by kernel_rfl) (by kernel_rfl) args w
theorem ext_Kind (args : Array Value) (w : World) : (callFunc 178 args).run Tryz.prog w = (((ReflectliteType.abiMethod fun t => do pure (.int .u8 (← Rtype.kind t))) args).run Tryz.prog w).andThen (fun v w' => .ok (.value v) w') :=
  @run_callFunc_extern Tryz.prog 178 _ (ReflectliteType.abiMethod fun t => do pure (.int .u8 (← Rtype.kind t))) Tryz.func178 (by kernel_rfl) (by kernel_rfl) (by kernel_rfl) (by kernel_rfl) args w
theorem ext_Elem (args : Array Value) (w : World) : (callFunc 191 args).run Tryz.prog w = ((ReflectliteType.method ReflectliteType.elem args).run Tryz.prog w).andThen (fun v w' => .ok (.value v) w') :=
  @run_callFunc_extern Tryz.prog 191 _ (ReflectliteType.method ReflectliteType.elem) Tryz.func191 (by kernel_rfl) (by kernel_rfl) (by kernel_rfl) (by kernel_rfl) args w
theorem ext_Implements (args : Array Value) (w : World) : (callFunc 192 args).run Tryz.prog w = ((ReflectliteType.relation "Implements" ReflectliteType.implements_ args).run Tryz.prog w).andThen (fun v w' => .ok (.value v) w') :=
  @run_callFunc_extern Tryz.prog 192 _ (ReflectliteType.relation "Implements" ReflectliteType.implements_) Tryz.func192 (by kernel_rfl) (by kernel_rfl) (by kernel_rfl) (by kernel_rfl) args w
theorem ext_AssignableTo (args : Array Value) (w : World) : (callFunc 189 args).run Tryz.prog w = ((ReflectliteType.relation "AssignableTo" ReflectliteType.assignableTo args).run Tryz.prog w).andThen (fun v w' => .ok (.value v) w') :=
  @run_callFunc_extern Tryz.prog 189 _ (ReflectliteType.relation "AssignableTo" ReflectliteType.assignableTo) Tryz.func189 (by kernel_rfl) (by kernel_rfl) (by kernel_rfl) (by kernel_rfl) args w
theorem ext_ElemV (args : Array Value) (w : World) : (callFunc 106 args).run Tryz.prog w = ((ReflectliteValue.method (ReflectliteValue.valueError "reflectlite.Value.Elem" 0) ReflectliteValue.elem args).run Tryz.prog w).andThen (fun v w' => .ok (.value v) w') :=
  @run_callFunc_extern Tryz.prog 106 _ (ReflectliteValue.method (ReflectliteValue.valueError "reflectlite.Value.Elem" 0) ReflectliteValue.elem) Tryz.func106 (by kernel_rfl) (by kernel_rfl) (by kernel_rfl) (by kernel_rfl) args w
theorem ext_Set (args : Array Value) (w : World) : (callFunc 107 args).run Tryz.prog w = ((ReflectliteValue.set args).run Tryz.prog w).andThen (fun v w' => .ok (.value v) w') :=
  @run_callFunc_extern Tryz.prog 107 _ ReflectliteValue.set Tryz.func107 (by kernel_rfl) (by kernel_rfl) (by kernel_rfl) (by kernel_rfl) args w
theorem mKind (h : Value) (w : World) : (Go.method 327 137 (.agg #[h]) "Kind").run Tryz.prog w = .ok (178, h) w := by kernel_rfl
theorem mElem (h : Value) (w : World) : (Go.method 327 137 (.agg #[h]) "Elem").run Tryz.prog w = .ok (191, .agg #[h]) w := by kernel_rfl
theorem mImplements (h : Value) (w : World) : (Go.method 327 137 (.agg #[h]) "Implements").run Tryz.prog w = .ok (192, .agg #[h]) w := by kernel_rfl
theorem mAssignableTo (h : Value) (w : World) : (Go.method 327 137 (.agg #[h]) "AssignableTo").run Tryz.prog w = .ok (189, .agg #[h]) w := by kernel_rfl

/-! ### target Place: 84 is the type of a pointer to a variable of type 82 -/
theorem valueOfTPlace (t : Addr) (w : World) : (ReflectliteValue.unpack (.iface 71 (.pointer (some t)))).run Tryz.prog w = .ok (.agg #[.pointer (some ⟨7, 71, none⟩), .pointer (some ⟨w.heap.size, 0, none⟩), .int .u64 150]) (w.alloc (.cells #[.pointer (some t)] 71)) := by kernel_rfl
theorem typeTPlace (a : Addr) (w : World) : (ReflectliteValue.methodAny (ReflectliteValue.valueError "reflectlite.Value.Type" 0) (fun t _ _ _ => ReflectliteType.toType t) #[.agg #[.pointer (some ⟨7, 71, none⟩), .pointer (some a), .int .u64 150]]).run Tryz.prog w = .ok (.iface 137 (.agg #[.pointer (some ⟨7, 71, none⟩)])) w := by kernel_rfl
theorem kindTPlace (w : World) : ((ReflectliteType.abiMethod fun t => (fun a : Nat => Value.int IntKind.u8 (a : Int)) <$> Rtype.kind t) #[.pointer (some ⟨7, 71, none⟩)]).run Tryz.prog w = .ok (.int .u8 22) w := by kernel_rfl
theorem kindPPlace (w : World) : ((ReflectliteType.abiMethod fun t => (fun a : Nat => Value.int IntKind.u8 (a : Int)) <$> Rtype.kind t) #[.pointer (some ⟨7, 69, none⟩)]).run Tryz.prog w = .ok (.int .u8 22) w := by kernel_rfl
theorem partsTPlace (a : Addr) (w : World) : (ReflectliteValue.parts (.agg #[.pointer (some ⟨7, 71, none⟩), .pointer (some a), .int .u64 150])).run Tryz.prog w = .ok (some (71, a, 150)) w := by kernel_rfl
theorem isNilTPlace (a p : Addr) (W : World) (ha : W.cell? a = some (.pointer (some p))) :
    (ReflectliteValue.method (ReflectliteValue.valueError "reflectlite.Value.IsNil" 0) ReflectliteValue.isNil #[.agg #[.pointer (some ⟨7, 71, none⟩), .pointer (some a), .int .u64 150]]).run Tryz.prog W = .ok (.bool false) W := by
  rw [rlm]
  simp only [Sem.run_bind, partsTPlace, Result.andThen]
  simp [ReflectliteValue.isNil, loadVar, isAgg, underlying, Tryz.underlying71, ha, Result.andThen]
theorem elemTPlace (w : World) : (ReflectliteType.method ReflectliteType.elem #[.agg #[.pointer (some ⟨7, 71, none⟩)]]).run Tryz.prog w = .ok (.iface 137 (.agg #[.pointer (some ⟨7, 69, none⟩)])) w := by kernel_rfl
theorem implPPlace (w : World) : (ReflectliteType.relation "Implements" ReflectliteType.implements_ #[.agg #[.pointer (some ⟨7, 69, none⟩)], .iface 137 (.agg #[.pointer (some ⟨7, 25, none⟩)])]).run Tryz.prog w = .ok (.bool true) w := by kernel_rfl
theorem typeOfPPlace (v : Value) (w : World) : (ReflectliteType.typeOf #[.iface 69 v]).run Tryz.prog w = .ok (.iface 137 (.agg #[.pointer (some ⟨7, 69, none⟩)])) w := by kernel_rfl
theorem assignPPlace (w : World) : (ReflectliteType.relation "AssignableTo" ReflectliteType.assignableTo #[.agg #[.pointer (some ⟨7, 69, none⟩)], .iface 137 (.agg #[.pointer (some ⟨7, 69, none⟩)])]).run Tryz.prog w = .ok (.bool true) w := by kernel_rfl
theorem valueOfPPlace (e : Addr) (w : World) : (ReflectliteValue.unpack (.iface 69 (.pointer (some e)))).run Tryz.prog w
    = .ok (.agg #[.pointer (some ⟨7, 69, none⟩), .pointer (some ⟨w.heap.size, 0, none⟩), .int .u64 150]) (w.alloc (.cells #[.pointer (some e)] 69)) := by kernel_rfl
theorem elemOfTPlace (w : World) : (Rtype.elem? 71).run Tryz.prog w = .ok (some 69) w := by kernel_rfl
theorem mkPPlace (p : Addr) (w : World) : (ReflectliteValue.mk 69 p ReflectliteValue.flagAddr).run Tryz.prog w = .ok (.agg #[.pointer (some ⟨7, 69, none⟩), .pointer (some p), .int .u64 406]) w := by kernel_rfl
theorem elemVPlace (a p : Addr) (W : World) (ha : W.cell? a = some (.pointer (some p))) :
    (ReflectliteValue.method (ReflectliteValue.valueError "reflectlite.Value.Elem" 0) ReflectliteValue.elem #[.agg #[.pointer (some ⟨7, 71, none⟩), .pointer (some a), .int .u64 150]]).run Tryz.prog W
      = .ok (.agg #[.pointer (some ⟨7, 69, none⟩), .pointer (some p), .int .u64 406]) W := by
  rw [rlm]
  simp only [Sem.run_bind, partsTPlace, Result.andThen]
  simp [ReflectliteValue.elem, loadVar, isAgg, underlying, Tryz.underlying71, ha, Result.andThen, elemOfTPlace, mkPPlace]
theorem partsPaPlace (a : Addr) (w : World) : (ReflectliteValue.parts (.agg #[.pointer (some ⟨7, 69, none⟩), .pointer (some a), .int .u64 406])).run Tryz.prog w = .ok (some (69, a, 406)) w := by kernel_rfl
theorem partsPPlace (a : Addr) (w : World) : (ReflectliteValue.parts (.agg #[.pointer (some ⟨7, 69, none⟩), .pointer (some a), .int .u64 150])).run Tryz.prog w = .ok (some (69, a, 150)) w := by kernel_rfl
theorem directPPlace (w : World) : (Rtype.directlyAssignable 69 69).run Tryz.prog w = .ok true w := by kernel_rfl
theorem setPPlace (ta b e : Addr) (old : Value) (W : World) (hb : W.cell? b = some (.pointer (some e))) (ht : W.cell? ta = some old) (hf : W.frozen? ta = false) :
    (ReflectliteValue.set #[.agg #[.pointer (some ⟨7, 69, none⟩), .pointer (some ta), .int .u64 406], .agg #[.pointer (some ⟨7, 69, none⟩), .pointer (some b), .int .u64 150]]).run Tryz.prog W
      = .ok (.tuple #[]) (W.setCell ta (.pointer (some e))) := by
  rw [rls]
  simp only [Sem.run_bind, partsPaPlace, partsPPlace, Result.andThen]
  simp [ReflectliteValue.flagAddr, loadVar, isAgg, underlying, Tryz.underlying69, hb, Result.andThen, directPPlace, storeVar, Value.cells, storeCells, Addr.add]
  rw [run_store Tryz.prog W ta _ _ (by rfl)]
  simp [ht, hf]
theorem blk_self {w w' : World} {t : Nat} {x v : Value} {ty : TypeId} (ht : w.heap[t]? = some (.cells #[x] ty (0,0))) (hb : Below w.heap.size (w.setCell ⟨t, 0, none⟩ v) w') : w'.heap[t]? = some (.cells #[v] ty (0,0)) := by
  rw [hb.block t (Array.getElem?_eq_some_iff.1 ht).1]
  simp [World.setCell, Array.getElem?_modify, ht, Array.setIfInBounds]
theorem below_set {w w' : World} {t : Nat} {v : Value} (ht : t < w.heap.size) (hb : Below w.heap.size (w.setCell ⟨t, 0, none⟩ v) w') : Below t w w' := by
  refine ⟨hb.os, hb.tape, hb.output, by simpa using hb.size, fun k hk => ?_⟩
  by_cases h : k < w.heap.size
  · rw [hb.block k h]
    simp only [World.setCell, Array.getElem?_modify, if_neg (show ¬ t = k by omega)]
  · rw [Array.getElem?_eq_none (by omega : w.heap.size ≤ k)]
    by_cases h2 : k < w'.heap.size
    · exact absurd hk (by omega)
    · rw [Array.getElem?_eq_none (by omega : w'.heap.size ≤ k)]

set_option maxRecDepth 100000 in
set_option maxHeartbeats 2000000 in
theorem as_Place (E : Addr) (t b : Nat) (x : Value) (w : World) (ht : w.heap[t]? = some (.cells #[x] 69 (0,0))) (hb : w.heap[b]? = some (.cells #[.pointer (some ⟨t, 0, none⟩)] 71 (0,0))) :
    Calls Tryz.prog 71 #[.iface 69 (.pointer (some E)), .iface 71 (.pointer (some ⟨t, 0, none⟩)), .agg #[.pointer (some ⟨7, 71, none⟩), .pointer (some ⟨b, 0, none⟩), .int .u64 150], .iface 137 (.agg #[.pointer (some ⟨7, 69, none⟩)])] w (fun e w' => e = .returned (.bool true) ∧ Below w.heap.size (w.setCell ⟨t, 0, none⟩ (.pointer (some E))) w') := by
  have hbl := (Array.getElem?_eq_some_iff.1 hb).1
  have htl := (Array.getElem?_eq_some_iff.1 ht).1
  have el := elemVPlace ⟨b, 0, none⟩ ⟨t, 0, none⟩ (w.alloc (.cells #[.pointer (some ⟨7, 71, none⟩), .pointer (some ⟨b, 0, none⟩), .int .u64 150] 103)) (by rw [World.cell?_alloc_lt _ _ ⟨b, 0, none⟩ hbl]; exact cell_blk hb rfl)
  have st := setPPlace ⟨t, 0, none⟩ ⟨w.heap.size + 1, 0, none⟩ E x ((w.alloc (.cells #[.pointer (some ⟨7, 71, none⟩), .pointer (some ⟨b, 0, none⟩), .int .u64 150] 103)).alloc (.cells #[.pointer (some E)] 69))
    (by rw [World.cell?_alloc_at _ _ _ _ (by simp)]; rfl)
    (by rw [World.cell?_alloc_lt _ _ ⟨t, 0, none⟩ (by simp; omega), World.cell?_alloc_lt _ _ ⟨t, 0, none⟩ htl]; exact cell_blk ht rfl)
    (by rw [World.frozen?_alloc_old _ _ ⟨t, 0, none⟩ (by simp; omega), World.frozen?_alloc_old _ _ ⟨t, 0, none⟩ (by simp; omega)]; simp [World.frozen?, ht])
  have x1 := ext_TypeOf
  have x2 := ext_ElemV
  have x3 := ext_ValueOf
  have x4 := ext_Set
  have x5 := ext_AssignableTo
  have mA := mAssignableTo
  clear ht hb
  go_enter Tryz.func71, Tryz.ntmps71
  go_wp2
  go_loopg [0] 0 (fun k v w' => v = .iface 69 (.pointer (some E)) ∧ w' = w.alloc (.cells #[.pointer (some ⟨7, 71, none⟩), .pointer (some ⟨b, 0, none⟩), .int .u64 150] 103))
  case atStart => exact ⟨rfl, rfl⟩
  case round =>
    obtain ⟨rfl, rfl⟩ := hrel
    have h1 := typeOfPPlace
    have h2 := assignPPlace
    have h3 := valueOfPPlace
    go_wp2
    go_ret
    exact ⟨rfl, ((Below.refl _ _).alloc (by simp) _).alloc (by simp) _⟩
/-- errors.errorType as its initialiser lays it. -/
def errV : Value := .iface 137 (.agg #[.pointer (some ⟨7, 25, none⟩)])
set_option maxRecDepth 100000 in
set_option maxHeartbeats 4000000 in
theorem As_Place (E : Addr) (t : Nat) (x : Value) (w : World) (ht : w.heap[t]? = some (.cells #[x] 69 (0,0))) (hE : w.cell? ⟨0, 0, none⟩ = some errV) :
    Calls Tryz.prog 33 #[.iface 69 (.pointer (some E)), .iface 71 (.pointer (some ⟨t, 0, none⟩))] w (fun e w' => e = .returned (.bool true) ∧ Below w.heap.size (w.setCell ⟨t, 0, none⟩ (.pointer (some E))) w') := by
  unfold errV at hE
  have Ht := Lib.hid ht
  have htl := (Array.getElem?_eq_some_iff.1 ht).1
  have hEl := World.block_lt_of_cell? w ⟨0, 0, none⟩ hE
  have n8 := isNilTPlace ⟨w.heap.size, 0, none⟩ ⟨t, 0, none⟩ ((w.alloc (.cells #[.pointer (some ⟨t, 0, none⟩)] 71)).alloc (.cells #[.pointer (some ⟨7, 71, none⟩), .pointer (some ⟨w.heap.size, 0, none⟩), .int .u64 150] 103)) (by simp)
  have hg2 : ((w.alloc (.cells #[.pointer (some ⟨t, 0, none⟩)] 71)).alloc (.cells #[.pointer (some ⟨7, 71, none⟩), .pointer (some ⟨w.heap.size, 0, none⟩), .int .u64 150] 103)).cell? ⟨0, 0, none⟩ = some (.iface 137 (.agg #[.pointer (some ⟨7, 25, none⟩)])) := by
    rw [World.cell?_alloc_lt _ _ ⟨0, 0, none⟩ (by have : (0 : Nat) < w.heap.size := hEl; simp <;> omega), World.cell?_alloc_lt _ _ ⟨0, 0, none⟩ hEl]; exact hE
  have hbl := Lib.hid (((Below.refl w.heap.size w).alloc (Nat.le_refl _) (.cells #[.pointer (some ⟨t, 0, none⟩)] 71)).alloc (by simp) (.cells #[.pointer (some ⟨7, 71, none⟩), .pointer (some ⟨w.heap.size, 0, none⟩), .int .u64 150] 103))
  have hbb : ((w.alloc (.cells #[.pointer (some ⟨t, 0, none⟩)] 71)).alloc (.cells #[.pointer (some ⟨7, 71, none⟩), .pointer (some ⟨w.heap.size, 0, none⟩), .int .u64 150] 103)).heap[w.heap.size]? = some (.cells #[.pointer (some ⟨t, 0, none⟩)] 71 (0,0)) := by
    rw [Below.heap_alloc _ _ _ (by simp)]; exact heap_new w _
  have hC := Lib.hid (as_Place E t w.heap.size x _ ((hbl.out.block t htl).trans Ht.out) hbb)
  have htl := Lib.hid htl
  clear ht hE hbb hEl
  have x1 := ext_ValueOf
  have x2 := ext_Type
  have x3 := ext_Kind
  have x4 := ext_IsNil
  have x5 := ext_Elem
  have x6 := ext_Implements
  have f1 := valueOfTPlace ⟨t, 0, none⟩
  have f2 := typeTPlace
  have f3 := kindTPlace
  have f4 := kindPPlace
  have f5 := elemTPlace
  have f6 := implPPlace
  have mK := mKind
  have mE := mElem
  have mI := mImplements
  go_enter Tryz.func33, Tryz.ntmps33
  go_wp2_with (go_at_call 71; refine hC.out.mono ?_; rintro e w' ⟨rfl, hF⟩; have HF := Lib.hid hF; clear hF)
  go_ret
  exact ⟨rfl, (setCell_below hbl.out _ _).trans (HF.out.mono hbl.out.size)⟩
/-- An error's two cells. -/
structure PlaceAt (w : World) (g o : Nat) (c n : Int) : Prop where
  c : w.cell? ⟨g, o, none⟩ = some (.int .i64 c)
  n : w.cell? ⟨g, o + 1, none⟩ = some (.int .i64 n)
theorem As_hit (g o : Nat) (c n : Int) (t : Nat) (x : Value) (w : World) (h : PlaceAt w g o c n) (hgt : g < t) (ht : w.heap[t]? = some (.cells #[x] 69 (0,0))) (hE : w.cell? ⟨0, 0, none⟩ = some errV) :
    Calls Tryz.prog 33 #[.iface 69 (.pointer (some ⟨g, o, none⟩)), .iface 71 (.pointer (some ⟨t, 0, none⟩))] w fun e w' => e = .returned (.bool true) ∧ w'.cell? ⟨t, 0, none⟩ = some (.pointer (some ⟨g, o, none⟩)) ∧ w'.cell? ⟨g, o, none⟩ = some (.int .i64 c) ∧ w'.cell? ⟨g, o + 1, none⟩ = some (.int .i64 n) ∧ Below t w w' := by
  refine (As_Place ⟨g, o, none⟩ t x w ht hE).mono ?_
  rintro e w' ⟨rfl, hw⟩
  have hs := below_set (Array.getElem?_eq_some_iff.1 ht).1 hw
  exact ⟨rfl, cell_blk (blk_self ht hw) rfl, (hs.cell hgt).trans h.c, (hs.cell hgt).trans h.n, hs⟩
theorem new_place (w : World) {g o : Nat} {c n : Int} (h : PlaceAt w g o c n) (ob : Obj) : PlaceAt (w.alloc ob) g o c n ∧ g < w.heap.size := by
  have hg := World.block_lt_of_cell? w ⟨g, o, none⟩ h.c
  exact ⟨⟨by rw [World.cell?_alloc_lt _ _ ⟨g, o, none⟩ hg]; exact h.c, by rw [World.cell?_alloc_lt _ _ ⟨g, o + 1, none⟩ hg]; exact h.n⟩, hg⟩
set_option maxRecDepth 100000 in
set_option maxHeartbeats 1000000 in
theorem Code_nil (w : World) : Calls Tryz.prog 11 #[.nilIface] w fun e w' => e = .returned (.int .i64 0) ∧ Below w.heap.size w w' := by
  go_enter Tryz.func11, Tryz.ntmps11
  go_wp2
  go_ret
  exact ⟨rfl, Below.refl _ _⟩
set_option maxRecDepth 100000 in
set_option maxHeartbeats 1000000 in
theorem Code_place (g o : Nat) (c n : Int) (w : World) (h : PlaceAt w g o c n) (hE : w.cell? ⟨0, 0, none⟩ = some errV) : Calls Tryz.prog 11 #[.iface 69 (.pointer (some ⟨g, o, none⟩))] w fun e w' => e = .returned (.int .i64 c) ∧ Below w.heap.size w w' := by
  have hb := (Below.refl w.heap.size w).alloc (Nat.le_refl _) (.cells #[.pointer none] 69)
  obtain ⟨hp, hlt⟩ := new_place w h (.cells #[.pointer none] 69)
  have hC := Lib.hid (As_hit g o c n w.heap.size _ _ hp hlt (heap_new w _) ((hb.cell (World.block_lt_of_cell? w ⟨0, 0, none⟩ hE)).trans hE))
  have HB := Lib.hid hb
  clear h hE hb hp
  go_enter Tryz.func11, Tryz.ntmps11
  go_wp2_with (go_at_call 33; refine hC.out.mono ?_; rintro e w' ⟨rfl, ht, hg0, hg1, hw⟩; have HW := Lib.hid hw; clear hw)
  go_ret
  exact ⟨rfl, HB.out.trans HW.out⟩
set_option maxRecDepth 100000 in
set_option maxHeartbeats 1000000 in
theorem At_nil (w : World) : Calls Tryz.prog 12 #[.nilIface] w fun e w' => e = .returned (.int .i64 (-1)) ∧ Below w.heap.size w w' := by
  go_enter Tryz.func12, Tryz.ntmps12
  go_wp2
  go_ret
  exact ⟨rfl, (Below.refl _ _).alloc (Nat.le_refl _) _⟩
set_option maxRecDepth 100000 in
set_option maxHeartbeats 1000000 in
theorem At_place (g o : Nat) (c n : Int) (w : World) (h : PlaceAt w g o c n) (hE : w.cell? ⟨0, 0, none⟩ = some errV) : Calls Tryz.prog 12 #[.iface 69 (.pointer (some ⟨g, o, none⟩))] w fun e w' => e = .returned (.int .i64 n) ∧ Below w.heap.size w w' := by
  have hb := (Below.refl w.heap.size w).alloc (Nat.le_refl _) (.cells #[.pointer none] 69)
  obtain ⟨hp, hlt⟩ := new_place w h (.cells #[.pointer none] 69)
  have hC := Lib.hid (As_hit g o c n w.heap.size _ _ hp hlt (heap_new w _) ((hb.cell (World.block_lt_of_cell? w ⟨0, 0, none⟩ hE)).trans hE))
  have HB := Lib.hid hb
  clear h hE hb hp
  go_enter Tryz.func12, Tryz.ntmps12
  go_wp2_with (go_at_call 33; refine hC.out.mono ?_; rintro e w' ⟨rfl, ht, hg0, hg1, hw⟩; have HW := Lib.hid hw; clear hw)
  go_ret
  exact ⟨rfl, HB.out.trans HW.out⟩

/-- The block of errors.errorType. -/
def EvIs (G : Glob) : Prop := ∃ t z, G.blk 0 = some (.cells #[errV] t z)
def fcF : List PV → St → Option (PV × St)
  | [.nilifc], S => some (.int .i64 0, S)
  | [.ifc t (.at_ (.int .i64 c :: .int .i64 n :: _))], S => if t = 69 then some (.int .i64 c, S) else none
  | _, _ => none
def faF : List PV → St → Option (PV × St)
  | [.nilifc], S => some (.int .i64 (-1), S)
  | [.ifc t (.at_ (.int .i64 c :: .int .i64 n :: _))], S => if t = 69 then some (.int .i64 n, S) else none
  | _, _ => none
theorem enter_fc : Enter Tryz.prog 11 := ⟨_, Tryz.func11, by kernel_rfl, by kernel_rfl⟩
theorem enter_fa : Enter Tryz.prog 12 := ⟨_, Tryz.func12, by kernel_rfl, by kernel_rfl⟩
theorem place_of {C : Ctx} {w : World} {c n : Int} {l : List PV} {u : Value} (h : Rep C w (.at_ (.int .i64 c :: .int .i64 n :: l)) u) : ∃ g o, u = .pointer (some ⟨g, o, none⟩) ∧ PlaceAt w g o c n := by
  cases h with
  | at_ cs b off hb hi ha hc hr =>
    refine ⟨b, off, rfl, ?_, ?_⟩
    · obtain ⟨v, hv⟩ := hc 0 _ rfl
      have := hr 0 _ v rfl hv
      cases this; exact hv
    · obtain ⟨v, hv⟩ := hc 1 _ rfl
      have := hr 1 _ v rfl hv
      cases this; exact hv
theorem fcF_spec (G : Glob) (hG : EvIs G) (args : List PV) (S : St) (r : PV) (S' : St) (h : fcF args S = some (r, S')) : CallSpec Tryz.prog G 11 args S r S' := by
  intro C w vs hW hR
  obtain ⟨t, z, hb⟩ := hG
  obtain ⟨h1, _, _⟩ := hW.blk _ _ hb
  have hE : w.cell? ⟨0, 0, none⟩ = some errV := by simp [World.cell?, h1]
  unfold fcF at h
  split at h
  · injection h with h; injection h with e1 e2; subst e1 e2
    match vs, hR with
    | [], hR => have := hR.1; simp at this
    | _ :: _ :: _, hR => have := hR.1; simp at this
    | [v], hR =>
    have rp := hR.2 0 _ v rfl rfl
    cases rp
    refine (Code_nil w).mono ?_
    rintro e w' ⟨rfl, hb⟩
    exact ⟨C, _, rfl, .int _ _, hW.of_below hb, .of_below hb C⟩
  · rename_i t c n l
    split at h
    · rename_i ht; subst ht
      injection h with h; injection h with e1 e2; subst e1 e2
      match vs, hR with
      | [], hR => have := hR.1; simp at this
      | _ :: _ :: _, hR => have := hR.1; simp at this
      | [v], hR =>
      have rp := hR.2 0 _ v rfl rfl
      cases rp with | ifc _ _ u hu =>
      obtain ⟨g, o, rfl, hp⟩ := place_of hu
      refine (Code_place g o c n w hp hE).mono ?_
      rintro e w' ⟨rfl, hb⟩
      exact ⟨C, _, rfl, .int _ _, hW.of_below hb, .of_below hb C⟩
    · cases h
  · cases h
theorem faF_spec (G : Glob) (hG : EvIs G) (args : List PV) (S : St) (r : PV) (S' : St) (h : faF args S = some (r, S')) : CallSpec Tryz.prog G 12 args S r S' := by
  intro C w vs hW hR
  obtain ⟨t, z, hb⟩ := hG
  obtain ⟨h1, _, _⟩ := hW.blk _ _ hb
  have hE : w.cell? ⟨0, 0, none⟩ = some errV := by simp [World.cell?, h1]
  unfold faF at h
  split at h
  · injection h with h; injection h with e1 e2; subst e1 e2
    match vs, hR with
    | [], hR => have := hR.1; simp at this
    | _ :: _ :: _, hR => have := hR.1; simp at this
    | [v], hR =>
    have rp := hR.2 0 _ v rfl rfl
    cases rp
    refine (At_nil w).mono ?_
    rintro e w' ⟨rfl, hb⟩
    exact ⟨C, _, rfl, .int _ _, hW.of_below hb, .of_below hb C⟩
  · rename_i t c n l
    split at h
    · rename_i ht; subst ht
      injection h with h; injection h with e1 e2; subst e1 e2
      match vs, hR with
      | [], hR => have := hR.1; simp at this
      | _ :: _ :: _, hR => have := hR.1; simp at this
      | [v], hR =>
      have rp := hR.2 0 _ v rfl rfl
      cases rp with | ifc _ _ u hu =>
      obtain ⟨g, o, rfl, hp⟩ := place_of hu
      refine (At_place g o c n w hp hE).mono ?_
      rintro e w' ⟨rfl, hb⟩
      exact ⟨C, _, rfl, .int _ _, hW.of_below hb, .of_below hb C⟩
    · cases h
  · cases h
end Go.PE
