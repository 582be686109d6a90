/-
  Contracts of package fault over this seat's translation: what errors.Is, errors.As and the functions of package fault return at errors that the program makes. Conditions: each contract's own.
-/
import Derived.Test.YtedgebnmllinlaaDoorProg
import Derived.WalkKit
import Derived.LaidEql
import Derived.Stop.Asserts
import Derived.RowKitTokens
import Derived.Below
import Derived.Lib.Hide
import Derived.Deep.LoopGhost

open Go Go.RowKit Go.Extern.Stop Go.Stop Go.Extern
namespace Go.Proofs.YtedgebnmllinlaaDoor.Fault

section
variable {P : Program} (w : World)
theorem eqi_int (d : Nat) {ti tn : TypeId} {ms : Array (String × TypeId)} {i : TypeInfo} {k : IntKind} (a b : Int)
    (hi : P.underlying ti = some (.interface ms)) (hn : P.underlying tn = some (.int k)) (hinfo : P.info? tn = some i) (hcomp : i.comparable = true) :
    (Op.equalIn (d + 2) ti (.iface tn (.int k a)) (.iface tn (.int k b))).run P w = .ok (a == b) w := by
  simp [Op.equalIn, run_underlying hi, run_underlying hn, typeInfo, hinfo, hcomp]
theorem eql_int {ti tn : TypeId} {ms : Array (String × TypeId)} {i : TypeInfo} {k : IntKind} (a b : Int)
    (hi : P.underlying ti = some (.interface ms)) (hn : P.underlying tn = some (.int k)) (hinfo : P.info? tn = some i) (hcomp : i.comparable = true) :
    (binOp .eql ti (.iface tn (.int k a)) (.iface tn (.int k b))).run P w = .ok (.bool (a == b)) w := by
  simp only [binOp]
  simp [Op.equal, Op.maxDepth, eqi_int w 9998 a b hi hn hinfo hcomp]
end
theorem eqE_ne (t u : TypeId) (h : t ≠ u) (a b : Value) (w : World) : (binOp .eql 26 (.iface t a) (.iface u b)).run Tryd.prog w = .ok (.bool false) w := run_eql_iface_types t u a b Tryd.underlying26 h w
theorem infoErrno : (Tryd.prog.info? 22).map (·.comparable) = some true := by kernel_rfl
theorem eqE_errno (a b : Int) (w : World) : (binOp .eql 26 (.iface 22 (.int .i64 a)) (.iface 22 (.int .i64 b))).run Tryd.prog w = .ok (.bool (a == b)) w := by
  obtain ⟨i, hi, hc⟩ := Option.map_eq_some_iff.1 infoErrno
  exact eql_int w a b Tryd.underlying26 Tryd.underlying22 hi hc
theorem taIs (T : TypeId) (hT : T = 82 ∨ T = 87 ∨ T = 45 ∨ T = 22) (v : Value) (w : World) : (Instr.typeAssert (.iface T v) 26 133 true).run Tryd.prog w = .ok (.tuple #[.nilIface, .bool false]) w := by
  rcases hT with rfl | rfl | rfl | rfl <;> exact run_typeAssert_lacksB Tryd.underlying133 (by kernel_rfl) (by kernel_rfl) v 26 w
theorem taAs (T : TypeId) (hT : T = 82 ∨ T = 87 ∨ T = 45 ∨ T = 22) (v : Value) (w : World) : (Instr.typeAssert (.iface T v) 26 143 true).run Tryd.prog w = .ok (.tuple #[.nilIface, .bool false]) w := by
  rcases hT with rfl | rfl | rfl | rfl <;> exact run_typeAssert_lacksB Tryd.underlying143 (by kernel_rfl) (by kernel_rfl) v 26 w
theorem taUn (T : TypeId) (hT : T = 82 ∨ T = 87 ∨ T = 45) (v : Value) (w : World) : (Instr.typeAssert (.iface T v) 26 136 true).run Tryd.prog w = .ok (.tuple #[.iface T v, .bool true]) w := by
  rcases hT with rfl | rfl | rfl <;> exact run_typeAssert_hasB Tryd.underlying136 (by kernel_rfl) v 26 w
theorem taUnErrno (v : Value) (w : World) : (Instr.typeAssert (.iface 22 v) 26 136 true).run Tryd.prog w = .ok (.tuple #[.nilIface, .bool false]) w := run_typeAssert_lacksB Tryd.underlying136 (by kernel_rfl) (by kernel_rfl) v 26 w
theorem taUs (T : TypeId) (hT : T = 82 ∨ T = 87 ∨ T = 45 ∨ T = 22) (v : Value) (w : World) : (Instr.typeAssert (.iface T v) 26 138 true).run Tryd.prog w = .ok (.tuple #[.nilIface, .bool false]) w := by
  rcases hT with rfl | rfl | rfl | rfl <;> exact run_typeAssert_lacksB Tryd.underlying138 (by kernel_rfl) (by kernel_rfl) v 26 w
theorem mUnPlace (a : Addr) (w : World) : (Go.method 295 82 (.pointer (some a)) "Unwrap").run Tryd.prog w = .ok (139, .pointer (some a)) w := by kernel_rfl
theorem mUnNamed (a : Addr) (w : World) : (Go.method 295 87 (.pointer (some a)) "Unwrap").run Tryd.prog w = .ok (141, .pointer (some a)) w := by kernel_rfl
theorem mUnStrange (a : Addr) (w : World) : (Go.method 295 45 (.pointer (some a)) "Unwrap").run Tryd.prog w = .ok (137, .pointer (some a)) w := by kernel_rfl

inductive Er
  | place (c n : Int)
  | named (s : ByteArray) (e : Er)
  | strange0
  | strange (e : Er)
/-- How an error lies in memory. -/
def Er.At (w : World) : Er → Value → Prop
  | .place c n, v => ∃ g, v = .iface 82 (.pointer (some ⟨g, 0, none⟩)) ∧ w.heap[g]? = some (.cells #[.int .i64 c, .int .i64 n] 86 (0,0))
  | .named s e, v => ∃ g u, v = .iface 87 (.pointer (some ⟨g, 0, none⟩)) ∧ w.heap[g]? = some (.cells #[.string s, u] 90 (0,0)) ∧ e.At w u
  | .strange0, v => ∃ g, v = .iface 45 (.pointer (some ⟨g, 0, none⟩)) ∧ w.heap[g]? = some (.cells #[.nilIface] 47 (0,0))
  | .strange e, v => ∃ g u, v = .iface 45 (.pointer (some ⟨g, 0, none⟩)) ∧ w.heap[g]? = some (.cells #[u] 47 (0,0)) ∧ e.At w u
theorem Er.At.kept {w w' : World} (hb : ∀ (b : Nat) (o : Obj), w.heap[b]? = some o → w'.heap[b]? = some o) : ∀ {e : Er} {v : Value}, e.At w v → e.At w' v
  | .place _ _, _, ⟨g, hv, hg⟩ => ⟨g, hv, hb _ _ hg⟩
  | .named _ _, _, ⟨g, u, hv, hg, h⟩ => ⟨g, u, hv, hb _ _ hg, Er.At.kept hb h⟩
  | .strange0, _, ⟨g, hv, hg⟩ => ⟨g, hv, hb _ _ hg⟩
  | .strange _, _, ⟨g, u, hv, hg, h⟩ => ⟨g, u, hv, hb _ _ hg, Er.At.kept hb h⟩
theorem Er.At.below {w w' : World} (hb : Below w.heap.size w w') {e : Er} {v : Value} (h : e.At w v) : e.At w' v := h.kept fun b _ hg => (hb.block b (Array.getElem?_eq_some_iff.1 hg).1).trans hg
theorem Er.At.shape {w : World} {e : Er} {v : Value} (h : e.At w v) : ∃ T a, v = .iface T (.pointer (some a)) ∧ (T = 82 ∨ T = 87 ∨ T = 45) := by
  cases e with
  | place c n => obtain ⟨g, rfl, _⟩ := h; exact ⟨_, _, rfl, by simp⟩
  | named s e => obtain ⟨g, _, rfl, _⟩ := h; exact ⟨_, _, rfl, by simp⟩
  | strange0 => obtain ⟨g, rfl, _⟩ := h; exact ⟨_, _, rfl, by simp⟩
  | strange e => obtain ⟨g, _, rfl, _⟩ := h; exact ⟨_, _, rfl, by simp⟩
/-- What an error's chain comes to: a number and a place, or nothing of ours. -/
def Er.root : Er → Option (Int × Int)
  | .place c n => some (c, n)
  | .named _ e => e.root
  | .strange0 => none
  | .strange e => e.root
/-- The first name on the way in, and what it names. -/
def Er.first : Er → Option (ByteArray × Er)
  | .place _ _ => none
  | .named s e => some (s, e)
  | .strange0 => none
  | .strange e => e.first
def Er.depth : Er → Nat
  | .place _ _ => 1
  | .named _ e => e.depth + 1
  | .strange0 => 1
  | .strange e => e.depth + 1
def Er.is (e : Er) (x : Int) : Bool := match e.root with | some (c, _) => c == x | none => false
/-- What may stand at errors.is's loop's head: an error, or a bare number. -/
def HeadIs (w : World) (x : Int) (b : Bool) (k : Nat) (v : Value) : Prop :=
  (∃ e : Er, e.At w v ∧ e.is x = b ∧ k = e.depth) ∨ (∃ c : Int, v = .iface 22 (.int .i64 c) ∧ (c == x) = b ∧ k = 0)
theorem cell_blk {w : World} {g i : Nat} {cs : Array Value} {t : TypeId} {v : Value} (h : w.heap[g]? = some (.cells cs t (0,0))) (hv : cs[i]? = some v) : w.cell? ⟨g, i, none⟩ = some v := by
  simp [World.cell?, h, hv]
theorem unw_place (g : Nat) (c n : Int) (w : World) (h : w.heap[g]? = some (.cells #[.int .i64 c, .int .i64 n] 86 (0,0))) : Calls Tryd.prog 139 #[.pointer (some ⟨g, 0, none⟩)] w fun e w' => e = .returned (.iface 22 (.int .i64 c)) ∧ w = w' := by
  have h0 : w.cell? ⟨g, 0, none⟩ = some (.int .i64 c) := cell_blk h rfl
  clear h
  go_enter Tryd.func139, Tryd.ntmps139
  go_wp2
  go_ret
  exact ⟨rfl, rfl⟩
theorem unw_named (g : Nat) (s : ByteArray) (u : Value) (w : World) (h : w.heap[g]? = some (.cells #[.string s, u] 90 (0,0))) : Calls Tryd.prog 141 #[.pointer (some ⟨g, 0, none⟩)] w fun e w' => e = .returned u ∧ w = w' := by
  have h0 : w.cell? ⟨g, 1, none⟩ = some u := cell_blk h rfl
  clear h
  go_enter Tryd.func141, Tryd.ntmps141
  go_wp2
  go_ret
  exact ⟨rfl, rfl⟩
theorem unw_strange (g : Nat) (u : Value) (w : World) (h : w.heap[g]? = some (.cells #[u] 47 (0,0))) : Calls Tryd.prog 137 #[.pointer (some ⟨g, 0, none⟩)] w fun e w' => e = .returned u ∧ w = w' := by
  have h0 : w.cell? ⟨g, 0, none⟩ = some u := cell_blk h rfl
  clear h
  go_enter Tryd.func137, Tryd.ntmps137
  go_wp2
  go_ret
  exact ⟨rfl, rfl⟩
set_option maxRecDepth 100000 in
set_option maxHeartbeats 1000000 in
theorem is_any (er : Er) (v : Value) (x : Int) (w : World) (h : er.At w v) : Calls Tryd.prog 69 #[v, .iface 22 (.int .i64 x), .bool true] w fun e w' => e = .returned (.bool (er.is x)) ∧ w = w' := by
  obtain ⟨b, hb⟩ : ∃ b, er.is x = b := ⟨_, rfl⟩
  rw [hb]
  have h0 : HeadIs w x b er.depth v := .inl ⟨er, h, hb, rfl⟩
  clear h hb
  obtain ⟨k0, hk0⟩ : ∃ k, er.depth = k := ⟨_, rfl⟩
  rw [hk0] at h0
  clear hk0
  have H0 := Lib.hid h0
  clear h0
  have hErrno := eqE_errno
  go_enter Tryd.func69, Tryd.ntmps69
  go_wp2
  go_loopg [0] k0 (fun k v w' => HeadIs w x b k v ∧ w = w')
  case atStart => exact ⟨H0.out, rfl⟩
  case round =>
    obtain ⟨hh, rfl⟩ := hrel
    rcases hh with ⟨e, he, hb, hk⟩ | ⟨c, rfl, hb, hk⟩
    · subst hk
      cases e with
      | place c n =>
        obtain ⟨g, rfl, hg⟩ := he
        have hb' : (c == x) = b := hb
        have H1 := Lib.hid hb'
        have H2 := Lib.hid hg
        clear hb hb' hg
        have h1 := eqE_ne 82 22 (by decide)
        have h2 := taIs 82 (by decide)
        have h3 := taUn 82 (by decide)
        have hm := mUnPlace
        go_wp2_with (go_at_call 139; refine (unw_place _ _ _ _ H2.out).mono ?_; rintro e w' ⟨rfl, rfl⟩)
        go_roundg 0
        case rel => exact ⟨.inr ⟨c, rfl, H1.out, rfl⟩, rfl⟩
        case measure => simp [Er.depth]
      | named s e =>
        obtain ⟨g, u, rfl, hg, hu⟩ := he
        obtain ⟨T, a, rfl, hT⟩ := hu.shape
        have hb' : e.is x = b := hb
        have H1 := Lib.hid hb'
        have H2 := Lib.hid hg
        have H3 := Lib.hid hu
        clear hb hb' hg hu
        have h1 := eqE_ne 87 22 (by decide)
        have h2 := taIs 87 (by decide)
        have h3 := taUn 87 (by decide)
        have hm := mUnNamed
        go_wp2_with (go_at_call 141; refine (unw_named _ _ _ _ H2.out).mono ?_; rintro e w' ⟨rfl, rfl⟩)
        go_roundg e.depth
        case rel => exact ⟨.inl ⟨e, H3.out, H1.out, rfl⟩, rfl⟩
        case measure => simp [Er.depth]
      | strange0 =>
        obtain ⟨g, rfl, hg⟩ := he
        have hb' : false = b := hb
        subst hb'
        have H2 := Lib.hid hg
        clear hb hg
        have h1 := eqE_ne 45 22 (by decide)
        have h2 := taIs 45 (by decide)
        have h3 := taUn 45 (by decide)
        have hm := mUnStrange
        go_wp2_with (go_at_call 137; refine (unw_strange _ _ _ H2.out).mono ?_; rintro e w' ⟨rfl, rfl⟩)
        go_ret
        exact ⟨rfl, rfl⟩
      | strange e =>
        obtain ⟨g, u, rfl, hg, hu⟩ := he
        obtain ⟨T, a, rfl, hT⟩ := hu.shape
        have hb' : e.is x = b := hb
        have H1 := Lib.hid hb'
        have H2 := Lib.hid hg
        have H3 := Lib.hid hu
        clear hb hb' hg hu
        have h1 := eqE_ne 45 22 (by decide)
        have h2 := taIs 45 (by decide)
        have h3 := taUn 45 (by decide)
        have hm := mUnStrange
        go_wp2_with (go_at_call 137; refine (unw_strange _ _ _ H2.out).mono ?_; rintro e w' ⟨rfl, rfl⟩)
        go_roundg e.depth
        case rel => exact ⟨.inl ⟨e, H3.out, H1.out, rfl⟩, rfl⟩
        case measure => simp [Er.depth]
    · have h2 := taIs 22 (by decide)
      have h3 := taUnErrno
      have h4 := taUs 22 (by decide)
      cases b
      · go_wp2
        go_ret
        exact ⟨rfl, rfl⟩
      · go_wp2
        go_ret
        exact ⟨rfl, rfl⟩

/-! ### errors.Is -/
theorem ext_TypeOf (args : Array Value) (w : World) : (callFunc 68 args).run Tryd.prog w = ((ReflectliteType.typeOf args).run Tryd.prog w).andThen (fun v w' => .ok (.value v) w') :=
  @run_callFunc_extern Tryd.prog 68 _ ReflectliteType.typeOf Tryd.func68 (by kernel_rfl) (by kernel_rfl) (by kernel_rfl) (by kernel_rfl) args w
theorem typeOfErrno (v : Value) (w : World) : (ReflectliteType.typeOf #[.iface 22 v]).run Tryd.prog w = .ok (.iface 131 (.agg #[.pointer (some ⟨5, 22, none⟩)])) w := by kernel_rfl
theorem mComparable (h : Value) (w : World) : (Go.method 295 131 (.agg #[h]) "Comparable").run Tryd.prog w = .ok (148, .agg #[h]) w := by kernel_rfl
theorem comparableErrno (w : World) : (callFunc 148 #[.agg #[.pointer (some ⟨5, 22, none⟩)]]).run Tryd.prog w = .ok (.value (.bool true)) w := by
  rw [@run_callFunc_extern Tryd.prog 148 _ (ReflectliteType.method fun t => do Rtype.noPackHeld "Comparable" t; pure (.bool (← typeInfo t).comparable)) Tryd.func148 (by kernel_rfl) (by kernel_rfl) (by kernel_rfl) (by kernel_rfl)]
  rw [show (ReflectliteType.method (fun t => do Rtype.noPackHeld "Comparable" t; pure (.bool (← typeInfo t).comparable)) #[.agg #[.pointer (some ⟨5, 22, none⟩)]]).run Tryd.prog w = .ok (.bool true) w by kernel_rfl]
  rfl
set_option maxRecDepth 100000 in
theorem Is_of (T : TypeId) (u : Value) (x : Int) (b : Bool) (w : World) (h : Calls Tryd.prog 69 #[.iface T u, .iface 22 (.int .i64 x), .bool true] w fun e w' => e = .returned (.bool b) ∧ w = w') : Calls Tryd.prog 44 #[.iface T u, .iface 22 (.int .i64 x)] w fun e w' => e = .returned (.bool b) ∧ w = w' := by
  have h1 := ext_TypeOf
  have h2 := typeOfErrno
  have h3 := mComparable
  have h4 := comparableErrno
  have H := Lib.hid h
  clear h
  go_enter Tryd.func44, Tryd.ntmps44
  go_wp2_with (go_at_call 69; refine H.out.mono ?_; rintro e w' ⟨rfl, rfl⟩)
  go_ret
  exact ⟨rfl, rfl⟩
theorem Is_any (er : Er) (v : Value) (x : Int) (w : World) (h : er.At w v) : Calls Tryd.prog 44 #[v, .iface 22 (.int .i64 x)] w fun e w' => e = .returned (.bool (er.is x)) ∧ w = w' := by
  obtain ⟨T, a, rfl, _⟩ := h.shape
  exact Is_of T _ x _ w (is_any er _ x w h)
end Go.Proofs.YtedgebnmllinlaaDoor.Fault
