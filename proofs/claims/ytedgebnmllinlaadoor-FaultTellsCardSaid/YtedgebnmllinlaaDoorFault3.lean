/-
  Contracts of package fault over this seat's translation: what errors.Is, errors.As and the functions of package fault return at errors that the program makes. Conditions: each contract's own.
-/
import Derived.Test.YtedgebnmllinlaaDoorProg
import Derived.WalkKit
import Derived.LaidEql
import Derived.Stop.Asserts
import Derived.RowKitTokens
import Derived.Below
import Derived.Lib.Hide
import Derived.Deep.LoopGhost
import Derived.Test.YtedgebnmllinlaaDoorFault2
import Derived.MapKept
open Go Go.RowKit Go.Extern.Stop Go.Stop Go.Extern
namespace Go.Proofs.YtedgebnmllinlaaDoor.Fault
theorem typeOfPlace_ (v : Value) (w : World) : (ReflectliteType.typeOf #[.iface 82 v]).run Tryd.prog w = .ok (.iface 131 (.agg #[.pointer (some ⟨5, 82, none⟩)])) w := typeOfPPlace v w
theorem typeOfNamed_ (v : Value) (w : World) : (ReflectliteType.typeOf #[.iface 87 v]).run Tryd.prog w = .ok (.iface 131 (.agg #[.pointer (some ⟨5, 87, none⟩)])) w := typeOfPNamed v w

/-! ### errors.As at target Place -/
def FoundPlace (er : Er) (w0 w : World) (t : Nat) (b : Bool) (w' : World) : Prop :=
  match er.root with
  | some (c, n) => b = true ∧ ∃ g, w0.heap[g]? = some (.cells #[.int .i64 c, .int .i64 n] 86 (0,0)) ∧ Below w.heap.size (w.setCell ⟨t, 0, none⟩ (.pointer (some ⟨g, 0, none⟩))) w'
  | none => b = false ∧ Below w.heap.size w w'
theorem found_yes_Place {er : Er} {c n : Int} {w0 w w' : World} {t : Nat} (h : (Er.place c n).root = er.root) (g : Nat) (hg : w0.heap[g]? = some (.cells #[.int .i64 c, .int .i64 n] 86 (0,0))) (hb : Below w.heap.size (w.setCell ⟨t, 0, none⟩ (.pointer (some ⟨g, 0, none⟩))) w') : FoundPlace er w0 w t true w' := by
  unfold FoundPlace
  rw [← h]
  exact ⟨rfl, g, hg, hb⟩
theorem found_no_Place {er : Er} {w0 w w' : World} {t : Nat} (h : none = er.root) (hb : Below w.heap.size w w') : FoundPlace er w0 w t false w' := by
  unfold FoundPlace
  rw [← h]
  exact ⟨rfl, hb⟩
def HeadPlace (er : Er) (w0 : World) (k : Nat) (v : Value) : Prop := ∃ e : Er, e.At w0 v ∧ e.root = er.root ∧ k = e.depth
set_option maxRecDepth 100000 in
set_option maxHeartbeats 2000000 in
theorem as_Place (er : Er) (v : Value) (t b : Nat) (x : Value) (w0 w : World) (h : er.At w0 v) (hk : Below w0.heap.size w0 w) (ht : w.heap[t]? = some (.cells #[x] 82 (0,0))) (hb : w.heap[b]? = some (.cells #[.pointer (some ⟨t, 0, none⟩)] 84 (0,0))) :
    Calls Tryd.prog 73 #[v, .iface 84 (.pointer (some ⟨t, 0, none⟩)), .agg #[.pointer (some ⟨5, 84, none⟩), .pointer (some ⟨b, 0, none⟩), .int .u64 150], .iface 131 (.agg #[.pointer (some ⟨5, 82, none⟩)])] w (fun e w' => ∃ b, e = .returned (.bool b) ∧ FoundPlace er w0 w t b w') := by
  have HK := Lib.hid hk
  clear hk
  have h0 : HeadPlace er w0 er.depth v := ⟨er, h, rfl, rfl⟩
  obtain ⟨k0, hk0⟩ : ∃ k, er.depth = k := ⟨_, rfl⟩
  rw [hk0] at h0
  have H0 := Lib.hid h0
  clear h0 hk0 h
  have hbl := (Array.getElem?_eq_some_iff.1 hb).1
  have htl := (Array.getElem?_eq_some_iff.1 ht).1
  have el := elemVPlace ⟨b, 0, none⟩ ⟨t, 0, none⟩ (w.alloc (.cells #[.pointer (some ⟨5, 84, none⟩), .pointer (some ⟨b, 0, none⟩), .int .u64 150] 112)) (by rw [World.cell?_alloc_lt _ _ ⟨b, 0, none⟩ hbl]; exact cell_blk hb rfl)
  have st : ∀ e : Addr, _ := fun e => setPPlace ⟨t, 0, none⟩ ⟨w.heap.size + 1, 0, none⟩ e x ((w.alloc (.cells #[.pointer (some ⟨5, 84, none⟩), .pointer (some ⟨b, 0, none⟩), .int .u64 150] 112)).alloc (.cells #[.pointer (some e)] 82))
    (by rw [World.cell?_alloc_at _ _ _ _ (by simp)]; rfl)
    (by rw [World.cell?_alloc_lt _ _ ⟨t, 0, none⟩ (by simp; omega), World.cell?_alloc_lt _ _ ⟨t, 0, none⟩ htl]; exact cell_blk ht rfl)
    (by rw [World.frozen?_alloc_old _ _ ⟨t, 0, none⟩ (by simp; omega), World.frozen?_alloc_old _ _ ⟨t, 0, none⟩ (by simp; omega)]; simp [World.frozen?, ht])
  have x1 := ext_TypeOf
  have x2 := ext_ElemV
  have x3 := ext_ValueOf
  have x4 := ext_Set
  have x5 := ext_AssignableTo
  have mA := mAssignableTo
  clear ht hb
  go_enter Tryd.func73, Tryd.ntmps73
  go_wp2
  go_loopg [0] k0 (fun k v w' => HeadPlace er w0 k v ∧ w' = w.alloc (.cells #[.pointer (some ⟨5, 84, none⟩), .pointer (some ⟨b, 0, none⟩), .int .u64 150] 112))
  case atStart => exact ⟨H0.out, rfl⟩
  case round =>
    obtain ⟨hh, rfl⟩ := hrel
    obtain ⟨e, he, hr, hk⟩ := hh
    subst hk
    cases e with
      | place c n =>
        obtain ⟨g, rfl, hg⟩ := he
        have H1 := Lib.hid hr
        have H2 := Lib.hid hg
        clear hr hg
        have h1 := typeOfPPlace
        have h2 := assignPPlace
        have h3 := valueOfPPlace
        have st' := st ⟨g, 0, none⟩
        clear st
        go_wp2
        go_ret
        exact ⟨_, rfl, found_yes_Place H1.out g H2.out (((Below.refl _ _).alloc (by simp) _).alloc (by simp) _)⟩
      | named s e =>
        obtain ⟨g, u, rfl, hg, hu⟩ := he
        obtain ⟨T, a, rfl, hT⟩ := hu.shape
        have hu' := Lib.hid hu
        clear hu
        have H1 := Lib.hid hr
        have H2 := Lib.hid hg
        clear hr hg
        have h1 := typeOfNamed_
        have h2 := assignNoPlace_Named
        have h3 := taAs 87 (by decide)
        have h4 := taUn 87 (by decide)
        have hm := mUnNamed
        have hW := Lib.hid ((Below.heap_alloc w (.cells #[.pointer (some ⟨5, 84, none⟩), .pointer (some ⟨b, 0, none⟩), .int .u64 150] 112) g (Nat.lt_of_lt_of_le (Array.getElem?_eq_some_iff.1 H2.out).1 HK.out.size)).trans ((HK.out.block g (Array.getElem?_eq_some_iff.1 H2.out).1).trans H2.out))
        go_wp2_with (go_at_call 141; refine (unw_named g _ _ _ hW.out).mono ?_; rintro e w' ⟨rfl, rfl⟩)
        go_roundg e.depth
        case rel => exact ⟨⟨e, hu'.out, H1.out, rfl⟩, rfl⟩
        case measure => simp [Er.depth]
      | strange0 =>
        obtain ⟨g, rfl, hg⟩ := he
        have H1 := Lib.hid hr
        have H2 := Lib.hid hg
        clear hr hg
        have h1 := typeOfStrange
        have h2 := assignNoPlace_Strange
        have h3 := taAs 45 (by decide)
        have h4 := taUn 45 (by decide)
        have hm := mUnStrange
        have hW := Lib.hid ((Below.heap_alloc w (.cells #[.pointer (some ⟨5, 84, none⟩), .pointer (some ⟨b, 0, none⟩), .int .u64 150] 112) g (Nat.lt_of_lt_of_le (Array.getElem?_eq_some_iff.1 H2.out).1 HK.out.size)).trans ((HK.out.block g (Array.getElem?_eq_some_iff.1 H2.out).1).trans H2.out))
        go_wp2_with (go_at_call 137; refine (unw_strange g _ _ hW.out).mono ?_; rintro e w' ⟨rfl, rfl⟩)
        go_ret
        exact ⟨_, rfl, found_no_Place H1.out ((Below.refl _ _).alloc (Nat.le_refl _) _)⟩
      | strange e =>
        obtain ⟨g, u, rfl, hg, hu⟩ := he
        obtain ⟨T, a, rfl, hT⟩ := hu.shape
        have hu' := Lib.hid hu
        clear hu
        have H1 := Lib.hid hr
        have H2 := Lib.hid hg
        clear hr hg
        have h1 := typeOfStrange
        have h2 := assignNoPlace_Strange
        have h3 := taAs 45 (by decide)
        have h4 := taUn 45 (by decide)
        have hm := mUnStrange
        have hW := Lib.hid ((Below.heap_alloc w (.cells #[.pointer (some ⟨5, 84, none⟩), .pointer (some ⟨b, 0, none⟩), .int .u64 150] 112) g (Nat.lt_of_lt_of_le (Array.getElem?_eq_some_iff.1 H2.out).1 HK.out.size)).trans ((HK.out.block g (Array.getElem?_eq_some_iff.1 H2.out).1).trans H2.out))
        go_wp2_with (go_at_call 137; refine (unw_strange g _ _ hW.out).mono ?_; rintro e w' ⟨rfl, rfl⟩)
        go_roundg e.depth
        case rel => exact ⟨⟨e, hu'.out, H1.out, rfl⟩, rfl⟩
        case measure => simp [Er.depth]


theorem down_Place {er : Er} {w W w' : World} {t : Nat} {b : Bool} (hb : Below w.heap.size w W) (h : FoundPlace er w W t b w') : FoundPlace er w w t b w' := by
  unfold FoundPlace at h ⊢
  split at h
  · obtain ⟨hbt, g, hg, hw⟩ := h
    exact ⟨hbt, g, hg, (setCell_below hb _ _).trans (hw.mono hb.size)⟩
  · exact ⟨h.1, hb.trans (h.2.mono hb.size)⟩
set_option maxRecDepth 100000 in
set_option maxHeartbeats 4000000 in
theorem As_Place (er : Er) (v : Value) (t : Nat) (x : Value) (w : World) (h : er.At w v) (ht : w.heap[t]? = some (.cells #[x] 82 (0,0))) (hE : w.cell? ⟨1, 0, none⟩ = some (.iface 131 (.agg #[.pointer (some ⟨5, 26, none⟩)]))) :
    Calls Tryd.prog 45 #[v, .iface 84 (.pointer (some ⟨t, 0, none⟩))] w (fun e w' => ∃ b, e = .returned (.bool b) ∧ FoundPlace er w w t b w') := by
  obtain ⟨T, a, rfl, hT⟩ := h.shape
  have H := Lib.hid h
  have Ht := Lib.hid ht
  have htl := (Array.getElem?_eq_some_iff.1 ht).1
  have hEl := World.block_lt_of_cell? w ⟨1, 0, none⟩ hE
  have n8 := isNilTPlace ⟨w.heap.size, 0, none⟩ ⟨t, 0, none⟩ ((w.alloc (.cells #[.pointer (some ⟨t, 0, none⟩)] 84)).alloc (.cells #[.pointer (some ⟨5, 84, none⟩), .pointer (some ⟨w.heap.size, 0, none⟩), .int .u64 150] 112)) (by simp)
  have hg2 : ((w.alloc (.cells #[.pointer (some ⟨t, 0, none⟩)] 84)).alloc (.cells #[.pointer (some ⟨5, 84, none⟩), .pointer (some ⟨w.heap.size, 0, none⟩), .int .u64 150] 112)).cell? ⟨1, 0, none⟩ = some (.iface 131 (.agg #[.pointer (some ⟨5, 26, none⟩)])) := by
    rw [World.cell?_alloc_lt _ _ ⟨1, 0, none⟩ (by have : (1 : Nat) < w.heap.size := hEl; simp; omega), World.cell?_alloc_lt _ _ ⟨1, 0, none⟩ hEl]; exact hE
  have hbl := Lib.hid (((Below.refl w.heap.size w).alloc (Nat.le_refl _) (.cells #[.pointer (some ⟨t, 0, none⟩)] 84)).alloc (by simp) (.cells #[.pointer (some ⟨5, 84, none⟩), .pointer (some ⟨w.heap.size, 0, none⟩), .int .u64 150] 112))
  have hbb : ((w.alloc (.cells #[.pointer (some ⟨t, 0, none⟩)] 84)).alloc (.cells #[.pointer (some ⟨5, 84, none⟩), .pointer (some ⟨w.heap.size, 0, none⟩), .int .u64 150] 112)).heap[w.heap.size]? = some (.cells #[.pointer (some ⟨t, 0, none⟩)] 84 (0,0)) := by
    rw [Below.heap_alloc _ _ _ (by simp)]; exact heap_new w _
  have hC := Lib.hid (as_Place er _ t w.heap.size x w _ H.out hbl.out ((hbl.out.block t htl).trans Ht.out) hbb)
  have htl := Lib.hid htl
  clear h ht hE hbb hEl
  have x1 := ext_ValueOf
  have x2 := ext_Type
  have x3 := ext_Kind
  have x4 := ext_IsNil
  have x5 := ext_Elem
  have x6 := ext_Implements
  have f1 := valueOfTPlace ⟨t, 0, none⟩
  have f2 := typeTPlace
  have f3 := kindTPlace
  have f4 := kindPPlace
  have f5 := elemTPlace
  have f6 := implPPlace
  have mK := mKind
  have mE := mElem
  have mI := mImplements
  go_enter Tryd.func45, Tryd.ntmps45
  go_wp2_with (go_at_call 73; refine hC.out.mono ?_; rintro e w' ⟨bb, rfl, hF⟩; have HF := Lib.hid hF; clear hF)
  go_ret
  exact ⟨_, rfl, down_Place hbl.out HF.out⟩

/-! ### errors.As at target Named -/
def FoundNamed (er : Er) (w0 w : World) (t : Nat) (b : Bool) (w' : World) : Prop :=
  match er.first with
  | some (c, n) => b = true ∧ ∃ g, (∃ u, w0.heap[g]? = some (.cells #[.string c, u] 90 (0,0)) ∧ n.At w0 u) ∧ Below w.heap.size (w.setCell ⟨t, 0, none⟩ (.pointer (some ⟨g, 0, none⟩))) w'
  | none => b = false ∧ Below w.heap.size w w'
theorem found_yes_Named {er e : Er} {s : ByteArray} {w0 w w' : World} {t : Nat} (h : (Er.named s e).first = er.first) (g : Nat) (u : Value) (hg : w0.heap[g]? = some (.cells #[.string s, u] 90 (0,0))) (hu : e.At w0 u) (hb : Below w.heap.size (w.setCell ⟨t, 0, none⟩ (.pointer (some ⟨g, 0, none⟩))) w') : FoundNamed er w0 w t true w' := by
  unfold FoundNamed
  rw [← h]
  exact ⟨rfl, g, ⟨u, hg, hu⟩, hb⟩
theorem found_no_Named {er : Er} {w0 w w' : World} {t : Nat} (h : none = er.first) (hb : Below w.heap.size w w') : FoundNamed er w0 w t false w' := by
  unfold FoundNamed
  rw [← h]
  exact ⟨rfl, hb⟩
def HeadNamed (er : Er) (w0 : World) (k : Nat) (v : Value) : Prop := (∃ e : Er, e.At w0 v ∧ e.first = er.first ∧ k = e.depth) ∨ (∃ c : Int, v = .iface 22 (.int .i64 c) ∧ er.first = none ∧ k = 0)
set_option maxRecDepth 100000 in
set_option maxHeartbeats 2000000 in
theorem as_Named (er : Er) (v : Value) (t b : Nat) (x : Value) (w0 w : World) (h : er.At w0 v) (hk : Below w0.heap.size w0 w) (ht : w.heap[t]? = some (.cells #[x] 87 (0,0))) (hb : w.heap[b]? = some (.cells #[.pointer (some ⟨t, 0, none⟩)] 88 (0,0))) :
    Calls Tryd.prog 73 #[v, .iface 88 (.pointer (some ⟨t, 0, none⟩)), .agg #[.pointer (some ⟨5, 88, none⟩), .pointer (some ⟨b, 0, none⟩), .int .u64 150], .iface 131 (.agg #[.pointer (some ⟨5, 87, none⟩)])] w (fun e w' => ∃ b, e = .returned (.bool b) ∧ FoundNamed er w0 w t b w') := by
  have HK := Lib.hid hk
  clear hk
  have h0 : HeadNamed er w0 er.depth v := .inl ⟨er, h, rfl, rfl⟩
  obtain ⟨k0, hk0⟩ : ∃ k, er.depth = k := ⟨_, rfl⟩
  rw [hk0] at h0
  have H0 := Lib.hid h0
  clear h0 hk0 h
  have hbl := (Array.getElem?_eq_some_iff.1 hb).1
  have htl := (Array.getElem?_eq_some_iff.1 ht).1
  have el := elemVNamed ⟨b, 0, none⟩ ⟨t, 0, none⟩ (w.alloc (.cells #[.pointer (some ⟨5, 88, none⟩), .pointer (some ⟨b, 0, none⟩), .int .u64 150] 112)) (by rw [World.cell?_alloc_lt _ _ ⟨b, 0, none⟩ hbl]; exact cell_blk hb rfl)
  have st : ∀ e : Addr, _ := fun e => setPNamed ⟨t, 0, none⟩ ⟨w.heap.size + 1, 0, none⟩ e x ((w.alloc (.cells #[.pointer (some ⟨5, 88, none⟩), .pointer (some ⟨b, 0, none⟩), .int .u64 150] 112)).alloc (.cells #[.pointer (some e)] 87))
    (by rw [World.cell?_alloc_at _ _ _ _ (by simp)]; rfl)
    (by rw [World.cell?_alloc_lt _ _ ⟨t, 0, none⟩ (by simp; omega), World.cell?_alloc_lt _ _ ⟨t, 0, none⟩ htl]; exact cell_blk ht rfl)
    (by rw [World.frozen?_alloc_old _ _ ⟨t, 0, none⟩ (by simp; omega), World.frozen?_alloc_old _ _ ⟨t, 0, none⟩ (by simp; omega)]; simp [World.frozen?, ht])
  have x1 := ext_TypeOf
  have x2 := ext_ElemV
  have x3 := ext_ValueOf
  have x4 := ext_Set
  have x5 := ext_AssignableTo
  have mA := mAssignableTo
  clear ht hb
  go_enter Tryd.func73, Tryd.ntmps73
  go_wp2
  go_loopg [0] k0 (fun k v w' => HeadNamed er w0 k v ∧ w' = w.alloc (.cells #[.pointer (some ⟨5, 88, none⟩), .pointer (some ⟨b, 0, none⟩), .int .u64 150] 112))
  case atStart => exact ⟨H0.out, rfl⟩
  case round =>
    obtain ⟨hh, rfl⟩ := hrel
    rcases hh with ⟨e, he, hr, hk⟩ | ⟨c, rfl, hr, hk⟩
    · subst hk
      cases e with
      | named s e =>
        obtain ⟨g, u, rfl, hg, hu⟩ := he
        have H1 := Lib.hid hr
        have H2 := Lib.hid hg
        have H3 := Lib.hid hu
        clear hr hg hu
        have h1 := typeOfPNamed
        have h2 := assignPNamed
        have h3 := valueOfPNamed
        have st' := st ⟨g, 0, none⟩
        clear st
        go_wp2
        go_ret
        exact ⟨_, rfl, found_yes_Named H1.out g u H2.out H3.out (((Below.refl _ _).alloc (by simp) _).alloc (by simp) _)⟩
      | place c n =>
        obtain ⟨g, rfl, hg⟩ := he
        have H1 := Lib.hid hr
        have H2 := Lib.hid hg
        clear hr hg
        have h1 := typeOfPlace_
        have h2 := assignNoNamed_Place
        have h3 := taAs 82 (by decide)
        have h4 := taUn 82 (by decide)
        have hm := mUnPlace
        have hW := Lib.hid ((Below.heap_alloc w (.cells #[.pointer (some ⟨5, 88, none⟩), .pointer (some ⟨b, 0, none⟩), .int .u64 150] 112) g (Nat.lt_of_lt_of_le (Array.getElem?_eq_some_iff.1 H2.out).1 HK.out.size)).trans ((HK.out.block g (Array.getElem?_eq_some_iff.1 H2.out).1).trans H2.out))
        go_wp2_with (go_at_call 139; refine (unw_place g _ _ _ hW.out).mono ?_; rintro e w' ⟨rfl, rfl⟩)
        go_roundg 0
        case rel => exact ⟨.inr ⟨c, rfl, H1.out.symm, rfl⟩, rfl⟩
        case measure => simp [Er.depth]
      | strange0 =>
        obtain ⟨g, rfl, hg⟩ := he
        have H1 := Lib.hid hr
        have H2 := Lib.hid hg
        clear hr hg
        have h1 := typeOfStrange
        have h2 := assignNoNamed_Strange
        have h3 := taAs 45 (by decide)
        have h4 := taUn 45 (by decide)
        have hm := mUnStrange
        have hW := Lib.hid ((Below.heap_alloc w (.cells #[.pointer (some ⟨5, 88, none⟩), .pointer (some ⟨b, 0, none⟩), .int .u64 150] 112) g (Nat.lt_of_lt_of_le (Array.getElem?_eq_some_iff.1 H2.out).1 HK.out.size)).trans ((HK.out.block g (Array.getElem?_eq_some_iff.1 H2.out).1).trans H2.out))
        go_wp2_with (go_at_call 137; refine (unw_strange g _ _ hW.out).mono ?_; rintro e w' ⟨rfl, rfl⟩)
        go_ret
        exact ⟨_, rfl, found_no_Named H1.out ((Below.refl _ _).alloc (Nat.le_refl _) _)⟩
      | strange e =>
        obtain ⟨g, u, rfl, hg, hu⟩ := he
        obtain ⟨T, a, rfl, hT⟩ := hu.shape
        have hu' := Lib.hid hu
        clear hu
        have H1 := Lib.hid hr
        have H2 := Lib.hid hg
        clear hr hg
        have h1 := typeOfStrange
        have h2 := assignNoNamed_Strange
        have h3 := taAs 45 (by decide)
        have h4 := taUn 45 (by decide)
        have hm := mUnStrange
        have hW := Lib.hid ((Below.heap_alloc w (.cells #[.pointer (some ⟨5, 88, none⟩), .pointer (some ⟨b, 0, none⟩), .int .u64 150] 112) g (Nat.lt_of_lt_of_le (Array.getElem?_eq_some_iff.1 H2.out).1 HK.out.size)).trans ((HK.out.block g (Array.getElem?_eq_some_iff.1 H2.out).1).trans H2.out))
        go_wp2_with (go_at_call 137; refine (unw_strange g _ _ hW.out).mono ?_; rintro e w' ⟨rfl, rfl⟩)
        go_roundg e.depth
        case rel => exact ⟨.inl ⟨e, hu'.out, H1.out, rfl⟩, rfl⟩
        case measure => simp [Er.depth]
    · have H1 := Lib.hid hr
      clear hr
      have h1 := typeOfErrno
      have h2 := assignNoNamed_Errno
      have h3 := taAs 22 (by decide)
      have h4 := taUnErrno
      have h5 := taUs 22 (by decide)
      go_wp2
      go_ret
      exact ⟨_, rfl, found_no_Named H1.out.symm ((Below.refl _ _).alloc (Nat.le_refl _) _)⟩


theorem down_Named {er : Er} {w W w' : World} {t : Nat} {b : Bool} (hb : Below w.heap.size w W) (h : FoundNamed er w W t b w') : FoundNamed er w w t b w' := by
  unfold FoundNamed at h ⊢
  split at h
  · obtain ⟨hbt, g, hg, hw⟩ := h
    exact ⟨hbt, g, hg, (setCell_below hb _ _).trans (hw.mono hb.size)⟩
  · exact ⟨h.1, hb.trans (h.2.mono hb.size)⟩
set_option maxRecDepth 100000 in
set_option maxHeartbeats 4000000 in
theorem As_Named (er : Er) (v : Value) (t : Nat) (x : Value) (w : World) (h : er.At w v) (ht : w.heap[t]? = some (.cells #[x] 87 (0,0))) (hE : w.cell? ⟨1, 0, none⟩ = some (.iface 131 (.agg #[.pointer (some ⟨5, 26, none⟩)]))) :
    Calls Tryd.prog 45 #[v, .iface 88 (.pointer (some ⟨t, 0, none⟩))] w (fun e w' => ∃ b, e = .returned (.bool b) ∧ FoundNamed er w w t b w') := by
  obtain ⟨T, a, rfl, hT⟩ := h.shape
  have H := Lib.hid h
  have Ht := Lib.hid ht
  have htl := (Array.getElem?_eq_some_iff.1 ht).1
  have hEl := World.block_lt_of_cell? w ⟨1, 0, none⟩ hE
  have n8 := isNilTNamed ⟨w.heap.size, 0, none⟩ ⟨t, 0, none⟩ ((w.alloc (.cells #[.pointer (some ⟨t, 0, none⟩)] 88)).alloc (.cells #[.pointer (some ⟨5, 88, none⟩), .pointer (some ⟨w.heap.size, 0, none⟩), .int .u64 150] 112)) (by simp)
  have hg2 : ((w.alloc (.cells #[.pointer (some ⟨t, 0, none⟩)] 88)).alloc (.cells #[.pointer (some ⟨5, 88, none⟩), .pointer (some ⟨w.heap.size, 0, none⟩), .int .u64 150] 112)).cell? ⟨1, 0, none⟩ = some (.iface 131 (.agg #[.pointer (some ⟨5, 26, none⟩)])) := by
    rw [World.cell?_alloc_lt _ _ ⟨1, 0, none⟩ (by have : (1 : Nat) < w.heap.size := hEl; simp; omega), World.cell?_alloc_lt _ _ ⟨1, 0, none⟩ hEl]; exact hE
  have hbl := Lib.hid (((Below.refl w.heap.size w).alloc (Nat.le_refl _) (.cells #[.pointer (some ⟨t, 0, none⟩)] 88)).alloc (by simp) (.cells #[.pointer (some ⟨5, 88, none⟩), .pointer (some ⟨w.heap.size, 0, none⟩), .int .u64 150] 112))
  have hbb : ((w.alloc (.cells #[.pointer (some ⟨t, 0, none⟩)] 88)).alloc (.cells #[.pointer (some ⟨5, 88, none⟩), .pointer (some ⟨w.heap.size, 0, none⟩), .int .u64 150] 112)).heap[w.heap.size]? = some (.cells #[.pointer (some ⟨t, 0, none⟩)] 88 (0,0)) := by
    rw [Below.heap_alloc _ _ _ (by simp)]; exact heap_new w _
  have hC := Lib.hid (as_Named er _ t w.heap.size x w _ H.out hbl.out ((hbl.out.block t htl).trans Ht.out) hbb)
  have htl := Lib.hid htl
  clear h ht hE hbb hEl
  have x1 := ext_ValueOf
  have x2 := ext_Type
  have x3 := ext_Kind
  have x4 := ext_IsNil
  have x5 := ext_Elem
  have x6 := ext_Implements
  have f1 := valueOfTNamed ⟨t, 0, none⟩
  have f2 := typeTNamed
  have f3 := kindTNamed
  have f4 := kindPNamed
  have f5 := elemTNamed
  have f6 := implPNamed
  have mK := mKind
  have mE := mElem
  have mI := mImplements
  go_enter Tryd.func45, Tryd.ntmps45
  go_wp2_with (go_at_call 73; refine hC.out.mono ?_; rintro e w' ⟨bb, rfl, hF⟩; have HF := Lib.hid hF; clear hF)
  go_ret
  exact ⟨_, rfl, down_Named hbl.out HF.out⟩
end Go.Proofs.YtedgebnmllinlaaDoor.Fault
