/-
  Contracts of package fault over this seat's translation: what errors.Is, errors.As and the functions of package fault return at errors that the program makes. Conditions: each contract's own.
-/
import Derived.Test.YtedgebnmllinlaaDoorProg
import Derived.WalkKit
import Derived.LaidEql
import Derived.Stop.Asserts
import Derived.RowKitTokens
import Derived.Below
import Derived.Lib.Hide
import Derived.Deep.LoopGhost
import Derived.Test.YtedgebnmllinlaaDoorFault3
import Derived.Deep.QuietTactic
import Derived.BigQuiet
open Go Go.RowKit Go.Extern.Stop Go.Stop Go.Extern
namespace Go.Proofs.YtedgebnmllinlaaDoor.Fault

set_option linter.unusedVariables false
set_option linter.unusedSimpArgs false
/-- An error that may be nil. -/
def ErAt (w : World) : Option Er → Value → Prop
  | none, v => v = .nilIface
  | some e, v => e.At w v
theorem ErAt.below {w w' : World} (hb : Below w.heap.size w w') {e : Option Er} {v : Value} (h : ErAt w e v) : ErAt w' e v := by
  cases e with
  | none => exact h
  | some e => exact Er.At.below hb h
/-- errors.errorType as its initialiser lays it. -/
def EV (w : World) : Prop := w.cell? ⟨1, 0, none⟩ = some (.iface 131 (.agg #[.pointer (some ⟨5, 26, none⟩)]))
theorem EV.below {w w' : World} (hb : Below w.heap.size w w') (h : EV w) : EV w' := (hb.cell (World.block_lt_of_cell? w ⟨1, 0, none⟩ h)).trans h
def codeOf : Option Er → Int
  | none => 0
  | some e => match e.root with | some (c, _) => c | none => 23
def atOf : Option Er → Int
  | none => -1
  | some e => match e.root with | some (_, n) => n | none => -1
def isOf (e : Option Er) (x : Int) : Bool := match e with | none => x == 0 | some e => e.is x
def Er.defOf : Er → ByteArray → ByteArray
  | .place _ _, d => d
  | .named s e, _ => e.defOf s
  | .strange0, d => d
  | .strange e, d => e.defOf d
def defOf : Option Er → ByteArray
  | none => ⟨#[]⟩
  | some e => e.defOf ⟨#[]⟩
theorem defOf_first {e : Er} {d : ByteArray} : e.defOf d = match e.first with | some (s, e') => e'.defOf s | none => d := by
  induction e with
  | place c n => rfl
  | named s e ih => rfl
  | strange0 => rfl
  | strange e ih => exact ih
theorem first_depth {e e' : Er} {s : ByteArray} (h : e.first = some (s, e')) : e'.depth < e.depth := by
  induction e with
  | place c n => cases h
  | named s e ih => injection h with h; injection h with _ h; subst h; simp [Er.depth]
  | strange0 => cases h
  | strange e ih => have := ih h; simp [Er.depth]; omega
theorem blk_other {w w' : World} {t g : Nat} {o : Obj} {v : Value} (hg : w.heap[g]? = some o) (hne : t ≠ g) (hb : Below w.heap.size (w.setCell ⟨t, 0, none⟩ v) w') : w'.heap[g]? = some o := by
  rw [hb.block g (Array.getElem?_eq_some_iff.1 hg).1]
  simp only [World.setCell, Array.getElem?_modify, if_neg hne, hg]
theorem blk_self {w w' : World} {t : Nat} {x v : Value} {ty : TypeId} (ht : w.heap[t]? = some (.cells #[x] ty (0,0))) (hb : Below w.heap.size (w.setCell ⟨t, 0, none⟩ v) w') : w'.heap[t]? = some (.cells #[v] ty (0,0)) := by
  rw [hb.block t (Array.getElem?_eq_some_iff.1 ht).1]
  simp [World.setCell, Array.getElem?_modify, ht, Array.setIfInBounds]
theorem below_set {w w' : World} {t : Nat} {v : Value} (ht : t < w.heap.size) (hb : Below w.heap.size (w.setCell ⟨t, 0, none⟩ v) w') : Below t w w' := by
  refine ⟨hb.os, hb.tape, hb.output, by simpa using hb.size, fun k hk => ?_⟩
  by_cases h : k < w.heap.size
  · rw [hb.block k h]
    simp only [World.setCell, Array.getElem?_modify, if_neg (show ¬ t = k by omega)]
  · rw [Array.getElem?_eq_none (by omega : w.heap.size ≤ k)]
    by_cases h2 : k < w'.heap.size
    · exact absurd hk (by omega)
    · rw [Array.getElem?_eq_none (by omega : w'.heap.size ≤ k)]

theorem As_Place_no (er : Er) (v : Value) (B t : Nat) (x : Value) (w : World) (h : er.At w v) (ht : w.heap[t]? = some (.cells #[x] 82 (0,0))) (hE : EV w) (hr : er.root = none) :
    Calls Tryd.prog 45 #[v, .iface 84 (.pointer (some ⟨t, 0, none⟩))] w fun e w' => e = .returned (.bool false) ∧ Below w.heap.size w w' := by
  refine (As_Place er v t x w h ht hE).mono ?_
  rintro e w' ⟨b, rfl, hF⟩
  unfold FoundPlace at hF
  rw [hr] at hF
  exact ⟨by rw [hF.1], hF.2⟩
theorem As_Place_hit (er : Er) (v : Value) (B t : Nat) (x : Value) (c n : Int) (w : World) (h : er.At w v) (ht : w.heap[t]? = some (.cells #[x] 82 (0,0))) (hE : EV w) (hr : er.root = some (c, n)) :
    Calls Tryd.prog 45 #[v, .iface 84 (.pointer (some ⟨t, 0, none⟩))] w fun e w' => e = .returned (.bool true) ∧ ∃ g, w'.cell? ⟨t, 0, none⟩ = some (.pointer (some ⟨g, 0, none⟩)) ∧ w'.cell? ⟨g, 0, none⟩ = some (.int .i64 c) ∧ w'.cell? ⟨g, 1, none⟩ = some (.int .i64 n) ∧ Below t w w' := by
  refine (As_Place er v t x w h ht hE).mono ?_
  rintro e w' ⟨b, rfl, hF⟩
  unfold FoundPlace at hF
  rw [hr] at hF
  obtain ⟨rfl, g, hg, hw⟩ := hF
  have hne : t ≠ g := by rintro rfl; rw [ht] at hg; simp at hg
  have h2 := blk_other hg hne hw
  exact ⟨rfl, g, cell_blk (blk_self ht hw) rfl, cell_blk h2 rfl, cell_blk h2 rfl, below_set (Array.getElem?_eq_some_iff.1 ht).1 hw⟩

theorem As_Named_no (er : Er) (v : Value) (B t : Nat) (x : Value) (w : World) (h : er.At w v) (ht : w.heap[t]? = some (.cells #[x] 87 (0,0))) (hE : EV w) (hr : er.first = none) :
    Calls Tryd.prog 45 #[v, .iface 88 (.pointer (some ⟨t, 0, none⟩))] w fun e w' => e = .returned (.bool false) ∧ Below w.heap.size w w' := by
  refine (As_Named er v t x w h ht hE).mono ?_
  rintro e w' ⟨b, rfl, hF⟩
  unfold FoundNamed at hF
  rw [hr] at hF
  exact ⟨by rw [hF.1], hF.2⟩
theorem Er.At.set {w w' : World} {t : Nat} {x v : Value} (ht : w.heap[t]? = some (.cells #[x] 87 (0,0))) (hb : Below w.heap.size (w.setCell ⟨t, 0, none⟩ v) w') {e : Er} : ∀ {u : Value}, e.At w u → e.At w' u := by
  have key : ∀ (g : Nat) (cs : Array Value) (ty : TypeId), ty ≠ 87 → w.heap[g]? = some (.cells cs ty (0,0)) → w'.heap[g]? = some (.cells cs ty (0,0)) := by
    intro g cs ty hty hg
    refine blk_other hg ?_ hb
    rintro rfl
    rw [ht] at hg
    injection hg with hg
    injection hg with _ hg
    exact hty hg.symm
  induction e with
  | place c n => rintro u ⟨g, hv, hg⟩; exact ⟨g, hv, key _ _ _ (by decide) hg⟩
  | named s e ih => rintro u ⟨g, u', hv, hg, h⟩; exact ⟨g, u', hv, key _ _ _ (by decide) hg, ih h⟩
  | strange0 => rintro u ⟨g, hv, hg⟩; exact ⟨g, hv, key _ _ _ (by decide) hg⟩
  | strange e ih => rintro u ⟨g, u', hv, hg, h⟩; exact ⟨g, u', hv, key _ _ _ (by decide) hg, ih h⟩
theorem EV.set {w w' : World} {t : Nat} {x v : Value} (ht : w.heap[t]? = some (.cells #[x] 87 (0,0))) (hb : Below w.heap.size (w.setCell ⟨t, 0, none⟩ v) w') (hx : t ≠ 1) (h : EV w) : EV w' := by
  unfold EV at h ⊢
  rw [hb.cell (World.block_lt_of_cell? w ⟨1, 0, none⟩ h)]
  rw [← h]
  simp only [World.cell?, World.setCell, Array.getElem?_modify, if_neg hx]
theorem As_Named_hit (er : Er) (v : Value) (B t : Nat) (x : Value) (w : World) (h : er.At w v) (ht : w.heap[t]? = some (.cells #[x] 87 (0,0))) (hE : EV w) (hx : t ≠ 1) {s : ByteArray} {e0 : Er} (hr : er.first = some (s, e0)) :
    Calls Tryd.prog 45 #[v, .iface 88 (.pointer (some ⟨t, 0, none⟩))] w fun e w' => e = .returned (.bool true) ∧ ∃ g u, w'.cell? ⟨t, 0, none⟩ = some (.pointer (some ⟨g, 0, none⟩)) ∧ w'.cell? ⟨g, 0, none⟩ = some (.string s) ∧ w'.cell? ⟨g, 1, none⟩ = some u ∧ (∃ y, w'.heap[t]? = some (.cells #[y] 87 (0,0))) ∧ e0.At w' u ∧ EV w' ∧ Below t w w' := by
  refine (As_Named er v t x w h ht hE).mono ?_
  rintro e w' ⟨b, rfl, hF⟩
  unfold FoundNamed at hF
  rw [hr] at hF
  obtain ⟨rfl, g, ⟨u, hg, hu⟩, hw⟩ := hF
  have hne : t ≠ g := by rintro rfl; rw [ht] at hg; simp at hg
  have h2 := blk_other hg hne hw
  exact ⟨rfl, g, u, cell_blk (blk_self ht hw) rfl, cell_blk h2 rfl, cell_blk h2 rfl, ⟨_, blk_self ht hw⟩, hu.set ht hw, EV.set ht hw hx hE, below_set (Array.getElem?_eq_some_iff.1 ht).1 hw⟩
structure Aside (p : Prop) : Prop where mk :: (out : p)
/-- fault.Def's loop's head: what is left to be unwrapped; what it comes to. -/
def HeadDef (w : World) (d : ByteArray) (k : Nat) (s : ByteArray) (v : Value) : Prop :=
  (v = .nilIface ∧ s = d ∧ k = 0) ∨ (∃ e : Er, e.At w v ∧ e.defOf s = d ∧ k = e.depth + 1)
theorem HeadDef.below {w w' : World} {d : ByteArray} {k : Nat} {s : ByteArray} {v : Value} (hb : Below w.heap.size w w') (h : HeadDef w d k s v) : HeadDef w' d k s v := by
  rcases h with h | ⟨e, he, h⟩
  · exact .inl h
  · exact .inr ⟨e, he.below hb, h⟩
theorem Below.drewN' {B : Nat} {a w : World} (h : Below B a w) (n : Nat) : Below B a (w.drewN n) := ⟨h.os, h.tape, h.output, h.size, h.block⟩
theorem Er.At.drewN {w : World} (n : Nat) {e : Er} {v : Value} (h : e.At w v) : e.At (w.drewN n) v := Er.At.kept (w := w) (w' := w.drewN n) (fun _ _ hg => hg) h

theorem New_zero (n : Int) (w : World) : Calls Tryd.prog 22 #[.int .i64 0, .int .i64 n] w fun e w' => e = .returned .nilIface ∧ w = w' := by
  go_enter Tryd.func22, Tryd.ntmps22
  go_wp2
  go_ret
  exact ⟨rfl, rfl⟩
theorem New_some (c n : Int) (w : World) (hc : (c == 0) = false) : Calls Tryd.prog 22 #[.int .i64 c, .int .i64 n] w fun e w' => e = .returned (.iface 82 (.pointer (some ⟨w.heap.size, 0, none⟩))) ∧ w' = w.alloc (.cells #[.int .i64 c, .int .i64 n] 86) := by
  go_enter Tryd.func22, Tryd.ntmps22
  go_wp2
  go_ret
  exact ⟨rfl, rfl⟩
theorem In_nil (s : ByteArray) (w : World) : Calls Tryd.prog 21 #[.string s, .nilIface] w fun e w' => e = .returned .nilIface ∧ w = w' := by
  go_enter Tryd.func21, Tryd.ntmps21
  go_wp2
  go_ret
  exact ⟨rfl, rfl⟩
theorem In_some (s : ByteArray) (T : TypeId) (u : Value) (w : World) : Calls Tryd.prog 21 #[.string s, .iface T u] w fun e w' => e = .returned (.iface 87 (.pointer (some ⟨w.heap.size, 0, none⟩))) ∧ w' = w.alloc (.cells #[.string s, .iface T u] 90) := by
  go_enter Tryd.func21, Tryd.ntmps21
  go_wp2
  go_ret
  exact ⟨rfl, rfl⟩
/-- fault.New, as errors. -/
def newOf (c n : Int) : Option Er := if c = 0 then none else some (.place c n)
theorem New_any (c n : Int) (w : World) : Calls Tryd.prog 22 #[.int .i64 c, .int .i64 n] w fun e w' => ∃ v, e = .returned v ∧ ErAt w' (newOf c n) v ∧ Below w.heap.size w w' := by
  by_cases h : c = 0
  · subst h
    refine (New_zero n w).mono ?_
    rintro e w' ⟨rfl, rfl⟩
    exact ⟨_, rfl, rfl, Below.refl _ _⟩
  · refine (New_some c n w (by simpa using h)).mono ?_
    rintro e w' ⟨rfl, rfl⟩
    exact ⟨_, rfl, by unfold newOf; rw [if_neg h]; exact ⟨_, rfl, heap_new _ _⟩, (Below.refl _ _).alloc (Nat.le_refl _) _⟩
def inOf (s : ByteArray) (e : Option Er) : Option Er := e.map (Er.named s)
theorem In_any (s : ByteArray) (er : Option Er) (v : Value) (w : World) (h : ErAt w er v) : Calls Tryd.prog 21 #[.string s, v] w fun e w' => ∃ v', e = .returned v' ∧ ErAt w' (inOf s er) v' ∧ Below w.heap.size w w' := by
  cases er with
  | none =>
    obtain rfl : v = .nilIface := h
    refine (In_nil s w).mono ?_
    rintro e w' ⟨rfl, rfl⟩
    exact ⟨_, rfl, rfl, Below.refl _ _⟩
  | some e =>
    obtain ⟨T, a, rfl, _⟩ := Er.At.shape h
    refine (In_some s T _ w).mono ?_
    rintro e' w' ⟨rfl, rfl⟩
    have hb := (Below.refl w.heap.size w).alloc (Nat.le_refl _) (.cells #[.string s, .iface T (.pointer (some a))] 90)
    exact ⟨_, rfl, ⟨_, _, rfl, heap_new _ _, Er.At.below hb h⟩, hb⟩
theorem Is_nil (x : Int) (w : World) : Calls Tryd.prog 13 #[.nilIface, .int .i64 x] w fun e w' => e = .returned (.bool (x == 0)) ∧ w = w' := by
  go_enter Tryd.func13, Tryd.ntmps13
  go_wp2
  go_ret
  exact ⟨rfl, rfl⟩
theorem Is_any' (er : Option Er) (v : Value) (x : Int) (w : World) (h : ErAt w er v) : Calls Tryd.prog 13 #[v, .int .i64 x] w fun e w' => e = .returned (.bool (isOf er x)) ∧ w = w' := by
  cases er with
  | none =>
    obtain rfl : v = .nilIface := h
    exact Is_nil x w
  | some e =>
    obtain ⟨T, a, rfl, _⟩ := Er.At.shape h
    have H := Lib.hid (Is_any e _ x w h)
    clear h
    go_enter Tryd.func13, Tryd.ntmps13
    go_wp2_with (go_at_call 44; refine H.out.mono ?_; rintro e w' ⟨rfl, rfl⟩)
    go_ret
    exact ⟨rfl, rfl⟩
set_option maxRecDepth 100000 in
set_option maxHeartbeats 1000000 in
theorem Code_any (er : Option Er) (v : Value) (w : World) (h : ErAt w er v) (hE : EV w) : Calls Tryd.prog 14 #[v] w fun e w' => e = .returned (.int .i64 (codeOf er)) ∧ Below w.heap.size w w' := by
  cases er with
  | none =>
    obtain rfl : v = .nilIface := h
    go_enter Tryd.func14, Tryd.ntmps14
    go_wp2
    go_ret
    exact ⟨rfl, Below.refl _ _⟩
  | some er =>
    obtain ⟨T, a, rfl, _⟩ := Er.At.shape h
    have hb := (Below.refl w.heap.size w).alloc (Nat.le_refl _) (.cells #[.pointer none] 82)
    rcases hr : er.root with _ | ⟨c, n⟩
    · have hc : codeOf (some er) = 23 := by simp [codeOf, hr]
      rw [hc]
      have hC := Lib.hid (As_Place_no er _ 0 w.heap.size _ _ (Er.At.below hb h) (heap_new w _) (hE.below hb) hr)
      have HB := Lib.hid hb
      clear hc hr h hE hb
      go_enter Tryd.func14, Tryd.ntmps14
      go_wp2_with (go_at_call 45; refine hC.out.mono ?_; rintro e w' ⟨rfl, hw⟩; have HW := Lib.hid hw; clear hw)
      go_ret
      exact ⟨rfl, HB.out.trans (HW.out.mono HB.out.size)⟩
    · have hc : codeOf (some er) = c := by simp [codeOf, hr]
      rw [hc]
      have hC := Lib.hid (As_Place_hit er _ 0 w.heap.size _ c n _ (Er.At.below hb h) (heap_new w _) (hE.below hb) hr)
      have HB := Lib.hid hb
      clear hc hr h hE hb
      go_enter Tryd.func14, Tryd.ntmps14
      go_wp2_with (go_at_call 45; refine hC.out.mono ?_; rintro e w' ⟨rfl, g, ht, hg0, hg1, hw⟩; have HW := Lib.hid hw; clear hw)
      go_ret
      exact ⟨rfl, HB.out.trans HW.out⟩
set_option maxRecDepth 100000 in
set_option maxHeartbeats 1000000 in
theorem At_any (er : Option Er) (v : Value) (w : World) (h : ErAt w er v) (hE : EV w) : Calls Tryd.prog 16 #[v] w fun e w' => e = .returned (.int .i64 (atOf er)) ∧ Below w.heap.size w w' := by
  cases er with
  | none =>
    obtain rfl : v = .nilIface := h
    go_enter Tryd.func16, Tryd.ntmps16
    go_wp2
    go_ret
    exact ⟨rfl, (Below.refl _ _).alloc (Nat.le_refl _) _⟩
  | some er =>
    obtain ⟨T, a, rfl, _⟩ := Er.At.shape h
    have hb := (Below.refl w.heap.size w).alloc (Nat.le_refl _) (.cells #[.pointer none] 82)
    rcases hr : er.root with _ | ⟨c, n⟩
    · have hc : atOf (some er) = -1 := by simp [atOf, hr]
      rw [hc]
      have hC := Lib.hid (As_Place_no er _ 0 w.heap.size _ _ (Er.At.below hb h) (heap_new w _) (hE.below hb) hr)
      have HB := Lib.hid hb
      clear hc hr h hE hb
      go_enter Tryd.func16, Tryd.ntmps16
      go_wp2_with (go_at_call 45; refine hC.out.mono ?_; rintro e w' ⟨rfl, hw⟩; have HW := Lib.hid hw; clear hw)
      go_ret
      exact ⟨rfl, HB.out.trans (HW.out.mono HB.out.size)⟩
    · have hc : atOf (some er) = n := by simp [atOf, hr]
      rw [hc]
      have hC := Lib.hid (As_Place_hit er _ 0 w.heap.size _ c n _ (Er.At.below hb h) (heap_new w _) (hE.below hb) hr)
      have HB := Lib.hid hb
      clear hc hr h hE hb
      go_enter Tryd.func16, Tryd.ntmps16
      go_wp2_with (go_at_call 45; refine hC.out.mono ?_; rintro e w' ⟨rfl, g, ht, hg0, hg1, hw⟩; have HW := Lib.hid hw; clear hw)
      go_ret
      exact ⟨rfl, HB.out.trans HW.out⟩

set_option maxRecDepth 100000 in
set_option maxHeartbeats 1000000 in
theorem Def_any (er : Option Er) (v : Value) (w : World) (h : ErAt w er v) (hE : EV w) : Calls Tryd.prog 18 #[v] w fun e w' => e = .returned (.string (defOf er)) ∧ Below w.heap.size w w' := by
  obtain ⟨d, hd⟩ : ∃ d, defOf er = d := ⟨_, rfl⟩
  obtain ⟨k0, hk0⟩ : ∃ k, (match er with | none => 0 | some e => e.depth + 1) = k := ⟨_, rfl⟩
  have h0 : HeadDef w d k0 ⟨#[]⟩ v := by
    cases er with
    | none => exact .inl ⟨h, hd, hk0.symm⟩
    | some e => exact .inr ⟨e, h, hd, hk0.symm⟩
  rw [hd]
  have H0 := Lib.hid h0
  have HE := Lib.hid hE
  have HN : Hid (w.heap.size ≠ 1) := Lib.hid (by have : (1 : Nat) < w.heap.size := World.block_lt_of_cell? w ⟨1, 0, none⟩ hE; omega)
  clear h0 hk0 hd h hE
  go_enter Tryd.func18, Tryd.ntmps18
  go_wp2
  go_loopg [0, 3] k0 (fun k v d' w' => ∃ s : ByteArray, d' = .string s ∧ HeadDef w' d k s v ∧ (∃ x, w'.heap[w.heap.size]? = some (.cells #[x] 87 (0,0))) ∧ EV w' ∧ Aside (Below w.heap.size w w'))
  case atStart => exact ⟨_, rfl, H0.out.below ((Below.refl _ _).alloc (Nat.le_refl _) _), ⟨_, heap_new _ _⟩, HE.out.below ((Below.refl _ _).alloc (Nat.le_refl _) _), ⟨(Below.refl _ _).alloc (Nat.le_refl _) _⟩⟩
  case round =>
    clear H0 HE
    obtain ⟨s, rfl, hh, ⟨x, hx⟩, hE, hB⟩ := hrel
    rcases hh with ⟨rfl, rfl, rfl⟩ | ⟨e, he, hd, hk⟩
    · go_wp2
      go_ret
      exact ⟨rfl, hB.out⟩
    · obtain ⟨T, a, rfl, _⟩ := he.shape
      rcases hf : e.first with _ | ⟨s', e'⟩
      · have hC := Lib.hid (As_Named_no e _ wr.heap.size w.heap.size x wr he hx hE hf)
        have hd' : s = d := by
          have h1 := defOf_first (e := e) (d := s)
          rw [hf] at h1
          exact h1.symm.trans hd
        subst hd'
        clear hd hf he hx hE hk
        go_wp2_with (go_at_call 45; refine hC.out.mono ?_; rintro e w' ⟨rfl, hw⟩; have HW := Aside.mk hw; clear hw)
        go_ret
        exact ⟨rfl, hB.out.trans (HW.out.mono hB.out.size)⟩
      · have hC := Lib.hid (As_Named_hit e _ wr.heap.size w.heap.size x wr he hx hE HN.out hf)
        have hd' : e'.defOf s' = d := by
          have h1 := defOf_first (e := e) (d := s)
          rw [hf] at h1
          exact h1.symm.trans hd
        have hD := Lib.hid hd'
        have hdep := first_depth hf
        clear hd hf he hx hE hd'
        go_wp2_with (go_at_call 45; refine hC.out.mono ?_; rintro e w' ⟨rfl, g, u, ht, hg0, hg1, htb, hu, hEE, hw⟩; have HW := Aside.mk hw; have HT := Lib.hid htb; have HU := Lib.hid hu; have HEE := Lib.hid hEE; clear hw htb hu hEE)
        obtain ⟨T', a', hua, _⟩ := HU.out.shape
        subst hua
        go_quiet (fail)
        go_wp2
        go_roundg (e'.depth + 1)
        case measure => omega
        case rel => exact ⟨_, rfl, .inr ⟨e', (HU.out).drewN _, hD.out, rfl⟩, HT.out, HEE.out, ⟨Below.drewN' (hB.out.trans HW.out) _⟩⟩
end Go.Proofs.YtedgebnmllinlaaDoor.Fault
