/-
  Contracts of package fault over this seat's translation: what errors.Is, errors.As and the functions of package fault return at errors that the program makes. Conditions: each contract's own.
-/
import Derived.Test.YtedgebnmllinlaaDoorProg
import Derived.WalkKit
import Derived.LaidEql
import Derived.Stop.Asserts
import Derived.RowKitTokens
import Derived.Below
import Derived.Lib.Hide
import Derived.Deep.LoopGhost
import Derived.Test.YtedgebnmllinlaaDoorFault4
open Go Go.RowKit Go.Extern.Stop Go.Stop Go.Extern
namespace Go.Proofs.YtedgebnmllinlaaDoor.Fault

set_option linter.unusedVariables false
set_option linter.unusedSimpArgs false
theorem awake_any (w : World) (hE : EV w) : Calls Tryd.prog 11 #[] w fun e w' => e = .returned (.bool true) ∧ Below w.heap.size w w' := by
  have HE := Lib.hid hE
  clear hE
  go_enter Tryd.func11, Tryd.ntmps11
  go_wp2_with fail
  refine (New_some 4 3 _ rfl).mono ?_
  rintro e w1 ⟨rfl, rfl⟩
  go_wp2_with fail
  refine (In_some _ _ _ _).mono ?_
  rintro e w2 ⟨rfl, rfl⟩
  have hB : Below w.heap.size w ((w.alloc (.cells #[.int .i64 4, .int .i64 3] 86)).alloc (.cells #[.string ⟨#[102]⟩, .iface 82 (.pointer (some ⟨w.heap.size, 0, none⟩))] 90)) := ((Below.refl _ _).alloc (Nat.le_refl _) _).alloc (by simp) _
  have hA : ErAt ((w.alloc (.cells #[.int .i64 4, .int .i64 3] 86)).alloc (.cells #[.string ⟨#[102]⟩, .iface 82 (.pointer (some ⟨w.heap.size, 0, none⟩))] 90)) (some (.named ⟨#[102]⟩ (.place 4 3))) (.iface 87 (.pointer (some ⟨w.heap.size + 1, 0, none⟩))) :=
    ⟨_, _, rfl, by simpa using heap_new (w.alloc (.cells #[.int .i64 4, .int .i64 3] 86)) _, ⟨_, rfl, (Below.heap_alloc _ _ _ (by simp)).trans (heap_new w _)⟩⟩
  have HE2 := Lib.hid (HE.out.below hB)
  have HB := Lib.hid hB
  have HA := Lib.hid hA
  clear hA hB HE
  generalize hW : (w.alloc (.cells #[.int .i64 4, .int .i64 3] 86)).alloc (.cells #[.string ⟨#[102]⟩, .iface 82 (.pointer (some ⟨w.heap.size, 0, none⟩))] 90) = W at *
  clear hW
  go_wp2_with fail
  refine (show Calls Tryd.prog 14 _ _ fun e w' => e = .returned (.int .i64 4) ∧ _ from Code_any _ _ _ HA.out HE2.out).mono ?_
  rintro e w1 ⟨rfl, hb⟩
  replace HA := Lib.hid (HA.out.below hb)
  replace HE2 := Lib.hid (HE2.out.below hb)
  replace HB := Lib.hid (HB.out.trans (hb.mono HB.out.size))
  clear hb
  go_wp2_with fail
  refine (show Calls Tryd.prog 16 _ _ fun e w' => e = .returned (.int .i64 3) ∧ _ from At_any _ _ _ HA.out HE2.out).mono ?_
  rintro e w2 ⟨rfl, hb⟩
  replace HA := Lib.hid (HA.out.below hb)
  replace HE2 := Lib.hid (HE2.out.below hb)
  replace HB := Lib.hid (HB.out.trans (hb.mono HB.out.size))
  clear hb
  go_wp2_with fail
  refine (show Calls Tryd.prog 18 _ _ fun e w' => e = .returned (.string ⟨#[102]⟩) ∧ _ from Def_any _ _ _ HA.out HE2.out).mono ?_
  rintro e w3 ⟨rfl, hb⟩
  replace HA := Lib.hid (HA.out.below hb)
  replace HE2 := Lib.hid (HE2.out.below hb)
  replace HB := Lib.hid (HB.out.trans (hb.mono HB.out.size))
  clear hb
  go_wp2_with fail
  refine (show Calls Tryd.prog 13 _ _ fun e w' => e = .returned (.bool true) ∧ _ from Is_any' _ _ _ _ HA.out).mono ?_
  rintro e w4 ⟨rfl, rfl⟩
  go_wp2
  go_ret
  exact ⟨rfl, HB.out⟩
/-- 'FaultNone' returns true. -/
theorem FaultNone_walk (s : ByteArray) (c : Int) (w : World) (hE : EV w) : Calls Tryd.prog 5 #[.string s, .int .i64 c] w fun e w' => e = .returned (.bool true) ∧ Below w.heap.size w w' := by
  have HE := Lib.hid hE
  clear hE
  have HB := Lib.hid (Below.refl w.heap.size w)
  have hcc : ((c == 0) == (c == 0)) = true := by simp
  go_enter Tryd.func5, Tryd.ntmps5
  go_wp2_with fail
  refine (New_zero 3 _).mono ?_
  rintro e w1 ⟨rfl, rfl⟩
  go_wp2_with fail
  refine (In_nil _ _).mono ?_
  rintro e w2 ⟨rfl, rfl⟩
  go_wp2_with fail
  refine (show Calls Tryd.prog 14 _ _ fun e w' => e = .returned (.int .i64 0) ∧ _ from Code_any none _ _ rfl HE.out).mono ?_
  rintro e w1 ⟨rfl, hb⟩
  replace HE := Lib.hid (HE.out.below hb)
  replace HB := Lib.hid (HB.out.trans (hb.mono HB.out.size))
  clear hb
  go_wp2_with fail
  refine (show Calls Tryd.prog 16 _ _ fun e w' => e = .returned (.int .i64 (-1)) ∧ _ from At_any none _ _ rfl HE.out).mono ?_
  rintro e w2 ⟨rfl, hb⟩
  replace HE := Lib.hid (HE.out.below hb)
  replace HB := Lib.hid (HB.out.trans (hb.mono HB.out.size))
  clear hb
  go_wp2_with fail
  refine (show Calls Tryd.prog 18 _ _ fun e w' => e = .returned (.string ⟨#[]⟩) ∧ _ from Def_any none _ _ rfl HE.out).mono ?_
  rintro e w3 ⟨rfl, hb⟩
  replace HE := Lib.hid (HE.out.below hb)
  replace HB := Lib.hid (HB.out.trans (hb.mono HB.out.size))
  clear hb
  go_wp2_with fail
  refine (Is_nil c _).mono ?_
  rintro e w4 ⟨rfl, rfl⟩
  go_wp2_with fail
  refine (awake_any _ HE.out).mono ?_
  rintro e w5 ⟨rfl, hb⟩
  replace HB := Lib.hid (HB.out.trans (hb.mono HB.out.size))
  clear hb
  go_wp2
  go_ret
  exact ⟨rfl, HB.out⟩
end Go.Proofs.YtedgebnmllinlaaDoor.Fault
