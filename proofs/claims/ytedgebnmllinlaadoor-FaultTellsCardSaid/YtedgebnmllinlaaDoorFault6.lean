/-
  Contracts of package fault over this seat's translation: what errors.Is, errors.As and the functions of package fault return at errors that the program makes. Conditions: each contract's own.
-/
import Derived.Test.YtedgebnmllinlaaDoorProg
import Derived.WalkKit
import Derived.LaidEql
import Derived.Stop.Asserts
import Derived.RowKitTokens
import Derived.Below
import Derived.Lib.Hide
import Derived.Deep.LoopGhost
import Derived.Test.YtedgebnmllinlaaDoorFault5
import Derived.Deep.Slices
import Derived.ChangeSame
import Derived.WideShapes
import Derived.WideLaws
open Go Go.RowKit Go.Extern.Stop Go.Stop Go.Extern
namespace Go.Proofs.YtedgebnmllinlaaDoor.Fault

set_option linter.unusedVariables false
set_option linter.unusedSimpArgs false
def Wraps (w : World) (A : Option Addr) (n : Nat) (ws : List (ByteArray × Bool)) : Prop :=
  ws.length = n ∧ ∀ i, i < n → ∃ ad, A = some ad ∧ w.cell? (ad.add (i * 2)) = some (.string (ws.getD i (⟨#[]⟩, false)).1) ∧ w.cell? ⟨(ad.add (i * 2)).block, (ad.add (i * 2)).off + 1, none⟩ = some (.bool (ws.getD i (⟨#[]⟩, false)).2)
theorem Wraps.below {w w' : World} (hb : Below w.heap.size w w') {A : Option Addr} {n : Nat} {ws : List (ByteArray × Bool)} (h : Wraps w A n ws) : Wraps w' A n ws := by
  refine ⟨h.1, fun i hi => ?_⟩
  obtain ⟨ad, e, h1, h2⟩ := h.2 i hi
  exact ⟨ad, e, (hb.cell (World.block_lt_of_cell? w _ h1)).trans h1, (hb.cell (World.block_lt_of_cell? w _ h2)).trans h2⟩
structure Good (w : World) (c a : Int) (v : Value) : Prop where mk ::
  (out : ∃ er : Er, er.At w v ∧ er.root = some (c, a) ∧ ∀ d, er.defOf d = ⟨#[102, 105, 114, 115, 116]⟩)
set_option maxRecDepth 100000 in
set_option maxHeartbeats 4000000 in
theorem FaultStays_walk (c a : Int) (A : Option Addr) (n cap : Nat) (ws : List (ByteArray × Bool)) (w : World) (hn : n ≤ 9223372036854775807) (hw : Wraps w A n ws) (hE : EV w) :
    Calls Tryd.prog 4 #[.int .i64 c, .int .i64 a, .slice A n cap] w fun e w' => e = .returned (.bool true) ∧ Below w.heap.size w w' := by
  have HE := Lib.hid hE
  have HB := Lib.hid (Below.refl w.heap.size w)
  by_cases hg : ((n : Int) > 40)
  · clear hE hw
    go_enter Tryd.func4, Tryd.ntmps4
    go_wp2_with (go_at_call 11; refine (awake_any _ HE.out).mono ?_; rintro e w' ⟨rfl, hb⟩; have HB2 := Lib.hid hb; clear hb)
    go_ret
    exact ⟨rfl, HB2.out⟩
  · by_cases hz : c = 0
    · have hz1 : (c == 0) = true := by simpa using hz
      clear hE hw hz
      go_enter Tryd.func4, Tryd.ntmps4
      go_wp2_with (go_at_call 11; refine (awake_any _ HE.out).mono ?_; rintro e w' ⟨rfl, hb⟩; have HB2 := Lib.hid hb; clear hb)
      go_ret
      exact ⟨rfl, HB2.out⟩
    · have hz1 : (c == 0) = false := by simpa using hz
      have HW := Lib.hid hw
      clear hE hw hz
      go_enter Tryd.func4, Tryd.ntmps4
      go_wp2_with fail
      refine (New_some c a _ hz1).mono ?_
      rintro e w1 ⟨rfl, rfl⟩
      go_wp2_with fail
      refine (In_some _ _ _ _).mono ?_
      rintro e w2 ⟨rfl, rfl⟩
      have hG : Good ((w.alloc (.cells #[.int .i64 c, .int .i64 a] 86)).alloc (.cells #[.string ⟨#[102, 105, 114, 115, 116]⟩, .iface 82 (.pointer (some ⟨w.heap.size, 0, none⟩))] 90)) c a (.iface 87 (.pointer (some ⟨w.heap.size + 1, 0, none⟩))) :=
        ⟨.named ⟨#[102, 105, 114, 115, 116]⟩ (.place c a), ⟨_, _, rfl, by simpa using heap_new (w.alloc (.cells #[.int .i64 c, .int .i64 a] 86)) _, ⟨_, rfl, (Below.heap_alloc _ _ _ (by simp)).trans (heap_new w _)⟩⟩, rfl, fun _ => rfl⟩
      have hB2 : Below w.heap.size w ((w.alloc (.cells #[.int .i64 c, .int .i64 a] 86)).alloc (.cells #[.string ⟨#[102, 105, 114, 115, 116]⟩, .iface 82 (.pointer (some ⟨w.heap.size, 0, none⟩))] 90)) := ((Below.refl _ _).alloc (Nat.le_refl _) _).alloc (by simp) _
      have HG := Lib.hid hG
      have HB2 := Lib.hid hB2
      clear hG hB2
      go_wp2_with fail
      go_loopw [7, 8] (fun v7 v8 w' => ∃ k : Nat, v8 = .int .i64 k ∧ k ≤ n ∧ Good w' c a v7 ∧ Aside (Below w.heap.size w w')) (fun _ i _ => n - (intOf i).toNat)
      case atStart => exact ⟨0, rfl, Nat.zero_le _, HG.out, ⟨HB2.out⟩⟩
      case round =>
        clear HG HB2 HB
        obtain ⟨k, rfl, hk, hG, hB⟩ := hrel
        by_cases hlt : k < n
        · obtain ⟨er, he, hr, hd⟩ := hG.out
          obtain ⟨T, x, rfl, _⟩ := he.shape
          obtain ⟨ad, rfl, h1, h2⟩ := HW.out.2 k hlt
          have c1 := (hB.out.cell (World.block_lt_of_cell? w _ h1)).trans h1
          have c2 := (hB.out.cell (World.block_lt_of_cell? w _ h2)).trans h2
          have H1 := Lib.hid hr
          have H2 := Lib.hid hd
          have HA := Lib.hid he
          clear h1 h2 hr hd he hG
          generalize hs : (ws.getD k (⟨#[]⟩, false)).1 = s at c1
          generalize ho : (ws.getD k (⟨#[]⟩, false)).2 = o at c2
          clear hs ho
          have hcc : (c != c) = false := by simp
          have haa : (a != a) = false := by simp
          have hss : ((([102, 105, 114, 115, 116] : List UInt8)) != [102, 105, 114, 115, 116]) = false := by decide
          cases o
          · go_wp2_with fail
            refine (In_any s (some er) _ _ HA.out).mono ?_
            rintro e w1 ⟨v', rfl, hv, hb⟩
            obtain ⟨T', x', rfl, _⟩ := Er.At.shape hv
            have HV : Hid (ErAt w1 (some (.named s er)) _) := Lib.hid hv
            have HR := Lib.hid (show (Er.named s er).root = some (c, a) from H1.out)
            have HD := Lib.hid (show ∀ d, (Er.named s er).defOf d = ⟨#[102, 105, 114, 115, 116]⟩ from fun _ => H2.out s)
            have HB := Lib.hid (hB.out.trans (hb.mono hB.out.size))
            clear hv hb H1 H2 HA
            go_wp2_with fail
            refine (Code_any _ _ _ HV.out (HE.out.below HB.out)).mono ?_
            rintro e w2 ⟨rfl, hb⟩
            rw [show codeOf (some _) = c by simp [codeOf, HR.out]]
            replace HV := Lib.hid (HV.out.below hb)
            replace HB := Lib.hid (HB.out.trans (hb.mono HB.out.size))
            clear hb
            go_wp2_with fail
            refine (At_any _ _ _ HV.out (HE.out.below HB.out)).mono ?_
            rintro e w3 ⟨rfl, hb⟩
            rw [show atOf (some _) = a by simp [atOf, HR.out]]
            replace HV := Lib.hid (HV.out.below hb)
            replace HB := Lib.hid (HB.out.trans (hb.mono HB.out.size))
            clear hb
            go_wp2_with fail
            refine (Def_any _ _ _ HV.out (HE.out.below HB.out)).mono ?_
            rintro e w4 ⟨rfl, hb⟩
            rw [show defOf (some (Er.named s er)) = ⟨#[102, 105, 114, 115, 116]⟩ from HD.out ⟨#[]⟩]
            replace HV := Lib.hid (HV.out.below hb)
            replace HB := Lib.hid (HB.out.trans (hb.mono HB.out.size))
            clear hb
            go_wp2_with fail
            refine (Is_any' _ _ _ _ HV.out).mono ?_
            rintro e w5 ⟨rfl, rfl⟩
            rw [show isOf (some _) c = true by simp [isOf, Er.is, HR.out]]
            go_wp2
            go_roundw
            case rel => exact ⟨k + 1, by go_num, by omega, ⟨_, HV.out, HR.out, HD.out⟩, ⟨HB.out⟩⟩
            case measure => simp [intOf]; omega
          · go_wp2_with fail
            have hb := (Below.refl wr.heap.size wr).alloc (Nat.le_refl _) (.cells #[.iface T (.pointer (some x))] 47)
            have HV : Hid (ErAt (wr.alloc (.cells #[.iface T (.pointer (some x))] 47)) (some (.strange er)) (.iface 45 (.pointer (some ⟨wr.heap.size, 0, none⟩)))) := Lib.hid ⟨_, _, rfl, heap_new _ _, Er.At.below hb HA.out⟩
            have HR := Lib.hid (show (Er.strange er).root = some (c, a) from H1.out)
            have HD := Lib.hid (show ∀ d, (Er.strange er).defOf d = ⟨#[102, 105, 114, 115, 116]⟩ from fun d => H2.out d)
            have HB := Lib.hid (hB.out.trans (hb.mono hB.out.size))
            clear hb H1 H2 HA
            refine (Code_any _ _ _ HV.out (HE.out.below HB.out)).mono ?_
            rintro e w2 ⟨rfl, hb⟩
            rw [show codeOf (some _) = c by simp [codeOf, HR.out]]
            replace HV := Lib.hid (HV.out.below hb)
            replace HB := Lib.hid (HB.out.trans (hb.mono HB.out.size))
            clear hb
            go_wp2_with fail
            refine (At_any _ _ _ HV.out (HE.out.below HB.out)).mono ?_
            rintro e w3 ⟨rfl, hb⟩
            rw [show atOf (some _) = a by simp [atOf, HR.out]]
            replace HV := Lib.hid (HV.out.below hb)
            replace HB := Lib.hid (HB.out.trans (hb.mono HB.out.size))
            clear hb
            go_wp2_with fail
            refine (Def_any _ _ _ HV.out (HE.out.below HB.out)).mono ?_
            rintro e w4 ⟨rfl, hb⟩
            rw [show defOf (some (Er.strange er)) = ⟨#[102, 105, 114, 115, 116]⟩ from HD.out ⟨#[]⟩]
            replace HV := Lib.hid (HV.out.below hb)
            replace HB := Lib.hid (HB.out.trans (hb.mono HB.out.size))
            clear hb
            go_wp2_with fail
            refine (Is_any' _ _ _ _ HV.out).mono ?_
            rintro e w5 ⟨rfl, rfl⟩
            rw [show isOf (some _) c = true by simp [isOf, Er.is, HR.out]]
            go_wp2
            go_roundw
            case rel => exact ⟨k + 1, by go_num, by omega, ⟨_, HV.out, HR.out, HD.out⟩, ⟨HB.out⟩⟩
            case measure => simp [intOf]; omega
        · go_wp2_with fail
          refine (awake_any _ (HE.out.below hB.out)).mono ?_
          rintro e w2 ⟨rfl, hb⟩
          have HB := Lib.hid (hB.out.trans (hb.mono hB.out.size))
          clear hb
          go_wp2
          go_ret
          exact ⟨rfl, HB.out⟩
set_option maxRecDepth 100000 in
open Go.ChangeShapes Go.WideShapes Go.Deep in
theorem open_wraps {H : Type} {enc : TypeId × Value → H} {W : World} {A : Option Addr} {n cap : Nat} {d : DataW H} {p : List MemPlace} (h : DataW.Trod enc Tryd.prog W 0 (fun _ => true) true 23 (.slice A n cap) d p) : ∃ ws, Wraps W A n ws ∧ n ≤ maxLen := by
  obtain ⟨fuel, hf⟩ := h
  rcases open_slice Tryd.underlying23 hf with ⟨hcs, _⟩ | ⟨a, len, cap', m, k, D, Pl, hcs, _, hl, hm, hmm, _, hx⟩
  · simp [Value.cells] at hcs
    obtain ⟨rfl, rfl, rfl⟩ := hcs
    exact ⟨[], ⟨rfl, fun i hi => absurd hi (by omega)⟩, by unfold maxLen; omega⟩
  · simp [Value.cells] at hcs
    obtain ⟨rfl, rfl, rfl⟩ := hcs
    have c2 : Tryd.prog.cellsOf 44 = 2 := by kernel_rfl
    have cs1 : Tryd.prog.cellsOf 9 = 1 := by kernel_rfl
    have cb1 : Tryd.prog.cellsOf 4 = 1 := by kernel_rfl
    have key : ∀ i, i < n → ∃ x : ByteArray × Bool, W.cell? (a.add (i * 2)) = some (.string x.1) ∧ W.cell? ⟨(a.add (i * 2)).block, (a.add (i * 2)).off + 1, none⟩ = some (.bool x.2) := by
      intro i hi
      obtain ⟨cs', h1, h2⟩ := hx i (by rw [hmm]; simp; omega)
      rw [c2] at h1
      obtain ⟨y0, y1, k', _, hlen, t0, t1⟩ := trod_struct2 Tryd.underlying44 h2
      obtain ⟨_, hl2, hc⟩ := World.cells?_some h1
      match cs', hl2 with
      | [x0, x1], _ =>
        obtain ⟨s, e0, _⟩ := DataW.trod_string Tryd.underlying9 (by simpa using t0)
        obtain ⟨b, e1, _⟩ := DataW.trod_bool Tryd.underlying4 (by simpa using t1)
        obtain rfl : x0 = .string s := by simpa [cs1] using e0
        obtain rfl : x1 = .bool b := by simpa [cb1] using e1
        refine ⟨(s, b), by simpa [add_add] using hc 0 (by omega), ?_⟩
        have := hc 1 (by omega)
        simp only [Addr.add, if_neg (show ¬ (1 : Nat) = 0 by omega)] at this
        simpa [Addr.add] using this
    obtain ⟨f, hf'⟩ := choose_lt key
    refine ⟨(List.range n).map f, ⟨by simp, fun i hi => ⟨a, rfl, ?_⟩⟩, by omega⟩
    have e : ((List.range n).map f).getD i (⟨#[]⟩, false) = f i := by simp [List.getD, hi]
    rw [e]
    exact hf' i hi
end Go.Proofs.YtedgebnmllinlaaDoor.Fault
