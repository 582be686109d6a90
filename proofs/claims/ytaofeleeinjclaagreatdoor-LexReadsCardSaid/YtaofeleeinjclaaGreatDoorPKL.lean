/-
  strings.IndexByte and strconv.ParseInt, as functions that are known. Conditions: each law's own.
-/
import Derived.Test.YtaofeleeinjclaaGreatDoorPE18
import Derived.Test.YtaofeleeinjclaaGreatDoorShelf
import Derived.Lib.QuietBelow
import Derived.Lib.AtoiErrMem
namespace Go.PE
open Go Go.RowKit Go.Proofs
set_option linter.unusedVariables false
set_option linter.unusedSimpArgs false

def ibF : List PV → St → Option (PV × St)
  | [.str s, .int .u8 c], S => some (.int .i64 (Lib.indexByte s.data.toList c.toNat.toUInt8), S)
  | _, _ => none
theorem enter_ib : Enter Tryz.prog 91 := ⟨_, Tryz.func91, by kernel_rfl, by kernel_rfl⟩
theorem ibF_spec (G : Glob) (args : List PV) (S : St) (r : PV) (S' : St) (h : ibF args S = some (r, S')) : CallSpec Tryz.prog G 91 args S r S' := by
  intro C w vs hW hR
  unfold ibF at h
  split at h
  · rename_i s c
    injection h with h; injection h with e1 e2; subst e1 e2
    match vs, hR with
    | [], hR => have := hR.1; simp at this
    | [_], hR => have := hR.1; simp at this
    | _ :: _ :: _ :: _, hR => have := hR.1; simp at this
    | [v, u], hR =>
    have rp := hR.2 0 _ v rfl rfl
    have rq := hR.2 1 _ u rfl rfl
    cases rp; cases rq
    refine (Tryz.strings_IndexByte s c w).mono ?_
    rintro e w' ⟨rfl, rfl⟩
    exact ⟨C, _, rfl, .int _ _, hW, .refl C _⟩
  · cases h
/-- The block of strconv.ErrRange. -/
def ErIs (G : Glob) : Prop := ∃ v t z, G.blk 3 = some (.cells #[v] t z) ∧ (v = .nilIface ∨ ∃ te pe, v = .iface te pe)
def piF : List PV → St → Option (PV × St)
  | [.str s, .int .i64 b, .int .i64 n], S => if b = 10 ∧ n = 64 ∧ s.size ≤ 281474976710656 then
      match Lib.parseIntB 64 s.data.toList with
      | .ok v => some (.tup [.int .i64 v, .nilifc], S)
      | .range => some (.tup [.int .i64 (Lib.intSat 64 s.data.toList), .ifc 167 (.at_ [])], S)
      | _ => none
    else none
  | _, _ => none
theorem enter_pi : Enter Tryz.prog 95 := ⟨_, Tryz.func95, by kernel_rfl, by kernel_rfl⟩
theorem piF_spec (G : Glob) (hG : ErIs G) (args : List PV) (S : St) (r : PV) (S' : St) (h : piF args S = some (r, S')) : CallSpec Tryz.prog G 95 args S r S' := by
  intro C w vs hW hR
  unfold piF at h
  split at h
  · rename_i s b n
    split at h
    · rename_i hc
      obtain ⟨rfl, rfl, hs⟩ := hc
      match vs, hR with
      | [], hR => have := hR.1; simp at this
      | [_], hR => have := hR.1; simp at this
      | [_, _], hR => have := hR.1; simp at this
      | _ :: _ :: _ :: _ :: _, hR => have := hR.1; simp at this
      | [v, u, x], hR =>
      have rp := hR.2 0 _ v rfl rfl
      have rq := hR.2 1 _ u rfl rfl
      have rx := hR.2 2 _ x rfl rfl
      cases rp; cases rq; cases rx
      split at h
      · rename_i m hm
        injection h with h; injection h with e1 e2; subst e1 e2
        refine (Tryz.strconv_ParseInt_10_at64_ok s (by omega) m hm w).mono ?_
        have two : ∀ w' : World, Rep C w' (.tup [.int .i64 m, .nilifc]) (.tuple #[.int .i64 m, .nilIface]) := fun w' => by
          refine .tup _ _ rfl fun i p v hp hv => ?_
          match i with
          | 0 => simp at hp hv; subst hp hv; exact .int _ _
          | 1 => simp at hp hv; subst hp hv; exact .nilifc
          | i + 2 => simp at hp
        rintro e w' ⟨rfl, rfl | ⟨t, rfl⟩⟩
        · exact ⟨C, _, rfl, two _, hW, .refl C _⟩
        · have hb : Below w.heap.size w (Lib.bytesWorld w 5 t) := Lib.bytesWorld_below w 5 t
          exact ⟨C, _, rfl, two _, hW.of_below hb, .of_below hb C⟩
      · rename_i hm
        injection h with h; injection h with e1 e2; subst e1 e2
        obtain ⟨ev, tt, zz, hb, hev⟩ := hG
        obtain ⟨h1, _, _⟩ := hW.blk _ _ hb
        have hcell : w.cell? ⟨3, 0, none⟩ = some ev := by simp [World.cell?, h1]
        refine (Tryz.strconv_ParseInt_10_at64_range s hs hm ev w hcell hev).mono ?_
        rintro e w' ⟨N, rfl, hN, hN2, hbl⟩
        refine ⟨C, _, rfl, ?_, hW.of_below hbl, .of_below hbl C⟩
        refine .tup _ _ rfl fun i p v hp hv => ?_
        match i with
        | 0 => simp at hp hv; subst hp hv; exact .int _ _
        | 1 =>
          simp at hp hv; subst hp hv
          refine .ifc _ _ _ (.at_ [] N 0 (Array.getElem?_eq_some_iff.1 hN2).1 ⟨fun k hk => ?_, fun k fr hk => ?_⟩ (by simp) (by simp) (by simp))
          · have := hW.m_lt hk; omega
          · have := (hW.odom k _ fr hk).2; omega
        | i + 2 => simp at hp
      · cases h
    · cases h
  · cases h
end Go.PE
