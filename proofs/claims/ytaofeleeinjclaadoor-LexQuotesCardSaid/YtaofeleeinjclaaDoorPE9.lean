/-
  Bytes and texts; every operation; a region in the order of the text. Conditions: each law's own.
-/
import Derived.Test.YtaofeleeinjclaaDoorPE8
namespace Go.PE
open Go Go.RowKit
set_option linter.unusedVariables false
set_option linter.unusedSimpArgs false
section
variable {nt : Nat} {P : Program} {G : Glob} {C : Ctx} {S : St} {w : World} {ts : Tmps} {a : Act} {o : Oper} {v : PV}

theorem chunk_one : ∀ l : List PV, chunk 1 l.length l = l.map ([·])
  | [] => rfl
  | x :: l => by simp [chunk, chunk_one l]

theorem does_s2b (hW : WRel G C S w) (hT : TR nt C w ts a.tmps) {s d e : TypeId} {x : Operand} {ex : EOpd} (ho : o.op = .convert s d x) (hs : P.underlying s = some .string) (hd : P.underlying d = some (.slice e)) (he : P.underlying e = some (.int .u8)) (hx : cOpd x = some ex) {r : ByteArray}
    (hp : ex.val G ts = some (.str r)) : Does P G C w S (.sl .ro (rowsOfBytes r.data.toList)) o a := by
  have e1 := (opd_rep hW hT hx hp).str_inv
  have hb : Below w.heap.size w (Lib.bytesWorld w e r) := ⟨rfl, rfl, rfl, by rw [Lib.bytesWorld_size]; omega, fun k hk => Lib.bytesWorld_at_old w e r k hk⟩
  refine Does.below hW hb (v' := .slice (some ⟨w.heap.size, 0, none⟩) r.size (grownCap w r.size 0 e)) ?_ ?_
  · simp only [execOp, ho, e1, Sem.run_bind, Lib.run_convert_string_bytes w s d e r hs hd he, Result.andThen_ok, Sem.run_pure]
  · have hrows : rowsOfBytes r.data.toList = chunk 1 r.size (r.data.toList.map fun b => PV.int .u8 (b.toNat : Int)) := by
      have := chunk_one (r.data.toList.map fun b => PV.int .u8 (b.toNat : Int))
      have hsz : (r.data.toList.map fun b => PV.int .u8 (b.toNat : Int)).length = r.size := by simp
      rw [hsz] at this
      rw [this, rowsOfBytes, List.map_map]; rfl
    rw [hrows]
    refine rep_newRow (Lib.bytesWorld_at_new w e r) (by rw [Lib.bytesWorld_size]; omega) (by simp) (grownCap_ge w _ _ _) (fun k hk => by have := hW.m_lt hk; omega) (fun k fr hk => by have := (hW.odom k _ fr hk).2; omega) (fun i p hp => ?_) _ (.inl rfl)
    rw [List.getElem?_map, Option.map_eq_some_iff] at hp
    obtain ⟨b, hb, rfl⟩ := hp
    refine ⟨rfl, .int .u8 b.toNat, ?_, .int _ _⟩
    have hi : i < r.data.size := by have := getElem?_lt hb; simpa using this
    rw [Array.getElem?_toList] at hb
    have hi' : i < r.size := hi
    simp [Lib.bytesCells, Array.getElem?_append, hi, hb]
    omega

theorem bytesOf_get : ∀ {xs : List (List PV)} {l : List UInt8}, bytesOf xs = some l → l.length = xs.length ∧ ∀ (j : Nat) r, xs[j]? = some r → ∃ n : Int, r = [.int .u8 n] ∧ l[j]? = some (UInt8.ofNat n.toNat)
  | [], l, h => by simp [bytesOf] at h; subst h; simp
  | [] :: xs, l, h => by simp [bytesOf] at h
  | (p :: q :: r) :: xs, l, h => by unfold bytesOf at h; split at h <;> simp_all
  | [p] :: xs, l, h => by
    cases p <;> try (simp [bytesOf] at h; done)
    rename_i k n
    cases k <;> try (simp [bytesOf] at h; done)
    simp only [bytesOf] at h
    split at h
    · simp only [Option.map_eq_some_iff] at h
      obtain ⟨m, hm, rfl⟩ := h
      obtain ⟨h1, h2⟩ := bytesOf_get hm
      refine ⟨by simp [h1], fun j r hj => ?_⟩
      cases j with
      | zero => simp at hj; subst hj; exact ⟨n, rfl, by simp⟩
      | succ j => exact h2 j r (by simpa using hj)
    · cases h

theorem foldl_push (l : List Int) (s : ByteArray) : l.foldl (fun r n => r.push (UInt8.ofNat n.toNat)) s = ⟨s.data ++ (l.map fun n => UInt8.ofNat n.toNat).toArray⟩ := by
  induction l generalizing s with
  | nil => simp
  | cons n l ih =>
    rw [List.foldl_cons, ih]
    simp [ByteArray.push]

theorem does_b2s (hW : WRel G C S w) (hT : TR nt C w ts a.tmps) {s d e : TypeId} {x : Operand} {ex : EOpd} (ho : o.op = .convert s d x) (hs : P.underlying s = some (.slice e)) (hd : P.underlying d = some .string) (he : P.underlying e = some (.int .u8)) (hx : cOpd x = some ex) {g : Tag} {xs : List (List PV)} {l : List UInt8}
    (hp : ex.val G ts = some (.sl g xs)) (hl : bytesOf xs = some l) : Does P G C w S (.str ⟨l.toArray⟩) o a := by
  obtain ⟨hl1, hl2⟩ := bytesOf_get hl
  have hr := opd_rep hW hT hx hp
  refine Does.pure hW (v' := .string ⟨l.toArray⟩) ?_ (.str _)
  by_cases hne : xs = []
  · subst hne
    simp [bytesOf] at hl; subst hl
    generalize eu : a.eval x = u at hr
    cases hr with | sl g xs ad n cap sz hn hcap hsz hnull hexact hrow ha hc hrep hown =>
    simp at hn; subst hn
    have hconv : (Go.convert s d (.slice ad 0 cap)).run P w = .ok (.string ⟨#[]⟩) w := by
      cases ad <;> simp [Go.convert, underlying_run hs, underlying_run hd, underlying_run he, Conv.bytesToString, loadCells, loadCellsFrom] <;> rfl
    simp [execOp, ho, eu, hconv]
  · have hhd : headOk 1 xs = true := by
      cases xs with
      | nil => exact absurd rfl hne
      | cons r xs =>
        obtain ⟨n, e, _⟩ := hl2 0 r rfl
        subst e; rfl
    obtain ⟨b, off, cap, eu, hb, him, hsz, us, hul, huc, hur⟩ := row_cells hr (Nat.one_pos) hhd hne
    -- the bytes as numbers
    let ns : List Int := us.map fun v => match v with | .int _ n => n | _ => 0
    have hus : us = ns.map (Value.int .u8) := by
      apply List.ext_getElem?
      intro j
      by_cases hj : j < xs.length
      · have hx1 := List.getElem?_eq_getElem hj
        obtain ⟨n, e, _⟩ := hl2 j _ hx1
        have hj' : j < us.length := by omega
        have hu1 := List.getElem?_eq_getElem hj'
        have := (hur j _ 0 (.int .u8 n) us[j] hx1 (by rw [e]; rfl) (by rw [Nat.mul_one, Nat.add_zero]; exact hu1)).2.int_inv
        simp [ns, hu1, this]
      · rw [List.getElem?_eq_none (by omega), List.getElem?_eq_none (by simp [ns]; omega)]
    have hload : (loadCells ⟨b, off, none⟩ xs.length).run P w = .ok (ns.map (Value.int .u8)).toArray w := by
      have := run_loadCells_list (P := P) w ⟨b, off, none⟩ us (fun j v hv => by rw [addr_add]; exact (huc j v hv).1)
      rw [hul, Nat.mul_one] at this
      rw [this, hus]
    have hstr : ns.foldl (fun r n => r.push (UInt8.ofNat n.toNat)) ByteArray.empty = ⟨l.toArray⟩ := by
      rw [foldl_push]
      have : (ns.map fun n => UInt8.ofNat n.toNat) = l := by
        apply List.ext_getElem?
        intro j
        by_cases hj : j < xs.length
        · have hx1 := List.getElem?_eq_getElem hj
          obtain ⟨n, e, h2⟩ := hl2 j _ hx1
          have hj' : j < us.length := by omega
          have hu1 := List.getElem?_eq_getElem hj'
          have := (hur j _ 0 (.int .u8 n) us[j] hx1 (by rw [e]; rfl) (by rw [Nat.mul_one, Nat.add_zero]; exact hu1)).2.int_inv
          rw [h2]
          simp [ns, hu1, this]
        · rw [List.getElem?_eq_none (by simp [ns]; omega), List.getElem?_eq_none (by omega)]
      rw [this]; simp
    have hrun := run_bytesToString (P := P) w ⟨b, off, none⟩ xs.length cap ns hload
    rw [hstr] at hrun
    simp [execOp, ho, eu, Go.convert, underlying_run hs, underlying_run hd, underlying_run he, hrun]
end
end Go.PE
