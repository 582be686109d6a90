/-
  The document's Quote. Conditions: each law's own.
-/
import Derived.Test.YtleggogbmklddaaGreatDoorQT
namespace Go.PE
open Go Go.RowKit Go.Proofs
set_option linter.unusedVariables false
set_option linter.unusedSimpArgs false
set_option maxRecDepth 100000
section
variable {ot : TypeId} {oz : EP}
theorem digit_ok (k : Nat) (hk : k < 16) : Ans (env ot oz) 96 [.int .u8 (k : Int)] (.int .u8 ((hx k).toNat : Int)) := by
  refine ⟨2, fun S => ?_⟩
  have hc : k = 0 ∨ k = 1 ∨ k = 2 ∨ k = 3 ∨ k = 4 ∨ k = 5 ∨ k = 6 ∨ k = 7 ∨ k = 8 ∨ k = 9 ∨ k = 10 ∨ k = 11 ∨ k = 12 ∨ k = 13 ∨ k = 14 ∨ k = 15 := by omega
  have w : ∀ n : Int, 0 ≤ n → n ≤ 255 → IntKind.u8.wrap n = n := fun n h h' => IntWalk.u8_in n ⟨h, h'⟩
  rcases hc with rfl | rfl | rfl | rfl | rfl | rfl | rfl | rfl | rfl | rfl | rfl | rfl | rfl | rfl | rfl | rfl <;> (rw [call_plain (fn := c96) rfl rfl (by simp only [go_sem]) rfl (by decide)]; simp only [c96, c96_b, go_sem]) <;> rfl

theorem quot16 : ∀ n, n < 256 → IntKind.u8.wrap (((n : Nat) : Int).tdiv 16) = ((n / 16 : Nat) : Int) := by decide +kernel
theorem tmod16 : ∀ n, n < 256 → ((n : Nat) : Int).tmod 16 = ((n % 16 : Nat) : Int) := by decide +kernel

theorem quote2_loop (s : ByteArray) (hl : s.size ≤ 1099511627776) : ∃ N, ∀ (S : St) (fin : Kont (PV × St)) (st : List Fr) (rest : List UInt8) (i : Nat) (bs : List UInt8), s.data.toList.drop i = rest → bs.length + 4 * rest.length ≤ 70368744177664 → ∀ n, rest.length + N ≤ n →
    (lvl (env ot oz) n).ev c52_l0 [(0, some (.str s)), (3, some (.sl (accG .exact S 5 (bs.map rByte)) ([.int .u8 34] :: bs.map rByte))), (4, some (.int .i64 (i : Int)))] (accS S 1 [[.int .u8 34]] (bs.map rByte)) (kont (env ot oz) fin st) =
      kont (env ot oz) fin st (.exit 0) [(0, some (.str s)), (3, some (.sl (accG .exact S 5 ((bs ++ rest.flatMap qc).map rByte)) ([.int .u8 34] :: (bs ++ rest.flatMap qc).map rByte))), (4, some (.int .i64 ((i + rest.length : Nat) : Int))), (10, some (.bool false))] (accS S 1 [[.int .u8 34]] ((bs ++ rest.flatMap qc).map rByte)) := by
  have hd := size_data s
  obtain ⟨N, hN⟩ := all_le (p := fun n (k : Nat) => ∀ S, (lvl (env ot oz) n).call 96 [.int .u8 (k : Int)] S = some (.int .u8 ((hx k).toNat : Int), S)) (fun n m k hm h S => call_mono hm (h S)) (l := List.range 16) (fun k hk => digit_ok (ot := ot) (oz := oz) k (by simpa using hk))
  refine ⟨N + 2, fun S fin st rest => ?_⟩
  induction rest with
  | nil =>
    intro i bs h hb n hn
    obtain ⟨k, rfl⟩ : ∃ k, n = k + 1 := ⟨n - 1, by omega⟩
    have hlt := lt_no (drop_nil h)
    rw [hd] at hlt
    (rw [c52_l0_step]; simp only [c52_l0_b, c52_r6, c52_r10, go_sem, hlt, List.flatMap_nil])
  | cons c r ihr =>
    intro i bs h hb n hn
    obtain ⟨k, rfl⟩ : ∃ k, n = k + 1 := ⟨n - 1, by omega⟩
    obtain ⟨h1, h2, h3⟩ := drop_cons h
    simp only [List.length_cons] at hb hn
    have e : i + (c :: r).length = i + 1 + r.length := by simp only [List.length_cons]; omega
    have hb2 : c.toNat < 256 := c.toNat_lt
    have w := wrap_succ (i := i) (n := s.data.toList.length) h3 (by omega)
    have hlt : (i : Int) < (s.size : Int) := by omega
    have ap := fun (ds : List UInt8) (hd0 : ds ≠ []) (hd : ds.length ≤ 4) => acc_app (.inr rfl) S 5 1 1 [[.int .u8 34]] (bs.map rByte) (ds.map rByte) (by simpa using hd0) (by decide) (by simp; omega) (by simp; omega) rfl (rByte_ok ds)
    have ih := fun ds (hd : ds.length ≤ 4) => ihr (i + 1) (bs ++ ds) h2 (by simp only [List.length_append]; omega) k (by omega)
    rw [e]
    cases q1 : ((c.toNat : Int) == 34) with
    | true =>
      have qe : qc c = [92, c] := by simp [qc, q1]
      have ih := ih [92, c] (by simp)
      have ap := ap [92, c] (by simp) (by simp)
      simp only [List.flatMap_cons, qe]
      simp only [List.map_append, List.map_cons, List.map_nil, rByte_eq, UInt8.reduceToNat, Int.cast_ofNat_Int, List.cons_append, List.nil_append, List.append_assoc] at ih ap
      (rw [c52_l0_step]; simp only [c52_l0_b, c52_r6, c52_r10, go_sem, hlt, h1, q1, w, ih, ap, UInt8.reduceToNat])
    | false =>
      cases q2 : ((c.toNat : Int) == 92) with
      | true =>
        have qe : qc c = [92, c] := by simp [qc, q2]
        have ih := ih [92, c] (by simp)
        have ap := ap [92, c] (by simp) (by simp)
        simp only [List.flatMap_cons, qe]
        simp only [List.map_append, List.map_cons, List.map_nil, rByte_eq, UInt8.reduceToNat, Int.cast_ofNat_Int, List.cons_append, List.nil_append, List.append_assoc] at ih ap
        (rw [c52_l0_step]; simp only [c52_l0_b, c52_r6, c52_r10, go_sem, hlt, h1, q1, q2, w, ih, ap, UInt8.reduceToNat])
      | false =>
        cases q3 : ((c.toNat : Int) == 10) with
        | true =>
          have qe : qc c = [92, 110] := by simp [qc, q1, q2, q3]
          have ih := ih [92, 110] (by simp)
          have ap := ap [92, 110] (by simp) (by simp)
          simp only [List.flatMap_cons, qe]
          simp only [List.map_append, List.map_cons, List.map_nil, rByte_eq, UInt8.reduceToNat, Int.cast_ofNat_Int, List.cons_append, List.nil_append, List.append_assoc] at ih ap
          (rw [c52_l0_step]; simp only [c52_l0_b, c52_r6, c52_r10, go_sem, hlt, h1, q1, q2, q3, w, ih, ap, UInt8.reduceToNat])
        | false =>
          have hexes : (c.toNat : Int) < 32 ∨ 126 < (c.toNat : Int) → qc c = [92, 120, hx (c.toNat / 16), hx (c.toNat % 16)] := fun hh => by simp only [qc, q1, q2, q3, Bool.or_self, Bool.false_eq_true, if_false, hh, if_true]
          have s1 := quot16 c.toNat hb2
          have s2 := tmod16 c.toNat hb2
          have g1 := hN (c.toNat / 16) (by simp; omega)
          have g2 := hN (c.toNat % 16) (by simp; omega)
          have g1 := fun S => call_mono (show N ≤ k by omega) (g1 S)
          have g2 := fun S => call_mono (show N ≤ k by omega) (g2 S)
          by_cases q4 : 32 ≤ (c.toNat : Int)
          · by_cases q5 : (c.toNat : Int) ≤ 126
            · have qe : qc c = [c] := by simp only [qc, q1, q2, q3, Bool.or_self, Bool.false_eq_true, if_false]; rw [if_neg (by omega)]
              have ih := ih [c] (by simp)
              have ap := ap [c] (by simp) (by simp)
              simp only [List.flatMap_cons, qe]
              simp only [List.map_append, List.map_cons, List.map_nil, rByte_eq, UInt8.reduceToNat, Int.cast_ofNat_Int, List.cons_append, List.nil_append, List.append_assoc] at ih ap
              (rw [c52_l0_step]; simp only [c52_l0_b, c52_r6, c52_r10, go_sem, hlt, h1, q1, q2, q3, q4, q5, w, ih, ap, UInt8.reduceToNat])
            · have qe := hexes (.inr (by omega))
              have ih := ih [92, 120, hx (c.toNat / 16), hx (c.toNat % 16)] (by simp)
              have ap := ap [92, 120, hx (c.toNat / 16), hx (c.toNat % 16)] (by simp) (by simp)
              simp only [List.flatMap_cons, qe]
              simp only [List.map_append, List.map_cons, List.map_nil, rByte_eq, UInt8.reduceToNat, Int.cast_ofNat_Int, List.cons_append, List.nil_append, List.append_assoc] at ih ap
              (rw [c52_l0_step]; simp only [c52_l0_b, c52_r6, c52_r10, go_sem, hlt, h1, q1, q2, q3, q4, q5, w, ih, ap, UInt8.reduceToNat, s1, s2, g1, g2])
          · have qe := hexes (.inl (by omega))
            have ih := ih [92, 120, hx (c.toNat / 16), hx (c.toNat % 16)] (by simp)
            have ap := ap [92, 120, hx (c.toNat / 16), hx (c.toNat % 16)] (by simp) (by simp)
            simp only [List.flatMap_cons, qe]
            simp only [List.map_append, List.map_cons, List.map_nil, rByte_eq, UInt8.reduceToNat, Int.cast_ofNat_Int, List.cons_append, List.nil_append, List.append_assoc] at ih ap
            (rw [c52_l0_step]; simp only [c52_l0_b, c52_r6, c52_r10, go_sem, hlt, h1, q1, q2, q3, q4, w, ih, ap, UInt8.reduceToNat, s1, s2, g1, g2])

theorem quote2_ok (s : ByteArray) (hs : s.size ≤ 1099511627776) : Ans (env ot oz) 52 [.str s] (.str (quoteS s)) := by
  have hd := size_data s
  obtain ⟨N, f1⟩ := quote2_loop (ot := ot) (oz := oz) s hs
  refine ⟨s.data.toList.length + N + 2, fun S => ?_⟩
  have hq : (s.data.toList.flatMap qc).length ≤ 4 * s.data.toList.length := by
    generalize s.data.toList = l
    induction l with
    | nil => simp
    | cons c l ih =>
      have : (qc c).length ≤ 4 := by unfold qc; split <;> (try split) <;> (try split) <;> simp
      simp only [List.flatMap_cons, List.length_append, List.length_cons]; omega
  have f1 := fun fin st => f1 S fin st s.data.toList 0 [] rfl (by simp; omega) (s.data.toList.length + N + 1) (by omega)
  have ap := acc_app (.inr rfl) S 5 1 1 [[.int .u8 34]] ((s.data.toList.flatMap qc).map rByte) [[.int .u8 34]] (by simp) (by decide) (by simp only [List.length_map, List.length_cons, List.length_nil]; omega) (by simp only [List.length_map, List.length_cons, List.length_nil]; omega) rfl rfl
  have cl := close_acc S 1 [[.int .u8 34]] ((s.data.toList.flatMap qc).map rByte ++ [[.int .u8 34]]) (seal_str · · (quoteS s))
  have bo : bytesOf ([.int .u8 34] :: ((s.data.toList.flatMap qc).map rByte ++ [[.int .u8 34]])) = some (34 :: s.data.toList.flatMap qc ++ [34]) := by
    have := bytesOf_map (34 :: s.data.toList.flatMap qc ++ [34])
    simpa [rByte] using this
  have e : (⟨(34 :: s.data.toList.flatMap qc ++ [34]).toArray⟩ : ByteArray) = quoteS s := rfl
  simp only [List.nil_append, List.map_nil, accG_nil, accS_nil, Int.cast_ofNat_Int, List.cons_append] at f1 ap e bo
  (rw [call_plain (fn := c52) rfl rfl (by simp only [go_sem, f1, ap, bo, cl, e]) rfl (by decide)]; simp only [c52, c52_b, c52_r6, c52_r10, go_sem, f1, ap, bo, cl, e])

end
end Go.PE
