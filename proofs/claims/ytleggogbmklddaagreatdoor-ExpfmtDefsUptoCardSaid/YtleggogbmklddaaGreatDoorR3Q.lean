/-
  A text's own text. Conditions: each law's own.
-/
import Derived.Test.YtleggogbmklddaaGreatDoorN01
import Derived.Test.YtleggogbmklddaaGreatDoorPB
namespace Go.PE
open Go Go.RowKit Go.Proofs
set_option linter.unusedVariables false
set_option linter.unusedSimpArgs false
set_option maxRecDepth 100000
section
variable {ot : TypeId} {oz : EP}

def hx (k : Nat) : UInt8 := if k < 10 then UInt8.ofNat (48 + k) else UInt8.ofNat (87 + k)
def qc (c : UInt8) : List UInt8 :=
  if ((c.toNat : Int) == 34) || ((c.toNat : Int) == 92) then [92, c] else if (c.toNat : Int) == 10 then [92, 110] else if (c.toNat : Int) < 32 ∨ 126 < (c.toNat : Int) then [92, 120, hx (c.toNat / 16), hx (c.toNat % 16)] else [c]
def quoteS (s : ByteArray) : ByteArray := txt (34 :: s.data.toList.flatMap qc ++ [34])

theorem hexAt : ∀ k, k < 16 → ([48, 49, 50, 51, 52, 53, 54, 55, 56, 57, 97, 98, 99, 100, 101, 102] : List UInt8)[k]? = some (hx k) := by decide
theorem shr4 (n : Nat) (h : n < 256) : binP .shr (.int .u8 (n : Int)) (.int .u64 4) = some (.int .u8 ((n / 16 : Nat) : Int)) := by
  have : ∀ n, n < 256 → ((n : Nat) : Int).fdiv (2 ^ min 4 IntKind.u8.bits) = ((n / 16 : Nat) : Int) := by decide +kernel
  simp [binP, this n h]
theorem and15 (n : Nat) (h : n < 256) : binP .and (.int .u8 (n : Int)) (.int .u8 15) = some (.int .u8 ((n % 16 : Nat) : Int)) := by
  have : ∀ n, n < 256 → IntKind.u8.wrap ((BitVec.ofInt IntKind.u8.bits ((n : Nat) : Int) &&& BitVec.ofInt IntKind.u8.bits 15).toNat : Int) = ((n % 16 : Nat) : Int) := by decide +kernel
  simp only [binP, if_true]
  rw [this n h]
theorem hexSize : ((#[48, 49, 50, 51, 52, 53, 54, 55, 56, 57, 97, 98, 99, 100, 101, 102] : Array UInt8).size : Int) = 16 := rfl

theorem quote_loop (l : List UInt8) (hl : l.length ≤ 1099511627776) (S : St) (fin : Kont (PV × St)) (st : List Fr) : ∀ (rest : List UInt8) (i : Nat) (bs : List UInt8), l.drop i = rest → bs.length + 4 * rest.length ≤ 70368744177664 → ∀ n, rest.length + 4 ≤ n →
    (lvl (env ot oz) n).ev c95_l0 [(3, some (.ref S.obs.length 0)), (8, some (.sl .ro (l.map rByte))), (9, some (.int .i64 (l.length : Int))), (10, some (.int .i64 (i : Int)))] (BX S bs []) (kont (env ot oz) fin st) =
      kont (env ot oz) fin st (.exit 0) [(3, some (.ref S.obs.length 0)), (8, some (.sl .ro (l.map rByte))), (9, some (.int .i64 (l.length : Int))), (10, some (.int .i64 ((i + rest.length : Nat) : Int))), (11, some (.bool false))] (BX S (bs ++ rest.flatMap qc) [])
  | [], i, bs, h, hb, n, hn => by
    obtain ⟨k, rfl⟩ : ∃ k, n = k + 1 := ⟨n - 1, by omega⟩
    (rw [c95_l0_step]; simp only [c95_l0_b, c95_r7, c95_r12, go_sem, lt_no (drop_nil h), List.flatMap_nil])
  | c :: r, i, bs, h, hb, n, hn => by
    obtain ⟨k, rfl⟩ : ∃ k, n = k + 4 := ⟨n - 4, by omega⟩
    obtain ⟨h1, h2, h3⟩ := drop_cons h
    simp only [List.length_cons] at hb hn
    have e : i + (c :: r).length = i + 1 + r.length := by simp only [List.length_cons]; omega
    have hb2 : c.toNat < 256 := c.toNat_lt
    have w := wrap_succ (i := i) (n := l.length) h3 (by omega)
    have hlt : (i : Int) < (l.length : Int) := by omega
    have ih := fun ds (hd : ds.length ≤ 4) => quote_loop l hl S fin st r (i + 1) (bs ++ ds) h2 (by simp only [List.length_append]; omega) (k + 3) (by omega)
    rw [e]
    cases q1 : ((c.toNat : Int) == 34) with
    | true =>
      have f1 := wb (ot := ot) (oz := oz) S bs [] 92 92 rfl (by omega) k
      have f2 := wb (ot := ot) (oz := oz) S (bs ++ [92]) [] c _ rfl (by simp; omega) k
      have qe : qc c = [92, c] := by simp [qc, q1]
      have ih := ih [92, c] (by simp)
      simp only [List.flatMap_cons, qe]
      (rw [c95_l0_step]; simp only [c95_l0_b, c95_r7, c95_r12, go_sem, hlt, h1, q1, f1, f2, w, ih])
    | false =>
      cases q2 : ((c.toNat : Int) == 92) with
      | true =>
        have f1 := wb (ot := ot) (oz := oz) S bs [] 92 92 rfl (by omega) k
        have f2 := wb (ot := ot) (oz := oz) S (bs ++ [92]) [] c _ rfl (by simp; omega) k
        have qe : qc c = [92, c] := by simp [qc, q2]
        have ih := ih [92, c] (by simp)
        simp only [List.flatMap_cons, qe]
        (rw [c95_l0_step]; simp only [c95_l0_b, c95_r7, c95_r12, go_sem, hlt, h1, q1, q2, f1, f2, w, ih])
      | false =>
        cases q3 : ((c.toNat : Int) == 10) with
        | true =>
          have f1 := ws (ot := ot) (oz := oz) S bs [] ⟨#[92, 110]⟩ (by simp [ByteArray.size]; omega) k
          have qe : qc c = [92, 110] := by simp [qc, q1, q2, q3]
          have ih := ih [92, 110] (by simp)
          simp only [List.flatMap_cons, qe]
          (rw [c95_l0_step]; simp only [c95_l0_b, c95_r7, c95_r12, go_sem, hlt, h1, q1, q2, q3, f1, w, ih])
        | false =>
          have hexes : (c.toNat : Int) < 32 ∨ 126 < (c.toNat : Int) → qc c = [92, 120, hx (c.toNat / 16), hx (c.toNat % 16)] := fun hh => by simp only [qc, q1, q2, q3, Bool.or_self, Bool.false_eq_true, if_false, hh, if_true]
          have f1 := ws (ot := ot) (oz := oz) S bs [] ⟨#[92, 120]⟩ (by simp [ByteArray.size]; omega) k
          by_cases q4 : (c.toNat : Int) < 32
          · have qe := hexes (.inl q4)
            have s1 := shr4 c.toNat hb2
            have s2 := and15 c.toNat hb2
            have l1 : ((c.toNat / 16 : Nat) : Int) < 16 := by omega
            have l2 : ((c.toNat % 16 : Nat) : Int) < 16 := by omega
            have g1 := hexAt (c.toNat / 16) (by omega)
            have g2 := hexAt (c.toNat % 16) (by omega)
            have f2 := wb (ot := ot) (oz := oz) S (bs ++ [92, 120]) [] (hx (c.toNat / 16)) _ rfl (by simp; omega) k
            have f3 := wb (ot := ot) (oz := oz) S (bs ++ [92, 120, hx (c.toNat / 16)]) [] (hx (c.toNat % 16)) _ rfl (by simp; omega) k
            have ih := ih [92, 120, hx (c.toNat / 16), hx (c.toNat % 16)] (by simp)
            simp only [List.flatMap_cons, qe]
            generalize c.toNat / 16 = x1 at *
            generalize c.toNat % 16 = x2 at *
            (rw [c95_l0_step]; simp only [c95_l0_b, c95_r7, c95_r12, go_sem, hlt, h1, q1, q2, q3, q4, f1, f2, f3, w, ih, ↓s1, ↓s2, l1, l2, g1, g2, hexSize])
          · by_cases q5 : 126 < (c.toNat : Int)
            · have qe := hexes (.inr q5)
              have s1 := shr4 c.toNat hb2
              have s2 := and15 c.toNat hb2
              have l1 : ((c.toNat / 16 : Nat) : Int) < 16 := by omega
              have l2 : ((c.toNat % 16 : Nat) : Int) < 16 := by omega
              have g1 := hexAt (c.toNat / 16) (by omega)
              have g2 := hexAt (c.toNat % 16) (by omega)
              have f2 := wb (ot := ot) (oz := oz) S (bs ++ [92, 120]) [] (hx (c.toNat / 16)) _ rfl (by simp; omega) k
              have f3 := wb (ot := ot) (oz := oz) S (bs ++ [92, 120, hx (c.toNat / 16)]) [] (hx (c.toNat % 16)) _ rfl (by simp; omega) k
              have ih := ih [92, 120, hx (c.toNat / 16), hx (c.toNat % 16)] (by simp)
              simp only [List.flatMap_cons, qe]
              generalize c.toNat / 16 = x1 at *
              generalize c.toNat % 16 = x2 at *
              (rw [c95_l0_step]; simp only [c95_l0_b, c95_r7, c95_r12, go_sem, hlt, h1, q1, q2, q3, q4, q5, f1, f2, f3, w, ih, ↓s1, ↓s2, l1, l2, g1, g2, hexSize])
            · have f1 := wb (ot := ot) (oz := oz) S bs [] c _ rfl (by omega) k
              have qe : qc c = [c] := by simp only [qc, q1, q2, q3, Bool.or_self, Bool.false_eq_true, if_false, q4, q5, or_self]
              have ih := ih [c] (by simp)
              simp only [List.flatMap_cons, qe]
              (rw [c95_l0_step]; simp only [c95_l0_b, c95_r7, c95_r12, go_sem, hlt, h1, q1, q2, q3, q4, q5, f1, w, ih])

theorem quote_ok (s : ByteArray) (hs : s.size ≤ 1099511627776) : Ans (env ot oz) 95 [.str s] (.str (quoteS s)) := by
  have hd := size_data s
  refine ⟨s.data.toList.length + 10, fun S => ?_⟩
  have f1 := wb0 (ot := ot) (oz := oz) S [] 34 34 rfl (s.data.toList.length + 5)
  have f2 := fun fin st => quote_loop (ot := ot) (oz := oz) s.data.toList (by omega) S fin st s.data.toList 0 [34] rfl (by simp; omega) (s.data.toList.length + 9) (by omega)
  have hq : (s.data.toList.flatMap qc).length ≤ 4 * s.data.toList.length := by
    generalize s.data.toList = l
    induction l with
    | nil => simp
    | cons c l ih =>
      have : (qc c).length ≤ 4 := by unfold qc; split <;> (try split) <;> (try split) <;> simp
      simp only [List.flatMap_cons, List.length_append, List.length_cons]; omega
  have f3 := wb (ot := ot) (oz := oz) S ([34] ++ s.data.toList.flatMap qc) [] 34 34 rfl (by simp only [List.length_append, List.length_cons, List.length_nil]; omega) (s.data.toList.length + 5)
  have f4 := strX (ot := ot) (oz := oz) S ([34] ++ s.data.toList.flatMap qc ++ [34]) [] (by simp only [List.length_append, List.length_cons, List.length_nil]; omega) (s.data.toList.length + 6)
  have f5 := closeBZ S ([34] ++ s.data.toList.flatMap qc ++ [34]) [] (plain_str (quoteS s))
  have e : quoteS s = txt ([34] ++ s.data.toList.flatMap qc ++ [34]) := rfl
  rw [← e] at f4
  have f0 : (⟨S.obs ++ [.cells 90 [.nilp, .sl .null []]], S.own⟩ : St) = B0 S [] := rfl
  simp only [Int.cast_ofNat_Int, Nat.add_assoc, Nat.reduceAdd, List.cons_append, List.nil_append, List.append_assoc] at f1 f2 f3 f4 f5
  (rw [call_plain (fn := c95) rfl rfl (by simp only [go_sem, rowsOfBytes_eq, f0, f1, f2, f3, f4, f5, Nat.add_assoc]) rfl (by decide)]; simp only [c95, c95_b, c95_r7, c95_r12, go_sem, rowsOfBytes_eq, f0, f1, f2, f3, f4, f5, Nat.add_assoc])

end
end Go.PE
namespace Go.PE
open Go Go.RowKit Go.Proofs
set_option linter.unusedVariables false
set_option linter.unusedSimpArgs false
set_option maxRecDepth 100000
section
variable {ot : TypeId} {oz : EP}
theorem digit_ok (k : Nat) (hk : k < 16) : Ans (env ot oz) 96 [.int .u8 (k : Int)] (.int .u8 ((hx k).toNat : Int)) := by
  refine ⟨2, fun S => ?_⟩
  have hc : k = 0 ∨ k = 1 ∨ k = 2 ∨ k = 3 ∨ k = 4 ∨ k = 5 ∨ k = 6 ∨ k = 7 ∨ k = 8 ∨ k = 9 ∨ k = 10 ∨ k = 11 ∨ k = 12 ∨ k = 13 ∨ k = 14 ∨ k = 15 := by omega
  have w : ∀ n : Int, 0 ≤ n → n ≤ 255 → IntKind.u8.wrap n = n := fun n h h' => IntWalk.u8_in n ⟨h, h'⟩
  rcases hc with rfl | rfl | rfl | rfl | rfl | rfl | rfl | rfl | rfl | rfl | rfl | rfl | rfl | rfl | rfl | rfl <;> (rw [call_plain (fn := c96) rfl rfl (by simp only [go_sem]) rfl (by decide)]; simp only [c96, c96_b, go_sem]) <;> rfl

theorem quot16 : ∀ n, n < 256 → IntKind.u8.wrap (((n : Nat) : Int).tdiv 16) = ((n / 16 : Nat) : Int) := by decide +kernel
theorem tmod16 : ∀ n, n < 256 → ((n : Nat) : Int).tmod 16 = ((n % 16 : Nat) : Int) := by decide +kernel

theorem quote2_loop (s : ByteArray) (hl : s.size ≤ 1099511627776) : ∃ N, ∀ (S : St) (fin : Kont (PV × St)) (st : List Fr) (rest : List UInt8) (i : Nat) (bs : List UInt8), s.data.toList.drop i = rest → bs.length + 4 * rest.length ≤ 70368744177664 → ∀ n, rest.length + N ≤ n →
    (lvl (env ot oz) n).ev c52_l0 [(0, some (.str s)), (3, some (.sl (accG .exact S 5 (bs.map rByte)) ([.int .u8 34] :: bs.map rByte))), (4, some (.int .i64 (i : Int)))] (accS S 1 [[.int .u8 34]] (bs.map rByte)) (kont (env ot oz) fin st) =
      kont (env ot oz) fin st (.exit 0) [(0, some (.str s)), (3, some (.sl (accG .exact S 5 ((bs ++ rest.flatMap qc).map rByte)) ([.int .u8 34] :: (bs ++ rest.flatMap qc).map rByte))), (4, some (.int .i64 ((i + rest.length : Nat) : Int))), (10, some (.bool false))] (accS S 1 [[.int .u8 34]] ((bs ++ rest.flatMap qc).map rByte)) := by
  have hd := size_data s
  obtain ⟨N, hN⟩ := all_le (p := fun n (k : Nat) => ∀ S, (lvl (env ot oz) n).call 96 [.int .u8 (k : Int)] S = some (.int .u8 ((hx k).toNat : Int), S)) (fun n m k hm h S => call_mono hm (h S)) (l := List.range 16) (fun k hk => digit_ok (ot := ot) (oz := oz) k (by simpa using hk))
  refine ⟨N + 2, fun S fin st rest => ?_⟩
  induction rest with
  | nil =>
    intro i bs h hb n hn
    obtain ⟨k, rfl⟩ : ∃ k, n = k + 1 := ⟨n - 1, by omega⟩
    have hlt := lt_no (drop_nil h)
    rw [hd] at hlt
    (rw [c52_l0_step]; simp only [c52_l0_b, c52_r6, c52_r10, go_sem, hlt, List.flatMap_nil])
  | cons c r ihr =>
    intro i bs h hb n hn
    obtain ⟨k, rfl⟩ : ∃ k, n = k + 1 := ⟨n - 1, by omega⟩
    obtain ⟨h1, h2, h3⟩ := drop_cons h
    simp only [List.length_cons] at hb hn
    have e : i + (c :: r).length = i + 1 + r.length := by simp only [List.length_cons]; omega
    have hb2 : c.toNat < 256 := c.toNat_lt
    have w := wrap_succ (i := i) (n := s.data.toList.length) h3 (by omega)
    have hlt : (i : Int) < (s.size : Int) := by omega
    have ap := fun (ds : List UInt8) (hd0 : ds ≠ []) (hd : ds.length ≤ 4) => acc_app (.inr rfl) S 5 1 1 [[.int .u8 34]] (bs.map rByte) (ds.map rByte) (by simpa using hd0) (by decide) (by simp; omega) (by simp; omega) rfl (rByte_ok ds)
    have ih := fun ds (hd : ds.length ≤ 4) => ihr (i + 1) (bs ++ ds) h2 (by simp only [List.length_append]; omega) k (by omega)
    rw [e]
    cases q1 : ((c.toNat : Int) == 34) with
    | true =>
      have qe : qc c = [92, c] := by simp [qc, q1]
      have ih := ih [92, c] (by simp)
      have ap := ap [92, c] (by simp) (by simp)
      simp only [List.flatMap_cons, qe]
      simp only [List.map_append, List.map_cons, List.map_nil, rByte_eq, UInt8.reduceToNat, Int.cast_ofNat_Int, List.cons_append, List.nil_append, List.append_assoc] at ih ap
      (rw [c52_l0_step]; simp only [c52_l0_b, c52_r6, c52_r10, go_sem, hlt, h1, q1, w, ih, ap, UInt8.reduceToNat])
    | false =>
      cases q2 : ((c.toNat : Int) == 92) with
      | true =>
        have qe : qc c = [92, c] := by simp [qc, q2]
        have ih := ih [92, c] (by simp)
        have ap := ap [92, c] (by simp) (by simp)
        simp only [List.flatMap_cons, qe]
        simp only [List.map_append, List.map_cons, List.map_nil, rByte_eq, UInt8.reduceToNat, Int.cast_ofNat_Int, List.cons_append, List.nil_append, List.append_assoc] at ih ap
        (rw [c52_l0_step]; simp only [c52_l0_b, c52_r6, c52_r10, go_sem, hlt, h1, q1, q2, w, ih, ap, UInt8.reduceToNat])
      | false =>
        cases q3 : ((c.toNat : Int) == 10) with
        | true =>
          have qe : qc c = [92, 110] := by simp [qc, q1, q2, q3]
          have ih := ih [92, 110] (by simp)
          have ap := ap [92, 110] (by simp) (by simp)
          simp only [List.flatMap_cons, qe]
          simp only [List.map_append, List.map_cons, List.map_nil, rByte_eq, UInt8.reduceToNat, Int.cast_ofNat_Int, List.cons_append, List.nil_append, List.append_assoc] at ih ap
          (rw [c52_l0_step]; simp only [c52_l0_b, c52_r6, c52_r10, go_sem, hlt, h1, q1, q2, q3, w, ih, ap, UInt8.reduceToNat])
        | false =>
          have hexes : (c.toNat : Int) < 32 ∨ 126 < (c.toNat : Int) → qc c = [92, 120, hx (c.toNat / 16), hx (c.toNat % 16)] := fun hh => by simp only [qc, q1, q2, q3, Bool.or_self, Bool.false_eq_true, if_false, hh, if_true]
          have s1 := quot16 c.toNat hb2
          have s2 := tmod16 c.toNat hb2
          have g1 := hN (c.toNat / 16) (by simp; omega)
          have g2 := hN (c.toNat % 16) (by simp; omega)
          have g1 := fun S => call_mono (show N ≤ k by omega) (g1 S)
          have g2 := fun S => call_mono (show N ≤ k by omega) (g2 S)
          by_cases q4 : 32 ≤ (c.toNat : Int)
          · by_cases q5 : (c.toNat : Int) ≤ 126
            · have qe : qc c = [c] := by simp only [qc, q1, q2, q3, Bool.or_self, Bool.false_eq_true, if_false]; rw [if_neg (by omega)]
              have ih := ih [c] (by simp)
              have ap := ap [c] (by simp) (by simp)
              simp only [List.flatMap_cons, qe]
              simp only [List.map_append, List.map_cons, List.map_nil, rByte_eq, UInt8.reduceToNat, Int.cast_ofNat_Int, List.cons_append, List.nil_append, List.append_assoc] at ih ap
              (rw [c52_l0_step]; simp only [c52_l0_b, c52_r6, c52_r10, go_sem, hlt, h1, q1, q2, q3, q4, q5, w, ih, ap, UInt8.reduceToNat])
            · have qe := hexes (.inr (by omega))
              have ih := ih [92, 120, hx (c.toNat / 16), hx (c.toNat % 16)] (by simp)
              have ap := ap [92, 120, hx (c.toNat / 16), hx (c.toNat % 16)] (by simp) (by simp)
              simp only [List.flatMap_cons, qe]
              simp only [List.map_append, List.map_cons, List.map_nil, rByte_eq, UInt8.reduceToNat, Int.cast_ofNat_Int, List.cons_append, List.nil_append, List.append_assoc] at ih ap
              (rw [c52_l0_step]; simp only [c52_l0_b, c52_r6, c52_r10, go_sem, hlt, h1, q1, q2, q3, q4, q5, w, ih, ap, UInt8.reduceToNat, s1, s2, g1, g2])
          · have qe := hexes (.inl (by omega))
            have ih := ih [92, 120, hx (c.toNat / 16), hx (c.toNat % 16)] (by simp)
            have ap := ap [92, 120, hx (c.toNat / 16), hx (c.toNat % 16)] (by simp) (by simp)
            simp only [List.flatMap_cons, qe]
            simp only [List.map_append, List.map_cons, List.map_nil, rByte_eq, UInt8.reduceToNat, Int.cast_ofNat_Int, List.cons_append, List.nil_append, List.append_assoc] at ih ap
            (rw [c52_l0_step]; simp only [c52_l0_b, c52_r6, c52_r10, go_sem, hlt, h1, q1, q2, q3, q4, w, ih, ap, UInt8.reduceToNat, s1, s2, g1, g2])

theorem quote2_ok (s : ByteArray) (hs : s.size ≤ 1099511627776) : Ans (env ot oz) 52 [.str s] (.str (quoteS s)) := by
  have hd := size_data s
  obtain ⟨N, f1⟩ := quote2_loop (ot := ot) (oz := oz) s hs
  refine ⟨s.data.toList.length + N + 2, fun S => ?_⟩
  have hq : (s.data.toList.flatMap qc).length ≤ 4 * s.data.toList.length := by
    generalize s.data.toList = l
    induction l with
    | nil => simp
    | cons c l ih =>
      have : (qc c).length ≤ 4 := by unfold qc; split <;> (try split) <;> (try split) <;> simp
      simp only [List.flatMap_cons, List.length_append, List.length_cons]; omega
  have f1 := fun fin st => f1 S fin st s.data.toList 0 [] rfl (by simp; omega) (s.data.toList.length + N + 1) (by omega)
  have ap := acc_app (.inr rfl) S 5 1 1 [[.int .u8 34]] ((s.data.toList.flatMap qc).map rByte) [[.int .u8 34]] (by simp) (by decide) (by simp only [List.length_map, List.length_cons, List.length_nil]; omega) (by simp only [List.length_map, List.length_cons, List.length_nil]; omega) rfl rfl
  have cl := close_acc S 1 [[.int .u8 34]] ((s.data.toList.flatMap qc).map rByte ++ [[.int .u8 34]]) (seal_str · · (quoteS s))
  have bo : bytesOf ([.int .u8 34] :: ((s.data.toList.flatMap qc).map rByte ++ [[.int .u8 34]])) = some (34 :: s.data.toList.flatMap qc ++ [34]) := by
    have := bytesOf_map (34 :: s.data.toList.flatMap qc ++ [34])
    simpa [rByte] using this
  have e : (⟨(34 :: s.data.toList.flatMap qc ++ [34]).toArray⟩ : ByteArray) = quoteS s := rfl
  simp only [List.nil_append, List.map_nil, accG_nil, accS_nil, Int.cast_ofNat_Int, List.cons_append] at f1 ap e bo
  (rw [call_plain (fn := c52) rfl rfl (by simp only [go_sem, f1, ap, bo, cl, e]) rfl (by decide)]; simp only [c52, c52_b, c52_r6, c52_r10, go_sem, f1, ap, bo, cl, e])

end
end Go.PE
