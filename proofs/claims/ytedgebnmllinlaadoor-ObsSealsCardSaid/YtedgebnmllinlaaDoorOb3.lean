/-
  Texts of numbers and of what is seen. Conditions: each law's own.
-/
import Derived.Test.YtedgebnmllinlaaDoorOb2
namespace Go.PE
open Go Go.RowKit Go.Proofs
set_option linter.unusedVariables false
set_option linter.unusedSimpArgs false
set_option maxRecDepth 100000
section
variable {ot : TypeId} {oz : Nat × Nat}

theorem quote_ok (s : ByteArray) (hs : s.size ≤ 1099511627776) : Ans (env ot oz) 51 [.str s] (.str (quoteS s)) := by
  have hd := size_data s
  refine ⟨s.data.toList.length + 10, fun S => ?_⟩
  have f1 := wb0 (ot := ot) (oz := oz) S [] 34 34 rfl (s.data.toList.length + 5)
  have f2 := fun fin st => quote_loop (ot := ot) (oz := oz) s.data.toList (by omega) S fin st s.data.toList 0 [34] rfl (by simp; omega) (s.data.toList.length + 9) (by omega)
  have hq : (s.data.toList.flatMap qc).length ≤ 4 * s.data.toList.length := by
    generalize s.data.toList = l
    induction l with
    | nil => simp
    | cons c l ih =>
      have : (qc c).length ≤ 4 := by unfold qc; split <;> (try split) <;> (try split) <;> simp
      simp only [List.flatMap_cons, List.length_append, List.length_cons]; omega
  have f3 := wb (ot := ot) (oz := oz) S ([34] ++ s.data.toList.flatMap qc) [] 34 34 rfl (by simp only [List.length_append, List.length_cons, List.length_nil]; omega) (s.data.toList.length + 5)
  have f4 := strX (ot := ot) (oz := oz) S ([34] ++ s.data.toList.flatMap qc ++ [34]) [] (by simp only [List.length_append, List.length_cons, List.length_nil]; omega) (s.data.toList.length + 6)
  have f5 := closeBZ S ([34] ++ s.data.toList.flatMap qc ++ [34]) [] (plain_str (quoteS s))
  have e : quoteS s = txt ([34] ++ s.data.toList.flatMap qc ++ [34]) := rfl
  rw [← e] at f4
  have f0 : (⟨S.obs ++ [.cells 121 [.nilp, .sl .null []]], S.own⟩ : St) = B0 S [] := rfl
  simp only [Int.cast_ofNat_Int, Nat.add_assoc, Nat.reduceAdd, List.cons_append, List.nil_append, List.append_assoc] at f1 f2 f3 f4 f5
  (rw [call_plain (fn := c51) rfl rfl (by simp only [go_sem, reduceIte, Nat.reduceEqDiff, Nat.reduceAdd, Nat.reduceSub, Nat.reduceMul, Nat.reduceLeDiff, Nat.reduceLT, Int.reduceNeg, Int.reduceEq, Int.reduceLT, Int.reduceLE, Int.reduceNe, Int.reduceToNat, Int.reduceAdd, Int.reduceMul, Int.reduceSub, Int.reduceBEq, rowsOfBytes_eq, f0, f1, f2, f3, f4, f5, Nat.add_assoc]) rfl (by decide)]; simp only [c51, c51_b, c51_r7, c51_r12, go_sem, reduceIte, Nat.reduceEqDiff, Nat.reduceAdd, Nat.reduceSub, Nat.reduceMul, Nat.reduceLeDiff, Nat.reduceLT, Int.reduceNeg, Int.reduceEq, Int.reduceLT, Int.reduceLE, Int.reduceNe, Int.reduceToNat, Int.reduceAdd, Int.reduceMul, Int.reduceSub, Int.reduceBEq, rowsOfBytes_eq, f0, f1, f2, f3, f4, f5, Nat.add_assoc])

theorem digit_ok (k : Nat) (hk : k < 16) : Ans (env ot oz) 80 [.int .u8 (k : Int)] (.int .u8 ((hx k).toNat : Int)) := by
  refine ⟨2, fun S => ?_⟩
  have hc : k = 0 ∨ k = 1 ∨ k = 2 ∨ k = 3 ∨ k = 4 ∨ k = 5 ∨ k = 6 ∨ k = 7 ∨ k = 8 ∨ k = 9 ∨ k = 10 ∨ k = 11 ∨ k = 12 ∨ k = 13 ∨ k = 14 ∨ k = 15 := by omega
  have w : ∀ n : Int, 0 ≤ n → n ≤ 255 → IntKind.u8.wrap n = n := fun n h h' => IntWalk.u8_in n ⟨h, h'⟩
  rcases hc with rfl | rfl | rfl | rfl | rfl | rfl | rfl | rfl | rfl | rfl | rfl | rfl | rfl | rfl | rfl | rfl <;> (rw [call_plain (fn := c80) rfl rfl (by simp only [go_sem, reduceIte, Nat.reduceEqDiff, Nat.reduceAdd, Nat.reduceSub, Nat.reduceMul, Nat.reduceLeDiff, Nat.reduceLT, Int.reduceNeg, Int.reduceEq, Int.reduceLT, Int.reduceLE, Int.reduceNe, Int.reduceToNat, Int.reduceAdd, Int.reduceMul, Int.reduceSub, Int.reduceBEq]) rfl (by decide)]; simp only [c80, c80_b, go_sem, reduceIte, Nat.reduceEqDiff, Nat.reduceAdd, Nat.reduceSub, Nat.reduceMul, Nat.reduceLeDiff, Nat.reduceLT, Int.reduceNeg, Int.reduceEq, Int.reduceLT, Int.reduceLE, Int.reduceNe, Int.reduceToNat, Int.reduceAdd, Int.reduceMul, Int.reduceSub, Int.reduceBEq]) <;> rfl

theorem quot16 : ∀ n, n < 256 → IntKind.u8.wrap (((n : Nat) : Int).tdiv 16) = ((n / 16 : Nat) : Int) := by decide +kernel
theorem rem16 : ∀ n, n < 256 → IntKind.u8.wrap (((n : Nat) : Int).tmod 16) = ((n % 16 : Nat) : Int) := by decide +kernel
theorem tmod16 : ∀ n, n < 256 → ((n : Nat) : Int).tmod 16 = ((n % 16 : Nat) : Int) := by decide +kernel

theorem quote2_loop (s : ByteArray) (hl : s.size ≤ 1099511627776) : ∃ N, ∀ (S : St) (fin : Kont (PV × St)) (st : List Fr) (rest : List UInt8) (i : Nat) (bs : List UInt8), s.data.toList.drop i = rest → bs.length + 4 * rest.length ≤ 70368744177664 → ∀ n, rest.length + N ≤ n →
    (lvl (env ot oz) n).ev c53_l0 [(0, some (.str s)), (3, some (.sl (accG .exact S 5 (bs.map rByte)) ([.int .u8 34] :: bs.map rByte))), (4, some (.int .i64 (i : Int)))] (accS S 1 [[.int .u8 34]] (bs.map rByte)) (kont (env ot oz) fin st) =
      kont (env ot oz) fin st (.exit 0) [(0, some (.str s)), (3, some (.sl (accG .exact S 5 ((bs ++ rest.flatMap qc).map rByte)) ([.int .u8 34] :: (bs ++ rest.flatMap qc).map rByte))), (4, some (.int .i64 ((i + rest.length : Nat) : Int))), (10, some (.bool false))] (accS S 1 [[.int .u8 34]] ((bs ++ rest.flatMap qc).map rByte)) := by
  have hd := size_data s
  obtain ⟨N, hN⟩ := all_le (p := fun n (k : Nat) => ∀ S, (lvl (env ot oz) n).call 80 [.int .u8 (k : Int)] S = some (.int .u8 ((hx k).toNat : Int), S)) (fun n m k hm h S => call_mono hm (h S)) (l := List.range 16) (fun k hk => digit_ok (ot := ot) (oz := oz) k (by simpa using hk))
  refine ⟨N + 2, fun S fin st rest => ?_⟩
  induction rest with
  | nil =>
    intro i bs h hb n hn
    obtain ⟨k, rfl⟩ : ∃ k, n = k + 1 := ⟨n - 1, by omega⟩
    have hlt := lt_no (drop_nil h)
    rw [hd] at hlt
    (rw [c53_l0_step]; simp only [c53_l0_b, c53_r6, c53_r10, go_sem, reduceIte, Nat.reduceEqDiff, Nat.reduceAdd, Nat.reduceSub, Nat.reduceMul, Nat.reduceLeDiff, Nat.reduceLT, Int.reduceNeg, Int.reduceEq, Int.reduceLT, Int.reduceLE, Int.reduceNe, Int.reduceToNat, Int.reduceAdd, Int.reduceMul, Int.reduceSub, Int.reduceBEq, hlt, List.flatMap_nil])
  | cons c r ihr =>
    intro i bs h hb n hn
    obtain ⟨k, rfl⟩ : ∃ k, n = k + 1 := ⟨n - 1, by omega⟩
    obtain ⟨h1, h2, h3⟩ := drop_cons h
    simp only [List.length_cons] at hb hn
    have e : i + (c :: r).length = i + 1 + r.length := by simp only [List.length_cons]; omega
    have hb2 : c.toNat < 256 := c.toNat_lt
    have w := wrap_succ (i := i) (n := s.data.toList.length) h3 (by omega)
    have hlt : (i : Int) < (s.size : Int) := by omega
    have ap := fun (ds : List UInt8) (hd0 : ds ≠ []) (hd : ds.length ≤ 4) => acc_app (.inr rfl) S 5 1 1 [[.int .u8 34]] (bs.map rByte) (ds.map rByte) (by simpa using hd0) (by decide) (by simp; omega) (by simp; omega) rfl (rByte_ok ds)
    have ih := fun ds (hd : ds.length ≤ 4) => ihr (i + 1) (bs ++ ds) h2 (by simp only [List.length_append]; omega) k (by omega)
    rw [e]
    cases q1 : ((c.toNat : Int) == 34) with
    | true =>
      have qe : qc c = [92, c] := by simp [qc, q1]
      have ih := ih [92, c] (by simp)
      have ap := ap [92, c] (by simp) (by simp)
      simp only [List.flatMap_cons, qe]
      simp only [List.map_append, List.map_cons, List.map_nil, rByte_eq, UInt8.reduceToNat, Int.cast_ofNat_Int, List.cons_append, List.nil_append, List.append_assoc] at ih ap
      (rw [c53_l0_step]; simp only [c53_l0_b, c53_r6, c53_r10, go_sem, reduceIte, Nat.reduceEqDiff, Nat.reduceAdd, Nat.reduceSub, Nat.reduceMul, Nat.reduceLeDiff, Nat.reduceLT, Int.reduceNeg, Int.reduceEq, Int.reduceLT, Int.reduceLE, Int.reduceNe, Int.reduceToNat, Int.reduceAdd, Int.reduceMul, Int.reduceSub, Int.reduceBEq, hlt, h1, q1, w, ih, ap, UInt8.reduceToNat])
    | false =>
      cases q2 : ((c.toNat : Int) == 92) with
      | true =>
        have qe : qc c = [92, c] := by simp [qc, q2]
        have ih := ih [92, c] (by simp)
        have ap := ap [92, c] (by simp) (by simp)
        simp only [List.flatMap_cons, qe]
        simp only [List.map_append, List.map_cons, List.map_nil, rByte_eq, UInt8.reduceToNat, Int.cast_ofNat_Int, List.cons_append, List.nil_append, List.append_assoc] at ih ap
        (rw [c53_l0_step]; simp only [c53_l0_b, c53_r6, c53_r10, go_sem, reduceIte, Nat.reduceEqDiff, Nat.reduceAdd, Nat.reduceSub, Nat.reduceMul, Nat.reduceLeDiff, Nat.reduceLT, Int.reduceNeg, Int.reduceEq, Int.reduceLT, Int.reduceLE, Int.reduceNe, Int.reduceToNat, Int.reduceAdd, Int.reduceMul, Int.reduceSub, Int.reduceBEq, hlt, h1, q1, q2, w, ih, ap, UInt8.reduceToNat])
      | false =>
        cases q3 : ((c.toNat : Int) == 10) with
        | true =>
          have qe : qc c = [92, 110] := by simp [qc, q1, q2, q3]
          have ih := ih [92, 110] (by simp)
          have ap := ap [92, 110] (by simp) (by simp)
          simp only [List.flatMap_cons, qe]
          simp only [List.map_append, List.map_cons, List.map_nil, rByte_eq, UInt8.reduceToNat, Int.cast_ofNat_Int, List.cons_append, List.nil_append, List.append_assoc] at ih ap
          (rw [c53_l0_step]; simp only [c53_l0_b, c53_r6, c53_r10, go_sem, reduceIte, Nat.reduceEqDiff, Nat.reduceAdd, Nat.reduceSub, Nat.reduceMul, Nat.reduceLeDiff, Nat.reduceLT, Int.reduceNeg, Int.reduceEq, Int.reduceLT, Int.reduceLE, Int.reduceNe, Int.reduceToNat, Int.reduceAdd, Int.reduceMul, Int.reduceSub, Int.reduceBEq, hlt, h1, q1, q2, q3, w, ih, ap, UInt8.reduceToNat])
        | false =>
          have hexes : (c.toNat : Int) < 32 ∨ 126 < (c.toNat : Int) → qc c = [92, 120, hx (c.toNat / 16), hx (c.toNat % 16)] := fun hh => by simp only [qc, q1, q2, q3, Bool.or_self, Bool.false_eq_true, if_false, hh, if_true]
          have s1 := quot16 c.toNat hb2
          have s2 := tmod16 c.toNat hb2
          have g1 := hN (c.toNat / 16) (by simp; omega)
          have g2 := hN (c.toNat % 16) (by simp; omega)
          have g1 := fun S => call_mono (show N ≤ k by omega) (g1 S)
          have g2 := fun S => call_mono (show N ≤ k by omega) (g2 S)
          by_cases q4 : 32 ≤ (c.toNat : Int)
          · by_cases q5 : (c.toNat : Int) ≤ 126
            · have qe : qc c = [c] := by simp only [qc, q1, q2, q3, Bool.or_self, Bool.false_eq_true, if_false]; rw [if_neg (by omega)]
              have ih := ih [c] (by simp)
              have ap := ap [c] (by simp) (by simp)
              simp only [List.flatMap_cons, qe]
              simp only [List.map_append, List.map_cons, List.map_nil, rByte_eq, UInt8.reduceToNat, Int.cast_ofNat_Int, List.cons_append, List.nil_append, List.append_assoc] at ih ap
              (rw [c53_l0_step]; simp only [c53_l0_b, c53_r6, c53_r10, go_sem, reduceIte, Nat.reduceEqDiff, Nat.reduceAdd, Nat.reduceSub, Nat.reduceMul, Nat.reduceLeDiff, Nat.reduceLT, Int.reduceNeg, Int.reduceEq, Int.reduceLT, Int.reduceLE, Int.reduceNe, Int.reduceToNat, Int.reduceAdd, Int.reduceMul, Int.reduceSub, Int.reduceBEq, hlt, h1, q1, q2, q3, q4, q5, w, ih, ap, UInt8.reduceToNat])
            · have qe := hexes (.inr (by omega))
              have ih := ih [92, 120, hx (c.toNat / 16), hx (c.toNat % 16)] (by simp)
              have ap := ap [92, 120, hx (c.toNat / 16), hx (c.toNat % 16)] (by simp) (by simp)
              simp only [List.flatMap_cons, qe]
              simp only [List.map_append, List.map_cons, List.map_nil, rByte_eq, UInt8.reduceToNat, Int.cast_ofNat_Int, List.cons_append, List.nil_append, List.append_assoc] at ih ap
              (rw [c53_l0_step]; simp only [c53_l0_b, c53_r6, c53_r10, go_sem, reduceIte, Nat.reduceEqDiff, Nat.reduceAdd, Nat.reduceSub, Nat.reduceMul, Nat.reduceLeDiff, Nat.reduceLT, Int.reduceNeg, Int.reduceEq, Int.reduceLT, Int.reduceLE, Int.reduceNe, Int.reduceToNat, Int.reduceAdd, Int.reduceMul, Int.reduceSub, Int.reduceBEq, hlt, h1, q1, q2, q3, q4, q5, w, ih, ap, UInt8.reduceToNat, s1, s2, g1, g2])
          · have qe := hexes (.inl (by omega))
            have ih := ih [92, 120, hx (c.toNat / 16), hx (c.toNat % 16)] (by simp)
            have ap := ap [92, 120, hx (c.toNat / 16), hx (c.toNat % 16)] (by simp) (by simp)
            simp only [List.flatMap_cons, qe]
            simp only [List.map_append, List.map_cons, List.map_nil, rByte_eq, UInt8.reduceToNat, Int.cast_ofNat_Int, List.cons_append, List.nil_append, List.append_assoc] at ih ap
            (rw [c53_l0_step]; simp only [c53_l0_b, c53_r6, c53_r10, go_sem, reduceIte, Nat.reduceEqDiff, Nat.reduceAdd, Nat.reduceSub, Nat.reduceMul, Nat.reduceLeDiff, Nat.reduceLT, Int.reduceNeg, Int.reduceEq, Int.reduceLT, Int.reduceLE, Int.reduceNe, Int.reduceToNat, Int.reduceAdd, Int.reduceMul, Int.reduceSub, Int.reduceBEq, hlt, h1, q1, q2, q3, q4, w, ih, ap, UInt8.reduceToNat, s1, s2, g1, g2])

theorem quote2_ok (s : ByteArray) (hs : s.size ≤ 1099511627776) : Ans (env ot oz) 53 [.str s] (.str (quoteS s)) := by
  have hd := size_data s
  obtain ⟨N, f1⟩ := quote2_loop (ot := ot) (oz := oz) s hs
  refine ⟨s.data.toList.length + N + 2, fun S => ?_⟩
  have hq : (s.data.toList.flatMap qc).length ≤ 4 * s.data.toList.length := by
    generalize s.data.toList = l
    induction l with
    | nil => simp
    | cons c l ih =>
      have : (qc c).length ≤ 4 := by unfold qc; split <;> (try split) <;> (try split) <;> simp
      simp only [List.flatMap_cons, List.length_append, List.length_cons]; omega
  have f1 := fun fin st => f1 S fin st s.data.toList 0 [] rfl (by simp; omega) (s.data.toList.length + N + 1) (by omega)
  have ap := acc_app (.inr rfl) S 5 1 1 [[.int .u8 34]] ((s.data.toList.flatMap qc).map rByte) [[.int .u8 34]] (by simp) (by decide) (by simp only [List.length_map, List.length_cons, List.length_nil]; omega) (by simp only [List.length_map, List.length_cons, List.length_nil]; omega) rfl rfl
  have cl := close_acc S 1 [[.int .u8 34]] ((s.data.toList.flatMap qc).map rByte ++ [[.int .u8 34]]) (seal_str · · (quoteS s))
  have bo : bytesOf ([.int .u8 34] :: ((s.data.toList.flatMap qc).map rByte ++ [[.int .u8 34]])) = some (34 :: s.data.toList.flatMap qc ++ [34]) := by
    have := bytesOf_map (34 :: s.data.toList.flatMap qc ++ [34])
    simpa [rByte] using this
  have e : (⟨(34 :: s.data.toList.flatMap qc ++ [34]).toArray⟩ : ByteArray) = quoteS s := rfl
  simp only [List.nil_append, List.map_nil, accG_nil, accS_nil, Int.cast_ofNat_Int, List.cons_append] at f1 ap e bo
  (rw [call_plain (fn := c53) rfl rfl (by simp only [go_sem, reduceIte, Nat.reduceEqDiff, Nat.reduceAdd, Nat.reduceSub, Nat.reduceMul, Nat.reduceLeDiff, Nat.reduceLT, Int.reduceNeg, Int.reduceEq, Int.reduceLT, Int.reduceLE, Int.reduceNe, Int.reduceToNat, Int.reduceAdd, Int.reduceMul, Int.reduceSub, Int.reduceBEq, f1, ap, bo, cl, e]) rfl (by decide)]; simp only [c53, c53_b, c53_r6, c53_r10, go_sem, reduceIte, Nat.reduceEqDiff, Nat.reduceAdd, Nat.reduceSub, Nat.reduceMul, Nat.reduceLeDiff, Nat.reduceLT, Int.reduceNeg, Int.reduceEq, Int.reduceLT, Int.reduceLE, Int.reduceNe, Int.reduceToNat, Int.reduceAdd, Int.reduceMul, Int.reduceSub, Int.reduceBEq, f1, ap, bo, cl, e])

theorem digF_len : ∀ (f n : Nat), (digF f n).length ≤ f
  | 0, n => by simp [digF]
  | f + 1, n => by
    unfold digF
    split
    · simp
    · have := digF_len f (n / 10)
      simp; omega
theorem digF_one {f n : Nat} (h : n < 10) : digF (f + 1) n = [UInt8.ofNat (48 + n)] := by rw [digF, if_pos h]
theorem digF_more {f n : Nat} (h : ¬ n < 10) : digF (f + 1) n = digF f (n / 10) ++ [UInt8.ofNat (48 + n % 10)] := by rw [digF, if_neg h]
theorem byte_one {k : Nat} (h : k < 256) : bytesOf [[.int .u8 (k : Int)]] = some [UInt8.ofNat k] := by
  have h' : (0 : Int) ≤ (k : Int) ∧ (k : Int) < 256 := by omega
  simp [bytesOf, h']

theorem digits_ok : ∀ (f n : Nat), n < 10 ^ f → 0 < f → f ≤ 100 → n ≤ 9223372036854775807 → Ans (env ot oz) 79 [.int .i64 (n : Int)] (.str (txt (digF f n)))
  | f + 1, n, h, _, hf, hn => by
    by_cases h10 : n < 10
    · refine ⟨2, fun S => ?_⟩
      have lt : (n : Int) < 10 := by omega
      have w1 : IntKind.i64.wrap (48 + (n : Int)) = ((48 + n : Nat) : Int) := by rw [wrap64 (by omega) (by omega)]; omega
      have w2 : IntKind.u8.wrap (((48 + n : Nat) : Int)) = ((48 + n : Nat) : Int) := IntWalk.u8_in _ (by omega)
      have bo := byte_one (k := 48 + n) (by omega)
      have e : (⟨[UInt8.ofNat (48 + n)].toArray⟩ : ByteArray) = txt (digF (f + 1) n) := by rw [digF_one h10]; rfl
      generalize txt (digF (f + 1) n) = r at *
      generalize h48 : 48 + n = m at *
      (rw [call_plain (fn := c79) rfl rfl (by simp only [go_sem, reduceIte, Nat.reduceEqDiff, Nat.reduceAdd, Nat.reduceSub, Nat.reduceMul, Nat.reduceLeDiff, Nat.reduceLT, Int.reduceNeg, Int.reduceEq, Int.reduceLT, Int.reduceLE, Int.reduceNe, Int.reduceToNat, Int.reduceAdd, Int.reduceMul, Int.reduceSub, Int.reduceBEq, lt, w1, w2, bo, e]) rfl (by decide)]; simp only [c79, c79_b, go_sem, reduceIte, Nat.reduceEqDiff, Nat.reduceAdd, Nat.reduceSub, Nat.reduceMul, Nat.reduceLeDiff, Nat.reduceLT, Int.reduceNeg, Int.reduceEq, Int.reduceLT, Int.reduceLE, Int.reduceNe, Int.reduceToNat, Int.reduceAdd, Int.reduceMul, Int.reduceSub, Int.reduceBEq, lt, w1, w2, bo, e])
    · obtain ⟨N, ih⟩ := (digits_ok f (n / 10) (by rw [Nat.pow_succ] at h; omega) (by
        cases f with
        | zero => simp at h; omega
        | succ f => omega) (by omega) (by omega)).le
      refine ⟨N + 2, fun S => ?_⟩
      have ih := ih N (by omega) S
      have nlt : ¬ (n : Int) < 10 := by omega
      have w0 : IntKind.i64.wrap ((n : Int).tdiv 10) = ((n / 10 : Nat) : Int) := by
        rw [show (n : Int).tdiv 10 = ((n / 10 : Nat) : Int) from by rw [Int.tdiv_eq_ediv_of_nonneg (by omega)]; omega]
        exact wrap_nat (by omega)
      have w3 : (n : Int).tmod 10 = ((n % 10 : Nat) : Int) := by rw [Int.tmod_eq_emod_of_nonneg (by omega)]; omega
      have w1 : IntKind.i64.wrap (48 + ((n % 10 : Nat) : Int)) = ((48 + n % 10 : Nat) : Int) := by rw [wrap64 (by omega) (by omega)]; omega
      have w2 : IntKind.u8.wrap (((48 + n % 10 : Nat) : Int)) = ((48 + n % 10 : Nat) : Int) := IntWalk.u8_in _ (by omega)
      have bo := byte_one (k := 48 + n % 10) (by omega)
      have e : txt (digF f (n / 10)) ++ (⟨[UInt8.ofNat (48 + n % 10)].toArray⟩ : ByteArray) = txt (digF (f + 1) n) := by rw [digF_more h10]; exact txt_append _ [_]
      have sz : ¬ (9223372036854775807 : Int) < (((txt (digF f (n / 10))).size + ([UInt8.ofNat (48 + n % 10)].toArray : Array UInt8).size : Nat) : Int) := by
        show ¬ (9223372036854775807 : Int) < (((txt (digF f (n / 10))).size + (⟨[UInt8.ofNat (48 + n % 10)].toArray⟩ : ByteArray).size : Nat) : Int)
        have := digF_len f (n / 10)
        rw [txt_size]; simp [ByteArray.size]; omega
      generalize txt (digF (f + 1) n) = r at *
      generalize n % 10 = q at *
      generalize n / 10 = d at *
      (rw [call_plain (fn := c79) rfl rfl (by simp only [go_sem, reduceIte, Nat.reduceEqDiff, Nat.reduceAdd, Nat.reduceSub, Nat.reduceMul, Nat.reduceLeDiff, Nat.reduceLT, Int.reduceNeg, Int.reduceEq, Int.reduceLT, Int.reduceLE, Int.reduceNe, Int.reduceToNat, Int.reduceAdd, Int.reduceMul, Int.reduceSub, Int.reduceBEq, nlt, w0, w1, w2, w3, bo, e, ih, sz]) rfl (by decide)]; simp only [c79, c79_b, go_sem, reduceIte, Nat.reduceEqDiff, Nat.reduceAdd, Nat.reduceSub, Nat.reduceMul, Nat.reduceLeDiff, Nat.reduceLT, Int.reduceNeg, Int.reduceEq, Int.reduceLT, Int.reduceLE, Int.reduceNe, Int.reduceToNat, Int.reduceAdd, Int.reduceMul, Int.reduceSub, Int.reduceBEq, nlt, w0, w1, w2, w3, bo, e, ih, sz])

theorem number_ok (n : Int) (h : In64 n) : Ans (env ot oz) 52 [.int .i64 n] (.str (numS n)) := by
  obtain ⟨h1, h2⟩ := h
  by_cases h0 : 0 ≤ n
  · obtain ⟨k, rfl⟩ := Int.eq_ofNat_of_zero_le h0
    obtain ⟨N, ih⟩ := (digits_ok (ot := ot) (oz := oz) 20 k (by omega) (by omega) (by omega) (by omega)).le
    refine ⟨N + 2, fun S => ?_⟩
    have ih := ih N (by omega) S
    have e : txt (digF 20 k) = numS (k : Int) := by unfold numS numL; rw [if_neg (by omega)]; rfl
    rw [e] at ih
    (rw [call_plain (fn := c52) rfl rfl (by simp only [go_sem, reduceIte, Nat.reduceEqDiff, Nat.reduceAdd, Nat.reduceSub, Nat.reduceMul, Nat.reduceLeDiff, Nat.reduceLT, Int.reduceNeg, Int.reduceEq, Int.reduceLT, Int.reduceLE, Int.reduceNe, Int.reduceToNat, Int.reduceAdd, Int.reduceMul, Int.reduceSub, Int.reduceBEq, ih]) rfl (by decide)]; simp only [c52, c52_b, go_sem, reduceIte, Nat.reduceEqDiff, Nat.reduceAdd, Nat.reduceSub, Nat.reduceMul, Nat.reduceLeDiff, Nat.reduceLT, Int.reduceNeg, Int.reduceEq, Int.reduceLT, Int.reduceLE, Int.reduceNe, Int.reduceToNat, Int.reduceAdd, Int.reduceMul, Int.reduceSub, Int.reduceBEq, ih])
  · by_cases h10 : -10 < n
    · obtain ⟨N, ih⟩ := (digits_ok (ot := ot) (oz := oz) 20 n.natAbs (by omega) (by omega) (by omega) (by omega)).le
      refine ⟨N + 2, fun S => ?_⟩
      have ih := ih N (by omega) S
      have w : IntKind.i64.wrap (0 - n) = (n.natAbs : Int) := by rw [wrap64 (by omega) (by omega)]; omega
      have e : (⟨#[45]⟩ : ByteArray) ++ txt (digF 20 n.natAbs) = numS n := by
        have : (⟨#[45]⟩ : ByteArray) = txt [45] := rfl
        rw [this, txt_append]; unfold numS numL; rw [if_pos (by omega)]; rfl
      have sz : ¬ (9223372036854775807 : Int) < (((#[45] : Array UInt8).size + (txt (digF 20 n.natAbs)).size : Nat) : Int) := by
        show ¬ (9223372036854775807 : Int) < (((⟨#[45]⟩ : ByteArray).size + (txt (digF 20 n.natAbs)).size : Nat) : Int)
        have := digF_len 20 n.natAbs
        rw [txt_size]; simp [ByteArray.size]; omega
      generalize txt (digF 20 n.natAbs) = t at *
      (rw [call_plain (fn := c52) rfl rfl (by simp only [go_sem, reduceIte, Nat.reduceEqDiff, Nat.reduceAdd, Nat.reduceSub, Nat.reduceMul, Nat.reduceLeDiff, Nat.reduceLT, Int.reduceNeg, Int.reduceEq, Int.reduceLT, Int.reduceLE, Int.reduceNe, Int.reduceToNat, Int.reduceAdd, Int.reduceMul, Int.reduceSub, Int.reduceBEq, h0, h10, ih, w, sz, e]) rfl (by decide)]; simp only [c52, c52_b, go_sem, reduceIte, Nat.reduceEqDiff, Nat.reduceAdd, Nat.reduceSub, Nat.reduceMul, Nat.reduceLeDiff, Nat.reduceLT, Int.reduceNeg, Int.reduceEq, Int.reduceLT, Int.reduceLE, Int.reduceNe, Int.reduceToNat, Int.reduceAdd, Int.reduceMul, Int.reduceSub, Int.reduceBEq, h0, h10, ih, w, sz, e])
    · obtain ⟨N, ih⟩ := (digits_ok (ot := ot) (oz := oz) 19 (n.natAbs / 10) (by omega) (by omega) (by omega) (by omega)).le
      obtain ⟨M, ih2⟩ := (digits_ok (ot := ot) (oz := oz) 1 (n.natAbs % 10) (by omega) (by omega) (by omega) (by omega)).le
      refine ⟨N + M + 2, fun S => ?_⟩
      have ih := ih (N + M) (by omega) S
      have ih2 := ih2 (N + M) (by omega) S
      have d1 : n.tdiv 10 = -((n.natAbs / 10 : Nat) : Int) := by
        have : n = -(n.natAbs : Int) := by omega
        rw [this, Int.neg_tdiv, Int.tdiv_eq_ediv_of_nonneg (by omega)]; omega
      have d2 : n.tmod 10 = -((n.natAbs % 10 : Nat) : Int) := by
        have : n = -(n.natAbs : Int) := by omega
        rw [this, Int.neg_tmod, Int.tmod_eq_emod_of_nonneg (by omega)]; omega
      have w1 : IntKind.i64.wrap (n.tdiv 10) = -((n.natAbs / 10 : Nat) : Int) := by rw [d1, wrap64 (by omega) (by omega)]
      have w2 : IntKind.i64.wrap (0 - (-((n.natAbs / 10 : Nat) : Int))) = ((n.natAbs / 10 : Nat) : Int) := by rw [wrap64 (by omega) (by omega)]; omega
      have w3 : IntKind.i64.wrap (0 - (-((n.natAbs % 10 : Nat) : Int))) = ((n.natAbs % 10 : Nat) : Int) := by rw [wrap64 (by omega) (by omega)]; omega
      have p1 := digF_len 19 (n.natAbs / 10)
      have p2 := digF_len 1 (n.natAbs % 10)
      have e1 : (⟨#[45]⟩ : ByteArray) ++ txt (digF 19 (n.natAbs / 10)) = txt (45 :: digF 19 (n.natAbs / 10)) := by
        have : (⟨#[45]⟩ : ByteArray) = txt [45] := rfl
        rw [this, txt_append]; rfl
      have e2 : txt (45 :: digF 19 (n.natAbs / 10)) ++ txt (digF 1 (n.natAbs % 10)) = numS n := by
        rw [txt_append]; unfold numS numL; rw [if_pos (by omega), digF_more (show ¬ n.natAbs < 10 by omega), digF_one (f := 0) (show n.natAbs % 10 < 10 by omega)]; rfl
      have s1 : ¬ (9223372036854775807 : Int) < (((#[45] : Array UInt8).size + (txt (digF 19 (n.natAbs / 10))).size : Nat) : Int) := by
        show ¬ (9223372036854775807 : Int) < (((⟨#[45]⟩ : ByteArray).size + (txt (digF 19 (n.natAbs / 10))).size : Nat) : Int)
        rw [txt_size]; simp [ByteArray.size]; omega
      have s2 : ¬ (9223372036854775807 : Int) < (((txt (45 :: digF 19 (n.natAbs / 10))).size + (txt (digF 1 (n.natAbs % 10))).size : Nat) : Int) := by
        rw [txt_size, txt_size]; simp; omega
      generalize txt (45 :: digF 19 (n.natAbs / 10)) = t2 at *
      generalize txt (digF 19 (n.natAbs / 10)) = t1 at *
      generalize txt (digF 1 (n.natAbs % 10)) = t3 at *
      generalize n.natAbs / 10 = a at *
      generalize n.natAbs % 10 = b at *
      (rw [call_plain (fn := c52) rfl rfl (by simp only [go_sem, reduceIte, Nat.reduceEqDiff, Nat.reduceAdd, Nat.reduceSub, Nat.reduceMul, Nat.reduceLeDiff, Nat.reduceLT, Int.reduceNeg, Int.reduceEq, Int.reduceLT, Int.reduceLE, Int.reduceNe, Int.reduceToNat, Int.reduceAdd, Int.reduceMul, Int.reduceSub, Int.reduceBEq, h0, h10, ih, ih2, w1, w2, w3, d2, s1, s2, e1, e2]) rfl (by decide)]; simp only [c52, c52_b, go_sem, reduceIte, Nat.reduceEqDiff, Nat.reduceAdd, Nat.reduceSub, Nat.reduceMul, Nat.reduceLeDiff, Nat.reduceLT, Int.reduceNeg, Int.reduceEq, Int.reduceLT, Int.reduceLE, Int.reduceNe, Int.reduceToNat, Int.reduceAdd, Int.reduceMul, Int.reduceSub, Int.reduceBEq, h0, h10, ih, ih2, w1, w2, w3, d2, s1, s2, e1, e2])

theorem itoa_call (n : Int) (h : In64 n) (m : Nat) (S : St) : (lvl (env ot oz) (m + 1)).call 49 [.int .i64 n] S = some (.str (numS n), S) := by
  rw [call_known (F := itF) rfl (args' := [.int .i64 n]) (by simp only [go_sem, reduceIte, Nat.reduceEqDiff, Nat.reduceAdd, Nat.reduceSub, Nat.reduceMul, Nat.reduceLeDiff, Nat.reduceLT, Int.reduceNeg, Int.reduceEq, Int.reduceLT, Int.reduceLE, Int.reduceNe, Int.reduceToNat, Int.reduceAdd, Int.reduceMul, Int.reduceSub, Int.reduceBEq])]
  simp only [itF]
  exact if_pos h
theorem itoa_ok (n : Int) (h : In64 n) : Ans (env ot oz) 49 [.int .i64 n] (.str (numS n)) := ⟨1, itoa_call n h 0⟩
def boolS (b : Bool) : ByteArray := if b then ⟨#[116, 114, 117, 101]⟩ else ⟨#[102, 97, 108, 115, 101]⟩
theorem fmtBool0_ok (b : Bool) : Ans (env ot oz) 75 [.bool b] (.str (boolS b)) := by
  refine ⟨2, fun S => ?_⟩
  cases b <;> (rw [call_plain (fn := c75) rfl rfl (by simp only [go_sem, reduceIte, Nat.reduceEqDiff, Nat.reduceAdd, Nat.reduceSub, Nat.reduceMul, Nat.reduceLeDiff, Nat.reduceLT, Int.reduceNeg, Int.reduceEq, Int.reduceLT, Int.reduceLE, Int.reduceNe, Int.reduceToNat, Int.reduceAdd, Int.reduceMul, Int.reduceSub, Int.reduceBEq, boolS]) rfl (by decide)]; simp only [c75, c75_b, go_sem, reduceIte, Nat.reduceEqDiff, Nat.reduceAdd, Nat.reduceSub, Nat.reduceMul, Nat.reduceLeDiff, Nat.reduceLT, Int.reduceNeg, Int.reduceEq, Int.reduceLT, Int.reduceLE, Int.reduceNe, Int.reduceToNat, Int.reduceAdd, Int.reduceMul, Int.reduceSub, Int.reduceBEq, boolS])
theorem fmtBool_ok (b : Bool) : Ans (env ot oz) 50 [.bool b] (.str (boolS b)) := by
  obtain ⟨N, h⟩ := (fmtBool0_ok (ot := ot) (oz := oz) b).le
  refine ⟨N + 2, fun S => ?_⟩
  have h := h N (by omega) S
  (rw [call_plain (fn := c50) rfl rfl (by simp only [go_sem, reduceIte, Nat.reduceEqDiff, Nat.reduceAdd, Nat.reduceSub, Nat.reduceMul, Nat.reduceLeDiff, Nat.reduceLT, Int.reduceNeg, Int.reduceEq, Int.reduceLT, Int.reduceLE, Int.reduceNe, Int.reduceToNat, Int.reduceAdd, Int.reduceMul, Int.reduceSub, Int.reduceBEq, h]) rfl (by decide)]; simp only [c50, c50_b, go_sem, reduceIte, Nat.reduceEqDiff, Nat.reduceAdd, Nat.reduceSub, Nat.reduceMul, Nat.reduceLeDiff, Nat.reduceLT, Int.reduceNeg, Int.reduceEq, Int.reduceLT, Int.reduceLE, Int.reduceNe, Int.reduceToNat, Int.reduceAdd, Int.reduceMul, Int.reduceSub, Int.reduceBEq, h])
end
end Go.PE
