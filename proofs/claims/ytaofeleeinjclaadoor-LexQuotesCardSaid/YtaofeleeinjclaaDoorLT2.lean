/-
  How the reader reads a quoted text of too many bytes. Conditions: each law's own.
-/
import Derived.Test.YtaofeleeinjclaaDoorLT
namespace Go.PE
open Go Go.RowKit Go.Proofs
set_option linter.unusedVariables false
set_option linter.unusedSimpArgs false
set_option maxRecDepth 100000
section
variable {ot : TypeId} {oz : EP}

set_option maxHeartbeats 1000000 in
theorem text_l1 (q : ByteArray) (hq : q.size ≤ 100000) (SR : St) (l : Nat) (out err : PV) (hl : l < SR.obs.length) (hR : SR.obs[l]? = some (.cells 57 [.str q, .int .i64 0, out, err])) (SP : St) (fin : Kont (PV × St)) (st : List Fw) :
    ∀ (rest done : List UInt8) (i : Nat) (tl : List UInt8), q.data.toList.drop i = rest.flatMap qc ++ tl → done.length ≤ 40 → 41 ≤ done.length + rest.length →
    cal (env ot oz) 63 [.ref l 0, .int .i64 6, .int .i64 0] (BT SR ((done ++ rest).take 41)) = some (.bool false, SP) →
    run (env ot oz) fin st c45_l0 [(0, some (.ref l 0)), (3, some (.int .i64 0)), (4, some (.ref SR.obs.length 0)), (5, some (.int .i64 (i : Int)))] (BT SR done) =
      aft (env ot oz) fin st .ret [(2, some (.bool false))] SP
  | [], done, i, tl, h, hd, hn, hp => by simp at hn; omega
  | c :: rest, done, i, tl, h, hd, hn, hp => by
    have hn' : 41 ≤ (done ++ [c]).length + rest.length := by simp at hn ⊢; omega
    have ap : done ++ c :: rest = (done ++ [c]) ++ rest := by simp
    have fl : ((c :: rest).flatMap qc) = qc c ++ rest.flatMap qc := List.flatMap_cons
    rw [fl, List.append_assoc] at h
    rw [ap] at hp
    have h0 := h
    have h3 : i < q.size := by
      rw [← size_data]
      rcases Nat.lt_or_ge i q.data.toList.length with h' | h'
      · exact h'
      · rw [List.drop_eq_nil_of_le h'] at h; have qn : 1 ≤ (qc c).length := by (unfold qc; (repeat' split) <;> simp)
        have := congrArg List.length h; rw [List.length_append, List.length_nil] at this; omega
    have g := (btGet SR done l hl).trans hR
    have lt := lt_yes h3
    have hb : (0 : Int) ≤ (i : Int) ∧ (i : Int) < (q.size : Int) := by omega
    have hb2 : (0 : Int) ≤ (i : Int) ∧ (i : Int) ≤ (q.size : Int) := by omega
    have wb := wbT (ot := ot) (oz := oz) SR done c (by omega)
    have le := lenT (ot := ot) (oz := oz) SR (done ++ [c])
    have g2 := (btGet SR (done ++ [c]) l hl).trans hR
    have w2 : IntKind.i64.wrap ((i : Int) + 2) = ((i + 2 : Nat) : Int) := by rw [wrap64 (by omega) (by omega)]; omega
    have w4 : IntKind.i64.wrap ((i : Int) + 4) = ((i + 4 : Nat) : Int) := by rw [wrap64 (by omega) (by omega)]; omega
    have w1 : IntKind.i64.wrap ((i : Int) + 1) = ((i + 1 : Nat) : Int) := by rw [wrap64 (by omega) (by omega)]; omega
    have ex := ext_txt q i
    have rl : (rest.flatMap qc ++ tl).length ≤ 100000 := by
      have := congrArg List.length h
      rw [List.length_drop, List.length_append, size_data] at this
      omega
    rcases Nat.lt_or_ge done.length 40 with hd2 | hd2
    · skip
      have l40 : decide ((40 : Int) < ((done.length + 1 : Nat) : Int)) = false := by simp; omega
      have ih := fun (k : Nat) (hk : (qc c).length = k) => text_l1 q hq SR l out err hl hR SP fin st rest (done ++ [c]) (i + k) tl (by rw [← List.drop_drop, h0, ← hk, List.drop_left]) (by simp; omega) hn' hp
      generalize hT : BT SR done = T at *
      generalize hT2 : BT SR (done ++ [c]) = T2 at *
      generalize rest.flatMap qc ++ tl = rr at *
      cases q1 : ((c.toNat : Int) == 34) || ((c.toNat : Int) == 92) with
      | true =>
        have qe : qc c = [92, c] := by simp only [qc, q1, if_true]
        have ih := ih 2 (by rw [qe]; rfl)
        rw [qe] at h
        have h1 := (drop_cons h).1
        rw [h] at ex
        have hc : c = 34 ∨ c = 92 := by
          simp only [Bool.or_eq_true, beq_iff_eq] at q1
          rcases q1 with q1 | q1
          · left; exact UInt8.toNat_inj.1 (show c.toNat = 34 by omega)
          · right; exact UInt8.toNat_inj.1 (show c.toNat = 92 by omega)
        have es := esc_q (ot := ot) (oz := oz) c rr hc rl
        simp only [List.cons_append, List.nil_append] at ex
        (rw [c45_l0_w]; simp only [c45_l0_b, c45_l0_a, c45_r10, go_sem, reduceIte, Nat.reduceEqDiff, Nat.reduceAdd, Nat.reduceSub, Nat.reduceMul, Nat.reduceLeDiff, Nat.reduceLT, Int.reduceNeg, Int.reduceEq, Int.reduceLT, Int.reduceLE, Int.reduceNe, Int.reduceToNat, Int.reduceAdd, Int.reduceMul, Int.reduceSub, Int.reduceBEq, g, lt, hb, hb2, h1, ex, es, wb, le, l40, g2, w2, ih, UInt8.reduceToNat, Int.toNat_natCast]; repeat' (first | (rw [guardO_t]; split <;> rename_i h <;> (try rw [Bool.not_eq_true] at h) <;> (try simp only [go_sem, reduceIte, Nat.reduceEqDiff, Nat.reduceAdd, Nat.reduceSub, Nat.reduceMul, Nat.reduceLeDiff, Nat.reduceLT, Int.reduceNeg, Int.reduceEq, Int.reduceLT, Int.reduceLE, Int.reduceNe, Int.reduceToNat, Int.reduceAdd, Int.reduceMul, Int.reduceSub, Int.reduceBEq, c45_r10, c45_l0_a, g, lt, hb, hb2, h1, ex, es, wb, le, l40, g2, w2, ih, UInt8.reduceToNat, Int.toNat_natCast, *])) | (rw [guardO_f]; split <;> rename_i h <;> (try rw [Bool.not_eq_true] at h) <;> (try simp only [go_sem, reduceIte, Nat.reduceEqDiff, Nat.reduceAdd, Nat.reduceSub, Nat.reduceMul, Nat.reduceLeDiff, Nat.reduceLT, Int.reduceNeg, Int.reduceEq, Int.reduceLT, Int.reduceLE, Int.reduceNe, Int.reduceToNat, Int.reduceAdd, Int.reduceMul, Int.reduceSub, Int.reduceBEq, c45_r10, c45_l0_a, g, lt, hb, hb2, h1, ex, es, wb, le, l40, g2, w2, ih, UInt8.reduceToNat, Int.toNat_natCast, *])) | (rw [cw_bool]; split <;> rename_i h <;> (try rw [Bool.not_eq_true] at h) <;> (try simp only [go_sem, reduceIte, Nat.reduceEqDiff, Nat.reduceAdd, Nat.reduceSub, Nat.reduceMul, Nat.reduceLeDiff, Nat.reduceLT, Int.reduceNeg, Int.reduceEq, Int.reduceLT, Int.reduceLE, Int.reduceNe, Int.reduceToNat, Int.reduceAdd, Int.reduceMul, Int.reduceSub, Int.reduceBEq, c45_r10, c45_l0_a, g, lt, hb, hb2, h1, ex, es, wb, le, l40, g2, w2, ih, UInt8.reduceToNat, Int.toNat_natCast, *]))))
      | false =>
        simp only [Bool.or_eq_false_iff] at q1
        obtain ⟨q1, q2⟩ := q1
        cases q3 : ((c.toNat : Int) == 10) with
        | true =>
          have qe : qc c = [92, 110] := by simp [qc, q1, q2, q3]
          have ih := ih 2 (by rw [qe]; rfl)
          rw [qe] at h
          have h1 := (drop_cons h).1
          rw [h] at ex
          have es := esc_n (ot := ot) (oz := oz) rr rl
          have ec : (c.toNat : Int) = 10 := by simpa using q3
          rw [ec] at wb
          simp only [List.cons_append, List.nil_append] at ex
          (rw [c45_l0_w]; simp only [c45_l0_b, c45_l0_a, c45_r10, go_sem, reduceIte, Nat.reduceEqDiff, Nat.reduceAdd, Nat.reduceSub, Nat.reduceMul, Nat.reduceLeDiff, Nat.reduceLT, Int.reduceNeg, Int.reduceEq, Int.reduceLT, Int.reduceLE, Int.reduceNe, Int.reduceToNat, Int.reduceAdd, Int.reduceMul, Int.reduceSub, Int.reduceBEq, g, lt, hb, hb2, h1, ex, es, wb, le, l40, g2, w2, ih, UInt8.reduceToNat, Int.toNat_natCast]; repeat' (first | (rw [guardO_t]; split <;> rename_i h <;> (try rw [Bool.not_eq_true] at h) <;> (try simp only [go_sem, reduceIte, Nat.reduceEqDiff, Nat.reduceAdd, Nat.reduceSub, Nat.reduceMul, Nat.reduceLeDiff, Nat.reduceLT, Int.reduceNeg, Int.reduceEq, Int.reduceLT, Int.reduceLE, Int.reduceNe, Int.reduceToNat, Int.reduceAdd, Int.reduceMul, Int.reduceSub, Int.reduceBEq, c45_r10, c45_l0_a, g, lt, hb, hb2, h1, ex, es, wb, le, l40, g2, w2, ih, UInt8.reduceToNat, Int.toNat_natCast, *])) | (rw [guardO_f]; split <;> rename_i h <;> (try rw [Bool.not_eq_true] at h) <;> (try simp only [go_sem, reduceIte, Nat.reduceEqDiff, Nat.reduceAdd, Nat.reduceSub, Nat.reduceMul, Nat.reduceLeDiff, Nat.reduceLT, Int.reduceNeg, Int.reduceEq, Int.reduceLT, Int.reduceLE, Int.reduceNe, Int.reduceToNat, Int.reduceAdd, Int.reduceMul, Int.reduceSub, Int.reduceBEq, c45_r10, c45_l0_a, g, lt, hb, hb2, h1, ex, es, wb, le, l40, g2, w2, ih, UInt8.reduceToNat, Int.toNat_natCast, *])) | (rw [cw_bool]; split <;> rename_i h <;> (try rw [Bool.not_eq_true] at h) <;> (try simp only [go_sem, reduceIte, Nat.reduceEqDiff, Nat.reduceAdd, Nat.reduceSub, Nat.reduceMul, Nat.reduceLeDiff, Nat.reduceLT, Int.reduceNeg, Int.reduceEq, Int.reduceLT, Int.reduceLE, Int.reduceNe, Int.reduceToNat, Int.reduceAdd, Int.reduceMul, Int.reduceSub, Int.reduceBEq, c45_r10, c45_l0_a, g, lt, hb, hb2, h1, ex, es, wb, le, l40, g2, w2, ih, UInt8.reduceToNat, Int.toNat_natCast, *]))))
        | false =>
          by_cases q4 : (c.toNat : Int) < 32 ∨ 126 < (c.toNat : Int)
          · have qe : qc c = [92, 120, hx (c.toNat / 16), hx (c.toNat % 16)] := by simp only [qc, q1, q2, q3, Bool.or_self, Bool.false_eq_true, if_false, q4, if_true]
            have ih := ih 4 (by rw [qe]; rfl)
            rw [qe] at h
            have h1 := (drop_cons h).1
            rw [h] at ex
            have es := esc_x (ot := ot) (oz := oz) c.toNat c.toNat_lt rr rl
            simp only [List.cons_append, List.nil_append] at ex
            (rw [c45_l0_w]; simp only [c45_l0_b, c45_l0_a, c45_r10, go_sem, reduceIte, Nat.reduceEqDiff, Nat.reduceAdd, Nat.reduceSub, Nat.reduceMul, Nat.reduceLeDiff, Nat.reduceLT, Int.reduceNeg, Int.reduceEq, Int.reduceLT, Int.reduceLE, Int.reduceNe, Int.reduceToNat, Int.reduceAdd, Int.reduceMul, Int.reduceSub, Int.reduceBEq, g, lt, hb, hb2, h1, ex, es, wb, le, l40, g2, w4, ih, UInt8.reduceToNat, Int.toNat_natCast]; repeat' (first | (rw [guardO_t]; split <;> rename_i h <;> (try rw [Bool.not_eq_true] at h) <;> (try simp only [go_sem, reduceIte, Nat.reduceEqDiff, Nat.reduceAdd, Nat.reduceSub, Nat.reduceMul, Nat.reduceLeDiff, Nat.reduceLT, Int.reduceNeg, Int.reduceEq, Int.reduceLT, Int.reduceLE, Int.reduceNe, Int.reduceToNat, Int.reduceAdd, Int.reduceMul, Int.reduceSub, Int.reduceBEq, c45_r10, c45_l0_a, g, lt, hb, hb2, h1, ex, es, wb, le, l40, g2, w4, ih, UInt8.reduceToNat, Int.toNat_natCast, *])) | (rw [guardO_f]; split <;> rename_i h <;> (try rw [Bool.not_eq_true] at h) <;> (try simp only [go_sem, reduceIte, Nat.reduceEqDiff, Nat.reduceAdd, Nat.reduceSub, Nat.reduceMul, Nat.reduceLeDiff, Nat.reduceLT, Int.reduceNeg, Int.reduceEq, Int.reduceLT, Int.reduceLE, Int.reduceNe, Int.reduceToNat, Int.reduceAdd, Int.reduceMul, Int.reduceSub, Int.reduceBEq, c45_r10, c45_l0_a, g, lt, hb, hb2, h1, ex, es, wb, le, l40, g2, w4, ih, UInt8.reduceToNat, Int.toNat_natCast, *])) | (rw [cw_bool]; split <;> rename_i h <;> (try rw [Bool.not_eq_true] at h) <;> (try simp only [go_sem, reduceIte, Nat.reduceEqDiff, Nat.reduceAdd, Nat.reduceSub, Nat.reduceMul, Nat.reduceLeDiff, Nat.reduceLT, Int.reduceNeg, Int.reduceEq, Int.reduceLT, Int.reduceLE, Int.reduceNe, Int.reduceToNat, Int.reduceAdd, Int.reduceMul, Int.reduceSub, Int.reduceBEq, c45_r10, c45_l0_a, g, lt, hb, hb2, h1, ex, es, wb, le, l40, g2, w4, ih, UInt8.reduceToNat, Int.toNat_natCast, *]))))
          · have qe : qc c = [c] := by simp only [qc, q1, q2, q3, Bool.or_self, Bool.false_eq_true, if_false, q4]
            have ih := ih 1 (by rw [qe]; rfl)
            rw [qe] at h
            have h1 := (drop_cons h).1
            have q5 : decide ((c.toNat : Int) < 32) = false := by simp; omega
            have q6 : decide ((126 : Int) < (c.toNat : Int)) = false := by simp; omega
            (rw [c45_l0_w]; simp only [c45_l0_b, c45_l0_a, c45_r10, go_sem, reduceIte, Nat.reduceEqDiff, Nat.reduceAdd, Nat.reduceSub, Nat.reduceMul, Nat.reduceLeDiff, Nat.reduceLT, Int.reduceNeg, Int.reduceEq, Int.reduceLT, Int.reduceLE, Int.reduceNe, Int.reduceToNat, Int.reduceAdd, Int.reduceMul, Int.reduceSub, Int.reduceBEq, g, lt, hb, h1, q1, q2, q5, q6, wb, le, l40, g2, w1, ih, Int.toNat_natCast]; repeat' (first | (rw [guardO_t]; split <;> rename_i h <;> (try rw [Bool.not_eq_true] at h) <;> (try simp only [go_sem, reduceIte, Nat.reduceEqDiff, Nat.reduceAdd, Nat.reduceSub, Nat.reduceMul, Nat.reduceLeDiff, Nat.reduceLT, Int.reduceNeg, Int.reduceEq, Int.reduceLT, Int.reduceLE, Int.reduceNe, Int.reduceToNat, Int.reduceAdd, Int.reduceMul, Int.reduceSub, Int.reduceBEq, c45_r10, c45_l0_a, g, lt, hb, h1, q1, q2, q5, q6, wb, le, l40, g2, w1, ih, Int.toNat_natCast, *])) | (rw [guardO_f]; split <;> rename_i h <;> (try rw [Bool.not_eq_true] at h) <;> (try simp only [go_sem, reduceIte, Nat.reduceEqDiff, Nat.reduceAdd, Nat.reduceSub, Nat.reduceMul, Nat.reduceLeDiff, Nat.reduceLT, Int.reduceNeg, Int.reduceEq, Int.reduceLT, Int.reduceLE, Int.reduceNe, Int.reduceToNat, Int.reduceAdd, Int.reduceMul, Int.reduceSub, Int.reduceBEq, c45_r10, c45_l0_a, g, lt, hb, h1, q1, q2, q5, q6, wb, le, l40, g2, w1, ih, Int.toNat_natCast, *])) | (rw [cw_bool]; split <;> rename_i h <;> (try rw [Bool.not_eq_true] at h) <;> (try simp only [go_sem, reduceIte, Nat.reduceEqDiff, Nat.reduceAdd, Nat.reduceSub, Nat.reduceMul, Nat.reduceLeDiff, Nat.reduceLT, Int.reduceNeg, Int.reduceEq, Int.reduceLT, Int.reduceLE, Int.reduceNe, Int.reduceToNat, Int.reduceAdd, Int.reduceMul, Int.reduceSub, Int.reduceBEq, c45_r10, c45_l0_a, g, lt, hb, h1, q1, q2, q5, q6, wb, le, l40, g2, w1, ih, Int.toNat_natCast, *]))))
    · skip
      have l40 : decide ((40 : Int) < ((done.length + 1 : Nat) : Int)) = true := by simp; omega
      have tk : (done ++ [c] ++ rest).take 41 = done ++ [c] := by rw [List.take_append_of_le_length (by simp; omega), List.take_of_length_le (by simp; omega)]
      rw [tk] at hp
      generalize hT : BT SR done = T at *
      generalize hT2 : BT SR (done ++ [c]) = T2 at *
      generalize rest.flatMap qc ++ tl = rr at *
      cases q1 : ((c.toNat : Int) == 34) || ((c.toNat : Int) == 92) with
      | true =>
        have qe : qc c = [92, c] := by simp only [qc, q1, if_true]
        rw [qe] at h
        have h1 := (drop_cons h).1
        rw [h] at ex
        have hc : c = 34 ∨ c = 92 := by
          simp only [Bool.or_eq_true, beq_iff_eq] at q1
          rcases q1 with q1 | q1
          · left; exact UInt8.toNat_inj.1 (show c.toNat = 34 by omega)
          · right; exact UInt8.toNat_inj.1 (show c.toNat = 92 by omega)
        have es := esc_q (ot := ot) (oz := oz) c rr hc rl
        simp only [List.cons_append, List.nil_append] at ex
        (rw [c45_l0_w]; simp only [c45_l0_b, c45_l0_a, c45_r10, go_sem, reduceIte, Nat.reduceEqDiff, Nat.reduceAdd, Nat.reduceSub, Nat.reduceMul, Nat.reduceLeDiff, Nat.reduceLT, Int.reduceNeg, Int.reduceEq, Int.reduceLT, Int.reduceLE, Int.reduceNe, Int.reduceToNat, Int.reduceAdd, Int.reduceMul, Int.reduceSub, Int.reduceBEq, g, lt, hb, hb2, h1, ex, es, wb, le, l40, g2, w2, hp, UInt8.reduceToNat, Int.toNat_natCast]; repeat' (first | (rw [guardO_t]; split <;> rename_i h <;> (try rw [Bool.not_eq_true] at h) <;> (try simp only [go_sem, reduceIte, Nat.reduceEqDiff, Nat.reduceAdd, Nat.reduceSub, Nat.reduceMul, Nat.reduceLeDiff, Nat.reduceLT, Int.reduceNeg, Int.reduceEq, Int.reduceLT, Int.reduceLE, Int.reduceNe, Int.reduceToNat, Int.reduceAdd, Int.reduceMul, Int.reduceSub, Int.reduceBEq, c45_r10, c45_l0_a, g, lt, hb, hb2, h1, ex, es, wb, le, l40, g2, w2, hp, UInt8.reduceToNat, Int.toNat_natCast, *])) | (rw [guardO_f]; split <;> rename_i h <;> (try rw [Bool.not_eq_true] at h) <;> (try simp only [go_sem, reduceIte, Nat.reduceEqDiff, Nat.reduceAdd, Nat.reduceSub, Nat.reduceMul, Nat.reduceLeDiff, Nat.reduceLT, Int.reduceNeg, Int.reduceEq, Int.reduceLT, Int.reduceLE, Int.reduceNe, Int.reduceToNat, Int.reduceAdd, Int.reduceMul, Int.reduceSub, Int.reduceBEq, c45_r10, c45_l0_a, g, lt, hb, hb2, h1, ex, es, wb, le, l40, g2, w2, hp, UInt8.reduceToNat, Int.toNat_natCast, *])) | (rw [cw_bool]; split <;> rename_i h <;> (try rw [Bool.not_eq_true] at h) <;> (try simp only [go_sem, reduceIte, Nat.reduceEqDiff, Nat.reduceAdd, Nat.reduceSub, Nat.reduceMul, Nat.reduceLeDiff, Nat.reduceLT, Int.reduceNeg, Int.reduceEq, Int.reduceLT, Int.reduceLE, Int.reduceNe, Int.reduceToNat, Int.reduceAdd, Int.reduceMul, Int.reduceSub, Int.reduceBEq, c45_r10, c45_l0_a, g, lt, hb, hb2, h1, ex, es, wb, le, l40, g2, w2, hp, UInt8.reduceToNat, Int.toNat_natCast, *]))))
      | false =>
        simp only [Bool.or_eq_false_iff] at q1
        obtain ⟨q1, q2⟩ := q1
        cases q3 : ((c.toNat : Int) == 10) with
        | true =>
          have qe : qc c = [92, 110] := by simp [qc, q1, q2, q3]
          rw [qe] at h
          have h1 := (drop_cons h).1
          rw [h] at ex
          have es := esc_n (ot := ot) (oz := oz) rr rl
          have ec : (c.toNat : Int) = 10 := by simpa using q3
          rw [ec] at wb
          simp only [List.cons_append, List.nil_append] at ex
          (rw [c45_l0_w]; simp only [c45_l0_b, c45_l0_a, c45_r10, go_sem, reduceIte, Nat.reduceEqDiff, Nat.reduceAdd, Nat.reduceSub, Nat.reduceMul, Nat.reduceLeDiff, Nat.reduceLT, Int.reduceNeg, Int.reduceEq, Int.reduceLT, Int.reduceLE, Int.reduceNe, Int.reduceToNat, Int.reduceAdd, Int.reduceMul, Int.reduceSub, Int.reduceBEq, g, lt, hb, hb2, h1, ex, es, wb, le, l40, g2, w2, hp, UInt8.reduceToNat, Int.toNat_natCast]; repeat' (first | (rw [guardO_t]; split <;> rename_i h <;> (try rw [Bool.not_eq_true] at h) <;> (try simp only [go_sem, reduceIte, Nat.reduceEqDiff, Nat.reduceAdd, Nat.reduceSub, Nat.reduceMul, Nat.reduceLeDiff, Nat.reduceLT, Int.reduceNeg, Int.reduceEq, Int.reduceLT, Int.reduceLE, Int.reduceNe, Int.reduceToNat, Int.reduceAdd, Int.reduceMul, Int.reduceSub, Int.reduceBEq, c45_r10, c45_l0_a, g, lt, hb, hb2, h1, ex, es, wb, le, l40, g2, w2, hp, UInt8.reduceToNat, Int.toNat_natCast, *])) | (rw [guardO_f]; split <;> rename_i h <;> (try rw [Bool.not_eq_true] at h) <;> (try simp only [go_sem, reduceIte, Nat.reduceEqDiff, Nat.reduceAdd, Nat.reduceSub, Nat.reduceMul, Nat.reduceLeDiff, Nat.reduceLT, Int.reduceNeg, Int.reduceEq, Int.reduceLT, Int.reduceLE, Int.reduceNe, Int.reduceToNat, Int.reduceAdd, Int.reduceMul, Int.reduceSub, Int.reduceBEq, c45_r10, c45_l0_a, g, lt, hb, hb2, h1, ex, es, wb, le, l40, g2, w2, hp, UInt8.reduceToNat, Int.toNat_natCast, *])) | (rw [cw_bool]; split <;> rename_i h <;> (try rw [Bool.not_eq_true] at h) <;> (try simp only [go_sem, reduceIte, Nat.reduceEqDiff, Nat.reduceAdd, Nat.reduceSub, Nat.reduceMul, Nat.reduceLeDiff, Nat.reduceLT, Int.reduceNeg, Int.reduceEq, Int.reduceLT, Int.reduceLE, Int.reduceNe, Int.reduceToNat, Int.reduceAdd, Int.reduceMul, Int.reduceSub, Int.reduceBEq, c45_r10, c45_l0_a, g, lt, hb, hb2, h1, ex, es, wb, le, l40, g2, w2, hp, UInt8.reduceToNat, Int.toNat_natCast, *]))))
        | false =>
          by_cases q4 : (c.toNat : Int) < 32 ∨ 126 < (c.toNat : Int)
          · have qe : qc c = [92, 120, hx (c.toNat / 16), hx (c.toNat % 16)] := by simp only [qc, q1, q2, q3, Bool.or_self, Bool.false_eq_true, if_false, q4, if_true]
            rw [qe] at h
            have h1 := (drop_cons h).1
            rw [h] at ex
            have es := esc_x (ot := ot) (oz := oz) c.toNat c.toNat_lt rr rl
            simp only [List.cons_append, List.nil_append] at ex
            (rw [c45_l0_w]; simp only [c45_l0_b, c45_l0_a, c45_r10, go_sem, reduceIte, Nat.reduceEqDiff, Nat.reduceAdd, Nat.reduceSub, Nat.reduceMul, Nat.reduceLeDiff, Nat.reduceLT, Int.reduceNeg, Int.reduceEq, Int.reduceLT, Int.reduceLE, Int.reduceNe, Int.reduceToNat, Int.reduceAdd, Int.reduceMul, Int.reduceSub, Int.reduceBEq, g, lt, hb, hb2, h1, ex, es, wb, le, l40, g2, w4, hp, UInt8.reduceToNat, Int.toNat_natCast]; repeat' (first | (rw [guardO_t]; split <;> rename_i h <;> (try rw [Bool.not_eq_true] at h) <;> (try simp only [go_sem, reduceIte, Nat.reduceEqDiff, Nat.reduceAdd, Nat.reduceSub, Nat.reduceMul, Nat.reduceLeDiff, Nat.reduceLT, Int.reduceNeg, Int.reduceEq, Int.reduceLT, Int.reduceLE, Int.reduceNe, Int.reduceToNat, Int.reduceAdd, Int.reduceMul, Int.reduceSub, Int.reduceBEq, c45_r10, c45_l0_a, g, lt, hb, hb2, h1, ex, es, wb, le, l40, g2, w4, hp, UInt8.reduceToNat, Int.toNat_natCast, *])) | (rw [guardO_f]; split <;> rename_i h <;> (try rw [Bool.not_eq_true] at h) <;> (try simp only [go_sem, reduceIte, Nat.reduceEqDiff, Nat.reduceAdd, Nat.reduceSub, Nat.reduceMul, Nat.reduceLeDiff, Nat.reduceLT, Int.reduceNeg, Int.reduceEq, Int.reduceLT, Int.reduceLE, Int.reduceNe, Int.reduceToNat, Int.reduceAdd, Int.reduceMul, Int.reduceSub, Int.reduceBEq, c45_r10, c45_l0_a, g, lt, hb, hb2, h1, ex, es, wb, le, l40, g2, w4, hp, UInt8.reduceToNat, Int.toNat_natCast, *])) | (rw [cw_bool]; split <;> rename_i h <;> (try rw [Bool.not_eq_true] at h) <;> (try simp only [go_sem, reduceIte, Nat.reduceEqDiff, Nat.reduceAdd, Nat.reduceSub, Nat.reduceMul, Nat.reduceLeDiff, Nat.reduceLT, Int.reduceNeg, Int.reduceEq, Int.reduceLT, Int.reduceLE, Int.reduceNe, Int.reduceToNat, Int.reduceAdd, Int.reduceMul, Int.reduceSub, Int.reduceBEq, c45_r10, c45_l0_a, g, lt, hb, hb2, h1, ex, es, wb, le, l40, g2, w4, hp, UInt8.reduceToNat, Int.toNat_natCast, *]))))
          · have qe : qc c = [c] := by simp only [qc, q1, q2, q3, Bool.or_self, Bool.false_eq_true, if_false, q4]
            rw [qe] at h
            have h1 := (drop_cons h).1
            have q5 : decide ((c.toNat : Int) < 32) = false := by simp; omega
            have q6 : decide ((126 : Int) < (c.toNat : Int)) = false := by simp; omega
            (rw [c45_l0_w]; simp only [c45_l0_b, c45_l0_a, c45_r10, go_sem, reduceIte, Nat.reduceEqDiff, Nat.reduceAdd, Nat.reduceSub, Nat.reduceMul, Nat.reduceLeDiff, Nat.reduceLT, Int.reduceNeg, Int.reduceEq, Int.reduceLT, Int.reduceLE, Int.reduceNe, Int.reduceToNat, Int.reduceAdd, Int.reduceMul, Int.reduceSub, Int.reduceBEq, g, lt, hb, h1, q1, q2, q5, q6, wb, le, l40, g2, w1, hp, Int.toNat_natCast]; repeat' (first | (rw [guardO_t]; split <;> rename_i h <;> (try rw [Bool.not_eq_true] at h) <;> (try simp only [go_sem, reduceIte, Nat.reduceEqDiff, Nat.reduceAdd, Nat.reduceSub, Nat.reduceMul, Nat.reduceLeDiff, Nat.reduceLT, Int.reduceNeg, Int.reduceEq, Int.reduceLT, Int.reduceLE, Int.reduceNe, Int.reduceToNat, Int.reduceAdd, Int.reduceMul, Int.reduceSub, Int.reduceBEq, c45_r10, c45_l0_a, g, lt, hb, h1, q1, q2, q5, q6, wb, le, l40, g2, w1, hp, Int.toNat_natCast, *])) | (rw [guardO_f]; split <;> rename_i h <;> (try rw [Bool.not_eq_true] at h) <;> (try simp only [go_sem, reduceIte, Nat.reduceEqDiff, Nat.reduceAdd, Nat.reduceSub, Nat.reduceMul, Nat.reduceLeDiff, Nat.reduceLT, Int.reduceNeg, Int.reduceEq, Int.reduceLT, Int.reduceLE, Int.reduceNe, Int.reduceToNat, Int.reduceAdd, Int.reduceMul, Int.reduceSub, Int.reduceBEq, c45_r10, c45_l0_a, g, lt, hb, h1, q1, q2, q5, q6, wb, le, l40, g2, w1, hp, Int.toNat_natCast, *])) | (rw [cw_bool]; split <;> rename_i h <;> (try rw [Bool.not_eq_true] at h) <;> (try simp only [go_sem, reduceIte, Nat.reduceEqDiff, Nat.reduceAdd, Nat.reduceSub, Nat.reduceMul, Nat.reduceLeDiff, Nat.reduceLT, Int.reduceNeg, Int.reduceEq, Int.reduceLT, Int.reduceLE, Int.reduceNe, Int.reduceToNat, Int.reduceAdd, Int.reduceMul, Int.reduceSub, Int.reduceBEq, c45_r10, c45_l0_a, g, lt, hb, h1, q1, q2, q5, q6, wb, le, l40, g2, w1, hp, Int.toNat_natCast, *]))))
end
end Go.PE
