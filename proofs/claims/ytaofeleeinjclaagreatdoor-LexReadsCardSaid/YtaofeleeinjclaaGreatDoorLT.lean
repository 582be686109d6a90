/-
  How the reader reads a quoted text that Quote wrote. Conditions: each law's own.
-/
import Derived.Test.YtaofeleeinjclaaGreatDoorLX
namespace Go.PE
open Go Go.RowKit Go.Proofs
set_option linter.unusedVariables false
set_option linter.unusedSimpArgs false
set_option maxRecDepth 100000
section
variable {ot : TypeId} {oz : EP}
theorem ext_txt (s : ByteArray) (i : Nat) : s.extract i s.size = txt (s.data.toList.drop i) := by
  have : (s.extract i s.size).data = (s.data.toList.drop i).toArray := by
    rw [ByteArray.data_extract]
    apply Array.toList_inj.1
    show (s.data.extract i s.data.size).toList = s.data.toList.drop i
    rw [Array.toList_extract, List.extract_eq_take_drop]
    exact List.take_of_length_le (by rw [List.length_drop, Array.length_toList]; exact Nat.le_refl _)
  unfold txt
  rw [← this]
/-- A builder: fresh, or one that has been written to. -/
def BT (S : St) : List UInt8 → St
  | [] => B0 S []
  | b :: bs => BX S (b :: bs) []
/-- .. whose text was taken. -/
def BU (S : St) : List UInt8 → St
  | [] => B0 S []
  | b :: bs => BZ S (b :: bs) []
theorem wbT (S : St) (d : List UInt8) (b : UInt8) (hl : d.length ≤ 100000) : cal (env ot oz) 34 [.ref S.obs.length 0, .int .u8 (b.toNat : Int)] (BT S d) = some (.nilifc, BT S (d ++ [b])) := by
  cases d with
  | nil => exact wb0_w S [] b
  | cons c d => exact wb_w S (c :: d) [] b (by simp at hl ⊢; omega)
theorem strT (S : St) (d : List UInt8) (hl : d.length ≤ 100000) : cal (env ot oz) 36 [.ref S.obs.length 0] (BT S d) = some (.str (txt d), BU S d) := by
  cases d with
  | nil => exact str0_w S []
  | cons c d => exact strX_w S (c :: d) [] (by simp at hl ⊢; omega)
theorem btObs (S : St) (d : List UInt8) : ∃ x, (BT S d).obs = S.obs ++ [.cells 77 [x, .sl (if d = [] then .null else .own S.own.length 5) (d.map rByte)]] := by
  cases d with
  | nil => exact ⟨_, rfl⟩
  | cons c d => exact ⟨_, rfl⟩
theorem btGet (S : St) (d : List UInt8) (l : Nat) (h : l < S.obs.length) : (BT S d).obs[l]? = S.obs[l]? := by
  obtain ⟨x, e⟩ := btObs S d
  rw [e, List.getElem?_append_left h]
theorem buGet (S : St) (d : List UInt8) (l : Nat) (h : l < S.obs.length) : (BU S d).obs[l]? = S.obs[l]? := by
  cases d <;> exact List.getElem?_append_left h
theorem lenT (S : St) (d : List UInt8) : cal (env ot oz) 100 [.ref S.obs.length 0] (BT S d) = some (.int .i64 (d.length : Int), BT S d) := by
  obtain ⟨x, e⟩ := btObs S d
  have g : (BT S d).obs[S.obs.length]? = some (.cells 77 [x, .sl (if d = [] then .null else .own S.own.length 5) (d.map rByte)]) := by rw [e]; simp
  have hl : ((d.map rByte).length : Int) = (d.length : Int) := by rw [List.length_map]
  generalize BT S d = T at *
  (rw [w_plain (fn := c100) rfl rfl (by simp only [go_sem, g, hl]) rfl (by decide)]; simp only [c100, c100_b, go_sem, g, hl]; repeat' (first | (rw [guardO_t]; split <;> rename_i h <;> (try rw [Bool.not_eq_true] at h) <;> (try simp only [go_sem, g, hl, *])) | (rw [guardO_f]; split <;> rename_i h <;> (try rw [Bool.not_eq_true] at h) <;> (try simp only [go_sem, g, hl, *])) | (rw [cw_bool]; split <;> rename_i h <;> (try rw [Bool.not_eq_true] at h) <;> (try simp only [go_sem, g, hl, *]))))

set_option maxHeartbeats 1000000 in
theorem text_l0 (q : ByteArray) (hq : q.size ≤ 100000) (SR : St) (l : Nat) (out err : PV) (hl : l < SR.obs.length) (hR : SR.obs[l]? = some (.cells 65 [.str q, .int .i64 0, out, err])) (SP : St) (fin : Kont (PV × St)) (st : List Fw) :
    ∀ (rest done : List UInt8) (i : Nat) (tl : List UInt8), q.data.toList.drop i = rest.flatMap qc ++ 34 :: tl → done.length + rest.length ≤ 40 →
    cal (env ot oz) 96 [.ref l 0, .agg [.int .i64 2, .int .i64 0, .str (txt (done ++ rest)), .int .i64 0], .int .i64 0, .int .i64 ((i + (rest.flatMap qc).length + 1 : Nat) : Int)] (BU SR (done ++ rest)) = some (.bool true, SP) →
    run (env ot oz) fin st c60_l0 [(0, some (.ref l 0)), (3, some (.int .i64 0)), (4, some (.ref SR.obs.length 0)), (5, some (.int .i64 (i : Int)))] (BT SR done) =
      aft (env ot oz) fin st .ret [(2, some (.bool true))] SP
  | [], done, i, tl, h, hn, hp => by
    obtain ⟨h1, h2, h3⟩ := drop_cons h
    rw [size_data] at h3
    have g := (btGet SR done l hl).trans hR
    have lt := lt_yes h3
    have hb : (0 : Int) ≤ (i : Int) ∧ (i : Int) < (q.size : Int) := by omega
    have w := wrap_succ h3 (by omega)
    have s1 := strT (ot := ot) (oz := oz) SR done (by simp at hn; omega)
    simp only [List.append_nil, List.flatMap_nil, List.length_nil, Nat.add_zero] at hp
    generalize BT SR done = T at *
    (rw [c60_l0_w]; simp only [c60_l0_b, c60_l0_a, c60_r10, go_sem, g, lt, hb, h1, w, s1, hp, UInt8.reduceToNat, Int.toNat_natCast]; repeat' (first | (rw [guardO_t]; split <;> rename_i h <;> (try rw [Bool.not_eq_true] at h) <;> (try simp only [go_sem, c60_r10, c60_l0_a, g, lt, hb, h1, w, s1, hp, UInt8.reduceToNat, Int.toNat_natCast, *])) | (rw [guardO_f]; split <;> rename_i h <;> (try rw [Bool.not_eq_true] at h) <;> (try simp only [go_sem, c60_r10, c60_l0_a, g, lt, hb, h1, w, s1, hp, UInt8.reduceToNat, Int.toNat_natCast, *])) | (rw [cw_bool]; split <;> rename_i h <;> (try rw [Bool.not_eq_true] at h) <;> (try simp only [go_sem, c60_r10, c60_l0_a, g, lt, hb, h1, w, s1, hp, UInt8.reduceToNat, Int.toNat_natCast, *]))))
  | c :: rest, done, i, tl, h, hn, hp => by
    have hn' : (done ++ [c]).length + rest.length ≤ 40 := by simp at hn ⊢; omega
    have ap : done ++ c :: rest = (done ++ [c]) ++ rest := by simp
    have fl : ((c :: rest).flatMap qc) = qc c ++ rest.flatMap qc := List.flatMap_cons
    rw [fl, List.append_assoc] at h
    rw [ap, fl, List.length_append] at hp
    have ih := fun (k : Nat) (hk : (qc c).length = k) => text_l0 q hq SR l out err hl hR SP fin st rest (done ++ [c]) (i + k) tl (by rw [← List.drop_drop, h, ← hk, List.drop_left]) hn' (by rw [← hk, show i + (qc c).length + (rest.flatMap qc).length = i + ((qc c).length + (rest.flatMap qc).length) by omega]; exact hp)
    have h3 : i < q.size := by
      rw [← size_data]
      rcases Nat.lt_or_ge i q.data.toList.length with h' | h'
      · exact h'
      · rw [List.drop_eq_nil_of_le h'] at h; have := congrArg List.length h; simp at this
    have g := (btGet SR done l hl).trans hR
    have lt := lt_yes h3
    have hb : (0 : Int) ≤ (i : Int) ∧ (i : Int) < (q.size : Int) := by omega
    have hb2 : (0 : Int) ≤ (i : Int) ∧ (i : Int) ≤ (q.size : Int) := by omega
    have wb := wbT (ot := ot) (oz := oz) SR done c (by simp at hn; omega)
    have le := lenT (ot := ot) (oz := oz) SR (done ++ [c])
    have l40 : decide ((40 : Int) < ((done.length + 1 : Nat) : Int)) = false := by simp at hn ⊢; omega
    have g2 := (btGet SR (done ++ [c]) l hl).trans hR
    have w2 : IntKind.i64.wrap ((i : Int) + 2) = ((i + 2 : Nat) : Int) := by rw [wrap64 (by omega) (by omega)]; omega
    have w4 : IntKind.i64.wrap ((i : Int) + 4) = ((i + 4 : Nat) : Int) := by rw [wrap64 (by omega) (by omega)]; omega
    have w1 : IntKind.i64.wrap ((i : Int) + 1) = ((i + 1 : Nat) : Int) := by rw [wrap64 (by omega) (by omega)]; omega
    have ex := ext_txt q i
    have rl : (rest.flatMap qc ++ 34 :: tl).length ≤ 100000 := by
      have := congrArg List.length h
      rw [List.length_drop, List.length_append, size_data] at this
      omega
    generalize hT : BT SR done = T at *
    generalize hT2 : BT SR (done ++ [c]) = T2 at *
    generalize rest.flatMap qc ++ 34 :: tl = rr at *
    cases q1 : ((c.toNat : Int) == 34) || ((c.toNat : Int) == 92) with
    | true =>
      have qe : qc c = [92, c] := by simp only [qc, q1, if_true]
      have ih := ih 2 (by rw [qe]; rfl)
      rw [qe] at h
      have h1 := (drop_cons h).1
      rw [h] at ex
      have hc : c = 34 ∨ c = 92 := by
        simp only [Bool.or_eq_true, beq_iff_eq] at q1
        rcases q1 with q1 | q1
        · left; exact UInt8.toNat_inj.1 (show c.toNat = 34 by omega)
        · right; exact UInt8.toNat_inj.1 (show c.toNat = 92 by omega)
      have es := esc_q (ot := ot) (oz := oz) c rr hc rl
      simp only [List.cons_append, List.nil_append] at ex
      (rw [c60_l0_w]; simp only [c60_l0_b, c60_l0_a, c60_r10, go_sem, g, lt, hb, hb2, h1, ex, es, wb, le, l40, g2, w2, ih, UInt8.reduceToNat, Int.toNat_natCast]; repeat' (first | (rw [guardO_t]; split <;> rename_i h <;> (try rw [Bool.not_eq_true] at h) <;> (try simp only [go_sem, c60_r10, c60_l0_a, g, lt, hb, hb2, h1, ex, es, wb, le, l40, g2, w2, ih, UInt8.reduceToNat, Int.toNat_natCast, *])) | (rw [guardO_f]; split <;> rename_i h <;> (try rw [Bool.not_eq_true] at h) <;> (try simp only [go_sem, c60_r10, c60_l0_a, g, lt, hb, hb2, h1, ex, es, wb, le, l40, g2, w2, ih, UInt8.reduceToNat, Int.toNat_natCast, *])) | (rw [cw_bool]; split <;> rename_i h <;> (try rw [Bool.not_eq_true] at h) <;> (try simp only [go_sem, c60_r10, c60_l0_a, g, lt, hb, hb2, h1, ex, es, wb, le, l40, g2, w2, ih, UInt8.reduceToNat, Int.toNat_natCast, *]))))
    | false =>
      simp only [Bool.or_eq_false_iff] at q1
      obtain ⟨q1, q2⟩ := q1
      cases q3 : ((c.toNat : Int) == 10) with
      | true =>
        have qe : qc c = [92, 110] := by simp [qc, q1, q2, q3]
        have ih := ih 2 (by rw [qe]; rfl)
        rw [qe] at h
        have h1 := (drop_cons h).1
        rw [h] at ex
        have es := esc_n (ot := ot) (oz := oz) rr rl
        have ec : (c.toNat : Int) = 10 := by simpa using q3
        rw [ec] at wb
        simp only [List.cons_append, List.nil_append] at ex
        (rw [c60_l0_w]; simp only [c60_l0_b, c60_l0_a, c60_r10, go_sem, g, lt, hb, hb2, h1, ex, es, wb, le, l40, g2, w2, ih, UInt8.reduceToNat, Int.toNat_natCast]; repeat' (first | (rw [guardO_t]; split <;> rename_i h <;> (try rw [Bool.not_eq_true] at h) <;> (try simp only [go_sem, c60_r10, c60_l0_a, g, lt, hb, hb2, h1, ex, es, wb, le, l40, g2, w2, ih, UInt8.reduceToNat, Int.toNat_natCast, *])) | (rw [guardO_f]; split <;> rename_i h <;> (try rw [Bool.not_eq_true] at h) <;> (try simp only [go_sem, c60_r10, c60_l0_a, g, lt, hb, hb2, h1, ex, es, wb, le, l40, g2, w2, ih, UInt8.reduceToNat, Int.toNat_natCast, *])) | (rw [cw_bool]; split <;> rename_i h <;> (try rw [Bool.not_eq_true] at h) <;> (try simp only [go_sem, c60_r10, c60_l0_a, g, lt, hb, hb2, h1, ex, es, wb, le, l40, g2, w2, ih, UInt8.reduceToNat, Int.toNat_natCast, *]))))
      | false =>
        by_cases q4 : (c.toNat : Int) < 32 ∨ 126 < (c.toNat : Int)
        · have qe : qc c = [92, 120, hx (c.toNat / 16), hx (c.toNat % 16)] := by simp only [qc, q1, q2, q3, Bool.or_self, Bool.false_eq_true, if_false, q4, if_true]
          have ih := ih 4 (by rw [qe]; rfl)
          rw [qe] at h
          have h1 := (drop_cons h).1
          rw [h] at ex
          have es := esc_x (ot := ot) (oz := oz) c.toNat c.toNat_lt rr rl
          simp only [List.cons_append, List.nil_append] at ex
          (rw [c60_l0_w]; simp only [c60_l0_b, c60_l0_a, c60_r10, go_sem, g, lt, hb, hb2, h1, ex, es, wb, le, l40, g2, w4, ih, UInt8.reduceToNat, Int.toNat_natCast]; repeat' (first | (rw [guardO_t]; split <;> rename_i h <;> (try rw [Bool.not_eq_true] at h) <;> (try simp only [go_sem, c60_r10, c60_l0_a, g, lt, hb, hb2, h1, ex, es, wb, le, l40, g2, w4, ih, UInt8.reduceToNat, Int.toNat_natCast, *])) | (rw [guardO_f]; split <;> rename_i h <;> (try rw [Bool.not_eq_true] at h) <;> (try simp only [go_sem, c60_r10, c60_l0_a, g, lt, hb, hb2, h1, ex, es, wb, le, l40, g2, w4, ih, UInt8.reduceToNat, Int.toNat_natCast, *])) | (rw [cw_bool]; split <;> rename_i h <;> (try rw [Bool.not_eq_true] at h) <;> (try simp only [go_sem, c60_r10, c60_l0_a, g, lt, hb, hb2, h1, ex, es, wb, le, l40, g2, w4, ih, UInt8.reduceToNat, Int.toNat_natCast, *]))))
        · have qe : qc c = [c] := by simp only [qc, q1, q2, q3, Bool.or_self, Bool.false_eq_true, if_false, q4]
          have ih := ih 1 (by rw [qe]; rfl)
          rw [qe] at h
          have h1 := (drop_cons h).1
          have q5 : decide ((c.toNat : Int) < 32) = false := by simp; omega
          have q6 : decide ((126 : Int) < (c.toNat : Int)) = false := by simp; omega
          (rw [c60_l0_w]; simp only [c60_l0_b, c60_l0_a, c60_r10, go_sem, g, lt, hb, h1, q1, q2, q5, q6, wb, le, l40, g2, w1, ih, Int.toNat_natCast]; repeat' (first | (rw [guardO_t]; split <;> rename_i h <;> (try rw [Bool.not_eq_true] at h) <;> (try simp only [go_sem, c60_r10, c60_l0_a, g, lt, hb, h1, q1, q2, q5, q6, wb, le, l40, g2, w1, ih, Int.toNat_natCast, *])) | (rw [guardO_f]; split <;> rename_i h <;> (try rw [Bool.not_eq_true] at h) <;> (try simp only [go_sem, c60_r10, c60_l0_a, g, lt, hb, h1, q1, q2, q5, q6, wb, le, l40, g2, w1, ih, Int.toNat_natCast, *])) | (rw [cw_bool]; split <;> rename_i h <;> (try rw [Bool.not_eq_true] at h) <;> (try simp only [go_sem, c60_r10, c60_l0_a, g, lt, hb, h1, q1, q2, q5, q6, wb, le, l40, g2, w1, ih, Int.toNat_natCast, *]))))
end
end Go.PE
namespace Go.PE
open Go Go.RowKit Go.Proofs
set_option linter.unusedVariables false
set_option linter.unusedSimpArgs false
set_option maxRecDepth 100000
section
variable {ot : TypeId} {oz : EP}

set_option maxHeartbeats 1000000 in
theorem text_l1 (q : ByteArray) (hq : q.size ≤ 100000) (SR : St) (l : Nat) (out err : PV) (hl : l < SR.obs.length) (hR : SR.obs[l]? = some (.cells 65 [.str q, .int .i64 0, out, err])) (SP : St) (fin : Kont (PV × St)) (st : List Fw) :
    ∀ (rest done : List UInt8) (i : Nat) (tl : List UInt8), q.data.toList.drop i = rest.flatMap qc ++ tl → done.length ≤ 40 → 41 ≤ done.length + rest.length →
    cal (env ot oz) 94 [.ref l 0, .int .i64 6, .int .i64 0] (BT SR ((done ++ rest).take 41)) = some (.bool false, SP) →
    run (env ot oz) fin st c60_l0 [(0, some (.ref l 0)), (3, some (.int .i64 0)), (4, some (.ref SR.obs.length 0)), (5, some (.int .i64 (i : Int)))] (BT SR done) =
      aft (env ot oz) fin st .ret [(2, some (.bool false))] SP
  | [], done, i, tl, h, hd, hn, hp => by simp at hn; omega
  | c :: rest, done, i, tl, h, hd, hn, hp => by
    have hn' : 41 ≤ (done ++ [c]).length + rest.length := by simp at hn ⊢; omega
    have ap : done ++ c :: rest = (done ++ [c]) ++ rest := by simp
    have fl : ((c :: rest).flatMap qc) = qc c ++ rest.flatMap qc := List.flatMap_cons
    rw [fl, List.append_assoc] at h
    rw [ap] at hp
    have h0 := h
    have h3 : i < q.size := by
      rw [← size_data]
      rcases Nat.lt_or_ge i q.data.toList.length with h' | h'
      · exact h'
      · rw [List.drop_eq_nil_of_le h'] at h; have qn : 1 ≤ (qc c).length := by (unfold qc; (repeat' split) <;> simp)
        have := congrArg List.length h; rw [List.length_append, List.length_nil] at this; omega
    have g := (btGet SR done l hl).trans hR
    have lt := lt_yes h3
    have hb : (0 : Int) ≤ (i : Int) ∧ (i : Int) < (q.size : Int) := by omega
    have hb2 : (0 : Int) ≤ (i : Int) ∧ (i : Int) ≤ (q.size : Int) := by omega
    have wb := wbT (ot := ot) (oz := oz) SR done c (by omega)
    have le := lenT (ot := ot) (oz := oz) SR (done ++ [c])
    have g2 := (btGet SR (done ++ [c]) l hl).trans hR
    have w2 : IntKind.i64.wrap ((i : Int) + 2) = ((i + 2 : Nat) : Int) := by rw [wrap64 (by omega) (by omega)]; omega
    have w4 : IntKind.i64.wrap ((i : Int) + 4) = ((i + 4 : Nat) : Int) := by rw [wrap64 (by omega) (by omega)]; omega
    have w1 : IntKind.i64.wrap ((i : Int) + 1) = ((i + 1 : Nat) : Int) := by rw [wrap64 (by omega) (by omega)]; omega
    have ex := ext_txt q i
    have rl : (rest.flatMap qc ++ tl).length ≤ 100000 := by
      have := congrArg List.length h
      rw [List.length_drop, List.length_append, size_data] at this
      omega
    rcases Nat.lt_or_ge done.length 40 with hd2 | hd2
    · skip
      have l40 : decide ((40 : Int) < ((done.length + 1 : Nat) : Int)) = false := by simp; omega
      have ih := fun (k : Nat) (hk : (qc c).length = k) => text_l1 q hq SR l out err hl hR SP fin st rest (done ++ [c]) (i + k) tl (by rw [← List.drop_drop, h0, ← hk, List.drop_left]) (by simp; omega) hn' hp
      generalize hT : BT SR done = T at *
      generalize hT2 : BT SR (done ++ [c]) = T2 at *
      generalize rest.flatMap qc ++ tl = rr at *
      cases q1 : ((c.toNat : Int) == 34) || ((c.toNat : Int) == 92) with
      | true =>
        have qe : qc c = [92, c] := by simp only [qc, q1, if_true]
        have ih := ih 2 (by rw [qe]; rfl)
        rw [qe] at h
        have h1 := (drop_cons h).1
        rw [h] at ex
        have hc : c = 34 ∨ c = 92 := by
          simp only [Bool.or_eq_true, beq_iff_eq] at q1
          rcases q1 with q1 | q1
          · left; exact UInt8.toNat_inj.1 (show c.toNat = 34 by omega)
          · right; exact UInt8.toNat_inj.1 (show c.toNat = 92 by omega)
        have es := esc_q (ot := ot) (oz := oz) c rr hc rl
        simp only [List.cons_append, List.nil_append] at ex
        (rw [c60_l0_w]; simp only [c60_l0_b, c60_l0_a, c60_r10, go_sem, g, lt, hb, hb2, h1, ex, es, wb, le, l40, g2, w2, ih, UInt8.reduceToNat, Int.toNat_natCast]; repeat' (first | (rw [guardO_t]; split <;> rename_i h <;> (try rw [Bool.not_eq_true] at h) <;> (try simp only [go_sem, c60_r10, c60_l0_a, g, lt, hb, hb2, h1, ex, es, wb, le, l40, g2, w2, ih, UInt8.reduceToNat, Int.toNat_natCast, *])) | (rw [guardO_f]; split <;> rename_i h <;> (try rw [Bool.not_eq_true] at h) <;> (try simp only [go_sem, c60_r10, c60_l0_a, g, lt, hb, hb2, h1, ex, es, wb, le, l40, g2, w2, ih, UInt8.reduceToNat, Int.toNat_natCast, *])) | (rw [cw_bool]; split <;> rename_i h <;> (try rw [Bool.not_eq_true] at h) <;> (try simp only [go_sem, c60_r10, c60_l0_a, g, lt, hb, hb2, h1, ex, es, wb, le, l40, g2, w2, ih, UInt8.reduceToNat, Int.toNat_natCast, *]))))
      | false =>
        simp only [Bool.or_eq_false_iff] at q1
        obtain ⟨q1, q2⟩ := q1
        cases q3 : ((c.toNat : Int) == 10) with
        | true =>
          have qe : qc c = [92, 110] := by simp [qc, q1, q2, q3]
          have ih := ih 2 (by rw [qe]; rfl)
          rw [qe] at h
          have h1 := (drop_cons h).1
          rw [h] at ex
          have es := esc_n (ot := ot) (oz := oz) rr rl
          have ec : (c.toNat : Int) = 10 := by simpa using q3
          rw [ec] at wb
          simp only [List.cons_append, List.nil_append] at ex
          (rw [c60_l0_w]; simp only [c60_l0_b, c60_l0_a, c60_r10, go_sem, g, lt, hb, hb2, h1, ex, es, wb, le, l40, g2, w2, ih, UInt8.reduceToNat, Int.toNat_natCast]; repeat' (first | (rw [guardO_t]; split <;> rename_i h <;> (try rw [Bool.not_eq_true] at h) <;> (try simp only [go_sem, c60_r10, c60_l0_a, g, lt, hb, hb2, h1, ex, es, wb, le, l40, g2, w2, ih, UInt8.reduceToNat, Int.toNat_natCast, *])) | (rw [guardO_f]; split <;> rename_i h <;> (try rw [Bool.not_eq_true] at h) <;> (try simp only [go_sem, c60_r10, c60_l0_a, g, lt, hb, hb2, h1, ex, es, wb, le, l40, g2, w2, ih, UInt8.reduceToNat, Int.toNat_natCast, *])) | (rw [cw_bool]; split <;> rename_i h <;> (try rw [Bool.not_eq_true] at h) <;> (try simp only [go_sem, c60_r10, c60_l0_a, g, lt, hb, hb2, h1, ex, es, wb, le, l40, g2, w2, ih, UInt8.reduceToNat, Int.toNat_natCast, *]))))
        | false =>
          by_cases q4 : (c.toNat : Int) < 32 ∨ 126 < (c.toNat : Int)
          · have qe : qc c = [92, 120, hx (c.toNat / 16), hx (c.toNat % 16)] := by simp only [qc, q1, q2, q3, Bool.or_self, Bool.false_eq_true, if_false, q4, if_true]
            have ih := ih 4 (by rw [qe]; rfl)
            rw [qe] at h
            have h1 := (drop_cons h).1
            rw [h] at ex
            have es := esc_x (ot := ot) (oz := oz) c.toNat c.toNat_lt rr rl
            simp only [List.cons_append, List.nil_append] at ex
            (rw [c60_l0_w]; simp only [c60_l0_b, c60_l0_a, c60_r10, go_sem, g, lt, hb, hb2, h1, ex, es, wb, le, l40, g2, w4, ih, UInt8.reduceToNat, Int.toNat_natCast]; repeat' (first | (rw [guardO_t]; split <;> rename_i h <;> (try rw [Bool.not_eq_true] at h) <;> (try simp only [go_sem, c60_r10, c60_l0_a, g, lt, hb, hb2, h1, ex, es, wb, le, l40, g2, w4, ih, UInt8.reduceToNat, Int.toNat_natCast, *])) | (rw [guardO_f]; split <;> rename_i h <;> (try rw [Bool.not_eq_true] at h) <;> (try simp only [go_sem, c60_r10, c60_l0_a, g, lt, hb, hb2, h1, ex, es, wb, le, l40, g2, w4, ih, UInt8.reduceToNat, Int.toNat_natCast, *])) | (rw [cw_bool]; split <;> rename_i h <;> (try rw [Bool.not_eq_true] at h) <;> (try simp only [go_sem, c60_r10, c60_l0_a, g, lt, hb, hb2, h1, ex, es, wb, le, l40, g2, w4, ih, UInt8.reduceToNat, Int.toNat_natCast, *]))))
          · have qe : qc c = [c] := by simp only [qc, q1, q2, q3, Bool.or_self, Bool.false_eq_true, if_false, q4]
            have ih := ih 1 (by rw [qe]; rfl)
            rw [qe] at h
            have h1 := (drop_cons h).1
            have q5 : decide ((c.toNat : Int) < 32) = false := by simp; omega
            have q6 : decide ((126 : Int) < (c.toNat : Int)) = false := by simp; omega
            (rw [c60_l0_w]; simp only [c60_l0_b, c60_l0_a, c60_r10, go_sem, g, lt, hb, h1, q1, q2, q5, q6, wb, le, l40, g2, w1, ih, Int.toNat_natCast]; repeat' (first | (rw [guardO_t]; split <;> rename_i h <;> (try rw [Bool.not_eq_true] at h) <;> (try simp only [go_sem, c60_r10, c60_l0_a, g, lt, hb, h1, q1, q2, q5, q6, wb, le, l40, g2, w1, ih, Int.toNat_natCast, *])) | (rw [guardO_f]; split <;> rename_i h <;> (try rw [Bool.not_eq_true] at h) <;> (try simp only [go_sem, c60_r10, c60_l0_a, g, lt, hb, h1, q1, q2, q5, q6, wb, le, l40, g2, w1, ih, Int.toNat_natCast, *])) | (rw [cw_bool]; split <;> rename_i h <;> (try rw [Bool.not_eq_true] at h) <;> (try simp only [go_sem, c60_r10, c60_l0_a, g, lt, hb, h1, q1, q2, q5, q6, wb, le, l40, g2, w1, ih, Int.toNat_natCast, *]))))
    · skip
      have l40 : decide ((40 : Int) < ((done.length + 1 : Nat) : Int)) = true := by simp; omega
      have tk : (done ++ [c] ++ rest).take 41 = done ++ [c] := by rw [List.take_append_of_le_length (by simp; omega), List.take_of_length_le (by simp; omega)]
      rw [tk] at hp
      generalize hT : BT SR done = T at *
      generalize hT2 : BT SR (done ++ [c]) = T2 at *
      generalize rest.flatMap qc ++ tl = rr at *
      cases q1 : ((c.toNat : Int) == 34) || ((c.toNat : Int) == 92) with
      | true =>
        have qe : qc c = [92, c] := by simp only [qc, q1, if_true]
        rw [qe] at h
        have h1 := (drop_cons h).1
        rw [h] at ex
        have hc : c = 34 ∨ c = 92 := by
          simp only [Bool.or_eq_true, beq_iff_eq] at q1
          rcases q1 with q1 | q1
          · left; exact UInt8.toNat_inj.1 (show c.toNat = 34 by omega)
          · right; exact UInt8.toNat_inj.1 (show c.toNat = 92 by omega)
        have es := esc_q (ot := ot) (oz := oz) c rr hc rl
        simp only [List.cons_append, List.nil_append] at ex
        (rw [c60_l0_w]; simp only [c60_l0_b, c60_l0_a, c60_r10, go_sem, g, lt, hb, hb2, h1, ex, es, wb, le, l40, g2, w2, hp, UInt8.reduceToNat, Int.toNat_natCast]; repeat' (first | (rw [guardO_t]; split <;> rename_i h <;> (try rw [Bool.not_eq_true] at h) <;> (try simp only [go_sem, c60_r10, c60_l0_a, g, lt, hb, hb2, h1, ex, es, wb, le, l40, g2, w2, hp, UInt8.reduceToNat, Int.toNat_natCast, *])) | (rw [guardO_f]; split <;> rename_i h <;> (try rw [Bool.not_eq_true] at h) <;> (try simp only [go_sem, c60_r10, c60_l0_a, g, lt, hb, hb2, h1, ex, es, wb, le, l40, g2, w2, hp, UInt8.reduceToNat, Int.toNat_natCast, *])) | (rw [cw_bool]; split <;> rename_i h <;> (try rw [Bool.not_eq_true] at h) <;> (try simp only [go_sem, c60_r10, c60_l0_a, g, lt, hb, hb2, h1, ex, es, wb, le, l40, g2, w2, hp, UInt8.reduceToNat, Int.toNat_natCast, *]))))
      | false =>
        simp only [Bool.or_eq_false_iff] at q1
        obtain ⟨q1, q2⟩ := q1
        cases q3 : ((c.toNat : Int) == 10) with
        | true =>
          have qe : qc c = [92, 110] := by simp [qc, q1, q2, q3]
          rw [qe] at h
          have h1 := (drop_cons h).1
          rw [h] at ex
          have es := esc_n (ot := ot) (oz := oz) rr rl
          have ec : (c.toNat : Int) = 10 := by simpa using q3
          rw [ec] at wb
          simp only [List.cons_append, List.nil_append] at ex
          (rw [c60_l0_w]; simp only [c60_l0_b, c60_l0_a, c60_r10, go_sem, g, lt, hb, hb2, h1, ex, es, wb, le, l40, g2, w2, hp, UInt8.reduceToNat, Int.toNat_natCast]; repeat' (first | (rw [guardO_t]; split <;> rename_i h <;> (try rw [Bool.not_eq_true] at h) <;> (try simp only [go_sem, c60_r10, c60_l0_a, g, lt, hb, hb2, h1, ex, es, wb, le, l40, g2, w2, hp, UInt8.reduceToNat, Int.toNat_natCast, *])) | (rw [guardO_f]; split <;> rename_i h <;> (try rw [Bool.not_eq_true] at h) <;> (try simp only [go_sem, c60_r10, c60_l0_a, g, lt, hb, hb2, h1, ex, es, wb, le, l40, g2, w2, hp, UInt8.reduceToNat, Int.toNat_natCast, *])) | (rw [cw_bool]; split <;> rename_i h <;> (try rw [Bool.not_eq_true] at h) <;> (try simp only [go_sem, c60_r10, c60_l0_a, g, lt, hb, hb2, h1, ex, es, wb, le, l40, g2, w2, hp, UInt8.reduceToNat, Int.toNat_natCast, *]))))
        | false =>
          by_cases q4 : (c.toNat : Int) < 32 ∨ 126 < (c.toNat : Int)
          · have qe : qc c = [92, 120, hx (c.toNat / 16), hx (c.toNat % 16)] := by simp only [qc, q1, q2, q3, Bool.or_self, Bool.false_eq_true, if_false, q4, if_true]
            rw [qe] at h
            have h1 := (drop_cons h).1
            rw [h] at ex
            have es := esc_x (ot := ot) (oz := oz) c.toNat c.toNat_lt rr rl
            simp only [List.cons_append, List.nil_append] at ex
            (rw [c60_l0_w]; simp only [c60_l0_b, c60_l0_a, c60_r10, go_sem, g, lt, hb, hb2, h1, ex, es, wb, le, l40, g2, w4, hp, UInt8.reduceToNat, Int.toNat_natCast]; repeat' (first | (rw [guardO_t]; split <;> rename_i h <;> (try rw [Bool.not_eq_true] at h) <;> (try simp only [go_sem, c60_r10, c60_l0_a, g, lt, hb, hb2, h1, ex, es, wb, le, l40, g2, w4, hp, UInt8.reduceToNat, Int.toNat_natCast, *])) | (rw [guardO_f]; split <;> rename_i h <;> (try rw [Bool.not_eq_true] at h) <;> (try simp only [go_sem, c60_r10, c60_l0_a, g, lt, hb, hb2, h1, ex, es, wb, le, l40, g2, w4, hp, UInt8.reduceToNat, Int.toNat_natCast, *])) | (rw [cw_bool]; split <;> rename_i h <;> (try rw [Bool.not_eq_true] at h) <;> (try simp only [go_sem, c60_r10, c60_l0_a, g, lt, hb, hb2, h1, ex, es, wb, le, l40, g2, w4, hp, UInt8.reduceToNat, Int.toNat_natCast, *]))))
          · have qe : qc c = [c] := by simp only [qc, q1, q2, q3, Bool.or_self, Bool.false_eq_true, if_false, q4]
            rw [qe] at h
            have h1 := (drop_cons h).1
            have q5 : decide ((c.toNat : Int) < 32) = false := by simp; omega
            have q6 : decide ((126 : Int) < (c.toNat : Int)) = false := by simp; omega
            (rw [c60_l0_w]; simp only [c60_l0_b, c60_l0_a, c60_r10, go_sem, g, lt, hb, h1, q1, q2, q5, q6, wb, le, l40, g2, w1, hp, Int.toNat_natCast]; repeat' (first | (rw [guardO_t]; split <;> rename_i h <;> (try rw [Bool.not_eq_true] at h) <;> (try simp only [go_sem, c60_r10, c60_l0_a, g, lt, hb, h1, q1, q2, q5, q6, wb, le, l40, g2, w1, hp, Int.toNat_natCast, *])) | (rw [guardO_f]; split <;> rename_i h <;> (try rw [Bool.not_eq_true] at h) <;> (try simp only [go_sem, c60_r10, c60_l0_a, g, lt, hb, h1, q1, q2, q5, q6, wb, le, l40, g2, w1, hp, Int.toNat_natCast, *])) | (rw [cw_bool]; split <;> rename_i h <;> (try rw [Bool.not_eq_true] at h) <;> (try simp only [go_sem, c60_r10, c60_l0_a, g, lt, hb, h1, q1, q2, q5, q6, wb, le, l40, g2, w1, hp, Int.toNat_natCast, *]))))
end
end Go.PE
