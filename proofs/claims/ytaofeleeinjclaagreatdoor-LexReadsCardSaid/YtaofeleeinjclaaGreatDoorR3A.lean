/-
  The document's reader: numbers and words. Conditions: each law's own.
-/
import Derived.Test.YtaofeleeinjclaaGreatDoorLA
namespace Go.PE
open Go Go.RowKit Go.Proofs
set_option linter.unusedVariables false
set_option linter.unusedSimpArgs false
set_option maxRecDepth 100000
/-- A number's digits, by the document; none: too long. -/
def valF : Nat → List UInt8 → Option Nat
  | n, [] => some n
  | n, c :: r => if 922337203685477580 < n then none else if 9223372036854775807 < n * 10 + (c.toNat - 48) then none else valF (n * 10 + (c.toNat - 48)) r
theorem dig_rng {c : UInt8} (h : digC c = true) : 48 ≤ c.toNat ∧ c.toNat ≤ 57 := by
  unfold digC at h
  simp only [Bool.and_eq_true, decide_eq_true_eq] at h
  omega
theorem val_big (M : Nat) : ∀ (l : List UInt8) (acc : Nat), l.all digC = true → 2 ^ 63 ≤ acc → Lib.signlessC (2 ^ 63) (Lib.parseUintM M acc l) = .range
  | [], acc, _, h => by simp only [Lib.parseUintM, Lib.signlessC]; rw [if_pos h]
  | c :: r, acc, hl, h => by
    simp only [List.all_cons, Bool.and_eq_true] at hl
    have hc := dig_rng hl.1
    rw [Lib.parseUintM, if_pos hc]
    split
    · rfl
    · split
      · rfl
      · exact val_big M r _ hl.2 (by omega)
theorem val_parse : ∀ (l : List UInt8) (acc : Nat), l.all digC = true → acc < 2 ^ 63 →
    match valF acc l with
    | some v => Lib.signlessC (2 ^ 63) (Lib.parseUintM (2 ^ 64 - 1) acc l) = .ok (v : Int) ∧ v < 2 ^ 63
    | none => Lib.signlessC (2 ^ 63) (Lib.parseUintM (2 ^ 64 - 1) acc l) = .range
  | [], acc, _, h => by
    simp only [valF, Lib.parseUintM, Lib.signlessC]
    rw [if_neg (by omega)]
    exact ⟨rfl, h⟩
  | c :: r, acc, hl, h => by
    simp only [List.all_cons, Bool.and_eq_true] at hl
    have hc := dig_rng hl.1
    rw [valF, Lib.parseUintM, if_pos hc]
    by_cases h1 : 922337203685477580 < acc
    · rw [if_pos h1]
      simp only
      split
      · rfl
      · split
        · rfl
        · exact val_big _ r _ hl.2 (by omega)
    · have n1 : ¬ 1844674407370955162 ≤ acc := by omega
      have n2 : ¬ 2 ^ 64 - 1 < acc * 10 + (c.toNat - 48) := by omega
      rw [if_neg h1, if_neg n1, if_neg n2]
      by_cases h2 : 9223372036854775807 < acc * 10 + (c.toNat - 48)
      · rw [if_pos h2]
        exact val_big _ r _ hl.2 (by omega)
      · rw [if_neg h2]
        exact val_parse r _ hl.2 (by omega)
theorem val_numF (c : UInt8) (w : List UInt8) (i : Nat) (h : (c :: w).all digC = true) (h0 : ¬ (((c.toNat : Int) == 48) = true ∧ 0 < w.length)) :
    match valF 0 (c :: w) with
    | some v => numF c w i = .ok ⟨1, v, ⟨#[]⟩, i⟩ (i + (w.length + 1)) ∧ v < 2 ^ 63
    | none => numF c w i = .bad 6 i := by
  have hc : 48 ≤ c.toNat ∧ c.toNat ≤ 57 := by
    simp only [List.all_cons, Bool.and_eq_true] at h
    exact dig_rng h.1
  have k := val_parse (c :: w) 0 h (by omega)
  have e : Lib.parseIntB 64 (c :: w) = Lib.signlessC (2 ^ 63) (Lib.parseUintM (2 ^ 64 - 1) 0 (c :: w)) := by
    rw [Lib.parseIntB_plain 64 c w (by omega) (by omega)]
    unfold Lib.parseUintB
    rw [if_neg (by simp)]
  unfold numF
  rw [if_neg h0, e]
  cases hv : valF 0 (c :: w) with
  | none => rw [hv] at k; simp only at k ⊢; rw [k]
  | some v => rw [hv] at k; simp only at k ⊢; rw [k.1]; exact ⟨rfl, k.2⟩
section
variable {ot : TypeId} {oz : EP}
/-- What the document reads at a place. -/
abbrev gotC (K N : Int) (S : ByteArray) (A : Int) (sk : Bool) (to e a : Int) : List PV := [.int .i64 K, .int .i64 N, .str S, .int .i64 A, .bool sk, .int .i64 to, .int .i64 e, .int .i64 a]
abbrev got0 : Ob := .cells 67 (gotC 0 0 ⟨#[]⟩ 0 false 0 0 0)
def gotP : Tok → PV
  | .ok t j => .agg (gotC t.K t.N t.S t.At false j 0 0)
  | .bad e a => .agg (gotC 0 0 ⟨#[]⟩ 0 false 0 e a)
theorem bad3 (e a : Int) (S : St) : cal (env ot oz) 101 [.int .i64 e, .int .i64 a] S = some (.agg (gotC 0 0 ⟨#[]⟩ 0 false 0 e a), S) := by
  (rw [w_plain (fn := c101) rfl rfl (by simp only [go_sem]) rfl (by decide)]; simp only [c101, c101_b, go_sem]; repeat' (first | (rw [guardO_t]; split <;> rename_i h <;> (try rw [Bool.not_eq_true] at h) <;> (try simp only [go_sem, *])) | (rw [guardO_f]; split <;> rename_i h <;> (try rw [Bool.not_eq_true] at h) <;> (try simp only [go_sem, *])) | (rw [cw_bool]; split <;> rename_i h <;> (try rw [Bool.not_eq_true] at h) <;> (try simp only [go_sem, *]))))
theorem dig3 (c : UInt8) (S : St) : cal (env ot oz) 62 [.int .u8 (c.toNat : Int)] S = some (.bool (digC c), S) := cal_ans (dig_ok (ot := ot) (oz := oz) c)
theorem let3 (c : UInt8) (S : St) : cal (env ot oz) 64 [.int .u8 (c.toNat : Int)] S = some (.bool (wordC c), S) := by
  have a := fun S => cal_ans (low_ok (ot := ot) (oz := oz) c) (S := S)
  have b := fun S => cal_ans (up_ok (ot := ot) (oz := oz) c) (S := S)
  have d := fun S => dig3 (ot := ot) (oz := oz) c S
  have e : wordC c = (lowB c || upB c || digC c) := rfl
  cases h1 : lowB c <;> cases h2 : upB c <;> cases h3 : digC c <;> simp only [h1, h2, h3] at a b d e <;> rw [e] <;> (rw [w_plain (fn := c64) rfl rfl (by simp only [go_sem, a, b, d, Bool.or_true, Bool.or_false, Bool.true_or]) rfl (by decide)]; simp only [c64, c64_b, c64_r1, go_sem, a, b, d, Bool.or_true, Bool.or_false, Bool.true_or]; repeat' (first | (rw [guardO_t]; split <;> rename_i h <;> (try rw [Bool.not_eq_true] at h) <;> (try simp only [go_sem, c64_r1, a, b, d, Bool.or_true, Bool.or_false, Bool.true_or, *])) | (rw [guardO_f]; split <;> rename_i h <;> (try rw [Bool.not_eq_true] at h) <;> (try simp only [go_sem, c64_r1, a, b, d, Bool.or_true, Bool.or_false, Bool.true_or, *])) | (rw [cw_bool]; split <;> rename_i h <;> (try rw [Bool.not_eq_true] at h) <;> (try simp only [go_sem, c64_r1, a, b, d, Bool.or_true, Bool.or_false, Bool.true_or, *]))))
theorem num3_l0 (q : ByteArray) (hq : q.size ≤ 100000) (a v4 : PV) (S : St) (fin : Kont (PV × St)) (st : List Fw) : ∀ (rest : List UInt8) (i : Nat), q.data.toList.drop i = rest →
    run (env ot oz) fin st c63_l0 [(0, some (.str q)), (1, some a), (4, some v4), (5, some (.int .i64 (i : Int)))] S =
      aft (env ot oz) fin st (.exit 0) [(0, some (.str q)), (1, some a), (4, some v4), (5, some (.int .i64 ((i + whileN digC rest : Nat) : Int))), (18, some (.bool false))] S
  | [], i, hi => by
    have lt := lt_no (drop_nil hi)
    rw [size_data] at lt
    have e : whileN digC [] = 0 := rfl
    rw [e, Nat.add_zero]
    (rw [c63_l0_w]; simp only [c63_l0_b, c63_l0_a, c63_r2, c63_r4, go_sem, lt]; repeat' (first | (rw [guardO_t]; split <;> rename_i h <;> (try rw [Bool.not_eq_true] at h) <;> (try simp only [go_sem, c63_r2, c63_r4, c63_l0_a, lt, *])) | (rw [guardO_f]; split <;> rename_i h <;> (try rw [Bool.not_eq_true] at h) <;> (try simp only [go_sem, c63_r2, c63_r4, c63_l0_a, lt, *])) | (rw [cw_bool]; split <;> rename_i h <;> (try rw [Bool.not_eq_true] at h) <;> (try simp only [go_sem, c63_r2, c63_r4, c63_l0_a, lt, *]))))
  | c :: rest, i, hi => by
    obtain ⟨h1, h2, h3⟩ := drop_cons hi
    rw [size_data] at h3
    have lt := lt_yes h3
    have hb : (0 : Int) ≤ (i : Int) ∧ (i : Int) < (q.size : Int) := by omega
    have w := wrap_succ h3 (by omega)
    have ih := num3_l0 q hq a v4 S fin st rest (i + 1) h2
    have hg := dig3 (ot := ot) (oz := oz) c
    cases hp : digC c with
    | false =>
      have e : whileN digC (c :: rest) = 0 := by simp [whileN, hp]
      rw [e, Nat.add_zero]
      (rw [c63_l0_w]; simp only [c63_l0_b, c63_l0_a, c63_r2, c63_r4, go_sem, lt, hb, h1, hg, hp, Int.toNat_natCast]; repeat' (first | (rw [guardO_t]; split <;> rename_i h <;> (try rw [Bool.not_eq_true] at h) <;> (try simp only [go_sem, c63_r2, c63_r4, c63_l0_a, lt, hb, h1, hg, hp, Int.toNat_natCast, *])) | (rw [guardO_f]; split <;> rename_i h <;> (try rw [Bool.not_eq_true] at h) <;> (try simp only [go_sem, c63_r2, c63_r4, c63_l0_a, lt, hb, h1, hg, hp, Int.toNat_natCast, *])) | (rw [cw_bool]; split <;> rename_i h <;> (try rw [Bool.not_eq_true] at h) <;> (try simp only [go_sem, c63_r2, c63_r4, c63_l0_a, lt, hb, h1, hg, hp, Int.toNat_natCast, *]))))
    | true =>
      have e : i + whileN digC (c :: rest) = i + 1 + whileN digC rest := by simp [whileN, hp]; omega
      rw [e]
      (rw [c63_l0_w]; simp only [c63_l0_b, c63_l0_a, c63_r2, c63_r4, go_sem, lt, hb, h1, hg, hp, w, ih, Int.toNat_natCast]; repeat' (first | (rw [guardO_t]; split <;> rename_i h <;> (try rw [Bool.not_eq_true] at h) <;> (try simp only [go_sem, c63_r2, c63_r4, c63_l0_a, lt, hb, h1, hg, hp, w, ih, Int.toNat_natCast, *])) | (rw [guardO_f]; split <;> rename_i h <;> (try rw [Bool.not_eq_true] at h) <;> (try simp only [go_sem, c63_r2, c63_r4, c63_l0_a, lt, hb, h1, hg, hp, w, ih, Int.toNat_natCast, *])) | (rw [cw_bool]; split <;> rename_i h <;> (try rw [Bool.not_eq_true] at h) <;> (try simp only [go_sem, c63_r2, c63_r4, c63_l0_a, lt, hb, h1, hg, hp, w, ih, Int.toNat_natCast, *]))))
theorem num3_l1 (q : ByteArray) (hq : q.size ≤ 100000) (a to : Nat) (hto : to ≤ q.size) (S : St) (fin : Kont (PV × St)) (st : List Fw) : ∀ (w rest : List UInt8) (i n : Nat), q.data.toList.drop i = w ++ rest → i + w.length = to → w.all digC = true → n ≤ 9223372036854775807 →
    run (env ot oz) fin st c63_l1 [(0, some (.str q)), (1, some (.int .i64 (a : Int))), (4, some (.ref S.obs.length 0)), (5, some (.int .i64 (to : Int))), (6, some (.int .u64 (n : Int))), (7, some (.int .i64 (i : Int)))] ⟨S.obs ++ [got0], S.own⟩ =
      match valF n w with
      | some v => aft (env ot oz) fin st (.exit 2) [(0, some (.str q)), (1, some (.int .i64 (a : Int))), (4, some (.ref S.obs.length 0)), (5, some (.int .i64 (to : Int))), (6, some (.int .u64 (v : Int))), (7, some (.int .i64 (to : Int))), (36, some (.bool false))] ⟨S.obs ++ [got0], S.own⟩
      | none => aft (env ot oz) fin st .ret [(4, some (.ref S.obs.length 0))] ⟨S.obs ++ [.cells 67 (gotC 0 0 ⟨#[]⟩ 0 false 0 6 (a : Int))], S.own⟩
  | [], rest, i, n, hi, ht, hw, hn => by
    have lt : decide ((i : Int) < (to : Int)) = false := decide_eq_false (by simp at ht; omega)
    have e : i = to := by simpa using ht
    simp only [valF]
    subst e
    (rw [c63_l1_w]; simp only [c63_l1_b, c63_l1_a, c63_r2, c63_r4, go_sem, lt]; repeat' (first | (rw [guardO_t]; split <;> rename_i h <;> (try rw [Bool.not_eq_true] at h) <;> (try simp only [go_sem, c63_r2, c63_r4, c63_l1_a, lt, *])) | (rw [guardO_f]; split <;> rename_i h <;> (try rw [Bool.not_eq_true] at h) <;> (try simp only [go_sem, c63_r2, c63_r4, c63_l1_a, lt, *])) | (rw [cw_bool]; split <;> rename_i h <;> (try rw [Bool.not_eq_true] at h) <;> (try simp only [go_sem, c63_r2, c63_r4, c63_l1_a, lt, *]))))
  | c :: w, rest, i, n, hi, ht, hw, hn => by
    simp only [List.length_cons] at ht
    simp only [List.all_cons, Bool.and_eq_true] at hw
    have hc := dig_rng hw.1
    obtain ⟨h1, h2, h3⟩ := drop_cons hi
    rw [size_data] at h3
    have lt : decide ((i : Int) < (to : Int)) = true := decide_eq_true (by omega)
    have hb : (0 : Int) ≤ (i : Int) ∧ (i : Int) < (q.size : Int) := by omega
    have bd := fun S => bad3 (ot := ot) (oz := oz) 6 (a : Int) S
    rw [valF]
    by_cases g1 : 922337203685477580 < n
    · rw [if_pos g1]
      have l1 : decide ((922337203685477580 : Int) < (n : Int)) = true := decide_eq_true (by omega)
      (rw [c63_l1_w]; simp only [c63_l1_b, c63_l1_a, c63_r2, c63_r4, go_sem, lt, l1, bd]; repeat' (first | (rw [guardO_t]; split <;> rename_i h <;> (try rw [Bool.not_eq_true] at h) <;> (try simp only [go_sem, c63_r2, c63_r4, c63_l1_a, lt, l1, bd, *])) | (rw [guardO_f]; split <;> rename_i h <;> (try rw [Bool.not_eq_true] at h) <;> (try simp only [go_sem, c63_r2, c63_r4, c63_l1_a, lt, l1, bd, *])) | (rw [cw_bool]; split <;> rename_i h <;> (try rw [Bool.not_eq_true] at h) <;> (try simp only [go_sem, c63_r2, c63_r4, c63_l1_a, lt, l1, bd, *]))))
    · rw [if_neg g1]
      have l1 : decide ((922337203685477580 : Int) < (n : Int)) = false := decide_eq_false (by omega)
      have w1 : IntKind.u64.wrap ((n : Int) * 10) = ((n * 10 : Nat) : Int) := by rw [IntWalk.u64_in _ ⟨by omega, by omega⟩]; omega
      have w2 : IntKind.u8.wrap ((c.toNat : Int) - 48) = ((c.toNat - 48 : Nat) : Int) := by rw [IntWalk.u8_in _ ⟨by omega, by omega⟩]; omega
      have w3 : IntKind.u64.wrap ((c.toNat - 48 : Nat) : Int) = ((c.toNat - 48 : Nat) : Int) := IntWalk.u64_in _ ⟨by omega, by omega⟩
      have w4 : IntKind.u64.wrap (((n * 10 : Nat) : Int) + ((c.toNat - 48 : Nat) : Int)) = ((n * 10 + (c.toNat - 48) : Nat) : Int) := by rw [IntWalk.u64_in _ ⟨by omega, by omega⟩]; omega
      have w5 := wrap_succ h3 (by omega)
      generalize n * 10 + (c.toNat - 48) = m at *
      by_cases g2 : 9223372036854775807 < m
      · rw [if_pos g2]
        have l2 : decide ((9223372036854775807 : Int) < (m : Int)) = true := decide_eq_true (by omega)
        (rw [c63_l1_w]; simp only [c63_l1_b, c63_l1_a, c63_r2, c63_r4, go_sem, lt, l1, hb, h1, w1, w2, w3, w4, l2, bd, Int.toNat_natCast]; repeat' (first | (rw [guardO_t]; split <;> rename_i h <;> (try rw [Bool.not_eq_true] at h) <;> (try simp only [go_sem, c63_r2, c63_r4, c63_l1_a, lt, l1, hb, h1, w1, w2, w3, w4, l2, bd, Int.toNat_natCast, *])) | (rw [guardO_f]; split <;> rename_i h <;> (try rw [Bool.not_eq_true] at h) <;> (try simp only [go_sem, c63_r2, c63_r4, c63_l1_a, lt, l1, hb, h1, w1, w2, w3, w4, l2, bd, Int.toNat_natCast, *])) | (rw [cw_bool]; split <;> rename_i h <;> (try rw [Bool.not_eq_true] at h) <;> (try simp only [go_sem, c63_r2, c63_r4, c63_l1_a, lt, l1, hb, h1, w1, w2, w3, w4, l2, bd, Int.toNat_natCast, *]))))
      · rw [if_neg g2]
        have l2 : decide ((9223372036854775807 : Int) < (m : Int)) = false := decide_eq_false (by omega)
        have ih := num3_l1 q hq a to hto S fin st w rest (i + 1) m h2 (by omega) hw.2 (by omega)
        generalize hv : valF m w = v at *
        (rw [c63_l1_w]; simp only [c63_l1_b, c63_l1_a, c63_r2, c63_r4, go_sem, lt, l1, hb, h1, w1, w2, w3, w4, w5, l2, ih, Int.toNat_natCast]; repeat' (first | (rw [guardO_t]; split <;> rename_i h <;> (try rw [Bool.not_eq_true] at h) <;> (try simp only [go_sem, c63_r2, c63_r4, c63_l1_a, lt, l1, hb, h1, w1, w2, w3, w4, w5, l2, ih, Int.toNat_natCast, *])) | (rw [guardO_f]; split <;> rename_i h <;> (try rw [Bool.not_eq_true] at h) <;> (try simp only [go_sem, c63_r2, c63_r4, c63_l1_a, lt, l1, hb, h1, w1, w2, w3, w4, w5, l2, ih, Int.toNat_natCast, *])) | (rw [cw_bool]; split <;> rename_i h <;> (try rw [Bool.not_eq_true] at h) <;> (try simp only [go_sem, c63_r2, c63_r4, c63_l1_a, lt, l1, hb, h1, w1, w2, w3, w4, w5, l2, ih, Int.toNat_natCast, *]))))
/-- A number, by the document. -/
theorem num3 (q : ByteArray) (hq : q.size ≤ 100000) (i : Nat) (c : UInt8) (r : List UInt8) (hd : q.data.toList.drop i = c :: r) (hc : digC c = true) (S : St) :
    cal (env ot oz) 63 [.str q, .int .i64 (i : Int)] S = some (gotP (numF c (r.takeWhile digC) i), S) := by
  have f0 := fun T fin st => num3_l0 (ot := ot) (oz := oz) q hq (.int .i64 (i : Int)) (.ref S.obs.length 0) T fin st _ i hd
  have hn : whileN digC (c :: r) = (r.takeWhile digC).length + 1 := by simp [whileN, hc]
  have hw : (c :: r.takeWhile digC).all digC = true := by
    have := tw_all digC (c :: r)
    rw [List.takeWhile_cons, if_pos hc] at this
    exact this
  have hsp : q.data.toList.drop i = (c :: r.takeWhile digC) ++ r.dropWhile digC := by rw [hd, List.cons_append, List.takeWhile_append_dropWhile]
  obtain ⟨h1, h2, h3⟩ := drop_cons hd
  rw [size_data] at h3
  have hle : i + ((r.takeWhile digC).length + 1) ≤ q.size := by
    have := while_le digC q i (by omega)
    rw [hd, hn] at this
    exact this
  rw [hn] at f0
  have f1 := fun fin st => num3_l1 (ot := ot) (oz := oz) q hq i (i + ((r.takeWhile digC).length + 1)) hle S fin st (c :: r.takeWhile digC) (r.dropWhile digC) i 0 hsp (by simp) hw (by omega)
  have hb : (0 : Int) ≤ (i : Int) ∧ (i : Int) < (q.size : Int) := by omega
  have b21 := fun S => bad3 (ot := ot) (oz := oz) 21 (i : Int) S
  have w1 : IntKind.i64.wrap ((i : Int) + 1) = ((i + 1 : Nat) : Int) := by rw [wrap64 (by omega) (by omega)]; omega
  generalize hW : r.takeWhile digC = w at *
  by_cases h0 : ((c.toNat : Int) == 48) = true ∧ 0 < w.length
  · have e : numF c w i = .bad 21 i := by unfold numF; rw [if_pos h0]
    rw [e]
    have hz := h0.1
    have l1 : decide (((i + 1 : Nat) : Int) < ((i + (w.length + 1) : Nat) : Int)) = true := decide_eq_true (by omega)
    simp only [gotP]
    (rw [w_plain (fn := c63) rfl rfl (by simp only [go_sem, f0, hb, h1, hz, w1, l1, b21, Int.toNat_natCast]) rfl (by decide)]; simp only [c63, c63_b, c63_r2, c63_r4, go_sem, f0, hb, h1, hz, w1, l1, b21, Int.toNat_natCast]; repeat' (first | (rw [guardO_t]; split <;> rename_i h <;> (try rw [Bool.not_eq_true] at h) <;> (try simp only [go_sem, c63_r2, c63_r4, f0, hb, h1, hz, w1, l1, b21, Int.toNat_natCast, *])) | (rw [guardO_f]; split <;> rename_i h <;> (try rw [Bool.not_eq_true] at h) <;> (try simp only [go_sem, c63_r2, c63_r4, f0, hb, h1, hz, w1, l1, b21, Int.toNat_natCast, *])) | (rw [cw_bool]; split <;> rename_i h <;> (try rw [Bool.not_eq_true] at h) <;> (try simp only [go_sem, c63_r2, c63_r4, f0, hb, h1, hz, w1, l1, b21, Int.toNat_natCast, *]))))
  · have hv := val_numF c w i hw h0
    have rest : ∃ d, ((c.toNat : Int) == 48) = d ∧ (d = true → decide (((i + 1 : Nat) : Int) < ((i + (w.length + 1) : Nat) : Int)) = false) := by
      refine ⟨_, rfl, fun hd => ?_⟩
      have : w.length = 0 := by
        rcases Nat.eq_zero_or_pos w.length with e | e
        · exact e
        · exact absurd ⟨hd, e⟩ h0
      exact decide_eq_false (by omega)
    obtain ⟨d, hd1, hd2⟩ := rest
    simp only [Int.cast_ofNat_Int] at f1
    cases hx : valF 0 (c :: w) with
    | none =>
      rw [hx] at hv
      simp only [hx] at f1
      simp only at hv
      rw [hv]
      simp only [gotP]
      cases d with
      | true =>
        have l1 := hd2 rfl
        (rw [w_plain (fn := c63) rfl rfl (by simp only [go_sem, f0, hb, h1, hd1, w1, l1, f1, Int.toNat_natCast]) rfl (by decide)]; simp only [c63, c63_b, c63_r2, c63_r4, go_sem, f0, hb, h1, hd1, w1, l1, f1, Int.toNat_natCast]; repeat' (first | (rw [guardO_t]; split <;> rename_i h <;> (try rw [Bool.not_eq_true] at h) <;> (try simp only [go_sem, c63_r2, c63_r4, f0, hb, h1, hd1, w1, l1, f1, Int.toNat_natCast, *])) | (rw [guardO_f]; split <;> rename_i h <;> (try rw [Bool.not_eq_true] at h) <;> (try simp only [go_sem, c63_r2, c63_r4, f0, hb, h1, hd1, w1, l1, f1, Int.toNat_natCast, *])) | (rw [cw_bool]; split <;> rename_i h <;> (try rw [Bool.not_eq_true] at h) <;> (try simp only [go_sem, c63_r2, c63_r4, f0, hb, h1, hd1, w1, l1, f1, Int.toNat_natCast, *]))))
      | false => (rw [w_plain (fn := c63) rfl rfl (by simp only [go_sem, f0, hb, h1, hd1, f1, Int.toNat_natCast]) rfl (by decide)]; simp only [c63, c63_b, c63_r2, c63_r4, go_sem, f0, hb, h1, hd1, f1, Int.toNat_natCast]; repeat' (first | (rw [guardO_t]; split <;> rename_i h <;> (try rw [Bool.not_eq_true] at h) <;> (try simp only [go_sem, c63_r2, c63_r4, f0, hb, h1, hd1, f1, Int.toNat_natCast, *])) | (rw [guardO_f]; split <;> rename_i h <;> (try rw [Bool.not_eq_true] at h) <;> (try simp only [go_sem, c63_r2, c63_r4, f0, hb, h1, hd1, f1, Int.toNat_natCast, *])) | (rw [cw_bool]; split <;> rename_i h <;> (try rw [Bool.not_eq_true] at h) <;> (try simp only [go_sem, c63_r2, c63_r4, f0, hb, h1, hd1, f1, Int.toNat_natCast, *]))))
    | some v =>
      rw [hx] at hv
      simp only [hx] at f1
      simp only at hv
      rw [hv.1]
      have hv2 := hv.2
      have w3 : IntKind.i64.wrap (v : Int) = (v : Int) := wrap64 (by omega) (by omega)
      simp only [gotP]
      cases d with
      | true =>
        have l1 := hd2 rfl
        (rw [w_plain (fn := c63) rfl rfl (by simp only [go_sem, f0, hb, h1, hd1, w1, l1, f1, w3, Int.toNat_natCast]) rfl (by decide)]; simp only [c63, c63_b, c63_r2, c63_r4, go_sem, f0, hb, h1, hd1, w1, l1, f1, w3, Int.toNat_natCast]; repeat' (first | (rw [guardO_t]; split <;> rename_i h <;> (try rw [Bool.not_eq_true] at h) <;> (try simp only [go_sem, c63_r2, c63_r4, f0, hb, h1, hd1, w1, l1, f1, w3, Int.toNat_natCast, *])) | (rw [guardO_f]; split <;> rename_i h <;> (try rw [Bool.not_eq_true] at h) <;> (try simp only [go_sem, c63_r2, c63_r4, f0, hb, h1, hd1, w1, l1, f1, w3, Int.toNat_natCast, *])) | (rw [cw_bool]; split <;> rename_i h <;> (try rw [Bool.not_eq_true] at h) <;> (try simp only [go_sem, c63_r2, c63_r4, f0, hb, h1, hd1, w1, l1, f1, w3, Int.toNat_natCast, *]))))
      | false => (rw [w_plain (fn := c63) rfl rfl (by simp only [go_sem, f0, hb, h1, hd1, f1, w3, Int.toNat_natCast]) rfl (by decide)]; simp only [c63, c63_b, c63_r2, c63_r4, go_sem, f0, hb, h1, hd1, f1, w3, Int.toNat_natCast]; repeat' (first | (rw [guardO_t]; split <;> rename_i h <;> (try rw [Bool.not_eq_true] at h) <;> (try simp only [go_sem, c63_r2, c63_r4, f0, hb, h1, hd1, f1, w3, Int.toNat_natCast, *])) | (rw [guardO_f]; split <;> rename_i h <;> (try rw [Bool.not_eq_true] at h) <;> (try simp only [go_sem, c63_r2, c63_r4, f0, hb, h1, hd1, f1, w3, Int.toNat_natCast, *])) | (rw [cw_bool]; split <;> rename_i h <;> (try rw [Bool.not_eq_true] at h) <;> (try simp only [go_sem, c63_r2, c63_r4, f0, hb, h1, hd1, f1, w3, Int.toNat_natCast, *]))))
end
end Go.PE
namespace Go.PE
open Go Go.RowKit Go.Proofs
set_option linter.unusedVariables false
set_option linter.unusedSimpArgs false
set_option maxRecDepth 100000
section
variable {ot : TypeId} {oz : EP}
theorem word3_l0 (q : ByteArray) (hq : q.size ≤ 100000) (a v4 : PV) (S : St) (fin : Kont (PV × St)) (st : List Fw) : ∀ (rest : List UInt8) (i : Nat), q.data.toList.drop i = rest →
    run (env ot oz) fin st c65_l0 [(0, some (.str q)), (1, some a), (4, some v4), (5, some (.int .i64 (i : Int)))] S =
      aft (env ot oz) fin st (.exit 0) [(0, some (.str q)), (1, some a), (4, some v4), (5, some (.int .i64 ((i + whileN wordC rest : Nat) : Int))), (19, some (.bool false))] S
  | [], i, hi => by
    have lt := lt_no (drop_nil hi)
    rw [size_data] at lt
    have e : whileN wordC [] = 0 := rfl
    rw [e, Nat.add_zero]
    (rw [c65_l0_w]; simp only [c65_l0_b, c65_l0_a, c65_r2, c65_r11, go_sem, lt]; repeat' (first | (rw [guardO_t]; split <;> rename_i h <;> (try rw [Bool.not_eq_true] at h) <;> (try simp only [go_sem, c65_r2, c65_r11, c65_l0_a, lt, *])) | (rw [guardO_f]; split <;> rename_i h <;> (try rw [Bool.not_eq_true] at h) <;> (try simp only [go_sem, c65_r2, c65_r11, c65_l0_a, lt, *])) | (rw [cw_bool]; split <;> rename_i h <;> (try rw [Bool.not_eq_true] at h) <;> (try simp only [go_sem, c65_r2, c65_r11, c65_l0_a, lt, *]))))
  | c :: rest, i, hi => by
    obtain ⟨h1, h2, h3⟩ := drop_cons hi
    rw [size_data] at h3
    have lt := lt_yes h3
    have hb : (0 : Int) ≤ (i : Int) ∧ (i : Int) < (q.size : Int) := by omega
    have w := wrap_succ h3 (by omega)
    have ih := word3_l0 q hq a v4 S fin st rest (i + 1) h2
    have hg := let3 (ot := ot) (oz := oz) c
    cases hp : wordC c with
    | false =>
      have e : whileN wordC (c :: rest) = 0 := by simp [whileN, hp]
      rw [e, Nat.add_zero]
      (rw [c65_l0_w]; simp only [c65_l0_b, c65_l0_a, c65_r2, c65_r11, go_sem, lt, hb, h1, hg, hp, Int.toNat_natCast]; repeat' (first | (rw [guardO_t]; split <;> rename_i h <;> (try rw [Bool.not_eq_true] at h) <;> (try simp only [go_sem, c65_r2, c65_r11, c65_l0_a, lt, hb, h1, hg, hp, Int.toNat_natCast, *])) | (rw [guardO_f]; split <;> rename_i h <;> (try rw [Bool.not_eq_true] at h) <;> (try simp only [go_sem, c65_r2, c65_r11, c65_l0_a, lt, hb, h1, hg, hp, Int.toNat_natCast, *])) | (rw [cw_bool]; split <;> rename_i h <;> (try rw [Bool.not_eq_true] at h) <;> (try simp only [go_sem, c65_r2, c65_r11, c65_l0_a, lt, hb, h1, hg, hp, Int.toNat_natCast, *]))))
    | true =>
      have e : i + whileN wordC (c :: rest) = i + 1 + whileN wordC rest := by simp [whileN, hp]; omega
      rw [e]
      (rw [c65_l0_w]; simp only [c65_l0_b, c65_l0_a, c65_r2, c65_r11, go_sem, lt, hb, h1, hg, hp, w, ih, Int.toNat_natCast]; repeat' (first | (rw [guardO_t]; split <;> rename_i h <;> (try rw [Bool.not_eq_true] at h) <;> (try simp only [go_sem, c65_r2, c65_r11, c65_l0_a, lt, hb, h1, hg, hp, w, ih, Int.toNat_natCast, *])) | (rw [guardO_f]; split <;> rename_i h <;> (try rw [Bool.not_eq_true] at h) <;> (try simp only [go_sem, c65_r2, c65_r11, c65_l0_a, lt, hb, h1, hg, hp, w, ih, Int.toNat_natCast, *])) | (rw [cw_bool]; split <;> rename_i h <;> (try rw [Bool.not_eq_true] at h) <;> (try simp only [go_sem, c65_r2, c65_r11, c65_l0_a, lt, hb, h1, hg, hp, w, ih, Int.toNat_natCast, *]))))
/-- A word, by the document. -/
theorem word3 (q : ByteArray) (hq : q.size ≤ 100000) (i : Nat) (hi : i ≤ q.size) (S : St) :
    cal (env ot oz) 65 [.str q, .int .i64 (i : Int)] S = some (gotP (wordF ((q.data.toList.drop i).takeWhile wordC) i), S) := by
  have f0 := fun T fin st => word3_l0 (ot := ot) (oz := oz) q hq (.int .i64 (i : Int)) (.ref S.obs.length 0) T fin st _ i rfl
  have hle := while_le wordC q i hi
  have ex := ext_take q i _ hle
  rw [while_take] at ex
  have b6 := fun S => bad3 (ot := ot) (oz := oz) 6 (i : Int) S
  have b2 := fun S => bad3 (ot := ot) (oz := oz) 2 (i : Int) S
  have hn : whileN wordC (q.data.toList.drop i) = ((q.data.toList.drop i).takeWhile wordC).length := rfl
  rw [hn] at f0 hle ex
  generalize (q.data.toList.drop i).takeWhile wordC = w at *
  have kd := fun S => cal_ans (kind01_ok (ot := ot) (oz := oz) (txt w)) (S := S)
  have w1 : IntKind.i64.wrap (((i + w.length : Nat) : Int) - (i : Int)) = (w.length : Int) := by rw [wrap64 (by omega) (by omega)]; omega
  have c1 : (0 : Int) ≤ ((i + w.length : Nat) : Int) ∧ ((i + w.length : Nat) : Int) ≤ (q.size : Int) := by omega
  have c2 : (0 : Int) ≤ (i : Int) ∧ (i : Int) ≤ ((i + w.length : Nat) : Int) := by omega
  unfold wordF
  split
  · rename_i hc
    have l1 : decide ((8 : Int) < (w.length : Int)) = true := decide_eq_true (by omega)
    simp only [gotP]
    (rw [w_plain (fn := c65) rfl rfl (by simp only [go_sem, f0, w1, l1, b6]) rfl (by decide)]; simp only [c65, c65_b, c65_r2, c65_r11, go_sem, f0, w1, l1, b6]; repeat' (first | (rw [guardO_t]; split <;> rename_i h <;> (try rw [Bool.not_eq_true] at h) <;> (try simp only [go_sem, c65_r2, c65_r11, f0, w1, l1, b6, *])) | (rw [guardO_f]; split <;> rename_i h <;> (try rw [Bool.not_eq_true] at h) <;> (try simp only [go_sem, c65_r2, c65_r11, f0, w1, l1, b6, *])) | (rw [cw_bool]; split <;> rename_i h <;> (try rw [Bool.not_eq_true] at h) <;> (try simp only [go_sem, c65_r2, c65_r11, f0, w1, l1, b6, *]))))
  · rename_i hc
    have l1 : decide ((8 : Int) < (w.length : Int)) = false := decide_eq_false (by omega)
    generalize kindS (txt w) = k at *
    cases k0 : (k == 0) with
    | true =>
      simp only [gotP, if_true]
      (rw [w_plain (fn := c65) rfl rfl (by simp only [go_sem, f0, w1, l1, c1, c2, ex, kd, k0, b2, Int.toNat_natCast]) rfl (by decide)]; simp only [c65, c65_b, c65_r2, c65_r11, go_sem, f0, w1, l1, c1, c2, ex, kd, k0, b2, Int.toNat_natCast]; repeat' (first | (rw [guardO_t]; split <;> rename_i h <;> (try rw [Bool.not_eq_true] at h) <;> (try simp only [go_sem, c65_r2, c65_r11, f0, w1, l1, c1, c2, ex, kd, k0, b2, Int.toNat_natCast, *])) | (rw [guardO_f]; split <;> rename_i h <;> (try rw [Bool.not_eq_true] at h) <;> (try simp only [go_sem, c65_r2, c65_r11, f0, w1, l1, c1, c2, ex, kd, k0, b2, Int.toNat_natCast, *])) | (rw [cw_bool]; split <;> rename_i h <;> (try rw [Bool.not_eq_true] at h) <;> (try simp only [go_sem, c65_r2, c65_r11, f0, w1, l1, c1, c2, ex, kd, k0, b2, Int.toNat_natCast, *]))))
    | false =>
      simp only [Bool.false_eq_true, if_false, gotP]
      cases k2 : (k == 2) with
      | true => (rw [w_plain (fn := c65) rfl rfl (by simp only [go_sem, f0, w1, l1, c1, c2, ex, kd, k0, k2, Int.toNat_natCast]) rfl (by decide)]; simp only [c65, c65_b, c65_r2, c65_r11, go_sem, f0, w1, l1, c1, c2, ex, kd, k0, k2, Int.toNat_natCast]; repeat' (first | (rw [guardO_t]; split <;> rename_i h <;> (try rw [Bool.not_eq_true] at h) <;> (try simp only [go_sem, c65_r2, c65_r11, f0, w1, l1, c1, c2, ex, kd, k0, k2, Int.toNat_natCast, *])) | (rw [guardO_f]; split <;> rename_i h <;> (try rw [Bool.not_eq_true] at h) <;> (try simp only [go_sem, c65_r2, c65_r11, f0, w1, l1, c1, c2, ex, kd, k0, k2, Int.toNat_natCast, *])) | (rw [cw_bool]; split <;> rename_i h <;> (try rw [Bool.not_eq_true] at h) <;> (try simp only [go_sem, c65_r2, c65_r11, f0, w1, l1, c1, c2, ex, kd, k0, k2, Int.toNat_natCast, *]))))
      | false =>
        cases k4 : (k == 4) with
        | true => (rw [w_plain (fn := c65) rfl rfl (by simp only [go_sem, f0, w1, l1, c1, c2, ex, kd, k0, k2, k4, Int.toNat_natCast]) rfl (by decide)]; simp only [c65, c65_b, c65_r2, c65_r11, go_sem, f0, w1, l1, c1, c2, ex, kd, k0, k2, k4, Int.toNat_natCast]; repeat' (first | (rw [guardO_t]; split <;> rename_i h <;> (try rw [Bool.not_eq_true] at h) <;> (try simp only [go_sem, c65_r2, c65_r11, f0, w1, l1, c1, c2, ex, kd, k0, k2, k4, Int.toNat_natCast, *])) | (rw [guardO_f]; split <;> rename_i h <;> (try rw [Bool.not_eq_true] at h) <;> (try simp only [go_sem, c65_r2, c65_r11, f0, w1, l1, c1, c2, ex, kd, k0, k2, k4, Int.toNat_natCast, *])) | (rw [cw_bool]; split <;> rename_i h <;> (try rw [Bool.not_eq_true] at h) <;> (try simp only [go_sem, c65_r2, c65_r11, f0, w1, l1, c1, c2, ex, kd, k0, k2, k4, Int.toNat_natCast, *]))))
        | false => (rw [w_plain (fn := c65) rfl rfl (by simp only [go_sem, f0, w1, l1, c1, c2, ex, kd, k0, k2, k4, Int.toNat_natCast]) rfl (by decide)]; simp only [c65, c65_b, c65_r2, c65_r11, go_sem, f0, w1, l1, c1, c2, ex, kd, k0, k2, k4, Int.toNat_natCast]; repeat' (first | (rw [guardO_t]; split <;> rename_i h <;> (try rw [Bool.not_eq_true] at h) <;> (try simp only [go_sem, c65_r2, c65_r11, f0, w1, l1, c1, c2, ex, kd, k0, k2, k4, Int.toNat_natCast, *])) | (rw [guardO_f]; split <;> rename_i h <;> (try rw [Bool.not_eq_true] at h) <;> (try simp only [go_sem, c65_r2, c65_r11, f0, w1, l1, c1, c2, ex, kd, k0, k2, k4, Int.toNat_natCast, *])) | (rw [cw_bool]; split <;> rename_i h <;> (try rw [Bool.not_eq_true] at h) <;> (try simp only [go_sem, c65_r2, c65_r11, f0, w1, l1, c1, c2, ex, kd, k0, k2, k4, Int.toNat_natCast, *]))))
theorem hex_num : ∀ n, n < 256 → hexV (UInt8.ofNat n) = if 48 ≤ n ∧ n ≤ 57 then (n : Int) - 48 else if 97 ≤ n ∧ n ≤ 102 then (n : Int) - 97 + 10 else -1 := by decide +kernel
theorem hexV_eq (c : UInt8) : hexV c = if 48 ≤ c.toNat ∧ c.toNat ≤ 57 then (c.toNat : Int) - 48 else if 97 ≤ c.toNat ∧ c.toNat ≤ 102 then (c.toNat : Int) - 97 + 10 else -1 := by
  have := hex_num c.toNat c.toNat_lt
  have e : UInt8.ofNat c.toNat = c := by simp
  rw [e] at this; exact this
theorem hex3 (c : UInt8) (S : St) : cal (env ot oz) 124 [.int .u8 (c.toNat : Int)] S = some (.int .i64 (hexV c), S) := by
  have hlt := c.toNat_lt
  rw [hexV_eq]
  by_cases h1 : 48 ≤ c.toNat ∧ c.toNat ≤ 57
  · rw [if_pos h1]
    have l1 : decide ((48 : Int) ≤ (c.toNat : Int)) = true := decide_eq_true (by omega)
    have l2 : decide ((c.toNat : Int) ≤ 57) = true := decide_eq_true (by omega)
    have w1 : IntKind.u8.wrap ((c.toNat : Int) - 48) = (c.toNat : Int) - 48 := IntWalk.u8_in _ ⟨by omega, by omega⟩
    have w2 : IntKind.i64.wrap ((c.toNat : Int) - 48) = (c.toNat : Int) - 48 := wrap64 (by omega) (by omega)
    (rw [w_plain (fn := c124) rfl rfl (by simp only [go_sem, l1, l2, w1, w2]) rfl (by decide)]; simp only [c124, c124_b, c124_r1, c124_r3, go_sem, l1, l2, w1, w2]; repeat' (first | (rw [guardO_t]; split <;> rename_i h <;> (try rw [Bool.not_eq_true] at h) <;> (try simp only [go_sem, c124_r1, c124_r3, l1, l2, w1, w2, *])) | (rw [guardO_f]; split <;> rename_i h <;> (try rw [Bool.not_eq_true] at h) <;> (try simp only [go_sem, c124_r1, c124_r3, l1, l2, w1, w2, *])) | (rw [cw_bool]; split <;> rename_i h <;> (try rw [Bool.not_eq_true] at h) <;> (try simp only [go_sem, c124_r1, c124_r3, l1, l2, w1, w2, *]))))
  · rw [if_neg h1]
    by_cases h2 : 97 ≤ c.toNat ∧ c.toNat ≤ 102
    · rw [if_pos h2]
      have l1 : decide ((48 : Int) ≤ (c.toNat : Int)) = true := decide_eq_true (by omega)
      have l2 : decide ((c.toNat : Int) ≤ 57) = false := decide_eq_false (by omega)
      have l3 : decide ((97 : Int) ≤ (c.toNat : Int)) = true := decide_eq_true (by omega)
      have l4 : decide ((c.toNat : Int) ≤ 102) = true := decide_eq_true (by omega)
      have w1 : IntKind.u8.wrap ((c.toNat : Int) - 97) = (c.toNat : Int) - 97 := IntWalk.u8_in _ ⟨by omega, by omega⟩
      have w2 : IntKind.i64.wrap ((c.toNat : Int) - 97) = (c.toNat : Int) - 97 := wrap64 (by omega) (by omega)
      have w3 : IntKind.i64.wrap ((c.toNat : Int) - 97 + 10) = (c.toNat : Int) - 97 + 10 := wrap64 (by omega) (by omega)
      (rw [w_plain (fn := c124) rfl rfl (by simp only [go_sem, l1, l2, l3, l4, w1, w2, w3]) rfl (by decide)]; simp only [c124, c124_b, c124_r1, c124_r3, go_sem, l1, l2, l3, l4, w1, w2, w3]; repeat' (first | (rw [guardO_t]; split <;> rename_i h <;> (try rw [Bool.not_eq_true] at h) <;> (try simp only [go_sem, c124_r1, c124_r3, l1, l2, l3, l4, w1, w2, w3, *])) | (rw [guardO_f]; split <;> rename_i h <;> (try rw [Bool.not_eq_true] at h) <;> (try simp only [go_sem, c124_r1, c124_r3, l1, l2, l3, l4, w1, w2, w3, *])) | (rw [cw_bool]; split <;> rename_i h <;> (try rw [Bool.not_eq_true] at h) <;> (try simp only [go_sem, c124_r1, c124_r3, l1, l2, l3, l4, w1, w2, w3, *]))))
    · rw [if_neg h2]
      cases l1 : decide ((48 : Int) ≤ (c.toNat : Int)) with
      | false =>
        have l3 : decide ((97 : Int) ≤ (c.toNat : Int)) = false := decide_eq_false (by have := of_decide_eq_false l1; omega)
        (rw [w_plain (fn := c124) rfl rfl (by simp only [go_sem, l1, l3]) rfl (by decide)]; simp only [c124, c124_b, c124_r1, c124_r3, go_sem, l1, l3]; repeat' (first | (rw [guardO_t]; split <;> rename_i h <;> (try rw [Bool.not_eq_true] at h) <;> (try simp only [go_sem, c124_r1, c124_r3, l1, l3, *])) | (rw [guardO_f]; split <;> rename_i h <;> (try rw [Bool.not_eq_true] at h) <;> (try simp only [go_sem, c124_r1, c124_r3, l1, l3, *])) | (rw [cw_bool]; split <;> rename_i h <;> (try rw [Bool.not_eq_true] at h) <;> (try simp only [go_sem, c124_r1, c124_r3, l1, l3, *]))))
      | true =>
        have l2 : decide ((c.toNat : Int) ≤ 57) = false := decide_eq_false (by have := of_decide_eq_true l1; omega)
        cases l3 : decide ((97 : Int) ≤ (c.toNat : Int)) with
        | false => (rw [w_plain (fn := c124) rfl rfl (by simp only [go_sem, l1, l2, l3]) rfl (by decide)]; simp only [c124, c124_b, c124_r1, c124_r3, go_sem, l1, l2, l3]; repeat' (first | (rw [guardO_t]; split <;> rename_i h <;> (try rw [Bool.not_eq_true] at h) <;> (try simp only [go_sem, c124_r1, c124_r3, l1, l2, l3, *])) | (rw [guardO_f]; split <;> rename_i h <;> (try rw [Bool.not_eq_true] at h) <;> (try simp only [go_sem, c124_r1, c124_r3, l1, l2, l3, *])) | (rw [cw_bool]; split <;> rename_i h <;> (try rw [Bool.not_eq_true] at h) <;> (try simp only [go_sem, c124_r1, c124_r3, l1, l2, l3, *]))))
        | true =>
          have l4 : decide ((c.toNat : Int) ≤ 102) = false := decide_eq_false (by have := of_decide_eq_true l3; omega)
          (rw [w_plain (fn := c124) rfl rfl (by simp only [go_sem, l1, l2, l3, l4]) rfl (by decide)]; simp only [c124, c124_b, c124_r1, c124_r3, go_sem, l1, l2, l3, l4]; repeat' (first | (rw [guardO_t]; split <;> rename_i h <;> (try rw [Bool.not_eq_true] at h) <;> (try simp only [go_sem, c124_r1, c124_r3, l1, l2, l3, l4, *])) | (rw [guardO_f]; split <;> rename_i h <;> (try rw [Bool.not_eq_true] at h) <;> (try simp only [go_sem, c124_r1, c124_r3, l1, l2, l3, l4, *])) | (rw [cw_bool]; split <;> rename_i h <;> (try rw [Bool.not_eq_true] at h) <;> (try simp only [go_sem, c124_r1, c124_r3, l1, l2, l3, l4, *]))))
/-- What a backslash tells, by the document. -/
theorem esc3 (q : ByteArray) (hq : q.size ≤ 100000) (i : Nat) (a : UInt8) (l : List UInt8) (hd : q.data.toList.drop i = a :: l) (S : St) :
    cal (env ot oz) 104 [.str q, .int .i64 (i : Int)] S = some (.tup [.int .u8 ((escG (a :: l)).1 : Int), .int .i64 ((escG (a :: l)).2 : Int)], S) := by
  obtain ⟨h1, h2, h3⟩ := drop_cons hd
  rw [size_data] at h3
  have hz : i + 1 + l.length = q.size := by
    have := congrArg List.length hd
    rw [List.length_drop, size_data] at this
    simp at this; omega
  have w1 : IntKind.i64.wrap ((i : Int) + 1) = ((i + 1 : Nat) : Int) := by rw [wrap64 (by omega) (by omega)]; omega
  match l, hd, h2, hz with
  | [], hd, h2, hz =>
    simp only [List.length_nil] at hz
    have l1 : decide ((q.size : Int) ≤ ((i + 1 : Nat) : Int)) = true := decide_eq_true (by omega)
    (rw [w_plain (fn := c104) rfl rfl (by simp only [go_sem, w1, l1, escG]) rfl (by decide)]; simp only [c104, c104_b, c104_r4, c104_r8, go_sem, w1, l1, escG]; repeat' (first | (rw [guardO_t]; split <;> rename_i h <;> (try rw [Bool.not_eq_true] at h) <;> (try simp only [go_sem, c104_r4, c104_r8, w1, l1, escG, *])) | (rw [guardO_f]; split <;> rename_i h <;> (try rw [Bool.not_eq_true] at h) <;> (try simp only [go_sem, c104_r4, c104_r8, w1, l1, escG, *])) | (rw [cw_bool]; split <;> rename_i h <;> (try rw [Bool.not_eq_true] at h) <;> (try simp only [go_sem, c104_r4, c104_r8, w1, l1, escG, *]))))
  | c :: r, hd, h2, hz =>
    simp only [List.length_cons] at hz
    have l1 : decide ((q.size : Int) ≤ ((i + 1 : Nat) : Int)) = false := decide_eq_false (by omega)
    have c1 : (0 : Int) ≤ ((i + 1 : Nat) : Int) ∧ ((i + 1 : Nat) : Int) < (q.size : Int) := by omega
    obtain ⟨g1, g2, g3⟩ := drop_cons h2
    have w2 : IntKind.i64.wrap ((i : Int) + 2) = ((i + 2 : Nat) : Int) := by rw [wrap64 (by omega) (by omega)]; omega
    have w3 : IntKind.i64.wrap ((i : Int) + 3) = ((i + 3 : Nat) : Int) := by rw [wrap64 (by omega) (by omega)]; omega
    have eg : escG (a :: c :: r) = if ((c.toNat : Int) == 34 || (c.toNat : Int) == 92) = true then (c.toNat, 2) else if ((c.toNat : Int) == 110) = true then (10, 2) else
      if ((c.toNat : Int) == 120) = true ∧ 0 ≤ valL r 0 ∧ 0 ≤ valL r 1 then ((valL r 0 * 16 + valL r 1).toNat, 4) else (0, 0) := rfl
    have v0 : ∀ x, r[0]? = some x → valL r 0 = hexV x := fun x hx => by unfold valL; rw [hx]
    have v1 : ∀ x, r[1]? = some x → valL r 1 = hexV x := fun x hx => by unfold valL; rw [hx]
    have n1 : r[1]? = none → valL r 1 = -1 := fun hx => by unfold valL; rw [hx]
    have k0 : ∀ x, r[0]? = some x → q.data.toList[i + 2]? = some x := fun x hx => by
      have := congrArg (·[0]?) g2
      simp only [List.getElem?_drop, hx] at this
      exact this
    have k1 : ∀ x, r[1]? = some x → q.data.toList[i + 3]? = some x := fun x hx => by
      have := congrArg (·[1]?) g2
      simp only [List.getElem?_drop, hx] at this
      exact this
    generalize escG (a :: c :: r) = eG at *
    cases q1 : ((c.toNat : Int) == 34) with
    | true => simp only [q1, Bool.true_or, if_true] at eg; subst eg; (rw [w_plain (fn := c104) rfl rfl (by simp only [go_sem, w1, l1, c1, g1, q1, Int.toNat_natCast]) rfl (by decide)]; simp only [c104, c104_b, c104_r4, c104_r8, go_sem, w1, l1, c1, g1, q1, Int.toNat_natCast]; repeat' (first | (rw [guardO_t]; split <;> rename_i h <;> (try rw [Bool.not_eq_true] at h) <;> (try simp only [go_sem, c104_r4, c104_r8, w1, l1, c1, g1, q1, Int.toNat_natCast, *])) | (rw [guardO_f]; split <;> rename_i h <;> (try rw [Bool.not_eq_true] at h) <;> (try simp only [go_sem, c104_r4, c104_r8, w1, l1, c1, g1, q1, Int.toNat_natCast, *])) | (rw [cw_bool]; split <;> rename_i h <;> (try rw [Bool.not_eq_true] at h) <;> (try simp only [go_sem, c104_r4, c104_r8, w1, l1, c1, g1, q1, Int.toNat_natCast, *]))))
    | false =>
    cases q2 : ((c.toNat : Int) == 92) with
    | true => simp only [q1, q2, Bool.or_true, if_true] at eg; subst eg; (rw [w_plain (fn := c104) rfl rfl (by simp only [go_sem, w1, l1, c1, g1, q1, q2, Int.toNat_natCast]) rfl (by decide)]; simp only [c104, c104_b, c104_r4, c104_r8, go_sem, w1, l1, c1, g1, q1, q2, Int.toNat_natCast]; repeat' (first | (rw [guardO_t]; split <;> rename_i h <;> (try rw [Bool.not_eq_true] at h) <;> (try simp only [go_sem, c104_r4, c104_r8, w1, l1, c1, g1, q1, q2, Int.toNat_natCast, *])) | (rw [guardO_f]; split <;> rename_i h <;> (try rw [Bool.not_eq_true] at h) <;> (try simp only [go_sem, c104_r4, c104_r8, w1, l1, c1, g1, q1, q2, Int.toNat_natCast, *])) | (rw [cw_bool]; split <;> rename_i h <;> (try rw [Bool.not_eq_true] at h) <;> (try simp only [go_sem, c104_r4, c104_r8, w1, l1, c1, g1, q1, q2, Int.toNat_natCast, *]))))
    | false =>
    cases q3 : ((c.toNat : Int) == 110) with
    | true => simp only [q1, q2, q3, Bool.or_self, Bool.false_eq_true, if_false, if_true] at eg; subst eg; (rw [w_plain (fn := c104) rfl rfl (by simp only [go_sem, w1, l1, c1, g1, q1, q2, q3, Int.toNat_natCast]) rfl (by decide)]; simp only [c104, c104_b, c104_r4, c104_r8, go_sem, w1, l1, c1, g1, q1, q2, q3, Int.toNat_natCast]; repeat' (first | (rw [guardO_t]; split <;> rename_i h <;> (try rw [Bool.not_eq_true] at h) <;> (try simp only [go_sem, c104_r4, c104_r8, w1, l1, c1, g1, q1, q2, q3, Int.toNat_natCast, *])) | (rw [guardO_f]; split <;> rename_i h <;> (try rw [Bool.not_eq_true] at h) <;> (try simp only [go_sem, c104_r4, c104_r8, w1, l1, c1, g1, q1, q2, q3, Int.toNat_natCast, *])) | (rw [cw_bool]; split <;> rename_i h <;> (try rw [Bool.not_eq_true] at h) <;> (try simp only [go_sem, c104_r4, c104_r8, w1, l1, c1, g1, q1, q2, q3, Int.toNat_natCast, *]))))
    | false =>
    cases q4 : ((c.toNat : Int) == 120) with
    | false => simp only [q1, q2, q3, q4, Bool.or_self, Bool.false_eq_true, if_false, false_and] at eg; subst eg; (rw [w_plain (fn := c104) rfl rfl (by simp only [go_sem, w1, l1, c1, g1, q1, q2, q3, q4, Int.toNat_natCast]) rfl (by decide)]; simp only [c104, c104_b, c104_r4, c104_r8, go_sem, w1, l1, c1, g1, q1, q2, q3, q4, Int.toNat_natCast]; repeat' (first | (rw [guardO_t]; split <;> rename_i h <;> (try rw [Bool.not_eq_true] at h) <;> (try simp only [go_sem, c104_r4, c104_r8, w1, l1, c1, g1, q1, q2, q3, q4, Int.toNat_natCast, *])) | (rw [guardO_f]; split <;> rename_i h <;> (try rw [Bool.not_eq_true] at h) <;> (try simp only [go_sem, c104_r4, c104_r8, w1, l1, c1, g1, q1, q2, q3, q4, Int.toNat_natCast, *])) | (rw [cw_bool]; split <;> rename_i h <;> (try rw [Bool.not_eq_true] at h) <;> (try simp only [go_sem, c104_r4, c104_r8, w1, l1, c1, g1, q1, q2, q3, q4, Int.toNat_natCast, *]))))
    | true =>
    rcases Nat.lt_or_ge 1 r.length with hr | hr
    · have e0 : r[0]? = some r[0] := List.getElem?_eq_getElem (by omega)
      have e1 : r[1]? = some r[1] := List.getElem?_eq_getElem (by omega)
      have v0 := v0 _ e0
      have v1 := v1 _ e1
      have k0 := k0 _ e0
      have k1 := k1 _ e1
      generalize r[0] = x at *
      generalize r[1] = y at *
      have hx := hex3 (ot := ot) (oz := oz) x
      have hy := hex3 (ot := ot) (oz := oz) y
      have l3 : decide (((i + 3 : Nat) : Int) < (q.size : Int)) = true := decide_eq_true (by omega)
      have c2 : (0 : Int) ≤ ((i + 2 : Nat) : Int) ∧ ((i + 2 : Nat) : Int) < (q.size : Int) := by omega
      have c3 : (0 : Int) ≤ ((i + 3 : Nat) : Int) ∧ ((i + 3 : Nat) : Int) < (q.size : Int) := by omega
      rw [v0, v1] at eg
      have r1 := hexV_in x
      have r2 := hexV_in y
      generalize hexV x = X at *
      generalize hexV y = Y at *
      rcases r1 with rfl | ⟨k1', hk1, rfl⟩
      · have eg : eG = (0, 0) := by rw [eg]; simp [q1, q2, q3, q4]
        subst eg
        have d1 : decide ((0 : Int) ≤ -1) = false := by decide
        (rw [w_plain (fn := c104) rfl rfl (by simp only [go_sem, w1, l1, c1, g1, q1, q2, q3, q4, w2, w3, l3, c2, k0, hx, d1, Int.toNat_natCast]) rfl (by decide)]; simp only [c104, c104_b, c104_r4, c104_r8, go_sem, w1, l1, c1, g1, q1, q2, q3, q4, w2, w3, l3, c2, k0, hx, d1, Int.toNat_natCast]; repeat' (first | (rw [guardO_t]; split <;> rename_i h <;> (try rw [Bool.not_eq_true] at h) <;> (try simp only [go_sem, c104_r4, c104_r8, w1, l1, c1, g1, q1, q2, q3, q4, w2, w3, l3, c2, k0, hx, d1, Int.toNat_natCast, *])) | (rw [guardO_f]; split <;> rename_i h <;> (try rw [Bool.not_eq_true] at h) <;> (try simp only [go_sem, c104_r4, c104_r8, w1, l1, c1, g1, q1, q2, q3, q4, w2, w3, l3, c2, k0, hx, d1, Int.toNat_natCast, *])) | (rw [cw_bool]; split <;> rename_i h <;> (try rw [Bool.not_eq_true] at h) <;> (try simp only [go_sem, c104_r4, c104_r8, w1, l1, c1, g1, q1, q2, q3, q4, w2, w3, l3, c2, k0, hx, d1, Int.toNat_natCast, *]))))
      · have d1 : decide ((0 : Int) ≤ (k1' : Int)) = true := decide_eq_true (by omega)
        rcases r2 with rfl | ⟨k2, hk2, rfl⟩
        · have eg : eG = (0, 0) := by rw [eg]; simp [q1, q2, q3, q4]
          subst eg
          have d2 : decide ((0 : Int) ≤ -1) = false := by decide
          (rw [w_plain (fn := c104) rfl rfl (by simp only [go_sem, w1, l1, c1, g1, q1, q2, q3, q4, w2, w3, l3, c2, c3, k0, k1, hx, hy, d1, d2, Int.toNat_natCast]) rfl (by decide)]; simp only [c104, c104_b, c104_r4, c104_r8, go_sem, w1, l1, c1, g1, q1, q2, q3, q4, w2, w3, l3, c2, c3, k0, k1, hx, hy, d1, d2, Int.toNat_natCast]; repeat' (first | (rw [guardO_t]; split <;> rename_i h <;> (try rw [Bool.not_eq_true] at h) <;> (try simp only [go_sem, c104_r4, c104_r8, w1, l1, c1, g1, q1, q2, q3, q4, w2, w3, l3, c2, c3, k0, k1, hx, hy, d1, d2, Int.toNat_natCast, *])) | (rw [guardO_f]; split <;> rename_i h <;> (try rw [Bool.not_eq_true] at h) <;> (try simp only [go_sem, c104_r4, c104_r8, w1, l1, c1, g1, q1, q2, q3, q4, w2, w3, l3, c2, c3, k0, k1, hx, hy, d1, d2, Int.toNat_natCast, *])) | (rw [cw_bool]; split <;> rename_i h <;> (try rw [Bool.not_eq_true] at h) <;> (try simp only [go_sem, c104_r4, c104_r8, w1, l1, c1, g1, q1, q2, q3, q4, w2, w3, l3, c2, c3, k0, k1, hx, hy, d1, d2, Int.toNat_natCast, *]))))
        · have d2 : decide ((0 : Int) ≤ (k2 : Int)) = true := decide_eq_true (by omega)
          have eg : eG = (k1' * 16 + k2, 4) := by
            rw [eg, if_neg (by simp [q1, q2]), if_neg (by simp [q3]), if_pos ⟨q4, by omega, by omega⟩]
            congr 1
          subst eg
          have s1 : IntKind.i64.wrap ((k1' : Int) * 16) = (k1' : Int) * 16 := wrap64 (by omega) (by omega)
          have s2 : IntKind.i64.wrap ((k1' : Int) * 16 + (k2 : Int)) = ((k1' * 16 + k2 : Nat) : Int) := by rw [wrap64 (by omega) (by omega)]; omega
          have w : IntKind.u8.wrap ((k1' * 16 + k2 : Nat) : Int) = ((k1' * 16 + k2 : Nat) : Int) := IntWalk.u8_in _ ⟨by omega, by omega⟩
          (rw [w_plain (fn := c104) rfl rfl (by simp only [go_sem, w1, l1, c1, g1, q1, q2, q3, q4, w2, w3, l3, c2, c3, k0, k1, hx, hy, d1, d2, s1, s2, w, Int.toNat_natCast]) rfl (by decide)]; simp only [c104, c104_b, c104_r4, c104_r8, go_sem, w1, l1, c1, g1, q1, q2, q3, q4, w2, w3, l3, c2, c3, k0, k1, hx, hy, d1, d2, s1, s2, w, Int.toNat_natCast]; repeat' (first | (rw [guardO_t]; split <;> rename_i h <;> (try rw [Bool.not_eq_true] at h) <;> (try simp only [go_sem, c104_r4, c104_r8, w1, l1, c1, g1, q1, q2, q3, q4, w2, w3, l3, c2, c3, k0, k1, hx, hy, d1, d2, s1, s2, w, Int.toNat_natCast, *])) | (rw [guardO_f]; split <;> rename_i h <;> (try rw [Bool.not_eq_true] at h) <;> (try simp only [go_sem, c104_r4, c104_r8, w1, l1, c1, g1, q1, q2, q3, q4, w2, w3, l3, c2, c3, k0, k1, hx, hy, d1, d2, s1, s2, w, Int.toNat_natCast, *])) | (rw [cw_bool]; split <;> rename_i h <;> (try rw [Bool.not_eq_true] at h) <;> (try simp only [go_sem, c104_r4, c104_r8, w1, l1, c1, g1, q1, q2, q3, q4, w2, w3, l3, c2, c3, k0, k1, hx, hy, d1, d2, s1, s2, w, Int.toNat_natCast, *]))))
    · have l3 : decide (((i + 3 : Nat) : Int) < (q.size : Int)) = false := decide_eq_false (by omega)
      have hn := n1 (List.getElem?_eq_none_iff.2 (by omega))
      have eg : eG = (0, 0) := by rw [eg, hn]; simp [q1, q2, q3, q4]
      subst eg
      (rw [w_plain (fn := c104) rfl rfl (by simp only [go_sem, w1, l1, c1, g1, q1, q2, q3, q4, w3, l3, Int.toNat_natCast]) rfl (by decide)]; simp only [c104, c104_b, c104_r4, c104_r8, go_sem, w1, l1, c1, g1, q1, q2, q3, q4, w3, l3, Int.toNat_natCast]; repeat' (first | (rw [guardO_t]; split <;> rename_i h <;> (try rw [Bool.not_eq_true] at h) <;> (try simp only [go_sem, c104_r4, c104_r8, w1, l1, c1, g1, q1, q2, q3, q4, w3, l3, Int.toNat_natCast, *])) | (rw [guardO_f]; split <;> rename_i h <;> (try rw [Bool.not_eq_true] at h) <;> (try simp only [go_sem, c104_r4, c104_r8, w1, l1, c1, g1, q1, q2, q3, q4, w3, l3, Int.toNat_natCast, *])) | (rw [cw_bool]; split <;> rename_i h <;> (try rw [Bool.not_eq_true] at h) <;> (try simp only [go_sem, c104_r4, c104_r8, w1, l1, c1, g1, q1, q2, q3, q4, w3, l3, Int.toNat_natCast, *]))))
end
end Go.PE
namespace Go.PE
open Go Go.RowKit Go.Proofs
set_option linter.unusedVariables false
set_option linter.unusedSimpArgs false
set_option maxRecDepth 100000
theorem acc_obs (S : St) (sz : Nat) (b n : List (List PV)) : (accS S sz b n).obs = S.obs := by unfold accS; split <;> rfl
theorem acc_own (S : St) (sz : Nat) (b n : List (List PV)) : ∃ ow, (accS S sz b n).own = S.own ++ ow := by
  unfold accS; split
  · exact ⟨[], by simp⟩
  · exact ⟨_, rfl⟩
section
variable {ot : TypeId} {oz : EP}
abbrev S3 (S : St) : St := ⟨S.obs ++ [got0], S.own⟩
abbrev T3 (S : St) (d : List UInt8) : St := accS (S3 S) 1 [] (d.map rByte)
abbrev fr3 (q : ByteArray) (S : St) (fr i : Nat) (d : List UInt8) : Tmps := [(0, some (.str q)), (1, some (.int .i64 (fr : Int))), (4, some (.ref S.obs.length 0)), (5, some (.sl (accG .null (S3 S) 5 (d.map rByte)) (d.map rByte))), (6, some (.int .i64 (i : Int)))]
/-- A state in which the answer stands. -/
def Told (S : St) (cs : List PV) (T : St) : Prop := T.obs[S.obs.length]? = some (.cells 67 cs) ∧ ∃ os ow, T = ⟨S.obs ++ os, S.own ++ ow⟩
theorem told_set (S : St) (d : List UInt8) (cs : List PV) : Told S cs ⟨(T3 S d).obs.set S.obs.length (.cells 67 cs), (T3 S d).own⟩ := by
  obtain ⟨ow, e⟩ := acc_own (S3 S) 1 [] (d.map rByte)
  refine ⟨?_, [.cells 67 cs], ow, ?_⟩
  · show ((T3 S d).obs.set S.obs.length _)[S.obs.length]? = _
    rw [List.getElem?_set_self (by rw [acc_obs]; simp)]
  · show (⟨(T3 S d).obs.set S.obs.length _, (T3 S d).own⟩ : St) = _
    rw [acc_obs, e]; simp
theorem told_close {S T : St} {cs : List PV} (h : Told S cs T) {v v' : PV} (hv : ∀ n d, sealW n d v = some v') : close S T v = (v', S) := by
  obtain ⟨_, os, ow, rfl⟩ := h
  rw [close_junk, hv]
theorem gotC_plain (K N : Int) (s : ByteArray) (A : Int) (sk : Bool) (to e a : Int) (n : Nat) (d : Nat → Nat → Option PV) : sealW n d (.agg (gotC K N s A sk to e a)) = some (.agg (gotC K N s A sk to e a)) := by
  simp [sealW, sealL]
/-- What the loop comes to. -/
def Loop3 (ot : TypeId) (oz : EP) (S : St) (q : ByteArray) (fr i : Nat) (d : List UInt8) : Tok → Prop
  | .ok t j => ∃ d' j', j = j' + 1 ∧ j' < q.size ∧ d'.length ≤ 40 ∧ t = ⟨2, 0, txt d', fr⟩ ∧ ∀ fin st, run (env ot oz) fin st c66_l0 (fr3 q S fr i d) (T3 S d) = aft (env ot oz) fin st (.exit 0) (fr3 q S fr j' d' ++ [(20, some (.bool false))]) (T3 S d')
  | .bad c p => (∃ T', Told S (gotC 0 0 ⟨#[]⟩ 0 false 0 c p) T' ∧ ∀ fin st, run (env ot oz) fin st c66_l0 (fr3 q S fr i d) (T3 S d) = aft (env ot oz) fin st .ret [(4, some (.ref S.obs.length 0))] T') ∨
      (c = 5 ∧ p = (q.size : Int) ∧ ∃ (d' : List UInt8) (i' : Nat), q.size ≤ i' ∧ ∀ fin st, run (env ot oz) fin st c66_l0 (fr3 q S fr i d) (T3 S d) = aft (env ot oz) fin st (.exit 0) (fr3 q S fr i' d' ++ [(20, some (.bool false))]) (T3 S d'))
theorem loop3_move {S : St} {q : ByteArray} {fr i j : Nat} {d d' : List UInt8} {x : Tok}
    (hs : ∀ fin st, run (env ot oz) fin st c66_l0 (fr3 q S fr i d) (T3 S d) = run (env ot oz) fin st c66_l0 (fr3 q S fr j d') (T3 S d')) (h : Loop3 ot oz S q fr j d' x) : Loop3 ot oz S q fr i d x := by
  cases x with
  | ok t k =>
    obtain ⟨d2, j2, h1, h2, h3, h4, h5⟩ := h
    exact ⟨d2, j2, h1, h2, h3, h4, fun fin st => (hs fin st).trans (h5 fin st)⟩
  | bad c p =>
    rcases h with ⟨T', h1, h2⟩ | ⟨h1, h2, d2, i2, h3, h4⟩
    · exact .inl ⟨T', h1, fun fin st => (hs fin st).trans (h2 fin st)⟩
    · exact .inr ⟨h1, h2, d2, i2, h3, fun fin st => (hs fin st).trans (h4 fin st)⟩
theorem text3_l0 (q : ByteArray) (hq : q.size ≤ 100000) (S : St) (fr : Nat) : ∀ (n : Nat) (rest d : List UInt8) (i : Nat), q.data.toList.drop i = rest → rest.length < n → d.length ≤ 40 → fr ≤ i → i ≤ q.size →
    Loop3 ot oz S q fr i d (textG fr q.size n rest d i)
  | 0, _, _, _, _, hn, _, _, _ => by omega
  | n + 1, [], d, i, hi, hn, hd, hf, hsz => by
    have lt := lt_no (drop_nil hi)
    rw [size_data] at lt
    refine .inr ⟨rfl, rfl, d, i, by have := of_decide_eq_false lt; omega, fun fin st => ?_⟩
    generalize T3 S d = B at *
    (rw [c66_l0_w]; simp only [c66_l0_b, c66_l0_a, c66_r3, c66_r8, go_sem, lt]; repeat' (first | (rw [guardO_t]; split <;> rename_i h <;> (try rw [Bool.not_eq_true] at h) <;> (try simp only [go_sem, c66_r3, c66_r8, c66_l0_a, lt, *])) | (rw [guardO_f]; split <;> rename_i h <;> (try rw [Bool.not_eq_true] at h) <;> (try simp only [go_sem, c66_r3, c66_r8, c66_l0_a, lt, *])) | (rw [cw_bool]; split <;> rename_i h <;> (try rw [Bool.not_eq_true] at h) <;> (try simp only [go_sem, c66_r3, c66_r8, c66_l0_a, lt, *]))))
  | n + 1, c :: r, d, i, hi, hn, hd, hf, hsz => by
    obtain ⟨h1, h2, h3⟩ := drop_cons hi
    rw [size_data] at h3
    have lt := lt_yes h3
    have b1 : (0 : Int) ≤ (i : Int) ∧ (i : Int) < (q.size : Int) := by omega
    have hB : (T3 S d).obs[S.obs.length]? = some got0 := by rw [acc_obs]; simp
    have b3 := fun S => bad3 (ot := ot) (oz := oz) 3 (i : Int) S
    have b6 := fun S => bad3 (ot := ot) (oz := oz) 6 (fr : Int) S
    have es := esc3 (ot := ot) (oz := oz) q hq i c r hi
    have ap := fun (b : UInt8) => acc_app (.inl rfl) (S3 S) 5 1 1 [] (d.map rByte) [rByte b] (by simp) (by decide) (by simp; omega) (by simp; omega) (rByte_ok d) rfl
    have ih := fun (b : UInt8) (k : Nat) (hk : 1 ≤ k) (hd' : d.length + 1 ≤ 40) (hks : i + k ≤ q.size) => text3_l0 q hq S fr n ((c :: r).drop k) (d ++ [b]) (i + k) (by rw [← hi, List.drop_drop]) (by simp only [List.length_drop, List.length_cons] at hn ⊢; omega) (by simp; omega) (by omega) hks
    have hB2 : ∀ b, (T3 S (d ++ [b])).obs[S.obs.length]? = some got0 := fun b => by rw [acc_obs]; simp
    have hrl : i + 1 + r.length = q.size := by
      have := congrArg List.length hi
      rw [List.length_drop, size_data] at this
      simp at this; omega
    simp only [List.nil_append] at ap
    cases q1 : ((c.toNat : Int) == 34) with
    | true =>
      have et : textG fr q.size (n + 1) (c :: r) d i = .ok ⟨2, 0, txt d, fr⟩ (i + 1) := by simp only [textG, q1, if_true]
      rw [et]
      have n1 : ((c.toNat : Int) != 34) = false := by simp [bne, q1]
      refine ⟨d, i, rfl, h3, hd, rfl, fun fin st' => ?_⟩
      generalize T3 S d = B at *
      (rw [c66_l0_w]; simp only [c66_l0_b, c66_l0_a, c66_r3, c66_r8, go_sem, lt, b1, h1, n1, Int.toNat_natCast]; repeat' (first | (rw [guardO_t]; split <;> rename_i h <;> (try rw [Bool.not_eq_true] at h) <;> (try simp only [go_sem, c66_r3, c66_r8, c66_l0_a, lt, b1, h1, n1, Int.toNat_natCast, *])) | (rw [guardO_f]; split <;> rename_i h <;> (try rw [Bool.not_eq_true] at h) <;> (try simp only [go_sem, c66_r3, c66_r8, c66_l0_a, lt, b1, h1, n1, Int.toNat_natCast, *])) | (rw [cw_bool]; split <;> rename_i h <;> (try rw [Bool.not_eq_true] at h) <;> (try simp only [go_sem, c66_r3, c66_r8, c66_l0_a, lt, b1, h1, n1, Int.toNat_natCast, *]))))
    | false =>
      have n1 : ((c.toNat : Int) != 34) = true := by simp [bne, q1]
      have step : textG fr q.size (n + 1) (c :: r) d i = (let bk : Nat × Nat := if ((c.toNat : Int) == 92) = true then escG (c :: r) else if (c.toNat : Int) < 32 ∨ 126 < (c.toNat : Int) then (c.toNat, 0) else (c.toNat, 1)
        if bk.2 = 0 then .bad 3 i else if 40 < d.length + 1 then .bad 6 fr else textG fr q.size n ((c :: r).drop bk.2) (d ++ [UInt8.ofNat bk.1]) (i + bk.2)) := by rw [textG, q1]; rfl
      rw [step]
      cases q2 : ((c.toNat : Int) == 92) with
      | true =>
        have bl := escG_lt (c :: r)
        have kl := escG_k (c :: r)
        have kr : (escG (c :: r)).2 ≠ 0 → (escG (c :: r)).2 ≤ (c :: r).length := fun h => (esc_app h []).2.1
        simp only [if_true]
        generalize escG (c :: r) = bk at *
        obtain ⟨bn, k⟩ := bk
        simp only at bl kl es kr ⊢
        by_cases hk : k = 0
        · subst hk
          rw [if_pos rfl]
          refine .inl ⟨_, told_set S d (gotC 0 0 ⟨#[]⟩ 0 false 0 3 (i : Int)), fun fin st' => ?_⟩
          have es : ∀ S, cal (env ot oz) 104 [.str q, .int .i64 (i : Int)] S = some (.tup [.int .u8 (bn : Int), .int .i64 0], S) := es
          generalize T3 S d = B at *
          (rw [c66_l0_w]; simp only [c66_l0_b, c66_l0_a, c66_r3, c66_r8, go_sem, lt, b1, h1, n1, q2, es, b3, hB, Int.toNat_natCast]; repeat' (first | (rw [guardO_t]; split <;> rename_i h <;> (try rw [Bool.not_eq_true] at h) <;> (try simp only [go_sem, c66_r3, c66_r8, c66_l0_a, lt, b1, h1, n1, q2, es, b3, hB, Int.toNat_natCast, *])) | (rw [guardO_f]; split <;> rename_i h <;> (try rw [Bool.not_eq_true] at h) <;> (try simp only [go_sem, c66_r3, c66_r8, c66_l0_a, lt, b1, h1, n1, q2, es, b3, hB, Int.toNat_natCast, *])) | (rw [cw_bool]; split <;> rename_i h <;> (try rw [Bool.not_eq_true] at h) <;> (try simp only [go_sem, c66_r3, c66_r8, c66_l0_a, lt, b1, h1, n1, q2, es, b3, hB, Int.toNat_natCast, *]))))
        · rw [if_neg hk]
          have kz : ((k : Int) == 0) = false := by simp; omega
          have hbn : ((UInt8.ofNat bn).toNat : Int) = (bn : Int) := by
            have : (UInt8.ofNat bn).toNat = bn := by simp; omega
            omega
          have kr := kr hk
          simp only [List.length_cons] at kr
          have wk : IntKind.i64.wrap ((i : Int) + (k : Int)) = ((i + k : Nat) : Int) := by rw [wrap64 (by omega) (by omega)]; omega
          have ap := ap (UInt8.ofNat bn)
          have rb : rByte (UInt8.ofNat bn) = [.int .u8 (bn : Int)] := by rw [rByte_eq, hbn]
          have em : d.map rByte ++ [[.int .u8 (bn : Int)]] = (d ++ [UInt8.ofNat bn]).map rByte := by simp [rb]
          rw [rb, em] at ap
          have ln : ((d ++ [UInt8.ofNat bn]).map rByte).length = d.length + 1 := by simp
          have ih := ih (UInt8.ofNat bn) k (by omega)
          have hB2 := hB2 (UInt8.ofNat bn)
          have ts := told_set S (d ++ [UInt8.ofNat bn]) (gotC 0 0 ⟨#[]⟩ 0 false 0 6 (fr : Int))
          by_cases h40 : 40 < d.length + 1
          · rw [if_pos h40]
            have l40 : decide ((40 : Int) < ((d.length + 1 : Nat) : Int)) = true := decide_eq_true (by omega)
            refine .inl ⟨_, ts, fun fin st' => ?_⟩
            clear ih em ts
            unfold fr3 T3
            unfold T3 at hB2
            generalize (d ++ [UInt8.ofNat bn]).map rByte = D2 at *
            generalize hD : d.map rByte = D at *
            generalize accS (S3 S) 1 [] D2 = B2 at *
            generalize accS (S3 S) 1 [] D = B at *
            (rw [c66_l0_w]; simp only [c66_l0_b, c66_l0_a, c66_r3, c66_r8, go_sem, hD, lt, b1, h1, n1, q2, es, kz, ap, ln, l40, b6, hB2, Int.toNat_natCast]; repeat' (first | (rw [guardO_t]; split <;> rename_i h <;> (try rw [Bool.not_eq_true] at h) <;> (try simp only [go_sem, c66_r3, c66_r8, c66_l0_a, hD, lt, b1, h1, n1, q2, es, kz, ap, ln, l40, b6, hB2, Int.toNat_natCast, *])) | (rw [guardO_f]; split <;> rename_i h <;> (try rw [Bool.not_eq_true] at h) <;> (try simp only [go_sem, c66_r3, c66_r8, c66_l0_a, hD, lt, b1, h1, n1, q2, es, kz, ap, ln, l40, b6, hB2, Int.toNat_natCast, *])) | (rw [cw_bool]; split <;> rename_i h <;> (try rw [Bool.not_eq_true] at h) <;> (try simp only [go_sem, c66_r3, c66_r8, c66_l0_a, hD, lt, b1, h1, n1, q2, es, kz, ap, ln, l40, b6, hB2, Int.toNat_natCast, *]))))
          · rw [if_neg h40]
            have l40 : decide ((40 : Int) < ((d.length + 1 : Nat) : Int)) = false := decide_eq_false (by omega)
            refine loop3_move (fun fin st' => ?_) (ih (by omega) (by omega))
            clear ih em ts
            unfold fr3 T3
            generalize (d ++ [UInt8.ofNat bn]).map rByte = D2 at *
            generalize d.map rByte = D at *
            generalize accS (S3 S) 1 [] D2 = B2 at *
            generalize accS (S3 S) 1 [] D = B at *
            (rw [c66_l0_w]; simp only [c66_l0_b, c66_l0_a, c66_r3, c66_r8, go_sem, lt, b1, h1, n1, q2, es, kz, ap, ln, l40, wk, Int.toNat_natCast]; repeat' (first | (rw [guardO_t]; split <;> rename_i h <;> (try rw [Bool.not_eq_true] at h) <;> (try simp only [go_sem, c66_r3, c66_r8, c66_l0_a, lt, b1, h1, n1, q2, es, kz, ap, ln, l40, wk, Int.toNat_natCast, *])) | (rw [guardO_f]; split <;> rename_i h <;> (try rw [Bool.not_eq_true] at h) <;> (try simp only [go_sem, c66_r3, c66_r8, c66_l0_a, lt, b1, h1, n1, q2, es, kz, ap, ln, l40, wk, Int.toNat_natCast, *])) | (rw [cw_bool]; split <;> rename_i h <;> (try rw [Bool.not_eq_true] at h) <;> (try simp only [go_sem, c66_r3, c66_r8, c66_l0_a, lt, b1, h1, n1, q2, es, kz, ap, ln, l40, wk, Int.toNat_natCast, *]))))
      | false =>
        simp only [Bool.false_eq_true, if_false]
        by_cases hc : (c.toNat : Int) < 32 ∨ 126 < (c.toNat : Int)
        · rw [if_pos hc]
          refine .inl ⟨_, told_set S d (gotC 0 0 ⟨#[]⟩ 0 false 0 3 (i : Int)), fun fin st' => ?_⟩
          generalize T3 S d = B at *
          cases q3 : decide ((c.toNat : Int) < 32) with
          | true => (rw [c66_l0_w]; simp only [c66_l0_b, c66_l0_a, c66_r3, c66_r8, go_sem, lt, b1, h1, n1, q2, q3, b3, hB, Int.toNat_natCast]; repeat' (first | (rw [guardO_t]; split <;> rename_i h <;> (try rw [Bool.not_eq_true] at h) <;> (try simp only [go_sem, c66_r3, c66_r8, c66_l0_a, lt, b1, h1, n1, q2, q3, b3, hB, Int.toNat_natCast, *])) | (rw [guardO_f]; split <;> rename_i h <;> (try rw [Bool.not_eq_true] at h) <;> (try simp only [go_sem, c66_r3, c66_r8, c66_l0_a, lt, b1, h1, n1, q2, q3, b3, hB, Int.toNat_natCast, *])) | (rw [cw_bool]; split <;> rename_i h <;> (try rw [Bool.not_eq_true] at h) <;> (try simp only [go_sem, c66_r3, c66_r8, c66_l0_a, lt, b1, h1, n1, q2, q3, b3, hB, Int.toNat_natCast, *]))))
          | false =>
            have q4 : decide ((126 : Int) < (c.toNat : Int)) = true := decide_eq_true (by have := of_decide_eq_false q3; omega)
            (rw [c66_l0_w]; simp only [c66_l0_b, c66_l0_a, c66_r3, c66_r8, go_sem, lt, b1, h1, n1, q2, q3, q4, b3, hB, Int.toNat_natCast]; repeat' (first | (rw [guardO_t]; split <;> rename_i h <;> (try rw [Bool.not_eq_true] at h) <;> (try simp only [go_sem, c66_r3, c66_r8, c66_l0_a, lt, b1, h1, n1, q2, q3, q4, b3, hB, Int.toNat_natCast, *])) | (rw [guardO_f]; split <;> rename_i h <;> (try rw [Bool.not_eq_true] at h) <;> (try simp only [go_sem, c66_r3, c66_r8, c66_l0_a, lt, b1, h1, n1, q2, q3, q4, b3, hB, Int.toNat_natCast, *])) | (rw [cw_bool]; split <;> rename_i h <;> (try rw [Bool.not_eq_true] at h) <;> (try simp only [go_sem, c66_r3, c66_r8, c66_l0_a, lt, b1, h1, n1, q2, q3, q4, b3, hB, Int.toNat_natCast, *]))))
        · rw [if_neg hc]
          have q3 : decide ((c.toNat : Int) < 32) = false := decide_eq_false (by omega)
          have q4 : decide ((126 : Int) < (c.toNat : Int)) = false := decide_eq_false (by omega)
          have ec : UInt8.ofNat c.toNat = c := by simp
          simp only [Nat.one_ne_zero, if_false, ec]
          have wk : IntKind.i64.wrap ((i : Int) + 1) = ((i + 1 : Nat) : Int) := by rw [wrap64 (by omega) (by omega)]; omega
          have ap := ap c
          have em : d.map rByte ++ [[.int .u8 (c.toNat : Int)]] = (d ++ [c]).map rByte := by simp [rByte_eq]
          rw [rByte_eq, em] at ap
          have ln : ((d ++ [c]).map rByte).length = d.length + 1 := by simp
          have ih := ih c 1 (by omega)
          have hB2 := hB2 c
          have ts := told_set S (d ++ [c]) (gotC 0 0 ⟨#[]⟩ 0 false 0 6 (fr : Int))
          by_cases h40 : 40 < d.length + 1
          · rw [if_pos h40]
            have l40 : decide ((40 : Int) < ((d.length + 1 : Nat) : Int)) = true := decide_eq_true (by omega)
            refine .inl ⟨_, ts, fun fin st' => ?_⟩
            clear ih em ts
            unfold fr3 T3
            unfold T3 at hB2
            generalize (d ++ [c]).map rByte = D2 at *
            generalize hD : d.map rByte = D at *
            generalize accS (S3 S) 1 [] D2 = B2 at *
            generalize accS (S3 S) 1 [] D = B at *
            (rw [c66_l0_w]; simp only [c66_l0_b, c66_l0_a, c66_r3, c66_r8, go_sem, hD, lt, b1, h1, n1, q2, q3, q4, ap, ln, l40, b6, hB2, Int.toNat_natCast]; repeat' (first | (rw [guardO_t]; split <;> rename_i h <;> (try rw [Bool.not_eq_true] at h) <;> (try simp only [go_sem, c66_r3, c66_r8, c66_l0_a, hD, lt, b1, h1, n1, q2, q3, q4, ap, ln, l40, b6, hB2, Int.toNat_natCast, *])) | (rw [guardO_f]; split <;> rename_i h <;> (try rw [Bool.not_eq_true] at h) <;> (try simp only [go_sem, c66_r3, c66_r8, c66_l0_a, hD, lt, b1, h1, n1, q2, q3, q4, ap, ln, l40, b6, hB2, Int.toNat_natCast, *])) | (rw [cw_bool]; split <;> rename_i h <;> (try rw [Bool.not_eq_true] at h) <;> (try simp only [go_sem, c66_r3, c66_r8, c66_l0_a, hD, lt, b1, h1, n1, q2, q3, q4, ap, ln, l40, b6, hB2, Int.toNat_natCast, *]))))
          · rw [if_neg h40]
            have l40 : decide ((40 : Int) < ((d.length + 1 : Nat) : Int)) = false := decide_eq_false (by omega)
            refine loop3_move (fun fin st' => ?_) (ih (by omega) (by omega))
            clear ih em ts
            unfold fr3 T3
            generalize (d ++ [c]).map rByte = D2 at *
            generalize d.map rByte = D at *
            generalize accS (S3 S) 1 [] D2 = B2 at *
            generalize accS (S3 S) 1 [] D = B at *
            (rw [c66_l0_w]; simp only [c66_l0_b, c66_l0_a, c66_r3, c66_r8, go_sem, lt, b1, h1, n1, q2, q3, q4, ap, ln, l40, wk, Int.toNat_natCast]; repeat' (first | (rw [guardO_t]; split <;> rename_i h <;> (try rw [Bool.not_eq_true] at h) <;> (try simp only [go_sem, c66_r3, c66_r8, c66_l0_a, lt, b1, h1, n1, q2, q3, q4, ap, ln, l40, wk, Int.toNat_natCast, *])) | (rw [guardO_f]; split <;> rename_i h <;> (try rw [Bool.not_eq_true] at h) <;> (try simp only [go_sem, c66_r3, c66_r8, c66_l0_a, lt, b1, h1, n1, q2, q3, q4, ap, ln, l40, wk, Int.toNat_natCast, *])) | (rw [cw_bool]; split <;> rename_i h <;> (try rw [Bool.not_eq_true] at h) <;> (try simp only [go_sem, c66_r3, c66_r8, c66_l0_a, lt, b1, h1, n1, q2, q3, q4, ap, ln, l40, wk, Int.toNat_natCast, *]))))
/-- A quoted text, by the document. -/
theorem text3 (q : ByteArray) (hq : q.size ≤ 100000) (i : Nat) (hi : i < q.size) (S : St) :
    cal (env ot oz) 66 [.str q, .int .i64 (i : Int)] S = some (gotP (textG i q.size (q.size + 1) (q.data.toList.drop (i + 1)) [] (i + 1)), S) := by
  have L := text3_l0 (ot := ot) (oz := oz) q hq S i (q.size + 1) (q.data.toList.drop (i + 1)) [] (i + 1) rfl (by rw [List.length_drop, size_data]; omega) (by simp) (by omega) (by omega)
  have w1 : IntKind.i64.wrap ((i : Int) + 1) = ((i + 1 : Nat) : Int) := by rw [wrap64 (by omega) (by omega)]; omega
  have e0 : T3 S [] = ⟨S.obs ++ [got0], S.own⟩ := rfl
  cases hx : textG i q.size (q.size + 1) (q.data.toList.drop (i + 1)) [] (i + 1) with
  | ok t j =>
    rw [hx] at L
    obtain ⟨d', j', rfl, hj, hd, rfl, f⟩ := L
    have lt : decide ((q.size : Int) ≤ (j' : Int)) = false := decide_eq_false (by omega)
    have bo := bytesOf_map d'
    have w2 : IntKind.i64.wrap ((j' : Int) + 1) = ((j' + 1 : Nat) : Int) := by rw [wrap64 (by omega) (by omega)]; omega
    have hB : (T3 S d').obs[S.obs.length]? = some got0 := by rw [acc_obs]; simp
    have td := told_set S d' (gotC 2 0 (txt d') (i : Int) false ((j' + 1 : Nat) : Int) 0 0)
    have tg := td.1
    have cl := told_close td (gotC_plain 2 0 (txt d') (i : Int) false ((j' + 1 : Nat) : Int) 0 0)
    have et : (⟨d'.toArray⟩ : ByteArray) = txt d' := rfl
    unfold fr3 at f
    rw [e0] at f
    simp only [List.map_nil, accG_nil, gotP] at f ⊢
    generalize T3 S d' = B at *
    (rw [w_plain (fn := c66) rfl rfl (by simp only [go_sem, w1, f, lt, bo, et, w2, hB, tg, cl]) rfl (by decide)]; simp only [c66, c66_b, c66_r3, c66_r8, go_sem, w1, f, lt, bo, et, w2, hB, tg, cl]; repeat' (first | (rw [guardO_t]; split <;> rename_i h <;> (try rw [Bool.not_eq_true] at h) <;> (try simp only [go_sem, c66_r3, c66_r8, w1, f, lt, bo, et, w2, hB, tg, cl, *])) | (rw [guardO_f]; split <;> rename_i h <;> (try rw [Bool.not_eq_true] at h) <;> (try simp only [go_sem, c66_r3, c66_r8, w1, f, lt, bo, et, w2, hB, tg, cl, *])) | (rw [cw_bool]; split <;> rename_i h <;> (try rw [Bool.not_eq_true] at h) <;> (try simp only [go_sem, c66_r3, c66_r8, w1, f, lt, bo, et, w2, hB, tg, cl, *]))))
  | bad c p =>
    rw [hx] at L
    rcases L with ⟨T', hT, f⟩ | ⟨rfl, rfl, d', i', hi', f⟩
    · have tg := hT.1
      have cl := told_close hT (gotC_plain 0 0 ⟨#[]⟩ 0 false 0 c p)
      unfold fr3 at f
      rw [e0] at f
      simp only [List.map_nil, accG_nil, gotP] at f ⊢
      (rw [w_plain (fn := c66) rfl rfl (by simp only [go_sem, w1, f, tg, cl]) rfl (by decide)]; simp only [c66, c66_b, c66_r3, c66_r8, go_sem, w1, f, tg, cl]; repeat' (first | (rw [guardO_t]; split <;> rename_i h <;> (try rw [Bool.not_eq_true] at h) <;> (try simp only [go_sem, c66_r3, c66_r8, w1, f, tg, cl, *])) | (rw [guardO_f]; split <;> rename_i h <;> (try rw [Bool.not_eq_true] at h) <;> (try simp only [go_sem, c66_r3, c66_r8, w1, f, tg, cl, *])) | (rw [cw_bool]; split <;> rename_i h <;> (try rw [Bool.not_eq_true] at h) <;> (try simp only [go_sem, c66_r3, c66_r8, w1, f, tg, cl, *]))))
    · have lt : decide ((q.size : Int) ≤ (i' : Int)) = true := decide_eq_true (by omega)
      have b5 := fun S => bad3 (ot := ot) (oz := oz) 5 (q.size : Int) S
      have hB : (T3 S d').obs[S.obs.length]? = some got0 := by rw [acc_obs]; simp
      have td := told_set S d' (gotC 0 0 ⟨#[]⟩ 0 false 0 5 (q.size : Int))
      have tg := td.1
      have cl := told_close td (gotC_plain 0 0 ⟨#[]⟩ 0 false 0 5 (q.size : Int))
      unfold fr3 at f
      rw [e0] at f
      simp only [List.map_nil, accG_nil, gotP] at f ⊢
      generalize T3 S d' = B at *
      (rw [w_plain (fn := c66) rfl rfl (by simp only [go_sem, w1, f, lt, b5, hB, tg, cl]) rfl (by decide)]; simp only [c66, c66_b, c66_r3, c66_r8, go_sem, w1, f, lt, b5, hB, tg, cl]; repeat' (first | (rw [guardO_t]; split <;> rename_i h <;> (try rw [Bool.not_eq_true] at h) <;> (try simp only [go_sem, c66_r3, c66_r8, w1, f, lt, b5, hB, tg, cl, *])) | (rw [guardO_f]; split <;> rename_i h <;> (try rw [Bool.not_eq_true] at h) <;> (try simp only [go_sem, c66_r3, c66_r8, w1, f, lt, b5, hB, tg, cl, *])) | (rw [cw_bool]; split <;> rename_i h <;> (try rw [Bool.not_eq_true] at h) <;> (try simp only [go_sem, c66_r3, c66_r8, w1, f, lt, b5, hB, tg, cl, *]))))
end
end Go.PE
namespace Go.PE
open Go Go.RowKit Go.Proofs
set_option linter.unusedVariables false
set_option linter.unusedSimpArgs false
set_option maxRecDepth 100000
def twoL : List ByteArray := [⟨#[61, 62]⟩, ⟨#[45, 62]⟩, ⟨#[60, 58]⟩, ⟨#[43, 43]⟩, ⟨#[61, 61]⟩]
def oneL : List UInt8 := [40, 41, 123, 125, 91, 93, 44, 58, 46, 61, 63, 43, 45, 42, 47, 60]
theorem pair_any (s : ByteArray) : pairB s = twoL.any (strEq s) := by
  unfold pairB twoL
  simp only [List.any_cons, List.any_nil, Bool.or_false, Bool.or_assoc]
theorem one_any (c : UInt8) : oneB c = oneL.any (fun d => (c.toNat : Int) == (d.toNat : Int)) := by
  have h : ∀ n, n < 256 → oneB (UInt8.ofNat n) = oneL.any (fun d => ((UInt8.ofNat n).toNat : Int) == (d.toNat : Int)) := by decide +kernel
  have := h c.toNat c.toNat_lt
  have e : UInt8.ofNat c.toNat = c := by simp
  rw [e] at this; exact this
theorem strEq_of {a b : ByteArray} (h : strEq a b = true) : a = b := by
  unfold strEq at h
  have h : a.data.toList = b.data.toList := by simpa using h
  exact ByteArray.ext (Array.toList_inj.1 h)
section
variable {ot : TypeId} {oz : EP}
theorem sign3_l0 (q : ByteArray) (hq : q.size ≤ 100000) (S : St) (a : Nat) (c : UInt8) (r : List UInt8) (hd : q.data.toList.drop a = c :: r) (g : Tag) (fin : Kont (PV × St)) (st : List Fw) : ∀ (n i : Nat), i + n = 5 →
    run (env ot oz) fin st c67_l0 [(0, some (.str q)), (1, some (.int .i64 (a : Int))), (4, some (.ref S.obs.length 0)), (5, some (.sl g (twoL.map rStr))), (6, some (.int .i64 (i : Int)))] (S3 S) =
      if 1 ≤ r.length ∧ (twoL.drop i).any (strEq (txt ((c :: r).take 2))) = true then aft (env ot oz) fin st .ret [(4, some (.ref S.obs.length 0))] ⟨S.obs ++ [.cells 67 (gotC 5 0 (txt ((c :: r).take 2)) (a : Int) false ((a + 2 : Nat) : Int) 0 0)], S.own⟩
      else aft (env ot oz) fin st (.exit 0) [(0, some (.str q)), (1, some (.int .i64 (a : Int))), (4, some (.ref S.obs.length 0)), (5, some (.sl g (twoL.map rStr))), (6, some (.int .i64 5)), (13, some (.bool false))] (S3 S)
  | 0, i, hi => by
    have e : i = 5 := by omega
    subst e
    have e : (twoL.drop 5).any (strEq (txt ((c :: r).take 2))) = false := rfl
    rw [e, if_neg (by simp)]
    have hl : twoL.length = 5 := rfl
    have lt : decide ((5 : Int) < ((5 : Nat) : Int)) = false := by decide
    simp only [Int.cast_ofNat_Int]
    (rw [c67_l0_w]; simp only [c67_l0_b, c67_l0_a, c67_r5, go_sem, hl, lt]; repeat' (first | (rw [guardO_t]; split <;> rename_i h <;> (try rw [Bool.not_eq_true] at h) <;> (try simp only [go_sem, c67_r5, c67_l0_a, hl, lt, *])) | (rw [guardO_f]; split <;> rename_i h <;> (try rw [Bool.not_eq_true] at h) <;> (try simp only [go_sem, c67_r5, c67_l0_a, hl, lt, *])) | (rw [cw_bool]; split <;> rename_i h <;> (try rw [Bool.not_eq_true] at h) <;> (try simp only [go_sem, c67_r5, c67_l0_a, hl, lt, *]))))
  | n + 1, i, hi => by
    have hl : twoL.length = 5 := rfl
    have ih := sign3_l0 q hq S a c r hd g fin st n (i + 1) (by omega)
    have hx : twoL[i]? = some twoL[i] := List.getElem?_eq_getElem (by rw [hl]; omega)
    have hdr : twoL.drop i = twoL[i] :: twoL.drop (i + 1) := List.drop_eq_getElem_cons (by rw [hl]; omega)
    generalize twoL[i] = t at *
    have hz : a + 1 + r.length = q.size := by
      have := congrArg List.length hd
      rw [List.length_drop, size_data] at this
      simp at this; omega
    have lt : decide ((i : Int) < ((5 : Nat) : Int)) = true := decide_eq_true (by omega)
    have w2 : IntKind.i64.wrap ((a : Int) + 2) = ((a + 2 : Nat) : Int) := by rw [wrap64 (by omega) (by omega)]; omega
    have w1 : IntKind.i64.wrap ((i : Int) + 1) = ((i + 1 : Nat) : Int) := by rw [wrap64 (by omega) (by omega)]; omega
    have b1 : (0 : Int) ≤ (i : Int) ∧ (i : Int) < ((5 : Nat) : Int) := by omega
    rw [hdr, List.any_cons]
    simp only [Int.cast_ofNat_Int] at lt b1
    by_cases hr : 1 ≤ r.length
    · have l2 : decide (((a + 2 : Nat) : Int) ≤ (q.size : Int)) = true := decide_eq_true (by omega)
      have c1 : (0 : Int) ≤ ((a + 2 : Nat) : Int) ∧ ((a + 2 : Nat) : Int) ≤ (q.size : Int) := by omega
      have c2 : (0 : Int) ≤ (a : Int) ∧ (a : Int) ≤ ((a + 2 : Nat) : Int) := by omega
      have ex := ext_take q a 2 (by omega)
      rw [hd] at ex
      generalize txt ((c :: r).take 2) = P at *
      cases hs : strEq P t with
      | true =>
        have e := strEq_of hs
        subst e
        rw [if_pos ⟨hr, by simp⟩]
        (rw [c67_l0_w]; simp only [c67_l0_b, c67_l0_a, c67_r5, go_sem, hl, lt, l2, c1, c2, ex, b1, hx, rStr, hs, w2, Int.toNat_natCast]; repeat' (first | (rw [guardO_t]; split <;> rename_i h <;> (try rw [Bool.not_eq_true] at h) <;> (try simp only [go_sem, c67_r5, c67_l0_a, hl, lt, l2, c1, c2, ex, b1, hx, rStr, hs, w2, Int.toNat_natCast, *])) | (rw [guardO_f]; split <;> rename_i h <;> (try rw [Bool.not_eq_true] at h) <;> (try simp only [go_sem, c67_r5, c67_l0_a, hl, lt, l2, c1, c2, ex, b1, hx, rStr, hs, w2, Int.toNat_natCast, *])) | (rw [cw_bool]; split <;> rename_i h <;> (try rw [Bool.not_eq_true] at h) <;> (try simp only [go_sem, c67_r5, c67_l0_a, hl, lt, l2, c1, c2, ex, b1, hx, rStr, hs, w2, Int.toNat_natCast, *]))))
      | false =>
        rw [Bool.false_or]
        rw [← ih]
        (rw [c67_l0_w]; simp only [c67_l0_b, c67_l0_a, c67_r5, go_sem, hl, lt, l2, c1, c2, ex, b1, hx, rStr, hs, w2, w1, Int.toNat_natCast]; repeat' (first | (rw [guardO_t]; split <;> rename_i h <;> (try rw [Bool.not_eq_true] at h) <;> (try simp only [go_sem, c67_r5, c67_l0_a, hl, lt, l2, c1, c2, ex, b1, hx, rStr, hs, w2, w1, Int.toNat_natCast, *])) | (rw [guardO_f]; split <;> rename_i h <;> (try rw [Bool.not_eq_true] at h) <;> (try simp only [go_sem, c67_r5, c67_l0_a, hl, lt, l2, c1, c2, ex, b1, hx, rStr, hs, w2, w1, Int.toNat_natCast, *])) | (rw [cw_bool]; split <;> rename_i h <;> (try rw [Bool.not_eq_true] at h) <;> (try simp only [go_sem, c67_r5, c67_l0_a, hl, lt, l2, c1, c2, ex, b1, hx, rStr, hs, w2, w1, Int.toNat_natCast, *]))))
    · have l2 : decide (((a + 2 : Nat) : Int) ≤ (q.size : Int)) = false := decide_eq_false (by omega)
      rw [if_neg (fun h => hr h.1)] at ih ⊢
      (rw [c67_l0_w]; simp only [c67_l0_b, c67_l0_a, c67_r5, go_sem, hl, lt, l2, w2, w1, ih, Int.toNat_natCast]; repeat' (first | (rw [guardO_t]; split <;> rename_i h <;> (try rw [Bool.not_eq_true] at h) <;> (try simp only [go_sem, c67_r5, c67_l0_a, hl, lt, l2, w2, w1, ih, Int.toNat_natCast, *])) | (rw [guardO_f]; split <;> rename_i h <;> (try rw [Bool.not_eq_true] at h) <;> (try simp only [go_sem, c67_r5, c67_l0_a, hl, lt, l2, w2, w1, ih, Int.toNat_natCast, *])) | (rw [cw_bool]; split <;> rename_i h <;> (try rw [Bool.not_eq_true] at h) <;> (try simp only [go_sem, c67_r5, c67_l0_a, hl, lt, l2, w2, w1, ih, Int.toNat_natCast, *]))))
theorem sign3_l1 (q : ByteArray) (hq : q.size ≤ 100000) (S : St) (a : Nat) (c : UInt8) (r : List UInt8) (hd : q.data.toList.drop a = c :: r) (O : ByteArray) (hO : O.data.toList = oneL) (fin : Kont (PV × St)) (st : List Fw) : ∀ (n i : Nat), i + n = 16 →
    run (env ot oz) fin st c67_l1 [(0, some (.str q)), (1, some (.int .i64 (a : Int))), (4, some (.ref S.obs.length 0)), (7, some (.str O)), (8, some (.int .i64 (i : Int)))] (S3 S) =
      if (oneL.drop i).any (fun d => (c.toNat : Int) == (d.toNat : Int)) = true then aft (env ot oz) fin st .ret [(4, some (.ref S.obs.length 0))] ⟨S.obs ++ [.cells 67 (gotC 5 0 (txt [c]) (a : Int) false ((a + 1 : Nat) : Int) 0 0)], S.own⟩
      else aft (env ot oz) fin st (.exit 2) [(0, some (.str q)), (1, some (.int .i64 (a : Int))), (4, some (.ref S.obs.length 0)), (7, some (.str O)), (8, some (.int .i64 16)), (45, some (.bool false))] (S3 S)
  | 0, i, hi => by
    have e : i = 16 := by omega
    subst e
    have e : (oneL.drop 16).any (fun d => (c.toNat : Int) == (d.toNat : Int)) = false := rfl
    rw [e, if_neg (by simp)]
    have hl : (O.size : Int) = 16 := by rw [← size_data, hO]; rfl
    have lt : decide ((16 : Int) < 16) = false := by decide
    simp only [Int.cast_ofNat_Int]
    (rw [c67_l1_w]; simp only [c67_l1_b, c67_l1_a, c67_r5, go_sem, hl, lt]; repeat' (first | (rw [guardO_t]; split <;> rename_i h <;> (try rw [Bool.not_eq_true] at h) <;> (try simp only [go_sem, c67_r5, c67_l1_a, hl, lt, *])) | (rw [guardO_f]; split <;> rename_i h <;> (try rw [Bool.not_eq_true] at h) <;> (try simp only [go_sem, c67_r5, c67_l1_a, hl, lt, *])) | (rw [cw_bool]; split <;> rename_i h <;> (try rw [Bool.not_eq_true] at h) <;> (try simp only [go_sem, c67_r5, c67_l1_a, hl, lt, *]))))
  | n + 1, i, hi => by
    have hl : (O.size : Int) = 16 := by rw [← size_data, hO]; rfl
    have ho : oneL.length = 16 := rfl
    have ih := sign3_l1 q hq S a c r hd O hO fin st n (i + 1) (by omega)
    have hx : O.data.toList[i]? = some oneL[i] := by rw [hO]; exact List.getElem?_eq_getElem (by rw [ho]; omega)
    have hdr : oneL.drop i = oneL[i] :: oneL.drop (i + 1) := List.drop_eq_getElem_cons (by rw [ho]; omega)
    generalize oneL[i] = d at *
    obtain ⟨h1, h2, h3⟩ := drop_cons hd
    rw [size_data] at h3
    have lt : decide ((i : Int) < 16) = true := decide_eq_true (by omega)
    have w2 : IntKind.i64.wrap ((a : Int) + 1) = ((a + 1 : Nat) : Int) := by rw [wrap64 (by omega) (by omega)]; omega
    have w1 : IntKind.i64.wrap ((i : Int) + 1) = ((i + 1 : Nat) : Int) := by rw [wrap64 (by omega) (by omega)]; omega
    have b1 : (0 : Int) ≤ (i : Int) ∧ (i : Int) < 16 := by omega
    have b2 : (0 : Int) ≤ (a : Int) ∧ (a : Int) < (q.size : Int) := by omega
    have bo := bytesOf_map [c]
    simp only [List.map_cons, List.map_nil, rByte_eq] at bo
    have et : (⟨[c].toArray⟩ : ByteArray) = txt [c] := rfl
    rw [hdr, List.any_cons]
    cases hs : ((c.toNat : Int) == (d.toNat : Int)) with
    | true =>
      rw [if_pos (by simp)]
      (rw [c67_l1_w]; simp only [c67_l1_b, c67_l1_a, c67_r5, go_sem, hl, lt, b1, b2, h1, hx, hs, bo, et, w2, Int.toNat_natCast]; repeat' (first | (rw [guardO_t]; split <;> rename_i h <;> (try rw [Bool.not_eq_true] at h) <;> (try simp only [go_sem, c67_r5, c67_l1_a, hl, lt, b1, b2, h1, hx, hs, bo, et, w2, Int.toNat_natCast, *])) | (rw [guardO_f]; split <;> rename_i h <;> (try rw [Bool.not_eq_true] at h) <;> (try simp only [go_sem, c67_r5, c67_l1_a, hl, lt, b1, b2, h1, hx, hs, bo, et, w2, Int.toNat_natCast, *])) | (rw [cw_bool]; split <;> rename_i h <;> (try rw [Bool.not_eq_true] at h) <;> (try simp only [go_sem, c67_r5, c67_l1_a, hl, lt, b1, b2, h1, hx, hs, bo, et, w2, Int.toNat_natCast, *]))))
    | false =>
      rw [Bool.false_or, ← ih]
      (rw [c67_l1_w]; simp only [c67_l1_b, c67_l1_a, c67_r5, go_sem, hl, lt, b1, b2, h1, hx, hs, w1, Int.toNat_natCast]; repeat' (first | (rw [guardO_t]; split <;> rename_i h <;> (try rw [Bool.not_eq_true] at h) <;> (try simp only [go_sem, c67_r5, c67_l1_a, hl, lt, b1, b2, h1, hx, hs, w1, Int.toNat_natCast, *])) | (rw [guardO_f]; split <;> rename_i h <;> (try rw [Bool.not_eq_true] at h) <;> (try simp only [go_sem, c67_r5, c67_l1_a, hl, lt, b1, b2, h1, hx, hs, w1, Int.toNat_natCast, *])) | (rw [cw_bool]; split <;> rename_i h <;> (try rw [Bool.not_eq_true] at h) <;> (try simp only [go_sem, c67_r5, c67_l1_a, hl, lt, b1, b2, h1, hx, hs, w1, Int.toNat_natCast, *]))))
/-- A sign, by the document. -/
theorem sign3 (q : ByteArray) (hq : q.size ≤ 100000) (i : Nat) (c : UInt8) (r : List UInt8) (hd : q.data.toList.drop i = c :: r) (S : St) : cal (env ot oz) 67 [.str q, .int .i64 (i : Int)] S = some (gotP (signF c r i), S) := by
  have f0 := fun g fin st => sign3_l0 (ot := ot) (oz := oz) q hq S i c r hd g fin st 5 0 (by omega)
  have f1 := fun fin st => sign3_l1 (ot := ot) (oz := oz) q hq S i c r hd ⟨#[40, 41, 123, 125, 91, 93, 44, 58, 46, 61, 63, 43, 45, 42, 47, 60]⟩ rfl fin st 16 0 (by omega)
  have b3 := fun S => bad3 (ot := ot) (oz := oz) 3 (i : Int) S
  have p := pair_any (txt ((c :: r).take 2))
  have o := one_any c
  rw [List.drop_zero] at f0 f1
  rw [← p] at f0
  rw [← o] at f1
  simp only [twoL, List.map_cons, List.map_nil, rStr, Int.cast_ofNat_Int] at f0
  simp only [Int.cast_ofNat_Int] at f1
  unfold signF
  by_cases h : 1 ≤ r.length ∧ pairB (txt ((c :: r).take 2)) = true
  · simp only [h, and_self, if_true] at f0 ⊢
    simp only [gotP]
    (rw [w_plain (fn := c67) rfl rfl (by simp only [go_sem, f0]) rfl (by decide)]; simp only [c67, c67_b, c67_r5, go_sem, f0]; repeat' (first | (rw [guardO_t]; split <;> rename_i h <;> (try rw [Bool.not_eq_true] at h) <;> (try simp only [go_sem, c67_r5, f0, *])) | (rw [guardO_f]; split <;> rename_i h <;> (try rw [Bool.not_eq_true] at h) <;> (try simp only [go_sem, c67_r5, f0, *])) | (rw [cw_bool]; split <;> rename_i h <;> (try rw [Bool.not_eq_true] at h) <;> (try simp only [go_sem, c67_r5, f0, *]))))
  · simp only [if_neg h] at f0 ⊢
    cases h2 : oneB c with
    | true =>
      simp only [h2, if_true] at f1 ⊢
      simp only [gotP]
      (rw [w_plain (fn := c67) rfl rfl (by simp only [go_sem, f0, f1]) rfl (by decide)]; simp only [c67, c67_b, c67_r5, go_sem, f0, f1]; repeat' (first | (rw [guardO_t]; split <;> rename_i h <;> (try rw [Bool.not_eq_true] at h) <;> (try simp only [go_sem, c67_r5, f0, f1, *])) | (rw [guardO_f]; split <;> rename_i h <;> (try rw [Bool.not_eq_true] at h) <;> (try simp only [go_sem, c67_r5, f0, f1, *])) | (rw [cw_bool]; split <;> rename_i h <;> (try rw [Bool.not_eq_true] at h) <;> (try simp only [go_sem, c67_r5, f0, f1, *]))))
    | false =>
      simp only [h2, Bool.false_eq_true, if_false] at f1 ⊢
      simp only [gotP]
      (rw [w_plain (fn := c67) rfl rfl (by simp only [go_sem, f0, f1, b3]) rfl (by decide)]; simp only [c67, c67_b, c67_r5, go_sem, f0, f1, b3]; repeat' (first | (rw [guardO_t]; split <;> rename_i h <;> (try rw [Bool.not_eq_true] at h) <;> (try simp only [go_sem, c67_r5, f0, f1, b3, *])) | (rw [guardO_f]; split <;> rename_i h <;> (try rw [Bool.not_eq_true] at h) <;> (try simp only [go_sem, c67_r5, f0, f1, b3, *])) | (rw [cw_bool]; split <;> rename_i h <;> (try rw [Bool.not_eq_true] at h) <;> (try simp only [go_sem, c67_r5, f0, f1, b3, *]))))
end
end Go.PE
namespace Go.PE
open Go Go.RowKit Go.Proofs
set_option linter.unusedVariables false
set_option linter.unusedSimpArgs false
set_option maxRecDepth 100000
theorem blank_or (c : UInt8) : blankB c = ((c.toNat : Int) == 32 || (c.toNat : Int) == 9 || (c.toNat : Int) == 10 || (c.toNat : Int) == 13) := by
  have h : ∀ n, n < 256 → blankB (UInt8.ofNat n) = (((UInt8.ofNat n).toNat : Int) == 32 || ((UInt8.ofNat n).toNat : Int) == 9 || ((UInt8.ofNat n).toNat : Int) == 10 || ((UInt8.ofNat n).toNat : Int) == 13) := by decide +kernel
  have := h c.toNat c.toNat_lt
  have e : UInt8.ofNat c.toNat = c := by simp
  rw [e] at this; exact this
/-- How much fuel there is does not matter, if it is enough. -/
theorem lex_fuel {sz : Nat} : ∀ (n m : Nat) (l : List UInt8) (p : Nat), l.length ≤ sz → l.length < n → l.length < m → lexG sz n l p = lexG sz m l p
  | 0, _, _, _, _, hn, _ => by omega
  | _, 0, _, _, _, _, hm => by omega
  | n + 1, m + 1, l, p, hs, hn, hm => by
    rw [lexG, lexG]
    have hle := skipS_le false l
    generalize skipS false l = k at *
    split
    · rfl
    · rename_i c r hd
      have hlen : r.length + 1 = l.length - k := by rw [← List.length_drop, hd]; rfl
      cases ht : tokG sz c r (p + k) with
      | bad e a => rfl
      | ok t j =>
        have mv := tok_move (x := []) app_nil_tail (sz' := sz) (e := 0) ht (by rw [List.append_nil]; omega)
        simp only
        rw [lex_fuel n m _ j (by rw [List.length_drop]; omega) (by rw [List.length_drop]; omega) (by rw [List.length_drop]; omega)]
/-- All tokens from a place on. -/
def lexW (sz : Nat) (l : List UInt8) (p : Nat) : Except (Int × Int) (List GToken) := lexG sz (l.length + 1) l p
theorem lexW_nil (sz p : Nat) : lexW sz [] p = .ok [] := rfl
theorem lexW_blank {sz : Nat} {c : UInt8} {r : List UInt8} (p : Nat) (hs : r.length + 1 ≤ sz) (h : blankB c = true) : lexW sz (c :: r) p = lexW sz r (p + 1) := by
  unfold lexW
  rw [lex_fuel (r.length + 1) (r.length + 2) r (p + 1) (by omega) (by omega) (by omega), List.length_cons, lexG, lexG, skipS, if_pos h]
  have e1 : (c :: r).drop (1 + skipS false r) = r.drop (skipS false r) := by rw [Nat.add_comm]; rfl
  have e2 : p + (1 + skipS false r) = p + 1 + skipS false r := by omega
  rw [e1, e2]
  split
  · rfl
  · rename_i c' r' hd
    have hle := skipS_le false r
    have hlen : r'.length + 1 = r.length - skipS false r := by rw [← List.length_drop, hd]; rfl
    cases ht : tokG sz c' r' (p + 1 + skipS false r) with
    | bad e a => rfl
    | ok t j =>
      have mv := tok_move (x := []) app_nil_tail (sz' := sz) (e := 0) ht (by rw [List.append_nil]; omega)
      simp only
      have e3 : (c :: r).drop (j - p) = r.drop (j - (p + 1)) := by
        have : j - p = (j - (p + 1)) + 1 := by omega
        rw [this]; rfl
      rw [e3]
theorem skip_note {c : UInt8} {r : List UInt8} (hb : blankB c = false) (h : ((c.toNat : Int) == 59) = true) : skipS false (c :: r) = whileN (fun c => (c.toNat : Int) != 10) (c :: r) + skipS false ((c :: r).drop (whileN (fun c => (c.toNat : Int) != 10) (c :: r))) := by
  have h1 : ((c.toNat : Int) != 10) = true := by
    have : (c.toNat : Int) = 59 := by simpa using h
    rw [this]; decide
  rw [← skipS_true, skipS, hb, if_neg (by simp), if_pos h, skipS, if_pos h1]
theorem lexW_note {sz : Nat} {c : UInt8} {r : List UInt8} (p : Nat) (hs : r.length + 1 ≤ sz) (hb : blankB c = false) (h : ((c.toNat : Int) == 59) = true) :
    lexW sz (c :: r) p = lexW sz ((c :: r).drop (whileN (fun c => (c.toNat : Int) != 10) (c :: r))) (p + whileN (fun c => (c.toNat : Int) != 10) (c :: r)) := by
  unfold lexW
  have hw := tw_len (fun c => (c.toNat : Int) != 10) (c :: r)
  have e0 := skip_note (r := r) hb h
  have hw2 : whileN (fun c : UInt8 => (c.toNat : Int) != 10) (c :: r) ≤ (c :: r).length := hw
  generalize whileN (fun c : UInt8 => (c.toNat : Int) != 10) (c :: r) = m at *
  have hle := skipS_le false ((c :: r).drop m)
  rw [lex_fuel (((c :: r).drop m).length + 1) ((c :: r).length + 1) _ (p + m) (by rw [List.length_drop, List.length_cons]; omega) (by omega) (by rw [List.length_drop]; omega), lexG, lexG, e0]
  have e1 : (c :: r).drop (m + skipS false ((c :: r).drop m)) = ((c :: r).drop m).drop (skipS false ((c :: r).drop m)) := by rw [List.drop_drop]
  have e2 : p + (m + skipS false ((c :: r).drop m)) = p + m + skipS false ((c :: r).drop m) := by omega
  rw [e1, e2]
  split
  · rfl
  · rename_i c' r' hd
    have hlen : r'.length + 1 = ((c :: r).drop m).length - skipS false ((c :: r).drop m) := by rw [← List.length_drop, hd]; rfl
    rw [List.length_drop, List.length_cons] at hlen
    cases ht : tokG sz c' r' (p + m + skipS false ((c :: r).drop m)) with
    | bad e a => rfl
    | ok t j =>
      have mv := tok_move (x := []) app_nil_tail (sz' := sz) (e := 0) ht (by rw [List.append_nil]; omega)
      simp only
      have e3 : (c :: r).drop (j - p) = ((c :: r).drop m).drop (j - (p + m)) := by rw [List.drop_drop]; congr 1; omega
      rw [e3]
theorem lexW_tok {sz : Nat} {c : UInt8} {r : List UInt8} (p : Nat) (hs : r.length + 1 ≤ sz) (hb : blankB c = false) (h : ((c.toNat : Int) == 59) = false) :
    lexW sz (c :: r) p = match tokG sz c r p with
      | .bad e a => .error (e, a)
      | .ok t j => match lexW sz ((c :: r).drop (j - p)) j with
        | .ok ts => .ok (t :: ts)
        | .error e => .error e := by
  unfold lexW
  have e0 : skipS false (c :: r) = 0 := by rw [skipS, hb, if_neg (by simp), h, if_neg (by simp)]
  rw [List.length_cons, lexG, e0, List.drop_zero, Nat.add_zero]
  simp only
  cases ht : tokG sz c r p with
  | bad e a => rfl
  | ok t j =>
    have mv := tok_move (x := []) app_nil_tail (sz' := sz) (e := 0) ht (by rw [List.append_nil]; omega)
    simp only
    rw [lex_fuel (r.length + 1) (((c :: r).drop (j - p)).length + 1) _ j (by rw [List.length_drop, List.length_cons]; omega) (by rw [List.length_drop, List.length_cons]; omega) (by omega)]
    rfl
section
variable {ot : TypeId} {oz : EP}
theorem note3_l0 (q : ByteArray) (hq : q.size ≤ 100000) (v4 : PV) (S : St) (fin : Kont (PV × St)) (st : List Fw) : ∀ (rest : List UInt8) (i : Nat), q.data.toList.drop i = rest →
    run (env ot oz) fin st c32_l0 [(0, some (.str q)), (4, some v4), (6, some (.int .i64 (i : Int)))] S =
      aft (env ot oz) fin st (.exit 0) [(0, some (.str q)), (4, some v4), (6, some (.int .i64 ((i + whileN (fun c => (c.toNat : Int) != 10) rest : Nat) : Int))), (39, some (.bool false))] S
  | [], i, hi => by
    have lt := lt_no (drop_nil hi)
    rw [size_data] at lt
    have e : whileN (fun c : UInt8 => (c.toNat : Int) != 10) [] = 0 := rfl
    rw [e, Nat.add_zero]
    (rw [c32_l0_w]; simp only [c32_l0_b, c32_l0_a, c32_r2, c32_r6, go_sem, lt]; repeat' (first | (rw [guardO_t]; split <;> rename_i h <;> (try rw [Bool.not_eq_true] at h) <;> (try simp only [go_sem, c32_r2, c32_r6, c32_l0_a, lt, *])) | (rw [guardO_f]; split <;> rename_i h <;> (try rw [Bool.not_eq_true] at h) <;> (try simp only [go_sem, c32_r2, c32_r6, c32_l0_a, lt, *])) | (rw [cw_bool]; split <;> rename_i h <;> (try rw [Bool.not_eq_true] at h) <;> (try simp only [go_sem, c32_r2, c32_r6, c32_l0_a, lt, *]))))
  | c :: rest, i, hi => by
    obtain ⟨h1, h2, h3⟩ := drop_cons hi
    rw [size_data] at h3
    have lt := lt_yes h3
    have hb : (0 : Int) ≤ (i : Int) ∧ (i : Int) < (q.size : Int) := by omega
    have w := wrap_succ h3 (by omega)
    have ih := note3_l0 q hq v4 S fin st rest (i + 1) h2
    cases hp : ((c.toNat : Int) != 10) with
    | false =>
      have e : whileN (fun c : UInt8 => (c.toNat : Int) != 10) (c :: rest) = 0 := by simp [whileN, hp]
      rw [e, Nat.add_zero]
      (rw [c32_l0_w]; simp only [c32_l0_b, c32_l0_a, c32_r2, c32_r6, go_sem, lt, hb, h1, hp, Int.toNat_natCast]; repeat' (first | (rw [guardO_t]; split <;> rename_i h <;> (try rw [Bool.not_eq_true] at h) <;> (try simp only [go_sem, c32_r2, c32_r6, c32_l0_a, lt, hb, h1, hp, Int.toNat_natCast, *])) | (rw [guardO_f]; split <;> rename_i h <;> (try rw [Bool.not_eq_true] at h) <;> (try simp only [go_sem, c32_r2, c32_r6, c32_l0_a, lt, hb, h1, hp, Int.toNat_natCast, *])) | (rw [cw_bool]; split <;> rename_i h <;> (try rw [Bool.not_eq_true] at h) <;> (try simp only [go_sem, c32_r2, c32_r6, c32_l0_a, lt, hb, h1, hp, Int.toNat_natCast, *]))))
    | true =>
      have e : i + whileN (fun c : UInt8 => (c.toNat : Int) != 10) (c :: rest) = i + 1 + whileN (fun c : UInt8 => (c.toNat : Int) != 10) rest := by simp [whileN, hp]; omega
      rw [e]
      (rw [c32_l0_w]; simp only [c32_l0_b, c32_l0_a, c32_r2, c32_r6, go_sem, lt, hb, h1, hp, w, ih, Int.toNat_natCast]; repeat' (first | (rw [guardO_t]; split <;> rename_i h <;> (try rw [Bool.not_eq_true] at h) <;> (try simp only [go_sem, c32_r2, c32_r6, c32_l0_a, lt, hb, h1, hp, w, ih, Int.toNat_natCast, *])) | (rw [guardO_f]; split <;> rename_i h <;> (try rw [Bool.not_eq_true] at h) <;> (try simp only [go_sem, c32_r2, c32_r6, c32_l0_a, lt, hb, h1, hp, w, ih, Int.toNat_natCast, *])) | (rw [cw_bool]; split <;> rename_i h <;> (try rw [Bool.not_eq_true] at h) <;> (try simp only [go_sem, c32_r2, c32_r6, c32_l0_a, lt, hb, h1, hp, w, ih, Int.toNat_natCast, *]))))
def nextP (q : ByteArray) (c : UInt8) (r : List UInt8) (i : Nat) : PV :=
  if blankB c = true then .agg (gotC 0 0 ⟨#[]⟩ 0 true ((i + 1 : Nat) : Int) 0 0) else
    if ((c.toNat : Int) == 59) = true then .agg (gotC 0 0 ⟨#[]⟩ 0 true ((i + whileN (fun c => (c.toNat : Int) != 10) (c :: r) : Nat) : Int) 0 0) else gotP (tokG q.size c r i)
theorem next3 (q : ByteArray) (hq : q.size ≤ 100000) (i : Nat) (c : UInt8) (r : List UInt8) (hd : q.data.toList.drop i = c :: r) (S : St) : cal (env ot oz) 32 [.str q, .int .i64 (i : Int)] S = some (nextP q c r i, S) := by
  obtain ⟨h1, h2, h3⟩ := drop_cons hd
  rw [size_data] at h3
  have hb : (0 : Int) ≤ (i : Int) ∧ (i : Int) < (q.size : Int) := by omega
  have w1 := wrap_succ h3 (by omega)
  have bo := blank_or c
  have f0 := fun T fin st => note3_l0 (ot := ot) (oz := oz) q hq (.ref S.obs.length 0) T fin st _ i hd
  have dg := fun S => dig3 (ot := ot) (oz := oz) c S
  have lt := fun S => let3 (ot := ot) (oz := oz) c S
  have nm := fun h S => num3 (ot := ot) (oz := oz) q hq i c r hd h S
  have wd := fun S => word3 (ot := ot) (oz := oz) q hq i (by omega) S
  have tx := fun S => text3 (ot := ot) (oz := oz) q hq i h3 S
  have sg := fun S => sign3 (ot := ot) (oz := oz) q hq i c r hd S
  rw [hd] at wd
  rw [h2] at tx
  have cl := fun (K N : Int) (s : ByteArray) (A : Int) (sk : Bool) (to e a : Int) => gotC_plain K N s A sk to e a
  unfold nextP tokG
  cases q1 : ((c.toNat : Int) == 32) with
  | true =>
    have e : blankB c = true := by rw [bo, q1]; rfl
    rw [if_pos e]
    (rw [w_plain (fn := c32) rfl rfl (by simp only [go_sem, hb, h1, q1, w1, Int.toNat_natCast]) rfl (by decide)]; simp only [c32, c32_b, c32_r2, c32_r6, go_sem, hb, h1, q1, w1, Int.toNat_natCast]; repeat' (first | (rw [guardO_t]; split <;> rename_i h <;> (try rw [Bool.not_eq_true] at h) <;> (try simp only [go_sem, c32_r2, c32_r6, hb, h1, q1, w1, Int.toNat_natCast, *])) | (rw [guardO_f]; split <;> rename_i h <;> (try rw [Bool.not_eq_true] at h) <;> (try simp only [go_sem, c32_r2, c32_r6, hb, h1, q1, w1, Int.toNat_natCast, *])) | (rw [cw_bool]; split <;> rename_i h <;> (try rw [Bool.not_eq_true] at h) <;> (try simp only [go_sem, c32_r2, c32_r6, hb, h1, q1, w1, Int.toNat_natCast, *]))))
  | false =>
  cases q2 : ((c.toNat : Int) == 9) with
  | true =>
    have e : blankB c = true := by rw [bo, q1, q2]; rfl
    rw [if_pos e]
    (rw [w_plain (fn := c32) rfl rfl (by simp only [go_sem, hb, h1, q1, q2, w1, Int.toNat_natCast]) rfl (by decide)]; simp only [c32, c32_b, c32_r2, c32_r6, go_sem, hb, h1, q1, q2, w1, Int.toNat_natCast]; repeat' (first | (rw [guardO_t]; split <;> rename_i h <;> (try rw [Bool.not_eq_true] at h) <;> (try simp only [go_sem, c32_r2, c32_r6, hb, h1, q1, q2, w1, Int.toNat_natCast, *])) | (rw [guardO_f]; split <;> rename_i h <;> (try rw [Bool.not_eq_true] at h) <;> (try simp only [go_sem, c32_r2, c32_r6, hb, h1, q1, q2, w1, Int.toNat_natCast, *])) | (rw [cw_bool]; split <;> rename_i h <;> (try rw [Bool.not_eq_true] at h) <;> (try simp only [go_sem, c32_r2, c32_r6, hb, h1, q1, q2, w1, Int.toNat_natCast, *]))))
  | false =>
  cases q3 : ((c.toNat : Int) == 10) with
  | true =>
    have e : blankB c = true := by rw [bo, q1, q2, q3]; rfl
    rw [if_pos e]
    (rw [w_plain (fn := c32) rfl rfl (by simp only [go_sem, hb, h1, q1, q2, q3, w1, Int.toNat_natCast]) rfl (by decide)]; simp only [c32, c32_b, c32_r2, c32_r6, go_sem, hb, h1, q1, q2, q3, w1, Int.toNat_natCast]; repeat' (first | (rw [guardO_t]; split <;> rename_i h <;> (try rw [Bool.not_eq_true] at h) <;> (try simp only [go_sem, c32_r2, c32_r6, hb, h1, q1, q2, q3, w1, Int.toNat_natCast, *])) | (rw [guardO_f]; split <;> rename_i h <;> (try rw [Bool.not_eq_true] at h) <;> (try simp only [go_sem, c32_r2, c32_r6, hb, h1, q1, q2, q3, w1, Int.toNat_natCast, *])) | (rw [cw_bool]; split <;> rename_i h <;> (try rw [Bool.not_eq_true] at h) <;> (try simp only [go_sem, c32_r2, c32_r6, hb, h1, q1, q2, q3, w1, Int.toNat_natCast, *]))))
  | false =>
  cases q4 : ((c.toNat : Int) == 13) with
  | true =>
    have e : blankB c = true := by rw [bo, q1, q2, q3, q4]; rfl
    rw [if_pos e]
    (rw [w_plain (fn := c32) rfl rfl (by simp only [go_sem, hb, h1, q1, q2, q3, q4, w1, Int.toNat_natCast]) rfl (by decide)]; simp only [c32, c32_b, c32_r2, c32_r6, go_sem, hb, h1, q1, q2, q3, q4, w1, Int.toNat_natCast]; repeat' (first | (rw [guardO_t]; split <;> rename_i h <;> (try rw [Bool.not_eq_true] at h) <;> (try simp only [go_sem, c32_r2, c32_r6, hb, h1, q1, q2, q3, q4, w1, Int.toNat_natCast, *])) | (rw [guardO_f]; split <;> rename_i h <;> (try rw [Bool.not_eq_true] at h) <;> (try simp only [go_sem, c32_r2, c32_r6, hb, h1, q1, q2, q3, q4, w1, Int.toNat_natCast, *])) | (rw [cw_bool]; split <;> rename_i h <;> (try rw [Bool.not_eq_true] at h) <;> (try simp only [go_sem, c32_r2, c32_r6, hb, h1, q1, q2, q3, q4, w1, Int.toNat_natCast, *]))))
  | false =>
  have e : blankB c = false := by rw [bo, q1, q2, q3, q4]; rfl
  rw [e, if_neg (by simp)]
  cases q5 : ((c.toNat : Int) == 59) with
  | true =>
    rw [if_pos rfl]
    (rw [w_plain (fn := c32) rfl rfl (by simp only [go_sem, hb, h1, q1, q2, q3, q4, q5, f0, Int.toNat_natCast]) rfl (by decide)]; simp only [c32, c32_b, c32_r2, c32_r6, go_sem, hb, h1, q1, q2, q3, q4, q5, f0, Int.toNat_natCast]; repeat' (first | (rw [guardO_t]; split <;> rename_i h <;> (try rw [Bool.not_eq_true] at h) <;> (try simp only [go_sem, c32_r2, c32_r6, hb, h1, q1, q2, q3, q4, q5, f0, Int.toNat_natCast, *])) | (rw [guardO_f]; split <;> rename_i h <;> (try rw [Bool.not_eq_true] at h) <;> (try simp only [go_sem, c32_r2, c32_r6, hb, h1, q1, q2, q3, q4, q5, f0, Int.toNat_natCast, *])) | (rw [cw_bool]; split <;> rename_i h <;> (try rw [Bool.not_eq_true] at h) <;> (try simp only [go_sem, c32_r2, c32_r6, hb, h1, q1, q2, q3, q4, q5, f0, Int.toNat_natCast, *]))))
  | false =>
  rw [if_neg (by simp)]
  cases q6 : digC c with
  | true =>
    have nm := fun S => nm q6 S
    rw [if_pos rfl]
    generalize numF c (r.takeWhile digC) i = x at nm ⊢
    cases x <;> simp only [gotP] at nm ⊢ <;> (rw [w_plain (fn := c32) rfl rfl (by simp only [go_sem, hb, h1, q1, q2, q3, q4, q5, dg, q6, nm, Int.toNat_natCast]) rfl (by decide)]; simp only [c32, c32_b, c32_r2, c32_r6, go_sem, hb, h1, q1, q2, q3, q4, q5, dg, q6, nm, Int.toNat_natCast]; repeat' (first | (rw [guardO_t]; split <;> rename_i h <;> (try rw [Bool.not_eq_true] at h) <;> (try simp only [go_sem, c32_r2, c32_r6, hb, h1, q1, q2, q3, q4, q5, dg, q6, nm, Int.toNat_natCast, *])) | (rw [guardO_f]; split <;> rename_i h <;> (try rw [Bool.not_eq_true] at h) <;> (try simp only [go_sem, c32_r2, c32_r6, hb, h1, q1, q2, q3, q4, q5, dg, q6, nm, Int.toNat_natCast, *])) | (rw [cw_bool]; split <;> rename_i h <;> (try rw [Bool.not_eq_true] at h) <;> (try simp only [go_sem, c32_r2, c32_r6, hb, h1, q1, q2, q3, q4, q5, dg, q6, nm, Int.toNat_natCast, *]))))
  | false =>
  rw [if_neg (by simp)]
  have ew : wordC c = letC c := by unfold wordC; rw [q6, Bool.or_false]
  rw [ew] at lt
  cases q7 : letC c with
  | true =>
    rw [if_pos rfl]
    generalize wordF ((c :: r).takeWhile wordC) i = x at wd ⊢
    cases x <;> simp only [gotP] at wd ⊢ <;> (rw [w_plain (fn := c32) rfl rfl (by simp only [go_sem, hb, h1, q1, q2, q3, q4, q5, dg, q6, lt, q7, wd, Int.toNat_natCast]) rfl (by decide)]; simp only [c32, c32_b, c32_r2, c32_r6, go_sem, hb, h1, q1, q2, q3, q4, q5, dg, q6, lt, q7, wd, Int.toNat_natCast]; repeat' (first | (rw [guardO_t]; split <;> rename_i h <;> (try rw [Bool.not_eq_true] at h) <;> (try simp only [go_sem, c32_r2, c32_r6, hb, h1, q1, q2, q3, q4, q5, dg, q6, lt, q7, wd, Int.toNat_natCast, *])) | (rw [guardO_f]; split <;> rename_i h <;> (try rw [Bool.not_eq_true] at h) <;> (try simp only [go_sem, c32_r2, c32_r6, hb, h1, q1, q2, q3, q4, q5, dg, q6, lt, q7, wd, Int.toNat_natCast, *])) | (rw [cw_bool]; split <;> rename_i h <;> (try rw [Bool.not_eq_true] at h) <;> (try simp only [go_sem, c32_r2, c32_r6, hb, h1, q1, q2, q3, q4, q5, dg, q6, lt, q7, wd, Int.toNat_natCast, *]))))
  | false =>
  rw [if_neg (by simp)]
  cases q8 : ((c.toNat : Int) == 34) with
  | true =>
    rw [if_pos rfl]
    generalize textG i q.size (q.size + 1) r [] (i + 1) = x at tx ⊢
    cases x <;> simp only [gotP] at tx ⊢ <;> (rw [w_plain (fn := c32) rfl rfl (by simp only [go_sem, hb, h1, q1, q2, q3, q4, q5, dg, q6, lt, q7, q8, tx, Int.toNat_natCast]) rfl (by decide)]; simp only [c32, c32_b, c32_r2, c32_r6, go_sem, hb, h1, q1, q2, q3, q4, q5, dg, q6, lt, q7, q8, tx, Int.toNat_natCast]; repeat' (first | (rw [guardO_t]; split <;> rename_i h <;> (try rw [Bool.not_eq_true] at h) <;> (try simp only [go_sem, c32_r2, c32_r6, hb, h1, q1, q2, q3, q4, q5, dg, q6, lt, q7, q8, tx, Int.toNat_natCast, *])) | (rw [guardO_f]; split <;> rename_i h <;> (try rw [Bool.not_eq_true] at h) <;> (try simp only [go_sem, c32_r2, c32_r6, hb, h1, q1, q2, q3, q4, q5, dg, q6, lt, q7, q8, tx, Int.toNat_natCast, *])) | (rw [cw_bool]; split <;> rename_i h <;> (try rw [Bool.not_eq_true] at h) <;> (try simp only [go_sem, c32_r2, c32_r6, hb, h1, q1, q2, q3, q4, q5, dg, q6, lt, q7, q8, tx, Int.toNat_natCast, *]))))
  | false =>
  rw [if_neg (by simp)]
  generalize signF c r i = x at sg ⊢
  cases x <;> simp only [gotP] at sg ⊢ <;> (rw [w_plain (fn := c32) rfl rfl (by simp only [go_sem, hb, h1, q1, q2, q3, q4, q5, dg, q6, lt, q7, q8, sg, Int.toNat_natCast]) rfl (by decide)]; simp only [c32, c32_b, c32_r2, c32_r6, go_sem, hb, h1, q1, q2, q3, q4, q5, dg, q6, lt, q7, q8, sg, Int.toNat_natCast]; repeat' (first | (rw [guardO_t]; split <;> rename_i h <;> (try rw [Bool.not_eq_true] at h) <;> (try simp only [go_sem, c32_r2, c32_r6, hb, h1, q1, q2, q3, q4, q5, dg, q6, lt, q7, q8, sg, Int.toNat_natCast, *])) | (rw [guardO_f]; split <;> rename_i h <;> (try rw [Bool.not_eq_true] at h) <;> (try simp only [go_sem, c32_r2, c32_r6, hb, h1, q1, q2, q3, q4, q5, dg, q6, lt, q7, q8, sg, Int.toNat_natCast, *])) | (rw [cw_bool]; split <;> rename_i h <;> (try rw [Bool.not_eq_true] at h) <;> (try simp only [go_sem, c32_r2, c32_r6, hb, h1, q1, q2, q3, q4, q5, dg, q6, lt, q7, q8, sg, Int.toNat_natCast, *]))))
/-- The document's list, behind what was there when the call began. -/
def Rd3 (S T : St) (out : PV) (ts : List GToken) : Prop := ∃ os ow, T = ⟨S.obs ++ os, S.own ++ ow⟩ ∧ OutIs S.own.length ow out ts
theorem rd3_app {S T : St} {out : PV} {ts : List GToken} (h : Rd3 S T out ts) (hn : ts.length ≤ 1000000) (t : GToken) (os' : List Ob) : ∃ g rows g' rows' T', out = .sl g rows ∧ appP ⟨T.obs ++ os', T.own⟩ 53 4 40 g rows [rToken t] = some (.sl g' rows', T') ∧ Rd3 S T' (.sl g' rows') (ts ++ [t]) ∧ rows' = (ts ++ [t]).map rToken ∧ T'.obs = T.obs ++ os' := by
  obtain ⟨os, ow, rfl, ho⟩ := h
  rcases ho with ⟨rfl, rfl⟩ | ⟨hne, j, rfl, hj⟩
  · refine ⟨.null, [], .own (S.own ++ ow).length 53, [rToken t], ⟨S.obs ++ os ++ os', S.own ++ ow ++ [4]⟩, rfl, ?_, ⟨os ++ os', ow ++ [4], ?_, .inr ⟨by simp, ow.length, ?_, by simp⟩⟩, ?_, rfl⟩
    · show appP ⟨S.obs ++ os ++ os', S.own ++ ow⟩ 53 4 40 .null [] [rToken t] = some (.sl (.own (S.own ++ ow).length 53) [rToken t], ⟨S.obs ++ os ++ os', S.own ++ ow ++ [4]⟩)
      simp [appP, headOk, rToken]
    · simp
    · simp
    · rfl
  · have hk : (S.own ++ ow)[S.own.length + j]? = some (ts.length * 4) := by rw [List.getElem?_append_right (by omega)]; simpa using hj
    have hjl := getElem?_lt hj
    have hh : headOk 4 (ts.map rToken) = true := by cases ts <;> simp [headOk, rToken]
    have hs : (S.own ++ ow).set (S.own.length + j) ((ts.length + 1) * 4) = S.own ++ ow.set j ((ts.length + 1) * 4) := by rw [List.set_append, if_neg (by omega)]; congr 2; omega
    refine ⟨.own (S.own.length + j) 53, ts.map rToken, .own (S.own.length + j) 53, ts.map rToken ++ [rToken t], ⟨S.obs ++ os ++ os', S.own ++ ow.set j ((ts.length + 1) * 4)⟩, rfl, ?_, ⟨os ++ os', ow.set j ((ts.length + 1) * 4), ?_, .inr ⟨by simp, j, ?_, by rw [List.getElem?_set_self hjl]; simp⟩⟩, ?_, rfl⟩
    · show appP ⟨S.obs ++ os ++ os', S.own ++ ow⟩ 53 4 40 (.own (S.own.length + j) 53) (ts.map rToken) [rToken t] = some (.sl (.own (S.own.length + j) 53) (ts.map rToken ++ [rToken t]), ⟨S.obs ++ os ++ os', S.own ++ ow.set j ((ts.length + 1) * 4)⟩)
      have h1 : ((ts.map rToken).length + [rToken t].length) * 40 ≤ 140737488355328 ∧ (ts.map rToken).length + [rToken t].length ≤ 9223372036854775807 ∧ 0 < 4 ∧ headOk 4 (ts.map rToken) = true ∧ headOk 4 [rToken t] = true := by
        refine ⟨by simp; omega, by simp; omega, by omega, hh, by simp [headOk, rToken]⟩
      simp only [appP, List.isEmpty_cons, Bool.false_eq_true, if_false]
      rw [if_pos h1, if_pos (by simp [hk])]
      simp only [List.length_map, List.length_cons, List.length_nil, Nat.zero_add, hs]
    · simp
    · simp
    · simp
theorem rd3_more {S T : St} {out : PV} {ts : List GToken} (h : Rd3 S T out ts) (os' : List Ob) : Rd3 S ⟨T.obs ++ os', T.own⟩ out ts := by
  obtain ⟨os, ow, rfl, ho⟩ := h
  exact ⟨os ++ os', ow, by simp, ho⟩
end
end Go.PE
