/-
  The reader, on any text: the next token; all tokens. Conditions: each law's own.
-/
import Derived.Test.YtaofeleeinjclaaGreatDoorLU
namespace Go.PE
open Go Go.RowKit Go.Proofs
set_option linter.unusedVariables false
set_option linter.unusedSimpArgs false
set_option maxRecDepth 100000
theorem uintM_dig (M : Nat) : ∀ (l : List UInt8) (acc : Nat), l.all digC = true → (∃ v, Lib.parseUintM M acc l = .ok v) ∨ Lib.parseUintM M acc l = .range
  | [], acc, _ => .inl ⟨acc, rfl⟩
  | c :: r, acc, h => by
    simp only [List.all_cons, Bool.and_eq_true] at h
    have hc : 48 ≤ c.toNat ∧ c.toNat ≤ 57 := by
      have := h.1
      unfold digC at this
      simp only [Bool.and_eq_true, decide_eq_true_eq] at this
      omega
    rw [Lib.parseUintM, if_pos hc]
    split
    · exact .inr rfl
    · split
      · exact .inr rfl
      · exact uintM_dig M r _ h.2
theorem parse_dig (c : UInt8) (w : List UInt8) (h : (c :: w).all digC = true) : (∃ v, Lib.parseIntB 64 (c :: w) = .ok v) ∨ Lib.parseIntB 64 (c :: w) = .range := by
  have hc : 48 ≤ c.toNat ∧ c.toNat ≤ 57 := by
    simp only [List.all_cons, Bool.and_eq_true] at h
    have := h.1
    unfold digC at this
    simp only [Bool.and_eq_true, decide_eq_true_eq] at this
    omega
  rw [Lib.parseIntB_plain 64 c w (by omega) (by omega)]
  unfold Lib.parseUintB
  rw [if_neg (by simp)]
  rcases uintM_dig (2 ^ 64 - 1) (c :: w) 0 h with ⟨v, hv⟩ | hv
  · rw [hv]
    simp only [Lib.signlessC]
    split
    · exact .inr rfl
    · exact .inl ⟨_, rfl⟩
  · rw [hv]; exact .inr rfl
theorem tw_all (p : UInt8 → Bool) : ∀ l : List UInt8, (l.takeWhile p).all p = true
  | [] => rfl
  | c :: r => by
    cases h : p c with
    | true => simp only [List.takeWhile_cons, h, if_true, List.all_cons, Bool.true_and]; exact tw_all p r
    | false => simp [List.takeWhile_cons, h]
section
variable {ot : TypeId} {oz : EP}
/-- One token, read. -/
theorem tok_w {S T : St} {q : ByteArray} (hq : q.size ≤ 100000) {i : Nat} {ts : List GToken} (h : Rd S q T i ts .nilifc) (hts : ts.length ≤ 1000000) (c : UInt8) (r : List UInt8) (hd : q.data.toList.drop i = c :: r) :
    (digC c = true → Gives ot oz S q T ts 57 (tokG q.size c r i)) ∧
    (digC c = false → letC c = true → Gives ot oz S q T ts 59 (tokG q.size c r i)) ∧
    (digC c = false → letC c = false → ((c.toNat : Int) == 34) = true → Gives ot oz S q T ts 60 (tokG q.size c r i)) ∧
    (digC c = false → letC c = false → ((c.toNat : Int) == 34) = false → Gives ot oz S q T ts 61 (tokG q.size c r i)) := by
  obtain ⟨h1, h2, h3⟩ := drop_cons hd
  rw [size_data] at h3
  refine ⟨fun q1 => ?_, fun q1 q2 => ?_, fun q1 q2 q3 => ?_, fun q1 q2 q3 => ?_⟩
  · have hw : (q.data.toList.drop i).takeWhile digC = c :: r.takeWhile digC := by rw [hd]; simp [q1]
    have ha := tw_all digC (q.data.toList.drop i)
    rw [hw] at ha
    have := num_w (ot := ot) (oz := oz) hq h hts (by omega) c (r.takeWhile digC) hw (parse_dig c _ ha)
    unfold tokG
    rw [if_pos q1]; exact this
  · have hw : (q.data.toList.drop i).takeWhile wordC = (c :: r).takeWhile wordC := by rw [hd]
    have := word_w (ot := ot) (oz := oz) hq h hts (by omega) _ hw (by rw [word_ne q2]; simp)
    unfold tokG
    rw [if_neg (by simp [q1]), if_pos q2]; exact this
  · have := text_g (ot := ot) (oz := oz) hq h hts h3
    rw [h2] at this
    unfold tokG
    rw [if_neg (by simp [q1]), if_neg (by simp [q2]), if_pos q3]; exact this
  · have := sign_w (ot := ot) (oz := oz) hq h hts c r hd
    unfold tokG
    rw [if_neg (by simp [q1]), if_neg (by simp [q2]), if_neg (by simp [q3])]; exact this
/-- What next comes to. -/
def NextOut (ot : TypeId) (oz : EP) (S : St) (q : ByteArray) (T : St) (i : Nat) (ts : List GToken) : Prop :=
  match q.data.toList.drop (i + skipS false (q.data.toList.drop i)) with
  | [] => ∃ T' i', cal (env ot oz) 31 [.ref S.obs.length 0] T = some (.bool false, T') ∧ Rd S q T' i' ts .nilifc
  | c :: r => Gives ot oz S q T ts 31 (tokG q.size c r (i + skipS false (q.data.toList.drop i)))
theorem next_g {S T : St} {q : ByteArray} (hq : q.size ≤ 100000) {i : Nat} {ts : List GToken} (h : Rd S q T i ts .nilifc) (hts : ts.length ≤ 1000000) : NextOut ot oz S q T i ts := by
  obtain ⟨T1, p1, hR1, h0⟩ := pass_g (ot := ot) (oz := oz) hq h
  rw [skipF_S _ _ (by rw [List.length_drop, size_data]; omega)] at hR1 h0
  have hle := skipS_le false (q.data.toList.drop i)
  rw [List.length_drop, size_data] at hle
  unfold NextOut
  generalize skipS false (q.data.toList.drop i) = k at *
  have hR1' := hR1
  obtain ⟨out1, more1, ow1, e1, _⟩ := hR1'
  have g1 : T1.obs[S.obs.length]? = some (rdr q ((i + k : Nat) : Int) out1 .nilifc) := by rw [e1]; exact rd_get
  clear e1
  split
  · rename_i hd
    have hlt : q.size ≤ i + k := by have := List.drop_eq_nil_iff.1 hd; rw [size_data] at this; exact this
    have lt : decide ((q.size : Int) ≤ ((i + k : Nat) : Int)) = true := decide_eq_true (by omega)
    have cl : close T T1 (.bool false) = (.bool false, T1) := by
      rcases Nat.eq_zero_or_pos k with e | e
      · rw [h0 e, close_same]; rfl
      · exact rd_close h hR1 (.inl (by omega)) _
    refine ⟨T1, _, ?_, hR1⟩
    (rw [w_plain (fn := c31) rfl rfl (by simp only [go_sem, p1, g1, lt, cl]) rfl (by decide)]; simp only [c31, c31_b, go_sem, p1, g1, lt, cl]; repeat' (first | (rw [guardO_t]; split <;> rename_i h <;> (try rw [Bool.not_eq_true] at h) <;> (try simp only [go_sem, p1, g1, lt, cl, *])) | (rw [guardO_f]; split <;> rename_i h <;> (try rw [Bool.not_eq_true] at h) <;> (try simp only [go_sem, p1, g1, lt, cl, *])) | (rw [cw_bool]; split <;> rename_i h <;> (try rw [Bool.not_eq_true] at h) <;> (try simp only [go_sem, p1, g1, lt, cl, *]))))
  · rename_i c r hd
    obtain ⟨h1, h2, h3⟩ := drop_cons hd
    rw [size_data] at h3
    have lt : decide ((q.size : Int) ≤ ((i + k : Nat) : Int)) = false := decide_eq_false (by omega)
    have hb : (0 : Int) ≤ ((i + k : Nat) : Int) ∧ ((i + k : Nat) : Int) < (q.size : Int) := by omega
    have dg := digit_w (ot := ot) (oz := oz) c
    have lt2 := letter_w (ot := ot) (oz := oz) c
    obtain ⟨w1, w2, w3, w4⟩ := tok_w (ot := ot) (oz := oz) hq hR1 hts c r hd
    have pos : ∀ t j, tokG q.size c r (i + k) = .ok t j → i < j := fun t j ht => by
      have hr : r.length ≤ q.size := by
        have := congrArg List.length hd
        rw [List.length_drop, size_data] at this
        simp at this; omega
      have := tok_move (x := []) app_nil_tail (sz' := q.size) (e := 0) ht (by rw [List.append_nil]; exact hr)
      omega
    have key : ∀ f, Gives ot oz S q T1 ts f (tokG q.size c r (i + k)) → (∀ b T2, cal (env ot oz) f [.ref S.obs.length 0] T1 = some (.bool b, T2) → close T T2 (.bool b) = (.bool b, T2) → cal (env ot oz) 31 [.ref S.obs.length 0] T = some (.bool b, T2)) → Gives ot oz S q T ts 31 (tokG q.size c r (i + k)) := fun f hg hf => by
      cases ht : tokG q.size c r (i + k) with
      | ok t j =>
        rw [ht] at hg
        obtain ⟨T', a, b⟩ := hg
        exact ⟨T', hf true T' a (rd_close h b (.inl (by have := pos t j ht; omega)) _), b⟩
      | bad e a =>
        rw [ht] at hg
        obtain ⟨T', i', a, b⟩ := hg
        exact ⟨T', i', hf false T' a (rd_close h b (.inr (by simp)) _), b⟩
    generalize tokG q.size c r (i + k) = tk at *
    cases q1 : digC c with
    | true =>
      refine key _ (w1 q1) fun b T2 a cl => ?_
      (rw [w_plain (fn := c31) rfl rfl (by simp only [go_sem, p1, g1, lt, hb, h1, dg, q1, a, cl, Int.toNat_natCast]) rfl (by decide)]; simp only [c31, c31_b, go_sem, p1, g1, lt, hb, h1, dg, q1, a, cl, Int.toNat_natCast]; repeat' (first | (rw [guardO_t]; split <;> rename_i h <;> (try rw [Bool.not_eq_true] at h) <;> (try simp only [go_sem, p1, g1, lt, hb, h1, dg, q1, a, cl, Int.toNat_natCast, *])) | (rw [guardO_f]; split <;> rename_i h <;> (try rw [Bool.not_eq_true] at h) <;> (try simp only [go_sem, p1, g1, lt, hb, h1, dg, q1, a, cl, Int.toNat_natCast, *])) | (rw [cw_bool]; split <;> rename_i h <;> (try rw [Bool.not_eq_true] at h) <;> (try simp only [go_sem, p1, g1, lt, hb, h1, dg, q1, a, cl, Int.toNat_natCast, *]))))
    | false =>
    cases q2 : letC c with
    | true =>
      refine key _ (w2 q1 q2) fun b T2 a cl => ?_
      (rw [w_plain (fn := c31) rfl rfl (by simp only [go_sem, p1, g1, lt, hb, h1, dg, lt2, q1, q2, a, cl, Int.toNat_natCast]) rfl (by decide)]; simp only [c31, c31_b, go_sem, p1, g1, lt, hb, h1, dg, lt2, q1, q2, a, cl, Int.toNat_natCast]; repeat' (first | (rw [guardO_t]; split <;> rename_i h <;> (try rw [Bool.not_eq_true] at h) <;> (try simp only [go_sem, p1, g1, lt, hb, h1, dg, lt2, q1, q2, a, cl, Int.toNat_natCast, *])) | (rw [guardO_f]; split <;> rename_i h <;> (try rw [Bool.not_eq_true] at h) <;> (try simp only [go_sem, p1, g1, lt, hb, h1, dg, lt2, q1, q2, a, cl, Int.toNat_natCast, *])) | (rw [cw_bool]; split <;> rename_i h <;> (try rw [Bool.not_eq_true] at h) <;> (try simp only [go_sem, p1, g1, lt, hb, h1, dg, lt2, q1, q2, a, cl, Int.toNat_natCast, *]))))
    | false =>
    cases q3 : ((c.toNat : Int) == 34) with
    | true =>
      refine key _ (w3 q1 q2 q3) fun b T2 a cl => ?_
      (rw [w_plain (fn := c31) rfl rfl (by simp only [go_sem, p1, g1, lt, hb, h1, dg, lt2, q1, q2, q3, a, cl, Int.toNat_natCast]) rfl (by decide)]; simp only [c31, c31_b, go_sem, p1, g1, lt, hb, h1, dg, lt2, q1, q2, q3, a, cl, Int.toNat_natCast]; repeat' (first | (rw [guardO_t]; split <;> rename_i h <;> (try rw [Bool.not_eq_true] at h) <;> (try simp only [go_sem, p1, g1, lt, hb, h1, dg, lt2, q1, q2, q3, a, cl, Int.toNat_natCast, *])) | (rw [guardO_f]; split <;> rename_i h <;> (try rw [Bool.not_eq_true] at h) <;> (try simp only [go_sem, p1, g1, lt, hb, h1, dg, lt2, q1, q2, q3, a, cl, Int.toNat_natCast, *])) | (rw [cw_bool]; split <;> rename_i h <;> (try rw [Bool.not_eq_true] at h) <;> (try simp only [go_sem, p1, g1, lt, hb, h1, dg, lt2, q1, q2, q3, a, cl, Int.toNat_natCast, *]))))
    | false =>
      refine key _ (w4 q1 q2 q3) fun b T2 a cl => ?_
      (rw [w_plain (fn := c31) rfl rfl (by simp only [go_sem, p1, g1, lt, hb, h1, dg, lt2, q1, q2, q3, a, cl, Int.toNat_natCast]) rfl (by decide)]; simp only [c31, c31_b, go_sem, p1, g1, lt, hb, h1, dg, lt2, q1, q2, q3, a, cl, Int.toNat_natCast]; repeat' (first | (rw [guardO_t]; split <;> rename_i h <;> (try rw [Bool.not_eq_true] at h) <;> (try simp only [go_sem, p1, g1, lt, hb, h1, dg, lt2, q1, q2, q3, a, cl, Int.toNat_natCast, *])) | (rw [guardO_f]; split <;> rename_i h <;> (try rw [Bool.not_eq_true] at h) <;> (try simp only [go_sem, p1, g1, lt, hb, h1, dg, lt2, q1, q2, q3, a, cl, Int.toNat_natCast, *])) | (rw [cw_bool]; split <;> rename_i h <;> (try rw [Bool.not_eq_true] at h) <;> (try simp only [go_sem, p1, g1, lt, hb, h1, dg, lt2, q1, q2, q3, a, cl, Int.toNat_natCast, *]))))
/-- What the loop of All comes to. -/
def AllOut (ot : TypeId) (oz : EP) (S : St) (q : ByteArray) (T : St) (ts : List GToken) (x : Except (Int × Int) (List GToken)) : Prop :=
  ∃ T' i' ts' err, (∀ fin st, run (env ot oz) fin st c9_l0 [(0, some (.str q)), (4, some (.ref S.obs.length 0))] T = aft (env ot oz) fin st (.exit 0) [(0, some (.str q)), (4, some (.ref S.obs.length 0)), (13, some (.bool false))] T') ∧ Rd S q T' i' ts' err ∧
    match x with
    | .ok us => ts' = ts ++ us ∧ err = .nilifc
    | .error e => err = plc e.1 e.2
theorem all_gl (S : St) (q : ByteArray) (hq : q.size ≤ 100000) : ∀ (n : Nat) (T : St) (i : Nat) (ts : List GToken), Rd S q T i ts .nilifc → ts.length + (q.size - i) ≤ 1000000 → q.size - i < n → AllOut ot oz S q T ts (lexG q.size n (q.data.toList.drop i) i)
  | 0, _, _, _, _, _, hn => by omega
  | n + 1, T, i, ts, h, hts, hn => by
    have nx := next_g (ot := ot) (oz := oz) hq h (by omega)
    unfold NextOut at nx
    rw [lexG, List.drop_drop]
    split
    · rename_i hd
      rw [hd] at nx
      obtain ⟨T', i', nf, hR⟩ := nx
      refine ⟨T', i', ts, .nilifc, fun fin st => ?_, hR, by simp⟩
      (rw [c9_l0_w]; simp only [c9_l0_b, c9_l0_a, go_sem, nf]; repeat' (first | (rw [guardO_t]; split <;> rename_i h <;> (try rw [Bool.not_eq_true] at h) <;> (try simp only [go_sem, c9_l0_a, nf, *])) | (rw [guardO_f]; split <;> rename_i h <;> (try rw [Bool.not_eq_true] at h) <;> (try simp only [go_sem, c9_l0_a, nf, *])) | (rw [cw_bool]; split <;> rename_i h <;> (try rw [Bool.not_eq_true] at h) <;> (try simp only [go_sem, c9_l0_a, nf, *]))))
    · rename_i c r hd
      rw [hd] at nx
      simp only at nx
      split
      · rename_i e a ht
        rw [ht] at nx
        obtain ⟨T', i', nf, hR⟩ := nx
        refine ⟨T', i', ts, _, fun fin st => ?_, hR, rfl⟩
        (rw [c9_l0_w]; simp only [c9_l0_b, c9_l0_a, go_sem, nf]; repeat' (first | (rw [guardO_t]; split <;> rename_i h <;> (try rw [Bool.not_eq_true] at h) <;> (try simp only [go_sem, c9_l0_a, nf, *])) | (rw [guardO_f]; split <;> rename_i h <;> (try rw [Bool.not_eq_true] at h) <;> (try simp only [go_sem, c9_l0_a, nf, *])) | (rw [cw_bool]; split <;> rename_i h <;> (try rw [Bool.not_eq_true] at h) <;> (try simp only [go_sem, c9_l0_a, nf, *]))))
      · rename_i t j ht
        rw [ht] at nx
        obtain ⟨T1, nf, hR⟩ := nx
        have hr : r.length + 1 = q.size - (i + skipS false (q.data.toList.drop i)) := by rw [← size_data, ← List.length_drop, hd]; rfl
        have mv := tok_move (x := []) app_nil_tail (sz' := q.size) (e := 0) ht (by rw [List.append_nil]; omega)
        have ih := all_gl S q hq n T1 j (ts ++ [t]) hR (by simp; omega) (by omega)
        have ed : (q.data.toList.drop i).drop (j - i) = q.data.toList.drop j := by rw [List.drop_drop]; congr 1; omega
        rw [ed]
        obtain ⟨T', i', ts', err, f, hR', hx⟩ := ih
        refine ⟨T', i', ts', err, fun fin st => ?_, hR', ?_⟩
        · (rw [c9_l0_w]; simp only [c9_l0_b, c9_l0_a, go_sem, nf, f]; repeat' (first | (rw [guardO_t]; split <;> rename_i h <;> (try rw [Bool.not_eq_true] at h) <;> (try simp only [go_sem, c9_l0_a, nf, f, *])) | (rw [guardO_f]; split <;> rename_i h <;> (try rw [Bool.not_eq_true] at h) <;> (try simp only [go_sem, c9_l0_a, nf, f, *])) | (rw [cw_bool]; split <;> rename_i h <;> (try rw [Bool.not_eq_true] at h) <;> (try simp only [go_sem, c9_l0_a, nf, f, *]))))
        · generalize lexG q.size n (q.data.toList.drop j) j = y at *
          cases y with
          | ok us => simpa using hx
          | error e => exact hx
/-- All tokens of a text; or none, and where it is wrong. -/
def allR (q : ByteArray) : Except (Int × Int) (List GToken) := match lexG q.size (q.size + 1) q.data.toList 0 with
  | .ok ts => .ok (ts ++ [⟨0, 0, ⟨#[]⟩, (q.size : Int)⟩])
  | .error e => .error e
def allP : Except (Int × Int) (List GToken) → PV
  | .ok ts => .tup [.sl .ro (ts.map rToken), .nilifc]
  | .error e => .tup [.sl .ro [], plc e.1 e.2]
theorem all_g (q : ByteArray) (hq : q.size ≤ 65536) (S : St) : cal (env ot oz) 9 [.str q] S = some (allP (allR q), S) := by
  have l1 : decide ((65536 : Int) < (q.size : Int)) = false := decide_eq_false (by omega)
  have hR0 : Rd S q ⟨S.obs ++ [rdr q 0 (.sl .null []) .nilifc], S.own⟩ 0 [] .nilifc := ⟨.sl .null [], [], [], by simp, .inl ⟨rfl, rfl⟩⟩
  have L := all_gl (ot := ot) (oz := oz) S q (by omega) (q.size + 1) _ 0 [] hR0 (by simp; omega) (by omega)
  rw [List.drop_zero] at L
  obtain ⟨T', i', ts', err, f, hR, hx⟩ := L
  obtain ⟨out, more, ow, rfl, ho⟩ := hR
  have g : (⟨S.obs ++ rdr q (i' : Int) out err :: more, S.own ++ ow⟩ : St).obs[S.obs.length]? = some (rdr q (i' : Int) out err) := rd_get
  unfold allR
  cases hL : lexG q.size (q.size + 1) q.data.toList 0 with
  | error e =>
    rw [hL] at hx
    simp only at hx
    subst hx
    have cl : close S ⟨S.obs ++ rdr q (i' : Int) out (plc e.1 e.2) :: more, S.own ++ ow⟩ (.tup [.sl .null [], plc e.1 e.2]) = (.tup [.sl .ro [], plc e.1 e.2], S) := by
      rw [close_junk]
      simp [sealW, sealL, sealLL]
    generalize (⟨S.obs ++ rdr q (i' : Int) out (plc e.1 e.2) :: more, S.own ++ ow⟩ : St) = T' at *
    simp only [allP]
    (rw [w_plain (fn := c9) rfl rfl (by simp only [go_sem, l1, f, g, cl]) rfl (by decide)]; simp only [c9, c9_b, go_sem, l1, f, g, cl]; repeat' (first | (rw [guardO_t]; split <;> rename_i h <;> (try rw [Bool.not_eq_true] at h) <;> (try simp only [go_sem, l1, f, g, cl, *])) | (rw [guardO_f]; split <;> rename_i h <;> (try rw [Bool.not_eq_true] at h) <;> (try simp only [go_sem, l1, f, g, cl, *])) | (rw [cw_bool]; split <;> rename_i h <;> (try rw [Bool.not_eq_true] at h) <;> (try simp only [go_sem, l1, f, g, cl, *]))))
  | ok us =>
    rw [hL] at hx
    simp only [List.nil_append] at hx
    obtain ⟨rfl, rfl⟩ := hx
    have hlen : ts'.length ≤ 1000000 := by
      have := lex_order _ _ _ _ hL (by rw [size_data]; omega)
      have k : ∀ (a b : Int) (l : List GToken), InOrder a b l → 0 ≤ a → (l.length : Int) ≤ max 0 (b - a) := by
        intro a b l
        induction l generalizing a with
        | nil => intro _ _; simp; omega
        | cons t l ih =>
          intro hh ha
          have := ih _ hh.2.2 (by have := hh.1; omega)
          have h1 := hh.1; have h2 := hh.2.1
          simp only [List.length_cons]; omega
      have := k _ _ _ this (by omega)
      rw [size_data] at this
      omega
    have sl : ∀ (g1 : Tag) (ow' : List Nat), close S ⟨S.obs ++ rdr q (i' : Int) out .nilifc :: more, S.own ++ ow'⟩ (.tup [.sl g1 (ts'.map rToken ++ [[.int .i64 0, .int .i64 0, .str ⟨#[]⟩, .int .i64 (q.size : Int)]]), .nilifc]) = (allP (.ok (ts' ++ [⟨0, 0, ⟨#[]⟩, (q.size : Int)⟩])), S) := fun g1 ow' => by
      have e : ts'.map rToken ++ [[.int .i64 0, .int .i64 0, .str ⟨#[]⟩, .int .i64 (q.size : Int)]] = (ts' ++ [⟨0, 0, ⟨#[]⟩, (q.size : Int)⟩] : List GToken).map rToken := by simp [rToken]
      have hp : PlainLL ((ts' ++ [⟨0, 0, ⟨#[]⟩, (q.size : Int)⟩] : List GToken).map rToken) := plainLL_map fun x _ => rToken_plain x
      rw [close_junk, e]
      simp only [sealW, sealL, rToken_sll, Option.map_some, Option.bind_some, allP]
    rcases ho with ⟨rfl, rfl⟩ | ⟨hne, j, rfl, hj⟩
    · have ap : ∀ (T' : St) (r : List PV), r.length = 4 → appP T' 53 4 40 .null [] [r] = some (.sl (.own T'.own.length 53) [r], ⟨T'.obs, T'.own ++ [4]⟩) := fun T' r hr => by
        simp [appP, headOk, hr]
      have ap := ap ⟨S.obs ++ rdr q (i' : Int) (.sl .null []) .nilifc :: more, S.own ++ ow⟩ [.int .i64 0, .int .i64 0, .str ⟨#[]⟩, .int .i64 (q.size : Int)] rfl
      have cl := sl (.own (S.own ++ ow).length 53) (ow ++ [4])
      simp only [List.map_nil, List.nil_append, List.append_assoc, List.length_append] at cl ap ⊢
      generalize hT : (⟨S.obs ++ rdr q (i' : Int) (.sl .null []) .nilifc :: more, S.own ++ ow⟩ : St) = T' at *
      (rw [w_plain (fn := c9) rfl rfl (by simp only [go_sem, l1, f, g, ap, cl]) rfl (by decide)]; simp only [c9, c9_b, go_sem, l1, f, g, ap, cl]; repeat' (first | (rw [guardO_t]; split <;> rename_i h <;> (try rw [Bool.not_eq_true] at h) <;> (try simp only [go_sem, l1, f, g, ap, cl, *])) | (rw [guardO_f]; split <;> rename_i h <;> (try rw [Bool.not_eq_true] at h) <;> (try simp only [go_sem, l1, f, g, ap, cl, *])) | (rw [cw_bool]; split <;> rename_i h <;> (try rw [Bool.not_eq_true] at h) <;> (try simp only [go_sem, l1, f, g, ap, cl, *]))))
    · have hk : (S.own ++ ow)[S.own.length + j]? = some (ts'.length * 4) := by rw [List.getElem?_append_right (by omega)]; simpa using hj
      have hh : headOk 4 (ts'.map rToken) = true := by cases ts' <;> simp [headOk, rToken]
      have ap : ∀ (T' : St) (r : List PV), T'.own = S.own ++ ow → r.length = 4 → appP T' 53 4 40 (.own (S.own.length + j) 53) (ts'.map rToken) [r] = some (.sl (.own (S.own.length + j) 53) (ts'.map rToken ++ [r]), ⟨T'.obs, T'.own.set (S.own.length + j) ((ts'.length + 1) * 4)⟩) := fun T' r ht hr => by
        have h1 : ((ts'.map rToken).length + [r].length) * 40 ≤ 140737488355328 ∧ (ts'.map rToken).length + [r].length ≤ 9223372036854775807 ∧ 0 < 4 ∧ headOk 4 (ts'.map rToken) = true ∧ headOk 4 [r] = true := by
          refine ⟨by simp; omega, by simp; omega, by omega, hh, by simp [headOk, hr]⟩
        simp only [appP, List.isEmpty_cons, Bool.false_eq_true, if_false]
        rw [if_pos h1, if_pos (by simp [ht, hk])]
        simp
      have ap := ap ⟨S.obs ++ rdr q (i' : Int) (.sl (.own (S.own.length + j) 53) (ts'.map rToken)) .nilifc :: more, S.own ++ ow⟩ [.int .i64 0, .int .i64 0, .str ⟨#[]⟩, .int .i64 (q.size : Int)] rfl rfl
      have hs : (S.own ++ ow).set (S.own.length + j) ((ts'.length + 1) * 4) = S.own ++ ow.set j ((ts'.length + 1) * 4) := by rw [List.set_append, if_neg (by omega)]; congr 2; omega
      have cl := sl (.own (S.own.length + j) 53) (ow.set j ((ts'.length + 1) * 4))
      simp only [hs] at ap
      generalize ts'.map rToken = R at *
      generalize hT : (⟨S.obs ++ rdr q (i' : Int) (.sl (.own (S.own.length + j) 53) R) .nilifc :: more, S.own ++ ow⟩ : St) = T' at *
      (rw [w_plain (fn := c9) rfl rfl (by simp only [go_sem, l1, f, g, ap, cl]) rfl (by decide)]; simp only [c9, c9_b, go_sem, l1, f, g, ap, cl]; repeat' (first | (rw [guardO_t]; split <;> rename_i h <;> (try rw [Bool.not_eq_true] at h) <;> (try simp only [go_sem, l1, f, g, ap, cl, *])) | (rw [guardO_f]; split <;> rename_i h <;> (try rw [Bool.not_eq_true] at h) <;> (try simp only [go_sem, l1, f, g, ap, cl, *])) | (rw [cw_bool]; split <;> rename_i h <;> (try rw [Bool.not_eq_true] at h) <;> (try simp only [go_sem, l1, f, g, ap, cl, *]))))
end
end Go.PE
