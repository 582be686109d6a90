/-
  The reader, on any text: a quoted text. Conditions: each law's own.
-/
import Derived.Test.YtaofeleeinjclaaGreatDoorLO
namespace Go.PE
open Go Go.RowKit Go.Proofs
set_option linter.unusedVariables false
set_option linter.unusedSimpArgs false
set_option maxRecDepth 100000
section
variable {ot : TypeId} {oz : EP}
theorem outIs_app {n : Nat} {ow ow' : List Nat} {out : PV} {ts : List GToken} (h : OutIs n ow out ts) : OutIs n (ow ++ ow') out ts := by
  rcases h with h | ⟨h1, j, h2, h3⟩
  · exact .inl h
  · exact .inr ⟨h1, j, h2, by rw [List.getElem?_append_left (getElem?_lt h3)]; exact h3⟩
theorem rd_more {S T : St} {q : ByteArray} {i : Nat} {ts : List GToken} {err : PV} (h : Rd S q T i ts err) (os : List Ob) (os' : List Nat) : Rd S q ⟨T.obs ++ os, T.own ++ os'⟩ i ts err := by
  obtain ⟨out, more, ow, rfl, ho⟩ := h
  exact ⟨out, more ++ os, ow ++ os', by simp, outIs_app ho⟩
theorem rd_bt {S T : St} {q : ByteArray} {i : Nat} {ts : List GToken} {err : PV} (h : Rd S q T i ts err) (d : List UInt8) : Rd S q (BT T d) i ts err := by
  cases d with
  | nil => have := rd_more h [.cells 77 [.nilp, .sl .null []]] []; rw [List.append_nil] at this; exact this
  | cons b l => exact rd_more h _ _
theorem rd_bu {S T : St} {q : ByteArray} {i : Nat} {ts : List GToken} {err : PV} (h : Rd S q T i ts err) (d : List UInt8) : Rd S q (BU T d) i ts err := by
  cases d with
  | nil => have := rd_more h [.cells 77 [.nilp, .sl .null []]] []; rw [List.append_nil] at this; exact this
  | cons b l => exact rd_more h _ _
/-- A quoted text, from behind what has been read of it. -/
def textG (fr sz : Nat) : Nat → List UInt8 → List UInt8 → Nat → Tok
  | 0, _, _, _ => .bad 5 sz
  | _ + 1, [], _, _ => .bad 5 sz
  | n + 1, c :: r, d, i => if ((c.toNat : Int) == 34) = true then .ok ⟨2, 0, txt d, fr⟩ (i + 1) else
      let bk : Nat × Nat := if ((c.toNat : Int) == 92) = true then escG (c :: r) else if (c.toNat : Int) < 32 ∨ 126 < (c.toNat : Int) then (c.toNat, 0) else (c.toNat, 1)
      if bk.2 = 0 then .bad 3 i else if 40 < d.length + 1 then .bad 6 fr else textG fr sz n ((c :: r).drop bk.2) (d ++ [UInt8.ofNat bk.1]) (i + bk.2)
theorem escG_lt (l : List UInt8) : (escG l).1 < 256 := by
  unfold escG
  split
  · rename_i c r
    split
    · exact c.toNat_lt
    · split
      · decide
      · split
        · rename_i h
          rcases valL_in r 0 with e | ⟨k, hk, e⟩ <;> rcases valL_in r 1 with e' | ⟨k', hk', e'⟩ <;> rw [e, e'] at h <;> (try omega)
        · decide
  · decide
theorem escG_k (l : List UInt8) : (escG l).2 ≤ 4 := by
  unfold escG
  repeat' split
  all_goals simp
/-- What the loop comes to. -/
def LoopOut (ot : TypeId) (oz : EP) (S : St) (q : ByteArray) (T : St) (ts : List GToken) (fr i : Nat) (d : List UInt8) : Tok → Prop
  | .ok t j => ∃ T', (∀ fin st, run (env ot oz) fin st c60_l0 [(0, some (.ref S.obs.length 0)), (3, some (.int .i64 (fr : Int))), (4, some (.ref T.obs.length 0)), (5, some (.int .i64 (i : Int)))] (BT T d) = aft (env ot oz) fin st .ret [(2, some (.bool true))] T') ∧ Rd S q T' j (ts ++ [t]) .nilifc
  | .bad c p => (∃ T', (∀ fin st, run (env ot oz) fin st c60_l0 [(0, some (.ref S.obs.length 0)), (3, some (.int .i64 (fr : Int))), (4, some (.ref T.obs.length 0)), (5, some (.int .i64 (i : Int)))] (BT T d) = aft (env ot oz) fin st .ret [(2, some (.bool false))] T') ∧ Rd S q T' fr ts (plc c p)) ∨
      (c = 5 ∧ p = (q.size : Int) ∧ ∃ (d' : List UInt8) (i' : Nat), ∀ fin st, run (env ot oz) fin st c60_l0 [(0, some (.ref S.obs.length 0)), (3, some (.int .i64 (fr : Int))), (4, some (.ref T.obs.length 0)), (5, some (.int .i64 (i : Int)))] (BT T d) = aft (env ot oz) fin st (.exit 0) [(0, some (.ref S.obs.length 0)), (3, some (.int .i64 (fr : Int))), (4, some (.ref T.obs.length 0)), (5, some (.int .i64 (i' : Int))), (20, some (.bool false))] (BT T d'))
theorem loop_move {S T : St} {q : ByteArray} {ts : List GToken} {fr i j : Nat} {d d' : List UInt8} {x : Tok}
    (hs : ∀ fin st, run (env ot oz) fin st c60_l0 [(0, some (.ref S.obs.length 0)), (3, some (.int .i64 (fr : Int))), (4, some (.ref T.obs.length 0)), (5, some (.int .i64 (i : Int)))] (BT T d) = run (env ot oz) fin st c60_l0 [(0, some (.ref S.obs.length 0)), (3, some (.int .i64 (fr : Int))), (4, some (.ref T.obs.length 0)), (5, some (.int .i64 (j : Int)))] (BT T d'))
    (h : LoopOut ot oz S q T ts fr j d' x) : LoopOut ot oz S q T ts fr i d x := by
  cases x with
  | ok t k =>
    obtain ⟨T', h1, h2⟩ := h
    exact ⟨T', fun fin st => (hs fin st).trans (h1 fin st), h2⟩
  | bad c p =>
    rcases h with ⟨T', h1, h2⟩ | ⟨h1, h2, d2, i2, h3⟩
    · exact .inl ⟨T', fun fin st => (hs fin st).trans (h1 fin st), h2⟩
    · exact .inr ⟨h1, h2, d2, i2, fun fin st => (hs fin st).trans (h3 fin st)⟩
theorem text_gl (q : ByteArray) (hq : q.size ≤ 100000) (S T : St) (fr : Nat) (ts : List GToken) (hts : ts.length ≤ 1000000) (h : Rd S q T fr ts .nilifc) : ∀ (n : Nat) (rest d : List UInt8) (i : Nat), q.data.toList.drop i = rest → rest.length < n → d.length ≤ 40 → fr ≤ i →
    LoopOut ot oz S q T ts fr i d (textG fr q.size n rest d i)
  | 0, _, _, _, _, hn, _, _ => by omega
  | n + 1, [], d, i, hi, hn, hd, hf => by
    refine .inr ⟨rfl, rfl, d, i, fun fin st => ?_⟩
    have hb := rd_bt h d
    obtain ⟨out, more, ow, e, ho⟩ := hb
    have g : (BT T d).obs[S.obs.length]? = some (rdr q (fr : Int) out .nilifc) := by rw [e]; exact rd_get
    have lt := lt_no (drop_nil hi)
    rw [size_data] at lt
    generalize BT T d = B at *
    (rw [c60_l0_w]; simp only [c60_l0_b, c60_l0_a, c60_r10, go_sem, g, lt]; repeat' (first | (rw [guardO_t]; split <;> rename_i h <;> (try rw [Bool.not_eq_true] at h) <;> (try simp only [go_sem, c60_r10, c60_l0_a, g, lt, *])) | (rw [guardO_f]; split <;> rename_i h <;> (try rw [Bool.not_eq_true] at h) <;> (try simp only [go_sem, c60_r10, c60_l0_a, g, lt, *])) | (rw [cw_bool]; split <;> rename_i h <;> (try rw [Bool.not_eq_true] at h) <;> (try simp only [go_sem, c60_r10, c60_l0_a, g, lt, *]))))
  | n + 1, c :: r, d, i, hi, hn, hd, hf => by
    obtain ⟨h1, h2, h3⟩ := drop_cons hi
    rw [size_data] at h3
    have FP := rd_put (ot := ot) (oz := oz) (rd_bu h d) hts ⟨2, 0, txt d, 0⟩ fr (i + 1)
    have F3 := rd_fail (ot := ot) (oz := oz) (rd_bt h d) 3 i (by decide)
    have F6 := fun b => rd_fail (ot := ot) (oz := oz) (rd_bt h (d ++ [b])) 6 fr (by decide)
    have st := strT (ot := ot) (oz := oz) T d (by omega)
    have wb := fun b => wbT (ot := ot) (oz := oz) T d b (by omega)
    have le := fun b => lenT (ot := ot) (oz := oz) T (d ++ [b])
    have ih := fun (b : UInt8) (k : Nat) (hk : 1 ≤ k) (hd' : d.length + 1 ≤ 40) => text_gl q hq S T fr ts hts h n ((c :: r).drop k) (d ++ [b]) (i + k) (by rw [← hi, List.drop_drop]) (by simp only [List.length_drop, List.length_cons] at hn ⊢; omega) (by simp; omega) (by omega)
    have hB := rd_bt h d
    have hB2 := fun b => rd_bt h (d ++ [b])
    obtain ⟨out, more, ow, e, ho⟩ := hB
    have g : (BT T d).obs[S.obs.length]? = some (rdr q (fr : Int) out .nilifc) := by rw [e]; exact rd_get
    have lt := lt_yes h3
    have b1 : (0 : Int) ≤ (i : Int) ∧ (i : Int) < (q.size : Int) := by omega
    have b2 : (0 : Int) ≤ (i : Int) ∧ (i : Int) ≤ (q.size : Int) := by omega
    have w1 : IntKind.i64.wrap ((i : Int) + 1) = ((i + 1 : Nat) : Int) := by rw [wrap64 (by omega) (by omega)]; omega
    have ex := ext_txt q i
    rw [hi] at ex
    have es := esc_g (ot := ot) (oz := oz) (c :: r) (by
      have := congrArg List.length hi
      rw [List.length_drop, size_data] at this
      omega)
    clear e ho
    generalize hT0 : BT T d = T0 at *
    cases q1 : ((c.toNat : Int) == 34) with
    | true =>
      have et : textG fr q.size (n + 1) (c :: r) d i = .ok ⟨2, 0, txt d, fr⟩ (i + 1) := by simp only [textG, q1, if_true]
      rw [et]
      obtain ⟨T', hp, hr⟩ := FP
      simp only [rToken_eq] at hp
      refine ⟨T', fun fin st' => ?_, hr⟩
      rw [hT0]
      (rw [c60_l0_w]; simp only [c60_l0_b, c60_l0_a, c60_r10, go_sem, g, lt, b1, h1, q1, w1, st, hp, Int.toNat_natCast]; repeat' (first | (rw [guardO_t]; split <;> rename_i h <;> (try rw [Bool.not_eq_true] at h) <;> (try simp only [go_sem, c60_r10, c60_l0_a, g, lt, b1, h1, q1, w1, st, hp, Int.toNat_natCast, *])) | (rw [guardO_f]; split <;> rename_i h <;> (try rw [Bool.not_eq_true] at h) <;> (try simp only [go_sem, c60_r10, c60_l0_a, g, lt, b1, h1, q1, w1, st, hp, Int.toNat_natCast, *])) | (rw [cw_bool]; split <;> rename_i h <;> (try rw [Bool.not_eq_true] at h) <;> (try simp only [go_sem, c60_r10, c60_l0_a, g, lt, b1, h1, q1, w1, st, hp, Int.toNat_natCast, *]))))
    | false =>
      have step : textG fr q.size (n + 1) (c :: r) d i = (let bk : Nat × Nat := if ((c.toNat : Int) == 92) = true then escG (c :: r) else if (c.toNat : Int) < 32 ∨ 126 < (c.toNat : Int) then (c.toNat, 0) else (c.toNat, 1)
        if bk.2 = 0 then .bad 3 i else if 40 < d.length + 1 then .bad 6 fr else textG fr q.size n ((c :: r).drop bk.2) (d ++ [UInt8.ofNat bk.1]) (i + bk.2)) := by rw [textG, q1]; rfl
      rw [step]
      cases q2 : ((c.toNat : Int) == 92) with
      | true =>
        have bl := escG_lt (c :: r)
        have kl := escG_k (c :: r)
        simp only [if_true]
        generalize escG (c :: r) = bk at *
        obtain ⟨bn, k⟩ := bk
        simp only at bl kl es ⊢
        by_cases hk : k = 0
        · subst hk
          rw [if_pos rfl]
          obtain ⟨T', hf', hr⟩ := F3
          refine .inl ⟨T', fun fin st' => ?_, hr⟩
          rw [hT0]
          have es := fun S => (es S : _)
          simp only [Int.cast_ofNat_Int] at es
          (rw [c60_l0_w]; simp only [c60_l0_b, c60_l0_a, c60_r10, go_sem, g, lt, b1, b2, h1, q1, q2, ex, es, hf', Int.toNat_natCast]; repeat' (first | (rw [guardO_t]; split <;> rename_i h <;> (try rw [Bool.not_eq_true] at h) <;> (try simp only [go_sem, c60_r10, c60_l0_a, g, lt, b1, b2, h1, q1, q2, ex, es, hf', Int.toNat_natCast, *])) | (rw [guardO_f]; split <;> rename_i h <;> (try rw [Bool.not_eq_true] at h) <;> (try simp only [go_sem, c60_r10, c60_l0_a, g, lt, b1, b2, h1, q1, q2, ex, es, hf', Int.toNat_natCast, *])) | (rw [cw_bool]; split <;> rename_i h <;> (try rw [Bool.not_eq_true] at h) <;> (try simp only [go_sem, c60_r10, c60_l0_a, g, lt, b1, b2, h1, q1, q2, ex, es, hf', Int.toNat_natCast, *]))))
        · rw [if_neg hk]
          have hbn : ((UInt8.ofNat bn).toNat : Int) = (bn : Int) := by rw [UInt8.toNat_ofNat']; omega
          have kz : ((k : Int) == 0) = false := by simp; omega
          have wk : IntKind.i64.wrap ((i : Int) + (k : Int)) = ((i + k : Nat) : Int) := by rw [wrap64 (by omega) (by omega)]; omega
          have wb := wb (UInt8.ofNat bn)
          have le := le (UInt8.ofNat bn)
          have F6 := F6 (UInt8.ofNat bn)
          have ih := ih (UInt8.ofNat bn) k (by omega)
          have hB2 := hB2 (UInt8.ofNat bn)
          rw [hbn] at wb
          obtain ⟨out2, more2, ow2, e2, _⟩ := hB2
          have g2 : (BT T (d ++ [UInt8.ofNat bn])).obs[S.obs.length]? = some (rdr q (fr : Int) out2 .nilifc) := by rw [e2]; exact rd_get
          clear e2
          by_cases h40 : 40 < d.length + 1
          · rw [if_pos h40]
            have l40 : decide ((40 : Int) < ((d.length + 1 : Nat) : Int)) = true := decide_eq_true (by omega)
            obtain ⟨T', hf', hr⟩ := F6
            refine .inl ⟨T', fun fin st' => ?_, hr⟩
            rw [hT0]
            clear ih
            generalize BT T (d ++ [UInt8.ofNat bn]) = T2 at *
            (rw [c60_l0_w]; simp only [c60_l0_b, c60_l0_a, c60_r10, go_sem, g, lt, b1, b2, h1, q1, q2, ex, es, kz, wb, le, l40, g2, hf', Int.toNat_natCast]; repeat' (first | (rw [guardO_t]; split <;> rename_i h <;> (try rw [Bool.not_eq_true] at h) <;> (try simp only [go_sem, c60_r10, c60_l0_a, g, lt, b1, b2, h1, q1, q2, ex, es, kz, wb, le, l40, g2, hf', Int.toNat_natCast, *])) | (rw [guardO_f]; split <;> rename_i h <;> (try rw [Bool.not_eq_true] at h) <;> (try simp only [go_sem, c60_r10, c60_l0_a, g, lt, b1, b2, h1, q1, q2, ex, es, kz, wb, le, l40, g2, hf', Int.toNat_natCast, *])) | (rw [cw_bool]; split <;> rename_i h <;> (try rw [Bool.not_eq_true] at h) <;> (try simp only [go_sem, c60_r10, c60_l0_a, g, lt, b1, b2, h1, q1, q2, ex, es, kz, wb, le, l40, g2, hf', Int.toNat_natCast, *]))))
          · rw [if_neg h40]
            have l40 : decide ((40 : Int) < ((d.length + 1 : Nat) : Int)) = false := decide_eq_false (by omega)
            refine loop_move (fun fin st' => ?_) (ih (by omega))
            rw [hT0]
            clear ih
            generalize BT T (d ++ [UInt8.ofNat bn]) = T2 at *
            (rw [c60_l0_w]; simp only [c60_l0_b, c60_l0_a, c60_r10, go_sem, g, lt, b1, b2, h1, q1, q2, ex, es, kz, wb, le, l40, g2, wk, Int.toNat_natCast]; repeat' (first | (rw [guardO_t]; split <;> rename_i h <;> (try rw [Bool.not_eq_true] at h) <;> (try simp only [go_sem, c60_r10, c60_l0_a, g, lt, b1, b2, h1, q1, q2, ex, es, kz, wb, le, l40, g2, wk, Int.toNat_natCast, *])) | (rw [guardO_f]; split <;> rename_i h <;> (try rw [Bool.not_eq_true] at h) <;> (try simp only [go_sem, c60_r10, c60_l0_a, g, lt, b1, b2, h1, q1, q2, ex, es, kz, wb, le, l40, g2, wk, Int.toNat_natCast, *])) | (rw [cw_bool]; split <;> rename_i h <;> (try rw [Bool.not_eq_true] at h) <;> (try simp only [go_sem, c60_r10, c60_l0_a, g, lt, b1, b2, h1, q1, q2, ex, es, kz, wb, le, l40, g2, wk, Int.toNat_natCast, *]))))
      | false =>
        simp only [Bool.false_eq_true, if_false]
        by_cases hc : (c.toNat : Int) < 32 ∨ 126 < (c.toNat : Int)
        · rw [if_pos hc]
          obtain ⟨T', hf', hr⟩ := F3
          refine .inl ⟨T', fun fin st' => ?_, hr⟩
          rw [hT0]
          cases q3 : decide ((c.toNat : Int) < 32) with
          | true => (rw [c60_l0_w]; simp only [c60_l0_b, c60_l0_a, c60_r10, go_sem, g, lt, b1, h1, q1, q2, q3, hf', Int.toNat_natCast]; repeat' (first | (rw [guardO_t]; split <;> rename_i h <;> (try rw [Bool.not_eq_true] at h) <;> (try simp only [go_sem, c60_r10, c60_l0_a, g, lt, b1, h1, q1, q2, q3, hf', Int.toNat_natCast, *])) | (rw [guardO_f]; split <;> rename_i h <;> (try rw [Bool.not_eq_true] at h) <;> (try simp only [go_sem, c60_r10, c60_l0_a, g, lt, b1, h1, q1, q2, q3, hf', Int.toNat_natCast, *])) | (rw [cw_bool]; split <;> rename_i h <;> (try rw [Bool.not_eq_true] at h) <;> (try simp only [go_sem, c60_r10, c60_l0_a, g, lt, b1, h1, q1, q2, q3, hf', Int.toNat_natCast, *]))))
          | false =>
            have q4 : decide ((126 : Int) < (c.toNat : Int)) = true := decide_eq_true (by have := of_decide_eq_false q3; omega)
            (rw [c60_l0_w]; simp only [c60_l0_b, c60_l0_a, c60_r10, go_sem, g, lt, b1, h1, q1, q2, q3, q4, hf', Int.toNat_natCast]; repeat' (first | (rw [guardO_t]; split <;> rename_i h <;> (try rw [Bool.not_eq_true] at h) <;> (try simp only [go_sem, c60_r10, c60_l0_a, g, lt, b1, h1, q1, q2, q3, q4, hf', Int.toNat_natCast, *])) | (rw [guardO_f]; split <;> rename_i h <;> (try rw [Bool.not_eq_true] at h) <;> (try simp only [go_sem, c60_r10, c60_l0_a, g, lt, b1, h1, q1, q2, q3, q4, hf', Int.toNat_natCast, *])) | (rw [cw_bool]; split <;> rename_i h <;> (try rw [Bool.not_eq_true] at h) <;> (try simp only [go_sem, c60_r10, c60_l0_a, g, lt, b1, h1, q1, q2, q3, q4, hf', Int.toNat_natCast, *]))))
        · rw [if_neg hc]
          have q3 : decide ((c.toNat : Int) < 32) = false := decide_eq_false (by omega)
          have q4 : decide ((126 : Int) < (c.toNat : Int)) = false := decide_eq_false (by omega)
          have ec : UInt8.ofNat c.toNat = c := by simp
          simp only [Nat.one_ne_zero, if_false, ec]
          have wb := wb c
          have le := le c
          have F6 := F6 c
          have ih := ih c 1 (by omega)
          obtain ⟨out2, more2, ow2, e2, _⟩ := hB2 c
          have g2 : (BT T (d ++ [c])).obs[S.obs.length]? = some (rdr q (fr : Int) out2 .nilifc) := by rw [e2]; exact rd_get
          clear e2
          by_cases h40 : 40 < d.length + 1
          · rw [if_pos h40]
            have l40 : decide ((40 : Int) < ((d.length + 1 : Nat) : Int)) = true := decide_eq_true (by omega)
            obtain ⟨T', hf', hr⟩ := F6
            refine .inl ⟨T', fun fin st' => ?_, hr⟩
            rw [hT0]
            clear ih
            generalize BT T (d ++ [c]) = T2 at *
            (rw [c60_l0_w]; simp only [c60_l0_b, c60_l0_a, c60_r10, go_sem, g, lt, b1, h1, q1, q2, q3, q4, wb, le, l40, g2, hf', Int.toNat_natCast]; repeat' (first | (rw [guardO_t]; split <;> rename_i h <;> (try rw [Bool.not_eq_true] at h) <;> (try simp only [go_sem, c60_r10, c60_l0_a, g, lt, b1, h1, q1, q2, q3, q4, wb, le, l40, g2, hf', Int.toNat_natCast, *])) | (rw [guardO_f]; split <;> rename_i h <;> (try rw [Bool.not_eq_true] at h) <;> (try simp only [go_sem, c60_r10, c60_l0_a, g, lt, b1, h1, q1, q2, q3, q4, wb, le, l40, g2, hf', Int.toNat_natCast, *])) | (rw [cw_bool]; split <;> rename_i h <;> (try rw [Bool.not_eq_true] at h) <;> (try simp only [go_sem, c60_r10, c60_l0_a, g, lt, b1, h1, q1, q2, q3, q4, wb, le, l40, g2, hf', Int.toNat_natCast, *]))))
          · rw [if_neg h40]
            have l40 : decide ((40 : Int) < ((d.length + 1 : Nat) : Int)) = false := decide_eq_false (by omega)
            refine loop_move (fun fin st' => ?_) (ih (by omega))
            rw [hT0]
            clear ih
            generalize BT T (d ++ [c]) = T2 at *
            (rw [c60_l0_w]; simp only [c60_l0_b, c60_l0_a, c60_r10, go_sem, g, lt, b1, h1, q1, q2, q3, q4, wb, le, l40, g2, w1, Int.toNat_natCast]; repeat' (first | (rw [guardO_t]; split <;> rename_i h <;> (try rw [Bool.not_eq_true] at h) <;> (try simp only [go_sem, c60_r10, c60_l0_a, g, lt, b1, h1, q1, q2, q3, q4, wb, le, l40, g2, w1, Int.toNat_natCast, *])) | (rw [guardO_f]; split <;> rename_i h <;> (try rw [Bool.not_eq_true] at h) <;> (try simp only [go_sem, c60_r10, c60_l0_a, g, lt, b1, h1, q1, q2, q3, q4, wb, le, l40, g2, w1, Int.toNat_natCast, *])) | (rw [cw_bool]; split <;> rename_i h <;> (try rw [Bool.not_eq_true] at h) <;> (try simp only [go_sem, c60_r10, c60_l0_a, g, lt, b1, h1, q1, q2, q3, q4, wb, le, l40, g2, w1, Int.toNat_natCast, *]))))
end
end Go.PE
namespace Go.PE
open Go Go.RowKit Go.Proofs
set_option linter.unusedVariables false
set_option linter.unusedSimpArgs false
set_option maxRecDepth 100000
section
variable {ot : TypeId} {oz : EP}
theorem text_g {S T : St} {q : ByteArray} (hq : q.size ≤ 100000) {i : Nat} {ts : List GToken} (h : Rd S q T i ts .nilifc) (hts : ts.length ≤ 1000000) (hi : i < q.size) :
    Gives ot oz S q T ts 60 (textG i q.size (q.size + 1) (q.data.toList.drop (i + 1)) [] (i + 1)) := by
  have L := text_gl (ot := ot) (oz := oz) q hq S T i ts hts h (q.size + 1) (q.data.toList.drop (i + 1)) [] (i + 1) rfl (by rw [List.length_drop, size_data]; omega) (by simp) (by omega)
  have hR := h
  have F5 := fun d => rd_fail (ot := ot) (oz := oz) (rd_bt h d) 5 q.size (by decide)
  have hB := fun d => rd_bt h d
  obtain ⟨out, more, ow, e, ho⟩ := h
  have g : T.obs[S.obs.length]? = some (rdr q (i : Int) out .nilifc) := by rw [e]; exact rd_get
  have b0 : (⟨T.obs ++ [.cells 77 [.nilp, .sl .null []]], T.own⟩ : St) = BT T [] := rfl
  have w1 : IntKind.i64.wrap ((i : Int) + 1) = ((i + 1 : Nat) : Int) := by rw [wrap64 (by omega) (by omega)]; omega
  have gB : ∀ d, ∃ o2, (BT T d).obs[S.obs.length]? = some (rdr q (i : Int) o2 .nilifc) := fun d => by
    obtain ⟨out2, more2, ow2, e2, _⟩ := hB d
    exact ⟨out2, by rw [e2]; exact rd_get⟩
  have gg : (⟨T.obs ++ [.cells 77 [.nilp, .sl .null []]], T.own⟩ : St).obs[S.obs.length]? = some (rdr q (i : Int) out .nilifc) := by
    show (T.obs ++ _)[S.obs.length]? = _
    rw [List.getElem?_append_left (getElem?_lt g)]; exact g
  clear e ho
  cases hx : textG i q.size (q.size + 1) (q.data.toList.drop (i + 1)) [] (i + 1) with
  | ok t j =>
    rw [hx] at L
    obtain ⟨T', f, hr⟩ := L
    have cl : close T T' (.bool true) = (.bool true, T') := by
      obtain ⟨out1, more1, ow1, rfl, ho1⟩ := hR
      obtain ⟨out', more', ow', rfl, ho'⟩ := hr
      refine closeT _ _ S.obs.length _ _ rd_get rd_get ?_ _
      intro e
      have e : rdr q (j : Int) out' .nilifc = rdr q (i : Int) out1 .nilifc := e
      simp only [rdr, Ob.cells.injEq, List.cons.injEq, PV.int.injEq, true_and, and_true] at e
      have eo := e.2
      subst eo
      rcases ho1 with ⟨h1, h2⟩ | ⟨h1, a, h2, h3⟩ <;> rcases ho' with ⟨h1', h2'⟩ | ⟨h1', a', h2', h3'⟩
      · simp at h1'
      · rw [h2] at h2'; cases h2'
      · simp at h1'
      · rw [h2] at h2'
        injection h2' with _ h2'
        have := congrArg List.length h2'
        simp at this
    refine ⟨T', ?_, hr⟩
    generalize BT T [] = T0 at *
    (rw [w_plain (fn := c60) rfl rfl (by simp only [go_sem, g, b0, w1, f, cl]) rfl (by decide)]; simp only [c60, c60_b, c60_r10, go_sem, g, b0, w1, f, cl]; repeat' (first | (rw [guardO_t]; split <;> rename_i h <;> (try rw [Bool.not_eq_true] at h) <;> (try simp only [go_sem, c60_r10, g, b0, w1, f, cl, *])) | (rw [guardO_f]; split <;> rename_i h <;> (try rw [Bool.not_eq_true] at h) <;> (try simp only [go_sem, c60_r10, g, b0, w1, f, cl, *])) | (rw [cw_bool]; split <;> rename_i h <;> (try rw [Bool.not_eq_true] at h) <;> (try simp only [go_sem, c60_r10, g, b0, w1, f, cl, *]))))
  | bad c p =>
    rw [hx] at L
    rcases L with ⟨T', f, hr⟩ | ⟨rfl, rfl, d', i', f⟩
    · have cl : close T T' (.bool false) = (.bool false, T') := by
        obtain ⟨out1, more1, ow1, rfl, ho1⟩ := hR
        obtain ⟨out', more', ow', rfl, ho'⟩ := hr
        refine closeT _ _ S.obs.length _ _ rd_get rd_get ?_ _
        intro e
        simp at e
      refine ⟨T', i, ?_, hr⟩
      generalize BT T [] = T0 at *
      (rw [w_plain (fn := c60) rfl rfl (by simp only [go_sem, g, b0, w1, f, cl]) rfl (by decide)]; simp only [c60, c60_b, c60_r10, go_sem, g, b0, w1, f, cl]; repeat' (first | (rw [guardO_t]; split <;> rename_i h <;> (try rw [Bool.not_eq_true] at h) <;> (try simp only [go_sem, c60_r10, g, b0, w1, f, cl, *])) | (rw [guardO_f]; split <;> rename_i h <;> (try rw [Bool.not_eq_true] at h) <;> (try simp only [go_sem, c60_r10, g, b0, w1, f, cl, *])) | (rw [cw_bool]; split <;> rename_i h <;> (try rw [Bool.not_eq_true] at h) <;> (try simp only [go_sem, c60_r10, g, b0, w1, f, cl, *]))))
    · obtain ⟨T', hf, hr⟩ := F5 d'
      obtain ⟨o2, g2⟩ := gB d'
      have cl : close T T' (.bool false) = (.bool false, T') := rd_close hR hr (.inr (by simp)) _
      refine ⟨T', i, ?_, hr⟩
      generalize hh : BT T [] = T0 at *
      generalize BT T d' = T2 at *
      (rw [w_plain (fn := c60) rfl rfl (by simp only [go_sem, g, b0, w1, f, g2, hf, cl]) rfl (by decide)]; simp only [c60, c60_b, c60_r10, go_sem, g, b0, w1, f, g2, hf, cl]; repeat' (first | (rw [guardO_t]; split <;> rename_i h <;> (try rw [Bool.not_eq_true] at h) <;> (try simp only [go_sem, c60_r10, g, b0, w1, f, g2, hf, cl, *])) | (rw [guardO_f]; split <;> rename_i h <;> (try rw [Bool.not_eq_true] at h) <;> (try simp only [go_sem, c60_r10, g, b0, w1, f, g2, hf, cl, *])) | (rw [cw_bool]; split <;> rename_i h <;> (try rw [Bool.not_eq_true] at h) <;> (try simp only [go_sem, c60_r10, g, b0, w1, f, g2, hf, cl, *]))))
theorem pass_g {S T : St} {q : ByteArray} (hq : q.size ≤ 100000) {i : Nat} {ts : List GToken} {err : PV} (h : Rd S q T i ts err) :
    ∃ T', cal (env ot oz) 55 [.ref S.obs.length 0] T = some (.un, T') ∧ Rd S q T' (i + skipF (q.size + 1) (q.data.toList.drop i)) ts err ∧ (skipF (q.size + 1) (q.data.toList.drop i) = 0 → T' = T) := by
  have hR := h
  obtain ⟨out, more, ow, rfl, ho⟩ := h
  obtain ⟨fr, f⟩ := pass_gl (ot := ot) (oz := oz) q hq S out err more (S.own ++ ow) (q.size + 1) (q.data.toList.drop i) i rfl (by rw [List.length_drop, size_data]; omega)
  have hR' : Rd S q (TT S q out err more (S.own ++ ow) (i + skipF (q.size + 1) (q.data.toList.drop i))) (i + skipF (q.size + 1) (q.data.toList.drop i)) ts err := ⟨out, more, ow, rfl, ho⟩
  have e0 : (⟨S.obs ++ rdr q (i : Int) out err :: more, S.own ++ ow⟩ : St) = TT S q out err more (S.own ++ ow) i := rfl
  rw [e0] at hR ⊢
  have cl : close (TT S q out err more (S.own ++ ow) i) (TT S q out err more (S.own ++ ow) (i + skipF (q.size + 1) (q.data.toList.drop i))) .un = (.un, TT S q out err more (S.own ++ ow) (i + skipF (q.size + 1) (q.data.toList.drop i))) := by
    rcases Nat.eq_zero_or_pos (skipF (q.size + 1) (q.data.toList.drop i)) with e | e
    · rw [e, Nat.add_zero, close_same]; rfl
    · exact rd_close hR hR' (.inl (by omega)) _
  refine ⟨_, ?_, hR', fun h0 => by rw [h0]; rfl⟩
  generalize TT S q out err more (S.own ++ ow) (i + skipF (q.size + 1) (q.data.toList.drop i)) = T' at *
  generalize TT S q out err more (S.own ++ ow) i = T at *
  (rw [w_plain (fn := c55) rfl rfl (by simp only [go_sem, f, cl]) rfl (by decide)]; simp only [c55, c55_b, go_sem, f, cl]; repeat' (first | (rw [guardO_t]; split <;> rename_i h <;> (try rw [Bool.not_eq_true] at h) <;> (try simp only [go_sem, f, cl, *])) | (rw [guardO_f]; split <;> rename_i h <;> (try rw [Bool.not_eq_true] at h) <;> (try simp only [go_sem, f, cl, *])) | (rw [cw_bool]; split <;> rename_i h <;> (try rw [Bool.not_eq_true] at h) <;> (try simp only [go_sem, f, cl, *]))))
end
end Go.PE
namespace Go.PE
open Go Go.RowKit Go.Proofs
set_option linter.unusedVariables false
set_option linter.unusedSimpArgs false
set_option maxRecDepth 100000
/-- How many bytes part tokens, told without fuel: within a comment, or not. -/
def skipS : Bool → List UInt8 → Nat
  | _, [] => 0
  | false, c :: r => if blankB c then 1 + skipS false r else if ((c.toNat : Int) == 59) = true then 1 + skipS true r else 0
  | true, c :: r => if ((c.toNat : Int) != 10) = true then 1 + skipS true r else 1 + skipS false r
theorem blank10 {c : UInt8} (h : ((c.toNat : Int) != 10) = false) : blankB c = true := by
  have : c = 10 := by
    have h : (c.toNat : Int) = 10 := by simpa using h
    have h : c.toNat = 10 := by omega
    exact UInt8.toNat_inj.1 (by rw [h]; rfl)
  subst this; decide
theorem skipS_true : ∀ r : List UInt8, skipS true r = whileN (fun c => (c.toNat : Int) != 10) r + skipS false (r.drop (whileN (fun c => (c.toNat : Int) != 10) r))
  | [] => rfl
  | c :: r => by
    cases h : ((c.toNat : Int) != 10) with
    | true =>
      have e : whileN (fun c : UInt8 => (c.toNat : Int) != 10) (c :: r) = 1 + whileN (fun c : UInt8 => (c.toNat : Int) != 10) r := by simp [whileN, h]; omega
      rw [e]
      have ih := skipS_true r
      have d : (c :: r).drop (1 + whileN (fun c : UInt8 => (c.toNat : Int) != 10) r) = r.drop (whileN (fun c : UInt8 => (c.toNat : Int) != 10) r) := by rw [Nat.add_comm]; rfl
      rw [d, skipS, if_pos h, ih]; omega
    | false =>
      have e : whileN (fun c : UInt8 => (c.toNat : Int) != 10) (c :: r) = 0 := by simp [whileN, h]
      rw [e, List.drop_zero, skipS, skipS, h, blank10 h]; simp
theorem skipF_S : ∀ (n : Nat) (l : List UInt8), l.length < n → skipF n l = skipS false l
  | 0, _, h => by omega
  | n + 1, [], h => rfl
  | n + 1, c :: r, h => by
    simp only [List.length_cons] at h
    rw [skipF, skipS]
    split
    · rw [skipF_S n r (by omega)]
    · rename_i hb
      split
      · rename_i h5
        have h1 : ((c.toNat : Int) != 10) = true := by
          have : (c.toNat : Int) = 59 := by simpa using h5
          rw [this]; decide
        have e : whileN (fun c : UInt8 => (c.toNat : Int) != 10) (c :: r) = 1 + whileN (fun c : UInt8 => (c.toNat : Int) != 10) r := by simp [whileN, h1]; omega
        have d : (c :: r).drop (1 + whileN (fun c : UInt8 => (c.toNat : Int) != 10) r) = r.drop (whileN (fun c : UInt8 => (c.toNat : Int) != 10) r) := by rw [Nat.add_comm]; rfl
        rw [e, d, skipF_S n _ (by simp only [List.length_drop]; omega), skipS_true r]; omega
      · rfl
theorem skipS_le : ∀ (b : Bool) (l : List UInt8), skipS b l ≤ l.length
  | b, [] => by cases b <;> simp [skipS]
  | false, c :: r => by
    have h1 := skipS_le false r; have h2 := skipS_le true r
    simp only [skipS, List.length_cons]; split <;> (try split) <;> omega
  | true, c :: r => by
    have h1 := skipS_le false r; have h2 := skipS_le true r
    simp only [skipS, List.length_cons]; split <;> omega
theorem skipS_app (t : List UInt8) : ∀ (b : Bool) (l : List UInt8), skipS b (l ++ 10 :: t) = if skipS b l = l.length then l.length + 1 + skipS false t else skipS b l
  | false, [] => by
    have : blankB 10 = true := by decide
    simp [skipS, this]
  | true, [] => by
    have e : (((10 : UInt8).toNat : Int) != 10) = false := by decide
    simp only [List.nil_append, skipS, e, Bool.false_eq_true, if_false, List.length_nil, if_true]
  | false, c :: r => by
    have h1 := skipS_app t false r; have h2 := skipS_app t true r
    simp only [List.cons_append, skipS, List.length_cons]
    split
    · rw [h1]; split <;> split <;> omega
    · split
      · rw [h2]; split <;> split <;> omega
      · rw [if_neg (by omega)]
  | true, c :: r => by
    have h1 := skipS_app t false r; have h2 := skipS_app t true r
    simp only [List.cons_append, skipS, List.length_cons]
    split
    · rw [h2]; split <;> split <;> omega
    · rw [h1]; split <;> split <;> omega
/-- One token. -/
def tokG (sz : Nat) (c : UInt8) (r : List UInt8) (p : Nat) : Tok :=
  if digC c = true then numF c (r.takeWhile digC) p else if letC c = true then wordF ((c :: r).takeWhile wordC) p else
    if ((c.toNat : Int) == 34) = true then textG p sz (sz + 1) r [] (p + 1) else signF c r p
/-- All tokens, or where an error is. -/
def lexG (sz : Nat) : Nat → List UInt8 → Nat → Except (Int × Int) (List GToken)
  | 0, _, _ => .error (0, 0)
  | n + 1, l, p => match l.drop (skipS false l) with
    | [] => .ok []
    | c :: r => match tokG sz c r (p + skipS false l) with
      | .bad e a => .error (e, a)
      | .ok t j => match lexG sz n (l.drop (j - p)) j with
        | .ok ts => .ok (t :: ts)
        | .error e => .error e
def mvT (e : Nat) (t : GToken) : GToken := { t with At := t.At + e }
theorem tokEq {K N : Int} {S : ByteArray} {a e j j' : Nat} {b : Nat} (h1 : b = a + e) (h2 : j' = j + e) : Tok.ok ⟨K, N, S, (b : Int)⟩ j' = Tok.ok (mvT e ⟨K, N, S, (a : Int)⟩) (j + e) := by
  subst h1 h2; simp [mvT]
/-- Nothing behind; or a line feed. -/
def Tail (x : List UInt8) : Prop := x = [] ∨ ∃ t, x = 10 :: t
theorem tw_app (p : UInt8 → Bool) (hp : p 10 = false) {x : List UInt8} (hx : Tail x) : ∀ r : List UInt8, (r ++ x).takeWhile p = r.takeWhile p
  | [] => by
    rcases hx with rfl | ⟨t, rfl⟩
    · rfl
    · simp [hp]
  | c :: r => by
    have ih := tw_app p hp hx r
    simp only [List.cons_append, List.takeWhile_cons, ih]
theorem tw_len (p : UInt8 → Bool) (r : List UInt8) : (r.takeWhile p).length ≤ r.length := by
  have := congrArg List.length (List.takeWhile_append_dropWhile (p := p) (l := r))
  rw [List.length_append] at this; omega
theorem esc_app {l : List UInt8} (h : (escG l).2 ≠ 0) (x : List UInt8) : escG (l ++ x) = escG l ∧ (escG l).2 ≤ l.length ∧ 1 ≤ (escG l).2 := by
  match l with
  | [] => exact absurd rfl h
  | [a] => exact absurd rfl h
  | a :: c :: r =>
    simp only [List.cons_append, escG] at h ⊢
    split
    · exact ⟨rfl, by simp, by simp⟩
    · rename_i n1
      rw [if_neg n1] at h
      split
      · exact ⟨rfl, by simp, by simp⟩
      · rename_i n2
        rw [if_neg n2] at h
        split at h
        · rename_i hh
          rw [if_pos hh]
          obtain ⟨h1, h2, h3⟩ := hh
          match r, h2, h3 with
          | [], h2, _ => simp [valL] at h2
          | [_], _, h3 => simp [valL] at h3
          | u :: v :: r', h2, h3 =>
            have e0 : valL ((u :: v :: r') ++ x) 0 = valL (u :: v :: r') 0 := rfl
            have e1 : valL ((u :: v :: r') ++ x) 1 = valL (u :: v :: r') 1 := rfl
            rw [e0, e1, if_pos ⟨h1, h2, h3⟩]
            exact ⟨rfl, by simp, by simp⟩
        · exact absurd rfl h
theorem text_move {x : List UInt8} {fr sz sz' e : Nat} : ∀ (n m : Nat) (l d : List UInt8) (i : Nat) (t : GToken) (j : Nat), textG fr sz n l d i = .ok t j → (l ++ x).length < m → 
    textG (fr + e) sz' m (l ++ x) d (i + e) = .ok (mvT e t) (j + e) ∧ i < j ∧ j ≤ i + l.length ∧ t.At = fr
  | 0, _, _, _, _, _, _, h, _ => by simp [textG] at h
  | n + 1, _, [], _, _, _, _, h, _ => by simp [textG] at h
  | n + 1, 0, _ :: _, _, _, _, _, _, hm => by omega
  | n + 1, m + 1, c :: r, d, i, t, j, h, hm => by
    rw [textG] at h
    rw [List.cons_append, textG]
    split at h
    · rename_i q1
      rw [if_pos q1]
      injection h with h1 h2; subst h1 h2
      refine ⟨?_, by omega, by simp only [List.length_cons]; omega, rfl⟩
      exact tokEq (by omega) (by omega)
    · rename_i q1
      rw [if_neg q1]
      simp only at h ⊢
      have eb : (if ((c.toNat : Int) == 92) = true then escG (c :: r) else if (c.toNat : Int) < 32 ∨ 126 < (c.toNat : Int) then (c.toNat, 0) else (c.toNat, 1)).2 ≠ 0 →
          (if ((c.toNat : Int) == 92) = true then escG (c :: (r ++ x)) else if (c.toNat : Int) < 32 ∨ 126 < (c.toNat : Int) then (c.toNat, 0) else (c.toNat, 1)) =
            (if ((c.toNat : Int) == 92) = true then escG (c :: r) else if (c.toNat : Int) < 32 ∨ 126 < (c.toNat : Int) then (c.toNat, 0) else (c.toNat, 1)) ∧
          (if ((c.toNat : Int) == 92) = true then escG (c :: r) else if (c.toNat : Int) < 32 ∨ 126 < (c.toNat : Int) then (c.toNat, 0) else (c.toNat, 1)).2 ≤ (c :: r).length ∧
          1 ≤ (if ((c.toNat : Int) == 92) = true then escG (c :: r) else if (c.toNat : Int) < 32 ∨ 126 < (c.toNat : Int) then (c.toNat, 0) else (c.toNat, 1)).2 := by
        intro hb
        split at hb
        · rename_i q2
          simp only [q2, if_true]
          exact esc_app hb x
        · rename_i q2
          rw [if_neg q2, if_neg q2]
          refine ⟨rfl, ?_, by omega⟩
          split <;> simp
      generalize (if ((c.toNat : Int) == 92) = true then escG (c :: r) else if (c.toNat : Int) < 32 ∨ 126 < (c.toNat : Int) then (c.toNat, 0) else (c.toNat, 1)) = bk at *
      split at h
      · cases h
      · rename_i hb
        obtain ⟨e1, e2, e3⟩ := eb hb
        rw [e1, if_neg hb]
        split at h
        · cases h
        · rename_i h40
          rw [if_neg h40]
          have ed : (c :: (r ++ x)).drop bk.2 = (c :: r).drop bk.2 ++ x := by rw [← List.cons_append, List.drop_append_of_le_length e2]
          have ih := text_move (x := x) (e := e) (sz' := sz') n m ((c :: r).drop bk.2) (d ++ [UInt8.ofNat bk.1]) (i + bk.2) t j h (by
            simp only [List.length_append, List.length_cons, List.length_drop] at hm ⊢; omega)
          rw [ed]
          have e4 : i + e + bk.2 = i + bk.2 + e := by omega
          rw [e4]
          refine ⟨ih.1, by omega, ?_, ih.2.2.2⟩
          have := ih.2.2.1
          simp only [List.length_drop] at this
          simp only [List.length_cons] at this e2 ⊢
          omega
theorem pair10 (c : UInt8) : pairB (txt [c, 10]) = false := by
  unfold pairB strEq txt
  simp
theorem word_ne {c : UInt8} (h : letC c = true) (r : List UInt8) : (c :: r).takeWhile wordC = c :: r.takeWhile wordC := by
  have : wordC c = true := by unfold wordC; rw [h]; rfl
  simp [this]
theorem tok_move {x : List UInt8} (hx : Tail x) {sz sz' e : Nat} {c : UInt8} {r : List UInt8} {p : Nat} {t : GToken} {j : Nat} (h : tokG sz c r p = .ok t j) (hs : (r ++ x).length ≤ sz') :
    tokG sz' c (r ++ x) (p + e) = .ok (mvT e t) (j + e) ∧ p < j ∧ j ≤ p + 1 + r.length ∧ t.At = p := by
  unfold tokG at h ⊢
  split at h
  · rename_i q1
    rw [if_pos q1, tw_app digC (by decide) hx]
    have := tw_len digC r
    generalize r.takeWhile digC = w at *
    unfold numF at h ⊢
    split at h
    · cases h
    · rename_i q2
      rw [if_neg q2]
      split at h
      · rename_i v hv
        injection h with h1 h2; subst h1 h2
        refine ⟨?_, by omega, by omega, rfl⟩
        exact tokEq (by omega) (by omega)
      · cases h
  · rename_i q1
    rw [if_neg q1]
    split at h
    · rename_i q2
      have ew := tw_app wordC (by decide) hx (c :: r)
      rw [List.cons_append] at ew
      rw [if_pos q2, ew]
      have l1 := tw_len wordC (c :: r)
      have l2 : 0 < ((c :: r).takeWhile wordC).length := by rw [word_ne q2]; simp
      rw [List.length_cons] at l1
      generalize (c :: r).takeWhile wordC = w at *
      unfold wordF at h ⊢
      split at h
      · cases h
      · rename_i q3
        rw [if_neg q3]
        split at h
        · cases h
        · rename_i q4
          rw [if_neg q4]
          injection h with h1 h2; subst h1 h2
          refine ⟨?_, by omega, by omega, rfl⟩
          exact tokEq (by omega) (by omega)
    · rename_i q2
      rw [if_neg q2]
      split at h
      · rename_i q3
        rw [if_pos q3]
        have := text_move (x := x) (e := e) (sz' := sz') (sz + 1) (sz' + 1) r [] (p + 1) t j h (by omega)
        have e4 : p + e + 1 = p + 1 + e := by omega
        rw [e4]
        exact ⟨this.1, by omega, by omega, this.2.2.2⟩
      · rename_i q3
        rw [if_neg q3]
        unfold signF at h ⊢
        have key : (1 ≤ (r ++ x).length ∧ pairB (txt ((c :: (r ++ x)).take 2)) = true) ↔ (1 ≤ r.length ∧ pairB (txt ((c :: r).take 2)) = true) := by
          cases r with
          | nil =>
            rcases hx with rfl | ⟨t', rfl⟩
            · simp
            · simp [pair10]
          | cons b r => simp
        have kt : 1 ≤ r.length → (c :: (r ++ x)).take 2 = (c :: r).take 2 := fun hr => by
          cases r with
          | nil => simp at hr
          | cons b r => simp
        split at h
        · rename_i q4
          rw [if_pos (key.2 q4), kt q4.1]
          injection h with h1 h2; subst h1 h2
          refine ⟨?_, by omega, by omega, rfl⟩
          exact tokEq (by omega) (by omega)
        · rename_i q4
          rw [if_neg (fun hh => q4 (key.1 hh))]
          split at h
          · rename_i q5
            rw [if_pos q5]
            injection h with h1 h2; subst h1 h2
            refine ⟨?_, by omega, by omega, rfl⟩
            exact tokEq (by omega) (by omega)
          · cases h
theorem app_nil_tail : Tail [] := .inl rfl
/-- What is read hangs on the text alone; places move with it. -/
theorem lex_move {sz : Nat} : ∀ (n : Nat) (l : List UInt8) (p : Nat) (ts : List GToken), lexG sz n l p = .ok ts → ∀ (sz' m e : Nat), l.length ≤ sz' → l.length < m → lexG sz' m l (p + e) = .ok (ts.map (mvT e))
  | 0, _, _, _, h, _, _, _, _, _ => by cases h
  | n + 1, l, p, ts, h, sz', 0, e, _, hm => by omega
  | n + 1, l, p, ts, h, sz', m + 1, e, hs, hm => by
    rw [lexG] at h ⊢
    have hle := skipS_le false l
    generalize skipS false l = k at *
    split at h
    · rename_i hd
      injection h with h; subst h
      rfl
    · rename_i c r hd
      have hlen : r.length + 1 = l.length - k := by rw [← List.length_drop, hd]; rfl
      split at h
      · cases h
      · rename_i t j ht
        have mv := tok_move (x := []) app_nil_tail (sz' := sz') (e := e) ht (by rw [List.append_nil]; omega)
        rw [List.append_nil] at mv
        have e1 : p + e + k = p + k + e := by omega
        simp only [e1, mv.1]
        split at h
        · rename_i ts' hr
          injection h with h; subst h
          have ih := lex_move n _ _ ts' hr sz' m e (by rw [List.length_drop]; omega) (by rw [List.length_drop]; omega)
          have e2 : j + e - (p + e) = j - p := by omega
          rw [e2, ih]; rfl
        · cases h
/-- A text behind another one, a line feed between. -/
theorem lex_app {sz : Nat} (t' : List UInt8) : ∀ (n : Nat) (l : List UInt8) (p : Nat) (ts us : List GToken), lexG sz n l p = .ok ts → ∀ (sz' m : Nat), (l ++ 10 :: t').length ≤ sz' → (l ++ 10 :: t').length < m →
    (∀ m', t'.length < m' → lexG sz' m' t' (p + l.length + 1) = .ok us) → lexG sz' m (l ++ 10 :: t') p = .ok (ts ++ us)
  | 0, _, _, _, _, h, _, _, _, _, _ => by cases h
  | n + 1, l, p, ts, us, h, sz', 0, _, hm, _ => by omega
  | n + 1, l, p, ts, us, h, sz', m + 1, hs, hm, hu => by
    rw [lexG] at h
    have hle := skipS_le false l
    have ha := skipS_app t' false l
    split at h
    · rename_i hd
      injection h with h; subst h
      have hk : skipS false l = l.length := by have := List.drop_eq_nil_iff.1 hd; omega
      rw [if_pos hk] at ha
      have h2 := hu (m + 1) (by simp at hm; omega)
      rw [List.nil_append, ← h2, lexG, lexG, ha]
      have e1 : (l ++ 10 :: t').drop (l.length + 1 + skipS false t') = t'.drop (skipS false t') := by
        rw [List.drop_append, List.drop_eq_nil_of_le (by omega), List.nil_append]
        have : l.length + 1 + skipS false t' - l.length = skipS false t' + 1 := by omega
        rw [this]; rfl
      have e2 : p + (l.length + 1 + skipS false t') = p + l.length + 1 + skipS false t' := by omega
      rw [e1, e2]
      split
      · rfl
      · rename_i c r hd2
        have hl2 : r.length + 1 = t'.length - skipS false t' := by rw [← List.length_drop, hd2]; rfl
        cases ht : tokG sz' c r (p + l.length + 1 + skipS false t') with
        | bad a b => rfl
        | ok t j =>
          have mv := tok_move (x := []) app_nil_tail (sz' := sz') (e := 0) ht (by simp at hs ⊢; omega)
          have e3 : (l ++ 10 :: t').drop (j - p) = t'.drop (j - (p + l.length + 1)) := by
            rw [List.drop_append, List.drop_eq_nil_of_le (by omega), List.nil_append]
            have : j - p - l.length = (j - (p + l.length + 1)) + 1 := by omega
            rw [this]; rfl
          simp only [e3]
    · rename_i c r hd
      have hlen : r.length + 1 = l.length - skipS false l := by rw [← List.length_drop, hd]; rfl
      rw [if_neg (by omega)] at ha
      have e1 : (l ++ 10 :: t').drop (skipS false l) = c :: (r ++ 10 :: t') := by rw [List.drop_append_of_le_length hle, hd]; rfl
      rw [lexG, ha, e1]
      simp only
      split at h
      · cases h
      · rename_i t j ht
        have mv := tok_move (x := 10 :: t') (.inr ⟨t', rfl⟩) (sz' := sz') (e := 0) ht (by simp at hs ⊢; omega)
        have em : mvT 0 t = t := by simp [mvT]
        rw [em] at mv
        simp only [Nat.add_zero] at mv
        rw [mv.1]
        simp only
        split at h
        · rename_i ts' hr
          injection h with h; subst h
          have e2 : (l ++ 10 :: t').drop (j - p) = l.drop (j - p) ++ 10 :: t' := List.drop_append_of_le_length (by omega)
          have ih := lex_app t' n _ _ ts' us hr sz' m (by simp only [List.length_append, List.length_drop, List.length_cons] at hs ⊢; omega) (by simp only [List.length_append, List.length_drop, List.length_cons] at hm ⊢; omega) (by
            intro m' hm'
            have e3 : j + (l.drop (j - p)).length + 1 = p + l.length + 1 := by rw [List.length_drop]; omega
            rw [e3]; exact hu m' hm')
          rw [e2, ih]; rfl
        · cases h
/-- Tokens stand in order, within the text. -/
def InOrder : Int → Int → List GToken → Prop
  | _, _, [] => True
  | a, b, t :: ts => a ≤ t.At ∧ t.At < b ∧ InOrder (t.At + 1) b ts
theorem inOrder_le {a a' b : Int} (h : a' ≤ a) : ∀ {ts : List GToken}, InOrder a b ts → InOrder a' b ts
  | [], _ => trivial
  | t :: ts, hh => ⟨by have := hh.1; omega, hh.2.1, hh.2.2⟩
theorem lex_order {sz : Nat} : ∀ (n : Nat) (l : List UInt8) (p : Nat) (ts : List GToken), lexG sz n l p = .ok ts → l.length ≤ sz → InOrder (p : Int) ((p + l.length : Nat) : Int) ts
  | 0, _, _, _, h, _ => by cases h
  | n + 1, l, p, ts, h, hs => by
    rw [lexG] at h
    have hle := skipS_le false l
    generalize skipS false l = k at *
    split at h
    · injection h with h; subst h; trivial
    · rename_i c r hd
      have hlen : r.length + 1 = l.length - k := by rw [← List.length_drop, hd]; rfl
      split at h
      · cases h
      · rename_i t j ht
        have mv := tok_move (x := []) app_nil_tail (sz' := sz) (e := 0) ht (by rw [List.append_nil]; omega)
        split at h
        · rename_i ts' hr
          injection h with h; subst h
          have ih := lex_order n _ _ ts' hr (by rw [List.length_drop]; omega)
          have e : j + (l.drop (j - p)).length = p + l.length := by rw [List.length_drop]; omega
          rw [e] at ih
          refine ⟨by rw [mv.2.2.2]; omega, by rw [mv.2.2.2]; omega, inOrder_le (by rw [mv.2.2.2]; omega) ih⟩
        · cases h
end Go.PE
