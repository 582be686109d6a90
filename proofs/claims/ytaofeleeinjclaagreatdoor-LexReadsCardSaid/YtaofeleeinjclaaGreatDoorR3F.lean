/-
  Any text's tokens: the law LexReads. Conditions: each law's own.
-/
import Derived.Test.YtaofeleeinjclaaGreatDoorR3A
import Derived.Test.YtaofeleeinjclaaGreatDoorR3Q
namespace Go.PE
open Go Go.RowKit Go.Proofs
set_option linter.unusedVariables false
set_option linter.unusedSimpArgs false
set_option maxRecDepth 100000
theorem textG_ne {fr sz : Nat} : ∀ (n : Nat) (l d : List UInt8) (i : Nat) (e a : Int), textG fr sz n l d i = .bad e a → e ≠ 0
  | 0, _, _, _, e, a, h => by simp only [textG, Tok.bad.injEq] at h; omega
  | n + 1, [], _, _, e, a, h => by simp only [textG, Tok.bad.injEq] at h; omega
  | n + 1, c :: r, d, i, e, a, h => by
    rw [textG] at h
    split at h
    · cases h
    · replace h : (let bk : Nat × Nat := if ((c.toNat : Int) == 92) = true then escG (c :: r) else if (c.toNat : Int) < 32 ∨ 126 < (c.toNat : Int) then (c.toNat, 0) else (c.toNat, 1)
        if bk.2 = 0 then Tok.bad 3 i else if 40 < d.length + 1 then .bad 6 fr else textG fr sz n ((c :: r).drop bk.2) (d ++ [UInt8.ofNat bk.1]) (i + bk.2)) = .bad e a := h
      generalize (if ((c.toNat : Int) == 92) = true then escG (c :: r) else if (c.toNat : Int) < 32 ∨ 126 < (c.toNat : Int) then (c.toNat, 0) else (c.toNat, 1)) = bk at h
      by_cases h1 : bk.2 = 0
      · simp only [h1, if_true, Tok.bad.injEq] at h; omega
      · simp only [h1, if_false] at h
        by_cases h2 : 40 < d.length + 1
        · simp only [h2, if_true, Tok.bad.injEq] at h; omega
        · simp only [h2, if_false] at h
          exact textG_ne n _ _ _ e a h
theorem tok_ne {sz : Nat} {c : UInt8} {r : List UInt8} {p : Nat} {e a : Int} (h : tokG sz c r p = .bad e a) : e ≠ 0 := by
  unfold tokG at h
  split at h
  · unfold numF at h
    split at h
    · simp only [Tok.bad.injEq] at h; omega
    · split at h
      · cases h
      · simp only [Tok.bad.injEq] at h; omega
  · split at h
    · unfold wordF at h
      split at h
      · simp only [Tok.bad.injEq] at h; omega
      · split at h
        · simp only [Tok.bad.injEq] at h; omega
        · cases h
    · split at h
      · exact textG_ne _ _ _ _ e a h
      · unfold signF at h
        split at h
        · cases h
        · split at h
          · cases h
          · simp only [Tok.bad.injEq] at h; omega
theorem lex_ne {sz : Nat} : ∀ (n : Nat) (l : List UInt8) (p : Nat) (e : Int × Int), l.length < n → lexG sz n l p = .error e → e.1 ≠ 0
  | 0, _, _, _, hn, _ => by omega
  | n + 1, l, p, e, hn, h => by
    rw [lexG] at h
    split at h
    · cases h
    · rename_i c r hd
      have hlen : r.length + 1 = l.length - skipS false l := by rw [← List.length_drop, hd]; rfl
      split at h
      · rename_i e' a ht
        injection h with h; subst h
        exact tok_ne ht
      · rename_i t j ht
        have mv := tok_move (x := []) app_nil_tail (sz' := (r ++ []).length) (e := 0) ht (Nat.le_refl _)
        split at h
        · cases h
        · rename_i e' hr
          injection h with h; subst h
          exact lex_ne n _ j _ (by rw [List.length_drop]; omega) hr
section
variable {ot : TypeId} {oz : EP}
/-- What the loop comes to. -/
def All3 (ot : TypeId) (oz : EP) (S T : St) (q : ByteArray) (i : Nat) (out : PV) (ts : List GToken) : Except (Int × Int) (List GToken) → Prop
  | .ok us => ∃ T' out', Rd3 S T' out' (ts ++ us) ∧ ∀ fin st, run (env ot oz) fin st c10_l0 [(0, some (.str q)), (5, some out), (6, some (.int .i64 (i : Int)))] T = aft (env ot oz) fin st (.exit 0) [(0, some (.str q)), (5, some out'), (6, some (.int .i64 (q.size : Int))), (14, some (.bool false))] T'
  | .error e => ∃ T' os ow, T' = ⟨S.obs ++ os, S.own ++ ow⟩ ∧ ∀ fin st, run (env ot oz) fin st c10_l0 [(0, some (.str q)), (5, some out), (6, some (.int .i64 (i : Int)))] T = aft (env ot oz) fin st .ret [(2, some (.sl .null [])), (3, some (.int .i64 e.1)), (4, some (.int .i64 e.2))] T'
theorem all3_move {S T T2 : St} {q : ByteArray} {i j : Nat} {out out2 : PV} {ts : List GToken} {x : Except (Int × Int) (List GToken)}
    (hs : ∀ fin st, run (env ot oz) fin st c10_l0 [(0, some (.str q)), (5, some out), (6, some (.int .i64 (i : Int)))] T = run (env ot oz) fin st c10_l0 [(0, some (.str q)), (5, some out2), (6, some (.int .i64 (j : Int)))] T2)
    (h : All3 ot oz S T2 q j out2 ts x) : All3 ot oz S T q i out ts x := by
  cases x with
  | ok us =>
    obtain ⟨T', out', h1, h2⟩ := h
    exact ⟨T', out', h1, fun fin st => (hs fin st).trans (h2 fin st)⟩
  | error e =>
    obtain ⟨T', os, ow, h1, h2⟩ := h
    exact ⟨T', os, ow, h1, fun fin st => (hs fin st).trans (h2 fin st)⟩
theorem all3_gl (S : St) (q : ByteArray) (hq : q.size ≤ 100000) : ∀ (n : Nat) (l : List UInt8) (i : Nat) (T : St) (out : PV) (ts : List GToken), q.data.toList.drop i = l → l.length < n → i ≤ q.size → Rd3 S T out ts → ts.length + l.length ≤ 1000000 → All3 ot oz S T q i out ts (lexW q.size l i)
  | 0, _, _, _, _, _, _, hn, _, _, _ => by omega
  | n + 1, [], i, T, out, ts, hi, hn, hz, hR, hb => by
    have lt := lt_no (drop_nil hi)
    rw [size_data] at lt
    have ei : (i : Int) = (q.size : Int) := by have := of_decide_eq_false lt; omega
    rw [lexW_nil]
    refine ⟨T, out, by rw [List.append_nil]; exact hR, fun fin st => ?_⟩
    rw [ei] at lt ⊢
    (rw [c10_l0_w]; simp only [c10_l0_b, c10_l0_a, go_sem, lt]; repeat' (first | (rw [guardO_t]; split <;> rename_i h <;> (try rw [Bool.not_eq_true] at h) <;> (try simp only [go_sem, c10_l0_a, lt, *])) | (rw [guardO_f]; split <;> rename_i h <;> (try rw [Bool.not_eq_true] at h) <;> (try simp only [go_sem, c10_l0_a, lt, *])) | (rw [cw_bool]; split <;> rename_i h <;> (try rw [Bool.not_eq_true] at h) <;> (try simp only [go_sem, c10_l0_a, lt, *]))))
  | n + 1, c :: r, i, T, out, ts, hi, hn, hz, hR, hb => by
    obtain ⟨h1, h2, h3⟩ := drop_cons hi
    rw [size_data] at h3
    have lt := lt_yes h3
    have nx := next3 (ot := ot) (oz := oz) q hq i c r hi
    simp only [List.length_cons] at hn hb
    have hrl : i + 1 + r.length = q.size := by
      have := congrArg List.length hi
      rw [List.length_drop, size_data] at this
      simp at this; omega
    unfold nextP at nx
    cases q1 : blankB c with
    | true =>
      rw [q1, if_pos rfl] at nx
      rw [lexW_blank i (by omega) q1]
      have ih := all3_gl S q hq n r (i + 1) ⟨T.obs ++ [.cells 67 (gotC 0 0 ⟨#[]⟩ 0 true ((i + 1 : Nat) : Int) 0 0)], T.own⟩ out ts h2 (by omega) (by omega) (rd3_more hR _) (by omega)
      refine all3_move (fun fin st => ?_) ih
      (rw [c10_l0_w]; simp only [c10_l0_b, c10_l0_a, go_sem, lt, nx]; repeat' (first | (rw [guardO_t]; split <;> rename_i h <;> (try rw [Bool.not_eq_true] at h) <;> (try simp only [go_sem, c10_l0_a, lt, nx, *])) | (rw [guardO_f]; split <;> rename_i h <;> (try rw [Bool.not_eq_true] at h) <;> (try simp only [go_sem, c10_l0_a, lt, nx, *])) | (rw [cw_bool]; split <;> rename_i h <;> (try rw [Bool.not_eq_true] at h) <;> (try simp only [go_sem, c10_l0_a, lt, nx, *]))))
    | false =>
    rw [q1, if_neg (by simp)] at nx
    cases q2 : ((c.toNat : Int) == 59) with
    | true =>
      rw [if_pos q2] at nx
      rw [lexW_note i (by omega) q1 q2]
      have hw : whileN (fun c : UInt8 => (c.toNat : Int) != 10) (c :: r) ≤ (c :: r).length := tw_len _ _
      have m0 : 1 ≤ whileN (fun c : UInt8 => (c.toNat : Int) != 10) (c :: r) := by
        have : (c.toNat : Int) = 59 := by simpa using q2
        have : ((c.toNat : Int) != 10) = true := by rw [this]; decide
        simp [whileN, this]
      generalize whileN (fun c : UInt8 => (c.toNat : Int) != 10) (c :: r) = m at *
      simp only [List.length_cons] at hw
      have ih := all3_gl S q hq n ((c :: r).drop m) (i + m) ⟨T.obs ++ [.cells 67 (gotC 0 0 ⟨#[]⟩ 0 true ((i + m : Nat) : Int) 0 0)], T.own⟩ out ts (by rw [← hi, List.drop_drop]) (by rw [List.length_drop, List.length_cons]; omega) (by omega) (rd3_more hR _) (by rw [List.length_drop, List.length_cons]; omega)
      refine all3_move (fun fin st => ?_) ih
      (rw [c10_l0_w]; simp only [c10_l0_b, c10_l0_a, go_sem, lt, nx]; repeat' (first | (rw [guardO_t]; split <;> rename_i h <;> (try rw [Bool.not_eq_true] at h) <;> (try simp only [go_sem, c10_l0_a, lt, nx, *])) | (rw [guardO_f]; split <;> rename_i h <;> (try rw [Bool.not_eq_true] at h) <;> (try simp only [go_sem, c10_l0_a, lt, nx, *])) | (rw [cw_bool]; split <;> rename_i h <;> (try rw [Bool.not_eq_true] at h) <;> (try simp only [go_sem, c10_l0_a, lt, nx, *]))))
    | false =>
    rw [if_neg (by simp [q2])] at nx
    rw [lexW_tok i (by omega) q1 q2]
    cases ht : tokG q.size c r i with
    | bad e a =>
      rw [ht] at nx
      have he := tok_ne ht
      have ne : (e != 0) = true := by simpa [bne] using he
      obtain ⟨os, ow, rfl, _⟩ := hR
      simp only [gotP] at nx
      refine ⟨⟨S.obs ++ os ++ [.cells 67 (gotC 0 0 ⟨#[]⟩ 0 false 0 e a)], S.own ++ ow⟩, os ++ [.cells 67 (gotC 0 0 ⟨#[]⟩ 0 false 0 e a)], ow, by simp, fun fin st => ?_⟩
      generalize S.obs ++ os = X at *
      generalize S.own ++ ow = Y at *
      (rw [c10_l0_w]; simp only [c10_l0_b, c10_l0_a, go_sem, lt, nx, ne]; repeat' (first | (rw [guardO_t]; split <;> rename_i h <;> (try rw [Bool.not_eq_true] at h) <;> (try simp only [go_sem, c10_l0_a, lt, nx, ne, *])) | (rw [guardO_f]; split <;> rename_i h <;> (try rw [Bool.not_eq_true] at h) <;> (try simp only [go_sem, c10_l0_a, lt, nx, ne, *])) | (rw [cw_bool]; split <;> rename_i h <;> (try rw [Bool.not_eq_true] at h) <;> (try simp only [go_sem, c10_l0_a, lt, nx, ne, *]))))
    | ok t j =>
      rw [ht] at nx
      have mv := tok_move (x := []) app_nil_tail (sz' := q.size) (e := 0) ht (by rw [List.append_nil]; omega)
      have hAt := mv.2.2.2
      obtain ⟨g, rows, g', rows', T', rfl, ap, hR', er, eo⟩ := rd3_app hR (by omega) t [.cells 67 (gotC t.K t.N t.S t.At false (j : Int) 0 0)]
      have ih := all3_gl S q hq n ((c :: r).drop (j - i)) j T' (.sl g' rows') (ts ++ [t]) (by rw [← hi, List.drop_drop]; congr 1; omega) (by rw [List.length_drop, List.length_cons]; omega) (by omega) hR' (by rw [List.length_drop, List.length_cons, List.length_append]; simp; omega)
      simp only [gotP] at nx
      simp only [rToken_eq] at ap
      have gg : ∀ f : List Ob → Option Ob, f T'.obs = f (T.obs ++ [.cells 67 (gotC t.K t.N t.S t.At false (j : Int) 0 0)]) := fun f => by rw [eo]
      have g1 : T'.obs[T.obs.length]? = some (.cells 67 (gotC t.K t.N t.S t.At false (j : Int) 0 0)) := by rw [eo]; simp
      have key : All3 ot oz S T q i (.sl g rows) (ts ++ [t]) (lexW q.size ((c :: r).drop (j - i)) j) := by
        refine all3_move (fun fin st => ?_) ih
        clear ih gg eo er hR'
        (rw [c10_l0_w]; simp only [c10_l0_b, c10_l0_a, go_sem, lt, nx, ap, g1]; repeat' (first | (rw [guardO_t]; split <;> rename_i h <;> (try rw [Bool.not_eq_true] at h) <;> (try simp only [go_sem, c10_l0_a, lt, nx, ap, g1, *])) | (rw [guardO_f]; split <;> rename_i h <;> (try rw [Bool.not_eq_true] at h) <;> (try simp only [go_sem, c10_l0_a, lt, nx, ap, g1, *])) | (rw [cw_bool]; split <;> rename_i h <;> (try rw [Bool.not_eq_true] at h) <;> (try simp only [go_sem, c10_l0_a, lt, nx, ap, g1, *]))))
      cases hL : lexW q.size ((c :: r).drop (j - i)) j with
      | ok us =>
        rw [hL] at key
        obtain ⟨T2, out2, k1, k2⟩ := key
        simp only [hL]
        show All3 ot oz S T q i (.sl g rows) ts (.ok (t :: us))
        exact ⟨T2, out2, by simpa using k1, k2⟩
      | error e =>
        rw [hL] at key
        simp only [hL]
        show All3 ot oz S T q i (.sl g rows) ts (.error e)
        exact key
def all3P : Except (Int × Int) (List GToken) → PV
  | .ok ts => .tup [.sl .ro (ts.map rToken), .int .i64 0, .int .i64 0]
  | .error e => .tup [.sl .ro [], .int .i64 e.1, .int .i64 e.2]
theorem all3 (q : ByteArray) (hq : q.size ≤ 65536) (S : St) : cal (env ot oz) 10 [.str q] S = some (all3P (allR q), S) := by
  have l1 : decide ((65536 : Int) < (q.size : Int)) = false := decide_eq_false (by omega)
  have hR0 : Rd3 S S (.sl .null []) [] := ⟨[], [], by simp, .inl ⟨rfl, rfl⟩⟩
  have L := all3_gl (ot := ot) (oz := oz) S q (by omega) (q.size + 1) q.data.toList 0 S (.sl .null []) [] rfl (by rw [size_data]; omega) (by omega) hR0 (by rw [size_data]; simp; omega)
  unfold allR
  have e : lexG q.size (q.size + 1) q.data.toList 0 = lexW q.size q.data.toList 0 := by unfold lexW; rw [size_data]
  rw [e]
  cases hL : lexW q.size q.data.toList 0 with
  | error e =>
    rw [hL] at L
    obtain ⟨T', os, ow, rfl, f⟩ := L
    have cl : close S ⟨S.obs ++ os, S.own ++ ow⟩ (.tup [.sl .null [], .int .i64 e.1, .int .i64 e.2]) = (.tup [.sl .ro [], .int .i64 e.1, .int .i64 e.2], S) := by
      rw [close_junk]
      simp [sealW, sealL, sealLL]
    generalize (⟨S.obs ++ os, S.own ++ ow⟩ : St) = T' at *
    simp only [all3P, Int.cast_ofNat_Int] at f ⊢
    (rw [w_plain (fn := c10) rfl rfl (by simp only [go_sem, l1, f, cl]) rfl (by decide)]; simp only [c10, c10_b, go_sem, l1, f, cl]; repeat' (first | (rw [guardO_t]; split <;> rename_i h <;> (try rw [Bool.not_eq_true] at h) <;> (try simp only [go_sem, l1, f, cl, *])) | (rw [guardO_f]; split <;> rename_i h <;> (try rw [Bool.not_eq_true] at h) <;> (try simp only [go_sem, l1, f, cl, *])) | (rw [cw_bool]; split <;> rename_i h <;> (try rw [Bool.not_eq_true] at h) <;> (try simp only [go_sem, l1, f, cl, *]))))
  | ok us =>
    rw [hL] at L
    obtain ⟨T', out', hR, f⟩ := L
    rw [List.nil_append] at hR
    have hlen : us.length ≤ 1000000 := by
      unfold lexW at hL
      have := lex_order _ _ _ _ hL (by rw [size_data]; omega)
      have k : ∀ (a b : Int) (l : List GToken), InOrder a b l → 0 ≤ a → (l.length : Int) ≤ max 0 (b - a) := by
        intro a b l
        induction l generalizing a with
        | nil => intro _ _; simp; omega
        | cons t l ih =>
          intro hh ha
          have := ih _ hh.2.2 (by have := hh.1; omega)
          have h1 := hh.1; have h2 := hh.2.1
          simp only [List.length_cons]; omega
      have := k _ _ _ this (by omega)
      rw [size_data] at this
      omega
    obtain ⟨g, rows, g', rows', T2, rfl, ap, hR2, rfl, eo⟩ := rd3_app hR hlen ⟨0, 0, ⟨#[]⟩, (q.size : Int)⟩ []
    obtain ⟨os, ow, rfl, _⟩ := hR2
    have cl : close S ⟨S.obs ++ os, S.own ++ ow⟩ (.tup [.sl g' ((us ++ [⟨0, 0, ⟨#[]⟩, (q.size : Int)⟩] : List GToken).map rToken), .int .i64 0, .int .i64 0]) = (.tup [.sl .ro ((us ++ [⟨0, 0, ⟨#[]⟩, (q.size : Int)⟩] : List GToken).map rToken), .int .i64 0, .int .i64 0], S) := by
      rw [close_junk]
      simp only [sealW, sealL, rToken_sll, Option.map_some, Option.bind_some]
    have ap : appP T' 53 4 40 g rows [rToken ⟨0, 0, ⟨#[]⟩, (q.size : Int)⟩] = some (.sl g' ((us ++ [⟨0, 0, ⟨#[]⟩, (q.size : Int)⟩] : List GToken).map rToken), ⟨S.obs ++ os, S.own ++ ow⟩) := by rw [List.append_nil] at ap; exact ap
    simp only [all3P, Int.cast_ofNat_Int] at f ⊢
    simp only [rToken_eq] at ap
    generalize (us ++ [⟨0, 0, ⟨#[]⟩, (q.size : Int)⟩] : List GToken).map rToken = R at *
    generalize (⟨S.obs ++ os, S.own ++ ow⟩ : St) = T2 at *
    (rw [w_plain (fn := c10) rfl rfl (by simp only [go_sem, l1, f, ap, cl]) rfl (by decide)]; simp only [c10, c10_b, go_sem, l1, f, ap, cl]; repeat' (first | (rw [guardO_t]; split <;> rename_i h <;> (try rw [Bool.not_eq_true] at h) <;> (try simp only [go_sem, l1, f, ap, cl, *])) | (rw [guardO_f]; split <;> rename_i h <;> (try rw [Bool.not_eq_true] at h) <;> (try simp only [go_sem, l1, f, ap, cl, *])) | (rw [cw_bool]; split <;> rename_i h <;> (try rw [Bool.not_eq_true] at h) <;> (try simp only [go_sem, l1, f, ap, cl, *]))))
theorem same3_l0 (l : List GToken) (hl : l.length ≤ 1000000) (S : St) (fin : Kont (PV × St)) (st : List Fw) : ∀ (n i : Nat), i + n = l.length →
    run (env ot oz) fin st c13_l0 [(0, some (.sl .ro (l.map rToken))), (1, some (.sl .ro (l.map rToken))), (5, some (.int .i64 (i : Int)))] S =
      aft (env ot oz) fin st (.exit 0) [(0, some (.sl .ro (l.map rToken))), (1, some (.sl .ro (l.map rToken))), (5, some (.int .i64 (l.length : Int))), (20, some (.bool false))] S
  | 0, i, hi => by
    have lt : decide ((i : Int) < (l.length : Int)) = false := decide_eq_false (by omega)
    have e : i = l.length := by omega
    subst e
    (rw [c13_l0_w]; simp only [c13_l0_b, c13_l0_a, c13_r4, go_sem, lt]; repeat' (first | (rw [guardO_t]; split <;> rename_i h <;> (try rw [Bool.not_eq_true] at h) <;> (try simp only [go_sem, c13_r4, c13_l0_a, lt, *])) | (rw [guardO_f]; split <;> rename_i h <;> (try rw [Bool.not_eq_true] at h) <;> (try simp only [go_sem, c13_r4, c13_l0_a, lt, *])) | (rw [cw_bool]; split <;> rename_i h <;> (try rw [Bool.not_eq_true] at h) <;> (try simp only [go_sem, c13_r4, c13_l0_a, lt, *]))))
  | n + 1, i, hi => by
    have lt : decide ((i : Int) < (l.length : Int)) = true := decide_eq_true (by omega)
    have hx : l[i]? = some l[i] := List.getElem?_eq_getElem (by omega)
    generalize l[i] = x at *
    have ih := same3_l0 l hl S fin st n (i + 1) (by omega)
    have w1 : IntKind.i64.wrap ((i : Int) + 1) = ((i + 1 : Nat) : Int) := by rw [wrap64 (by omega) (by omega)]; omega
    have b1 : (0 : Int) ≤ (i : Int) ∧ (i : Int) < (l.length : Int) := by omega
    (rw [c13_l0_w]; simp only [c13_l0_b, c13_l0_a, c13_r4, go_sem, lt, hx, b1, w1, ih, Int.toNat_natCast, rToken_eq]; repeat' (first | (rw [guardO_t]; split <;> rename_i h <;> (try rw [Bool.not_eq_true] at h) <;> (try simp only [go_sem, c13_r4, c13_l0_a, lt, hx, b1, w1, ih, Int.toNat_natCast, rToken_eq, *])) | (rw [guardO_f]; split <;> rename_i h <;> (try rw [Bool.not_eq_true] at h) <;> (try simp only [go_sem, c13_r4, c13_l0_a, lt, hx, b1, w1, ih, Int.toNat_natCast, rToken_eq, *])) | (rw [cw_bool]; split <;> rename_i h <;> (try rw [Bool.not_eq_true] at h) <;> (try simp only [go_sem, c13_r4, c13_l0_a, lt, hx, b1, w1, ih, Int.toNat_natCast, rToken_eq, *]))))
theorem same3 (l : List GToken) (hl : l.length ≤ 1000000) (S : St) : cal (env ot oz) 13 [.sl .ro (l.map rToken), .sl .ro (l.map rToken)] S = some (.bool true, S) := by
  have f := fun fin st => same3_l0 (ot := ot) (oz := oz) l hl S fin st l.length 0 (by omega)
  have n0 : ((l.length : Int) != (l.length : Int)) = false := by simp
  simp only [Int.cast_ofNat_Int] at f
  (rw [w_plain (fn := c13) rfl rfl (by simp only [go_sem, n0, f]) rfl (by decide)]; simp only [c13, c13_b, c13_r4, go_sem, n0, f]; repeat' (first | (rw [guardO_t]; split <;> rename_i h <;> (try rw [Bool.not_eq_true] at h) <;> (try simp only [go_sem, c13_r4, n0, f, *])) | (rw [guardO_f]; split <;> rename_i h <;> (try rw [Bool.not_eq_true] at h) <;> (try simp only [go_sem, c13_r4, n0, f, *])) | (rw [cw_bool]; split <;> rename_i h <;> (try rw [Bool.not_eq_true] at h) <;> (try simp only [go_sem, c13_r4, n0, f, *]))))
theorem lexReads (s : ByteArray) (ok : Short s.size) : Ev (env ot oz) 3 [.str s] .none (.bool true) .none := by
  refine cal_ev ?_
  have aw := aw03 (ot := ot) (oz := oz)
  cases l1 : decide ((3000 : Int) < (s.size : Int)) with
  | true => (rw [w_plain (fn := c3) rfl rfl (by simp only [go_sem, l1, aw]) rfl (by decide)]; simp only [c3, c3_b, c3_r5, c3_r7, go_sem, l1, aw]; repeat' (first | (rw [guardO_t]; split <;> rename_i h <;> (try rw [Bool.not_eq_true] at h) <;> (try simp only [go_sem, c3_r5, c3_r7, l1, aw, *])) | (rw [guardO_f]; split <;> rename_i h <;> (try rw [Bool.not_eq_true] at h) <;> (try simp only [go_sem, c3_r5, c3_r7, l1, aw, *])) | (rw [cw_bool]; split <;> rename_i h <;> (try rw [Bool.not_eq_true] at h) <;> (try simp only [go_sem, c3_r5, c3_r7, l1, aw, *]))))
  | false =>
  have hs : s.size ≤ 3000 := by have := of_decide_eq_false l1; omega
  have a1 := all_g (ot := ot) (oz := oz) s (by omega)
  have a2 := all3 (ot := ot) (oz := oz) s (by omega)
  have q1 := fun S => cal_ans (quote_ok (ot := ot) (oz := oz) s (by omega)) (S := S)
  have q2 := fun S => cal_ans (quote2_ok (ot := ot) (oz := oz) s (by omega)) (S := S)
  have e : strEq (quoteS s) (quoteS s) = true := strEq_iff.2 rfl
  have hne : ∀ x, allR s = .error x → x.1 ≠ 0 := fun x hx => by
    unfold allR at hx
    cases hL : lexG s.size (s.size + 1) s.data.toList 0 with
    | ok ts => rw [hL] at hx; cases hx
    | error y => rw [hL] at hx; injection hx with hx; subst hx; exact lex_ne _ _ _ _ (by rw [size_data]; omega) hL
  have hlen : ∀ ts, allR s = .ok ts → ts.length ≤ 1000000 := fun ts hx => by
    unfold allR at hx
    cases hL : lexG s.size (s.size + 1) s.data.toList 0 with
    | error y => rw [hL] at hx; cases hx
    | ok us =>
      rw [hL] at hx; injection hx with hx; subst hx
      have := lex_order _ _ _ _ hL (by rw [size_data]; omega)
      have k : ∀ (a b : Int) (l : List GToken), InOrder a b l → 0 ≤ a → (l.length : Int) ≤ max 0 (b - a) := by
        intro a b l
        induction l generalizing a with
        | nil => intro _ _; simp; omega
        | cons t l ih =>
          intro hh ha
          have := ih _ hh.2.2 (by have := hh.1; omega)
          have h1 := hh.1; have h2 := hh.2.1
          simp only [List.length_cons]; omega
      have := k _ _ _ this (by omega)
      rw [size_data] at this
      simp; omega
  cases hx : allR s with
  | error x =>
    rw [hx] at a1 a2
    have hne := hne x hx
    obtain ⟨c, p⟩ := x
    simp only [allP, all3P] at a1 a2 hne
    have c0 : (c == 0) = false := by simpa using hne
    have f1 := fcode (ot := ot) (oz := oz) c p
    have f2 := fat (ot := ot) (oz := oz) c p
    have sm := same3 (ot := ot) (oz := oz) [] (by simp)
    simp only [List.map_nil] at sm
    (rw [w_plain (fn := c3) rfl rfl (by simp only [go_sem, l1, a1, a2, c0, f1, f2, sm, q1, q2, e, aw]) rfl (by decide)]; simp only [c3, c3_b, c3_r5, c3_r7, go_sem, l1, a1, a2, c0, f1, f2, sm, q1, q2, e, aw]; repeat' (first | (rw [guardO_t]; split <;> rename_i h <;> (try rw [Bool.not_eq_true] at h) <;> (try simp only [go_sem, c3_r5, c3_r7, l1, a1, a2, c0, f1, f2, sm, q1, q2, e, aw, *])) | (rw [guardO_f]; split <;> rename_i h <;> (try rw [Bool.not_eq_true] at h) <;> (try simp only [go_sem, c3_r5, c3_r7, l1, a1, a2, c0, f1, f2, sm, q1, q2, e, aw, *])) | (rw [cw_bool]; split <;> rename_i h <;> (try rw [Bool.not_eq_true] at h) <;> (try simp only [go_sem, c3_r5, c3_r7, l1, a1, a2, c0, f1, f2, sm, q1, q2, e, aw, *]))))
  | ok ts =>
    rw [hx] at a1 a2
    simp only [allP, all3P] at a1 a2
    have sm := same3 (ot := ot) (oz := oz) ts (hlen ts hx)
    (rw [w_plain (fn := c3) rfl rfl (by simp only [go_sem, l1, a1, a2, sm, q1, q2, e, aw]) rfl (by decide)]; simp only [c3, c3_b, c3_r5, c3_r7, go_sem, l1, a1, a2, sm, q1, q2, e, aw]; repeat' (first | (rw [guardO_t]; split <;> rename_i h <;> (try rw [Bool.not_eq_true] at h) <;> (try simp only [go_sem, c3_r5, c3_r7, l1, a1, a2, sm, q1, q2, e, aw, *])) | (rw [guardO_f]; split <;> rename_i h <;> (try rw [Bool.not_eq_true] at h) <;> (try simp only [go_sem, c3_r5, c3_r7, l1, a1, a2, sm, q1, q2, e, aw, *])) | (rw [cw_bool]; split <;> rename_i h <;> (try rw [Bool.not_eq_true] at h) <;> (try simp only [go_sem, c3_r5, c3_r7, l1, a1, a2, sm, q1, q2, e, aw, *]))))
end
end Go.PE
