/-
  The reader, on any text: its state, and its small methods. Conditions: each law's own.
-/
import Derived.Test.YtaofeleeinjclaaGreatDoorLQ
namespace Go.PE
open Go Go.RowKit Go.Proofs
set_option linter.unusedVariables false
set_option linter.unusedSimpArgs false
set_option maxRecDepth 100000
section
variable {ot : TypeId} {oz : EP}
/-- What has been read so far: no slice yet; or an own one. -/
def OutIs (n : Nat) (ow : List Nat) (out : PV) (ts : List GToken) : Prop :=
  (ts = [] ∧ out = .sl .null []) ∨ (ts ≠ [] ∧ ∃ j, out = .sl (.own (n + j) 53) (ts.map rToken) ∧ ow[j]? = some (ts.length * 4))
/-- A reader's state, behind what was there when the call began. -/
def Rd (S : St) (q : ByteArray) (T : St) (i : Nat) (ts : List GToken) (err : PV) : Prop :=
  ∃ out more ow, T = ⟨S.obs ++ rdr q (i : Int) out err :: more, S.own ++ ow⟩ ∧ OutIs S.own.length ow out ts
theorem rd_get {S : St} {R : Ob} {more : List Ob} : (S.obs ++ R :: more)[S.obs.length]? = some R := by simp
theorem rd_set {S : St} {R R' : Ob} {more : List Ob} : (S.obs ++ R :: more).set S.obs.length R' = S.obs ++ R' :: more := by rw [List.set_append, if_neg (by omega)]; simp
theorem rd_fail {S T : St} {q : ByteArray} {i : Nat} {ts : List GToken} (h : Rd S q T i ts .nilifc) (c p : Int) (hc : c ≠ 0) :
    ∃ T', cal (env ot oz) 94 [.ref S.obs.length 0, .int .i64 c, .int .i64 p] T = some (.bool false, T') ∧ Rd S q T' i ts (plc c p) := by
  obtain ⟨out, more, ow, rfl, ho⟩ := h
  refine ⟨_, fail_ok (ot := ot) (oz := oz) ⟨S.obs ++ rdr q (i : Int) out .nilifc :: more, S.own ++ ow⟩ q i out S.obs.length c p hc rd_get, out, more, ow, ?_, ho⟩
  rw [rd_set]
theorem put_gen (T : St) (q : ByteArray) (a : Int) (l : Nat) (K N0 : Int) (s : ByteArray) (A fr to : Int) (ow' : List Nat) (g0 g1 : Tag) (rows rows' : List (List PV)) (h : T.obs[l]? = some (rdr q a (.sl g0 rows) .nilifc))
    (ap : appP ⟨T.obs ++ [Ob.cells 53 [.int .i64 K, .int .i64 N0, .str s, .int .i64 fr]], T.own⟩ 53 4 40 g0 rows [[.int .i64 K, .int .i64 N0, .str s, .int .i64 fr]] = some (.sl g1 rows', ⟨T.obs ++ [Ob.cells 53 [.int .i64 K, .int .i64 N0, .str s, .int .i64 fr]], ow'⟩))
    (hne : rdr q to (.sl g1 rows') .nilifc ≠ rdr q a (.sl g0 rows) .nilifc) :
    cal (env ot oz) 96 [.ref l 0, .agg [.int .i64 K, .int .i64 N0, .str s, .int .i64 A], .int .i64 fr, .int .i64 to] T =
      some (.bool true, ⟨(T.obs ++ [Ob.cells 53 [.int .i64 K, .int .i64 N0, .str s, .int .i64 fr]]).set l (rdr q to (.sl g1 rows') .nilifc), ow'⟩) := by
  have hl := getElem?_lt h
  have g : ∀ o, (T.obs ++ [Ob.cells 53 o])[l]? = some (rdr q a (.sl g0 rows) .nilifc) := fun o => by rw [List.getElem?_append_left hl]; exact h
  have g2 : ∀ o, (T.obs ++ [Ob.cells 53 o])[T.obs.length]? = some (.cells 53 o) := fun o => by simp
  have g4 : ∀ o o', (T.obs ++ [Ob.cells 53 o]).set T.obs.length o' = T.obs ++ [o'] := fun o o' => by rw [List.set_append, if_neg (by omega)]; simp
  have g3 : ∀ o, ((T.obs ++ [Ob.cells 53 [.int .i64 K, .int .i64 N0, .str s, .int .i64 fr]]).set l o)[l]? = some o := fun o => by rw [List.getElem?_set_self (by simp; omega)]
  have cl := obs_set_ne T l _ (rdr q to (.sl g1 rows') .nilifc) ow' [Ob.cells 53 [.int .i64 K, .int .i64 N0, .str s, .int .i64 fr]] h hne (.bool true)
  (rw [w_plain (fn := c96) rfl rfl (by simp only [go_sem, h, g, g2, g4, ap, g3, List.set_set, cl]) rfl (by decide)]; simp only [c96, c96_b, go_sem, h, g, g2, g4, ap, g3, List.set_set, cl]; repeat' (first | (rw [guardO_t]; split <;> rename_i h <;> (try rw [Bool.not_eq_true] at h) <;> (try simp only [go_sem, h, g, g2, g4, ap, g3, List.set_set, cl, *])) | (rw [guardO_f]; split <;> rename_i h <;> (try rw [Bool.not_eq_true] at h) <;> (try simp only [go_sem, h, g, g2, g4, ap, g3, List.set_set, cl, *])) | (rw [cw_bool]; split <;> rename_i h <;> (try rw [Bool.not_eq_true] at h) <;> (try simp only [go_sem, h, g, g2, g4, ap, g3, List.set_set, cl, *]))))
theorem rd_put {S T : St} {q : ByteArray} {i : Nat} {ts : List GToken} (h : Rd S q T i ts .nilifc) (hn : ts.length ≤ 1000000) (t : GToken) (fr : Int) (to : Nat) :
    ∃ T', cal (env ot oz) 96 [.ref S.obs.length 0, .agg (rToken t), .int .i64 fr, .int .i64 (to : Int)] T = some (.bool true, T') ∧ Rd S q T' to (ts ++ [⟨t.K, t.N, t.S, fr⟩]) .nilifc := by
  obtain ⟨out, more, ow, rfl, ho⟩ := h
  rcases ho with ⟨rfl, rfl⟩ | ⟨hne, j, rfl, hj⟩
  · have ap : ∀ (T' : St) (r : List PV), r.length = 4 → appP T' 53 4 40 .null [] [r] = some (.sl (.own T'.own.length 53) [r], ⟨T'.obs, T'.own ++ [4]⟩) := fun T' r hr => by
      simp [appP, headOk, hr]
    have p := put_gen (ot := ot) (oz := oz) ⟨S.obs ++ rdr q (i : Int) (.sl .null []) .nilifc :: more, S.own ++ ow⟩ q i S.obs.length t.K t.N t.S t.At fr to _ .null _ [] _ rd_get (ap _ [.int .i64 t.K, .int .i64 t.N, .str t.S, .int .i64 fr] rfl) (by simp)
    simp only [List.append_assoc, List.cons_append, rd_set, List.length_append] at p
    exact ⟨_, p, _, more ++ [_], ow ++ [4], rfl, .inr ⟨by simp, ow.length, rfl, by simp⟩⟩
  · have hk : (S.own ++ ow)[S.own.length + j]? = some (ts.length * 4) := by rw [List.getElem?_append_right (by omega)]; simpa using hj
    have hjl := getElem?_lt hj
    have hh : headOk 4 (ts.map rToken) = true := by cases ts <;> simp [headOk, rToken]
    have ap : ∀ (T' : St) (r : List PV), T'.own = S.own ++ ow → r.length = 4 → appP T' 53 4 40 (.own (S.own.length + j) 53) (ts.map rToken) [r] = some (.sl (.own (S.own.length + j) 53) (ts.map rToken ++ [r]), ⟨T'.obs, T'.own.set (S.own.length + j) ((ts.length + 1) * 4)⟩) := fun T' r ht hr => by
      have h1 : ((ts.map rToken).length + [r].length) * 40 ≤ 140737488355328 ∧ (ts.map rToken).length + [r].length ≤ 9223372036854775807 ∧ 0 < 4 ∧ headOk 4 (ts.map rToken) = true ∧ headOk 4 [r] = true := by
        refine ⟨by simp; omega, by simp; omega, by omega, hh, by simp [headOk, hr]⟩
      simp only [appP, List.isEmpty_cons, Bool.false_eq_true, if_false]
      rw [if_pos h1, if_pos (by simp [ht, hk])]
      simp
    have p := put_gen (ot := ot) (oz := oz) ⟨S.obs ++ rdr q (i : Int) (.sl (.own (S.own.length + j) 53) (ts.map rToken)) .nilifc :: more, S.own ++ ow⟩ q i S.obs.length t.K t.N t.S t.At fr to _ _ _ _ _ rd_get (ap _ [.int .i64 t.K, .int .i64 t.N, .str t.S, .int .i64 fr] rfl rfl) (by simp)
    have hs : (S.own ++ ow).set (S.own.length + j) ((ts.length + 1) * 4) = S.own ++ ow.set j ((ts.length + 1) * 4) := by rw [List.set_append, if_neg (by omega)]; congr 2; omega
    simp only [List.append_assoc, List.cons_append, rd_set, hs] at p
    exact ⟨_, p, _, more ++ [_], _, rfl, .inr ⟨by simp, j, by simp [rToken], by rw [List.getElem?_set_self hjl]; simp⟩⟩
/-- How far bytes go on. -/
def whileN (p : UInt8 → Bool) (l : List UInt8) : Nat := (l.takeWhile p).length
theorem while_l0 (q : ByteArray) (hq : q.size ≤ 100000) (p : UInt8 → Bool) (g : FuncId) (hg : ∀ (c : UInt8) S, cal (env ot oz) g [.int .u8 (c.toNat : Int)] S = some (.bool (p c), S)) (T : St) (l : Nat) (a : Int) (out err : PV) (h : T.obs[l]? = some (rdr q a out err)) (fin : Kont (PV × St)) (st : List Fw) :
    ∀ (rest : List UInt8) (i : Nat), q.data.toList.drop i = rest →
    run (env ot oz) fin st c92_l0 [(0, some (.ref l 0)), (1, some (.fn g [] [])), (5, some (.int .i64 (i : Int)))] T =
      aft (env ot oz) fin st (.exit 0) [(0, some (.ref l 0)), (1, some (.fn g [] [])), (5, some (.int .i64 ((i + whileN p rest : Nat) : Int))), (26, some (.bool false))] T
  | [], i, hi => by
    have lt := lt_no (drop_nil hi)
    rw [size_data] at lt
    have e : whileN p [] = 0 := rfl
    rw [e, Nat.add_zero]
    (rw [c92_l0_w]; simp only [c92_l0_b, c92_l0_a, c92_r2, go_sem, h, lt]; repeat' (first | (rw [guardO_t]; split <;> rename_i h <;> (try rw [Bool.not_eq_true] at h) <;> (try simp only [go_sem, c92_r2, c92_l0_a, h, lt, *])) | (rw [guardO_f]; split <;> rename_i h <;> (try rw [Bool.not_eq_true] at h) <;> (try simp only [go_sem, c92_r2, c92_l0_a, h, lt, *])) | (rw [cw_bool]; split <;> rename_i h <;> (try rw [Bool.not_eq_true] at h) <;> (try simp only [go_sem, c92_r2, c92_l0_a, h, lt, *]))))
  | c :: rest, i, hi => by
    obtain ⟨h1, h2, h3⟩ := drop_cons hi
    rw [size_data] at h3
    have lt := lt_yes h3
    have hb : (0 : Int) ≤ (i : Int) ∧ (i : Int) < (q.size : Int) := by omega
    have w := wrap_succ h3 (by omega)
    have ih := while_l0 q hq p g hg T l a out err h fin st rest (i + 1) h2
    cases hp : p c with
    | false =>
      have e : whileN p (c :: rest) = 0 := by simp [whileN, hp]
      rw [e, Nat.add_zero]
      (rw [c92_l0_w]; simp only [c92_l0_b, c92_l0_a, c92_r2, go_sem, h, lt, hb, h1, hg, hp, Int.toNat_natCast]; repeat' (first | (rw [guardO_t]; split <;> rename_i h <;> (try rw [Bool.not_eq_true] at h) <;> (try simp only [go_sem, c92_r2, c92_l0_a, h, lt, hb, h1, hg, hp, Int.toNat_natCast, *])) | (rw [guardO_f]; split <;> rename_i h <;> (try rw [Bool.not_eq_true] at h) <;> (try simp only [go_sem, c92_r2, c92_l0_a, h, lt, hb, h1, hg, hp, Int.toNat_natCast, *])) | (rw [cw_bool]; split <;> rename_i h <;> (try rw [Bool.not_eq_true] at h) <;> (try simp only [go_sem, c92_r2, c92_l0_a, h, lt, hb, h1, hg, hp, Int.toNat_natCast, *]))))
    | true =>
      have e : i + whileN p (c :: rest) = i + 1 + whileN p rest := by simp [whileN, hp]; omega
      rw [e]
      (rw [c92_l0_w]; simp only [c92_l0_b, c92_l0_a, c92_r2, go_sem, h, lt, hb, h1, hg, hp, w, ih, Int.toNat_natCast]; repeat' (first | (rw [guardO_t]; split <;> rename_i h <;> (try rw [Bool.not_eq_true] at h) <;> (try simp only [go_sem, c92_r2, c92_l0_a, h, lt, hb, h1, hg, hp, w, ih, Int.toNat_natCast, *])) | (rw [guardO_f]; split <;> rename_i h <;> (try rw [Bool.not_eq_true] at h) <;> (try simp only [go_sem, c92_r2, c92_l0_a, h, lt, hb, h1, hg, hp, w, ih, Int.toNat_natCast, *])) | (rw [cw_bool]; split <;> rename_i h <;> (try rw [Bool.not_eq_true] at h) <;> (try simp only [go_sem, c92_r2, c92_l0_a, h, lt, hb, h1, hg, hp, w, ih, Int.toNat_natCast, *]))))
theorem while_w (q : ByteArray) (hq : q.size ≤ 100000) (p : UInt8 → Bool) (g : FuncId) (hg : ∀ (c : UInt8) S, cal (env ot oz) g [.int .u8 (c.toNat : Int)] S = some (.bool (p c), S)) (T : St) (l : Nat) (i : Nat) (out err : PV) (h : T.obs[l]? = some (rdr q (i : Int) out err)) :
    cal (env ot oz) 92 [.ref l 0, .fn g [] []] T = some (.int .i64 ((i + whileN p (q.data.toList.drop i) : Nat) : Int), T) := by
  have f := fun fin st => while_l0 (ot := ot) (oz := oz) q hq p g hg T l _ out err h fin st _ i rfl
  (rw [w_plain (fn := c92) rfl rfl (by simp only [go_sem, h, f]) rfl (by decide)]; simp only [c92, c92_b, c92_r2, go_sem, h, f]; repeat' (first | (rw [guardO_t]; split <;> rename_i h <;> (try rw [Bool.not_eq_true] at h) <;> (try simp only [go_sem, c92_r2, h, f, *])) | (rw [guardO_f]; split <;> rename_i h <;> (try rw [Bool.not_eq_true] at h) <;> (try simp only [go_sem, c92_r2, h, f, *])) | (rw [cw_bool]; split <;> rename_i h <;> (try rw [Bool.not_eq_true] at h) <;> (try simp only [go_sem, c92_r2, h, f, *]))))
def digC (c : UInt8) : Bool := decide (48 ≤ (c.toNat : Int)) && decide ((c.toNat : Int) ≤ 57)
def letC (c : UInt8) : Bool := (decide (97 ≤ (c.toNat : Int)) && decide ((c.toNat : Int) ≤ 122)) || (decide (65 ≤ (c.toNat : Int)) && decide ((c.toNat : Int) ≤ 90))
theorem digit_w (c : UInt8) (S : St) : cal (env ot oz) 56 [.int .u8 (c.toNat : Int)] S = some (.bool (digC c), S) := by
  unfold digC
  cases h1 : decide (48 ≤ (c.toNat : Int)) <;> cases h2 : decide ((c.toNat : Int) ≤ 57) <;> (rw [w_plain (fn := c56) rfl rfl (by simp only [go_sem, h1, h2, Bool.and_true, Bool.and_false]) rfl (by decide)]; simp only [c56, c56_b, c56_r1, go_sem, h1, h2, Bool.and_true, Bool.and_false]; repeat' (first | (rw [guardO_t]; split <;> rename_i h <;> (try rw [Bool.not_eq_true] at h) <;> (try simp only [go_sem, c56_r1, h1, h2, Bool.and_true, Bool.and_false, *])) | (rw [guardO_f]; split <;> rename_i h <;> (try rw [Bool.not_eq_true] at h) <;> (try simp only [go_sem, c56_r1, h1, h2, Bool.and_true, Bool.and_false, *])) | (rw [cw_bool]; split <;> rename_i h <;> (try rw [Bool.not_eq_true] at h) <;> (try simp only [go_sem, c56_r1, h1, h2, Bool.and_true, Bool.and_false, *]))))
theorem letter_w (c : UInt8) (S : St) : cal (env ot oz) 58 [.int .u8 (c.toNat : Int)] S = some (.bool (letC c), S) := by
  unfold letC
  cases h1 : decide (97 ≤ (c.toNat : Int)) <;> cases h2 : decide ((c.toNat : Int) ≤ 122) <;> cases h3 : decide (65 ≤ (c.toNat : Int)) <;> cases h4 : decide ((c.toNat : Int) ≤ 90) <;> (rw [w_plain (fn := c58) rfl rfl (by simp only [go_sem, h1, h2, h3, h4, Bool.and_true, Bool.and_false, Bool.or_true, Bool.or_false, Bool.true_or]) rfl (by decide)]; simp only [c58, c58_b, c58_r1, go_sem, h1, h2, h3, h4, Bool.and_true, Bool.and_false, Bool.or_true, Bool.or_false, Bool.true_or]; repeat' (first | (rw [guardO_t]; split <;> rename_i h <;> (try rw [Bool.not_eq_true] at h) <;> (try simp only [go_sem, c58_r1, h1, h2, h3, h4, Bool.and_true, Bool.and_false, Bool.or_true, Bool.or_false, Bool.true_or, *])) | (rw [guardO_f]; split <;> rename_i h <;> (try rw [Bool.not_eq_true] at h) <;> (try simp only [go_sem, c58_r1, h1, h2, h3, h4, Bool.and_true, Bool.and_false, Bool.or_true, Bool.or_false, Bool.true_or, *])) | (rw [cw_bool]; split <;> rename_i h <;> (try rw [Bool.not_eq_true] at h) <;> (try simp only [go_sem, c58_r1, h1, h2, h3, h4, Bool.and_true, Bool.and_false, Bool.or_true, Bool.or_false, Bool.true_or, *]))))
theorem word1_w (c : UInt8) (S : St) : cal (env ot oz) 97 [.int .u8 (c.toNat : Int)] S = some (.bool (letC c || digC c), S) := by
  have a := letter_w (ot := ot) (oz := oz) c
  have b := digit_w (ot := ot) (oz := oz) c
  cases h1 : letC c <;> cases h2 : digC c <;> simp only [h1, h2] at a b <;> (rw [w_plain (fn := c97) rfl rfl (by simp only [go_sem, a, b, Bool.or_true, Bool.or_false, Bool.true_or]) rfl (by decide)]; simp only [c97, c97_b, c97_r1, go_sem, a, b, Bool.or_true, Bool.or_false, Bool.true_or]; repeat' (first | (rw [guardO_t]; split <;> rename_i h <;> (try rw [Bool.not_eq_true] at h) <;> (try simp only [go_sem, c97_r1, a, b, Bool.or_true, Bool.or_false, Bool.true_or, *])) | (rw [guardO_f]; split <;> rename_i h <;> (try rw [Bool.not_eq_true] at h) <;> (try simp only [go_sem, c97_r1, a, b, Bool.or_true, Bool.or_false, Bool.true_or, *])) | (rw [cw_bool]; split <;> rename_i h <;> (try rw [Bool.not_eq_true] at h) <;> (try simp only [go_sem, c97_r1, a, b, Bool.or_true, Bool.or_false, Bool.true_or, *]))))
theorem line_w (c : UInt8) (S : St) : cal (env ot oz) 93 [.int .u8 (c.toNat : Int)] S = some (.bool ((c.toNat : Int) != 10), S) := by
  (rw [w_plain (fn := c93) rfl rfl (by simp only [go_sem]) rfl (by decide)]; simp only [c93, c93_b, go_sem]; repeat' (first | (rw [guardO_t]; split <;> rename_i h <;> (try rw [Bool.not_eq_true] at h) <;> (try simp only [go_sem, *])) | (rw [guardO_f]; split <;> rename_i h <;> (try rw [Bool.not_eq_true] at h) <;> (try simp only [go_sem, *])) | (rw [cw_bool]; split <;> rename_i h <;> (try rw [Bool.not_eq_true] at h) <;> (try simp only [go_sem, *]))))
end
end Go.PE
namespace Go.PE
open Go Go.RowKit Go.Proofs
set_option linter.unusedVariables false
set_option linter.unusedSimpArgs false
set_option maxRecDepth 100000
section
variable {ot : TypeId} {oz : EP}
theorem ext_take (s : ByteArray) (i n : Nat) (h : i + n ≤ s.size) : s.extract i (i + n) = txt ((s.data.toList.drop i).take n) := by
  have : (s.extract i (i + n)).data = ((s.data.toList.drop i).take n).toArray := by
    rw [ByteArray.data_extract]
    apply Array.toList_inj.1
    show (s.data.extract i (i + n)).toList = (s.data.toList.drop i).take n
    rw [Array.toList_extract, List.extract_eq_take_drop, Nat.add_sub_cancel_left]
  unfold txt
  rw [← this]
theorem while_le (p : UInt8 → Bool) (q : ByteArray) (i : Nat) (hi : i ≤ q.size) : i + whileN p (q.data.toList.drop i) ≤ q.size := by
  have h1 : (((q.data.toList.drop i).takeWhile p) ++ ((q.data.toList.drop i).dropWhile p)).length = (q.data.toList.drop i).length := by rw [List.takeWhile_append_dropWhile]
  rw [List.length_append, List.length_drop, size_data] at h1
  unfold whileN; omega
theorem while_take (p : UInt8 → Bool) : ∀ l : List UInt8, l.take (whileN p l) = l.takeWhile p
  | [] => rfl
  | c :: l => by
    cases h : p c with
    | false => simp [whileN, h]
    | true => simp [whileN, h]; exact while_take p l
theorem parse_w (w : List UInt8) (hw : w.length ≤ 100000) (S : St) :
    (∀ v, Lib.parseIntB 64 w = .ok v → cal (env ot oz) 95 [.str (txt w), .int .i64 10, .int .i64 64] S = some (.tup [.int .i64 v, .nilifc], S)) ∧
    (Lib.parseIntB 64 w = .range → cal (env ot oz) 95 [.str (txt w), .int .i64 10, .int .i64 64] S = some (.tup [.int .i64 (Lib.intSat 64 w), .ifc 167 (.at_ [])], S)) := by
  have c : (10 : Int) = 10 ∧ (64 : Int) = 64 ∧ (txt w).size ≤ 281474976710656 := ⟨rfl, rfl, by rw [txt_size]; omega⟩
  constructor
  · intro v h
    refine cal_at (n := 1) ?_
    show piF [.str (txt w), .int .i64 10, .int .i64 64] S = _
    simp only [piF, txt_data, h, c.2.2, and_self, if_true]
  · intro h
    refine cal_at (n := 1) ?_
    show piF [.str (txt w), .int .i64 10, .int .i64 64] S = _
    simp only [piF, txt_data, h, c.2.2, and_self, if_true]
/-- What comes of reading a token: one, and where it ends; or an error, at a place. -/
inductive Tok where
  | ok (t : GToken) (j : Nat)
  | bad (c p : Int)
def Gives (ot : TypeId) (oz : EP) (S : St) (q : ByteArray) (T : St) (ts : List GToken) (f : FuncId) : Tok → Prop
  | .ok t j => ∃ T', cal (env ot oz) f [.ref S.obs.length 0] T = some (.bool true, T') ∧ Rd S q T' j (ts ++ [t]) .nilifc
  | .bad c p => ∃ T' i', cal (env ot oz) f [.ref S.obs.length 0] T = some (.bool false, T') ∧ Rd S q T' i' ts (plc c p)
theorem rd_close {S T T' : St} {q : ByteArray} {i j : Nat} {ts ts' : List GToken} {err err' : PV} (h : Rd S q T i ts err) (h' : Rd S q T' j ts' err') (hne : j ≠ i ∨ err' ≠ err) (v : PV) : close T T' v = (v, T') := by
  obtain ⟨out, more, ow, rfl, _⟩ := h
  obtain ⟨out', more', ow', rfl, _⟩ := h'
  refine closeT _ _ S.obs.length _ _ rd_get rd_get ?_ v
  intro e
  injection e with _ e
  injection e with _ e
  injection e with e1 e
  injection e1 with _ e1
  injection e with _ e
  injection e with e2 _
  rcases hne with hh | hh
  · exact hh (by exact_mod_cast e1)
  · exact hh e2
def numF (c : UInt8) (w : List UInt8) (i : Nat) : Tok :=
  if ((c.toNat : Int) == 48) = true ∧ 0 < w.length then .bad 21 i else match Lib.parseIntB 64 (c :: w) with
    | .ok v => .ok ⟨1, v, ⟨#[]⟩, i⟩ (i + (w.length + 1))
    | _ => .bad 6 i
/-- A number. -/
theorem num_w {S T : St} {q : ByteArray} (hq : q.size ≤ 100000) {i : Nat} {ts : List GToken} (h : Rd S q T i ts .nilifc) (hts : ts.length ≤ 1000000) (hi : i ≤ q.size) (c : UInt8) (w : List UInt8) (hw : (q.data.toList.drop i).takeWhile digC = c :: w)
    (hp : (∃ v, Lib.parseIntB 64 (c :: w) = .ok v) ∨ Lib.parseIntB 64 (c :: w) = .range) : Gives ot oz S q T ts 57 (numF c w i) := by
  have hR := h
  have F21 := rd_fail (ot := ot) (oz := oz) h 21 i (by decide)
  have F6 := rd_fail (ot := ot) (oz := oz) h 6 i (by decide)
  have FP := fun v => rd_put (ot := ot) (oz := oz) h hts ⟨1, v, ⟨#[]⟩, 0⟩ i (i + (w.length + 1))
  obtain ⟨out, more, ow, rfl, ho⟩ := h
  have wh := while_w (ot := ot) (oz := oz) q hq digC 56 (digit_w (ot := ot) (oz := oz)) ⟨S.obs ++ rdr q (i : Int) out .nilifc :: more, S.own ++ ow⟩ S.obs.length i out .nilifc rd_get
  have g : (S.obs ++ rdr q (i : Int) out .nilifc :: more)[S.obs.length]? = _ := rd_get
  have hn : whileN digC (q.data.toList.drop i) = w.length + 1 := by unfold whileN; rw [hw]; rfl
  have hle := while_le digC q i hi
  rw [hn] at wh hle
  have ex := ext_take q i (w.length + 1) hle
  rw [← hn, while_take, hw, hn] at ex
  have b1 : (0 : Int) ≤ ((i + (w.length + 1) : Nat) : Int) ∧ ((i + (w.length + 1) : Nat) : Int) ≤ (q.size : Int) := by omega
  have b2 : (0 : Int) ≤ (i : Int) ∧ (i : Int) ≤ ((i + (w.length + 1) : Nat) : Int) := by omega
  have sz : ((txt (c :: w)).size : Int) = ((w.length + 1 : Nat) : Int) := by rw [txt_size]; rfl
  have h0 : (txt (c :: w)).data.toList[0]? = some c := by rw [txt_data]; rfl
  have b3 : (0 : Int) < ((w.length + 1 : Nat) : Int) := by omega
  have pr := fun S => parse_w (ot := ot) (oz := oz) (c :: w) (by simp; omega) S
  have rest : ¬ (((c.toNat : Int) == 48) = true ∧ 0 < w.length) → ∃ d, ((c.toNat : Int) == 48) = d ∧ (d = true → decide ((1 : Int) < ((w.length + 1 : Nat) : Int)) = false) := fun hh => by
    refine ⟨_, rfl, fun hd => ?_⟩
    have : w.length = 0 := by
      rcases Nat.eq_zero_or_pos w.length with e | e
      · exact e
      · exact absurd ⟨hd, e⟩ hh
    exact decide_eq_false (by omega)
  generalize hT : (⟨S.obs ++ rdr q (i : Int) out .nilifc :: more, S.own ++ ow⟩ : St) = T at *
  have g : T.obs[S.obs.length]? = some (rdr q (i : Int) out .nilifc) := by rw [← hT]; exact rd_get
  unfold numF
  split
  · rename_i hc
    obtain ⟨T', hf, hr⟩ := F21
    have l1 : decide ((1 : Int) < ((w.length + 1 : Nat) : Int)) = true := decide_eq_true (by omega)
    have cl := rd_close hR hr (.inr (by simp)) (.bool false)
    refine ⟨T', i, ?_, hr⟩
    have hc1 := hc.1
    (rw [w_plain (fn := c57) rfl rfl (by simp only [go_sem, g, wh, b1, b2, ex, sz, h0, hc1, l1, b3, hf, cl, Int.toNat_natCast]) rfl (by decide)]; simp only [c57, c57_b, c57_r3, go_sem, g, wh, b1, b2, ex, sz, h0, hc1, l1, b3, hf, cl, Int.toNat_natCast]; repeat' (first | (rw [guardO_t]; split <;> rename_i h <;> (try rw [Bool.not_eq_true] at h) <;> (try simp only [go_sem, c57_r3, g, wh, b1, b2, ex, sz, h0, hc1, l1, b3, hf, cl, Int.toNat_natCast, *])) | (rw [guardO_f]; split <;> rename_i h <;> (try rw [Bool.not_eq_true] at h) <;> (try simp only [go_sem, c57_r3, g, wh, b1, b2, ex, sz, h0, hc1, l1, b3, hf, cl, Int.toNat_natCast, *])) | (rw [cw_bool]; split <;> rename_i h <;> (try rw [Bool.not_eq_true] at h) <;> (try simp only [go_sem, c57_r3, g, wh, b1, b2, ex, sz, h0, hc1, l1, b3, hf, cl, Int.toNat_natCast, *]))))
  · rename_i hc
    obtain ⟨d, hd1, hd2⟩ := rest hc
    rcases hp with ⟨v, hv⟩ | hv
    · obtain ⟨T', hf, hr⟩ := FP v
      have cl := rd_close hR hr (.inl (by omega)) (.bool true)
      have p1 := fun S => (pr S).1 v hv
      rw [hv]
      refine ⟨T', ?_, hr⟩
      simp only [rToken_eq] at hf
      cases d with
      | true =>
        have l1 := hd2 rfl
        (rw [w_plain (fn := c57) rfl rfl (by simp only [go_sem, g, wh, b1, b2, ex, sz, h0, hd1, l1, b3, p1, hf, cl, Int.toNat_natCast]) rfl (by decide)]; simp only [c57, c57_b, c57_r3, go_sem, g, wh, b1, b2, ex, sz, h0, hd1, l1, b3, p1, hf, cl, Int.toNat_natCast]; repeat' (first | (rw [guardO_t]; split <;> rename_i h <;> (try rw [Bool.not_eq_true] at h) <;> (try simp only [go_sem, c57_r3, g, wh, b1, b2, ex, sz, h0, hd1, l1, b3, p1, hf, cl, Int.toNat_natCast, *])) | (rw [guardO_f]; split <;> rename_i h <;> (try rw [Bool.not_eq_true] at h) <;> (try simp only [go_sem, c57_r3, g, wh, b1, b2, ex, sz, h0, hd1, l1, b3, p1, hf, cl, Int.toNat_natCast, *])) | (rw [cw_bool]; split <;> rename_i h <;> (try rw [Bool.not_eq_true] at h) <;> (try simp only [go_sem, c57_r3, g, wh, b1, b2, ex, sz, h0, hd1, l1, b3, p1, hf, cl, Int.toNat_natCast, *]))))
      | false => (rw [w_plain (fn := c57) rfl rfl (by simp only [go_sem, g, wh, b1, b2, ex, sz, h0, hd1, b3, p1, hf, cl, Int.toNat_natCast]) rfl (by decide)]; simp only [c57, c57_b, c57_r3, go_sem, g, wh, b1, b2, ex, sz, h0, hd1, b3, p1, hf, cl, Int.toNat_natCast]; repeat' (first | (rw [guardO_t]; split <;> rename_i h <;> (try rw [Bool.not_eq_true] at h) <;> (try simp only [go_sem, c57_r3, g, wh, b1, b2, ex, sz, h0, hd1, b3, p1, hf, cl, Int.toNat_natCast, *])) | (rw [guardO_f]; split <;> rename_i h <;> (try rw [Bool.not_eq_true] at h) <;> (try simp only [go_sem, c57_r3, g, wh, b1, b2, ex, sz, h0, hd1, b3, p1, hf, cl, Int.toNat_natCast, *])) | (rw [cw_bool]; split <;> rename_i h <;> (try rw [Bool.not_eq_true] at h) <;> (try simp only [go_sem, c57_r3, g, wh, b1, b2, ex, sz, h0, hd1, b3, p1, hf, cl, Int.toNat_natCast, *]))))
    · obtain ⟨T', hf, hr⟩ := F6
      have cl := rd_close hR hr (.inr (by simp)) (.bool false)
      have p1 := fun S => (pr S).2 hv
      rw [hv]
      refine ⟨T', i, ?_, hr⟩
      cases d with
      | true =>
        have l1 := hd2 rfl
        (rw [w_plain (fn := c57) rfl rfl (by simp only [go_sem, g, wh, b1, b2, ex, sz, h0, hd1, l1, b3, p1, hf, cl, Int.toNat_natCast]) rfl (by decide)]; simp only [c57, c57_b, c57_r3, go_sem, g, wh, b1, b2, ex, sz, h0, hd1, l1, b3, p1, hf, cl, Int.toNat_natCast]; repeat' (first | (rw [guardO_t]; split <;> rename_i h <;> (try rw [Bool.not_eq_true] at h) <;> (try simp only [go_sem, c57_r3, g, wh, b1, b2, ex, sz, h0, hd1, l1, b3, p1, hf, cl, Int.toNat_natCast, *])) | (rw [guardO_f]; split <;> rename_i h <;> (try rw [Bool.not_eq_true] at h) <;> (try simp only [go_sem, c57_r3, g, wh, b1, b2, ex, sz, h0, hd1, l1, b3, p1, hf, cl, Int.toNat_natCast, *])) | (rw [cw_bool]; split <;> rename_i h <;> (try rw [Bool.not_eq_true] at h) <;> (try simp only [go_sem, c57_r3, g, wh, b1, b2, ex, sz, h0, hd1, l1, b3, p1, hf, cl, Int.toNat_natCast, *]))))
      | false => (rw [w_plain (fn := c57) rfl rfl (by simp only [go_sem, g, wh, b1, b2, ex, sz, h0, hd1, b3, p1, hf, cl, Int.toNat_natCast]) rfl (by decide)]; simp only [c57, c57_b, c57_r3, go_sem, g, wh, b1, b2, ex, sz, h0, hd1, b3, p1, hf, cl, Int.toNat_natCast]; repeat' (first | (rw [guardO_t]; split <;> rename_i h <;> (try rw [Bool.not_eq_true] at h) <;> (try simp only [go_sem, c57_r3, g, wh, b1, b2, ex, sz, h0, hd1, b3, p1, hf, cl, Int.toNat_natCast, *])) | (rw [guardO_f]; split <;> rename_i h <;> (try rw [Bool.not_eq_true] at h) <;> (try simp only [go_sem, c57_r3, g, wh, b1, b2, ex, sz, h0, hd1, b3, p1, hf, cl, Int.toNat_natCast, *])) | (rw [cw_bool]; split <;> rename_i h <;> (try rw [Bool.not_eq_true] at h) <;> (try simp only [go_sem, c57_r3, g, wh, b1, b2, ex, sz, h0, hd1, b3, p1, hf, cl, Int.toNat_natCast, *]))))
end
end Go.PE
