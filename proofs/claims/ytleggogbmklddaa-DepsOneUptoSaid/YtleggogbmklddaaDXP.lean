/-
  The law DepsOne, at the evaluator's level. Conditions: what comes in is of bulk at most 1048576.
-/
import Derived.Test.YtleggogbmklddaaDXO
namespace Go.PE
open Go Go.RowKit Go.Proofs
set_option linter.unusedVariables false
set_option linter.unusedSimpArgs false
set_option maxRecDepth 100000
/-! ### rows of several cells that are handed back -/
theorem chunk_flat (sz : Nat) : ∀ rs : List (List PV), (∀ x ∈ rs, x.length = sz) → chunk sz rs.length rs.flatten = rs
  | [], _ => rfl
  | x :: rs, h => by
    have hx := h x (by simp)
    rw [List.length_cons, chunk, List.flatten_cons, List.take_left' hx, List.drop_left' hx, chunk_flat sz rs fun y hy => h y (by simp [hy])]
theorem flat_len2 (sz : Nat) : ∀ rs : List (List PV), (∀ x ∈ rs, x.length = sz) → rs.flatten.length = rs.length * sz
  | [], _ => by simp
  | x :: rs, h => by
    rw [List.flatten_cons, List.length_append, h x (by simp), flat_len2 sz rs fun y hy => h y (by simp [hy]), List.length_cons, Nat.succ_mul]; omega
theorem plain_flat : ∀ rs : List (List PV), (∀ x ∈ rs, PlainL x) → PlainL rs.flatten
  | [], _ => plain_nil
  | x :: rs, h => by
    rw [List.flatten_cons]
    exact plain_append (h x (by simp)) (plain_flat rs fun y hy => h y (by simp [hy]))
theorem setRow_flat (sz : Nat) (r : List PV) (hr : r.length = sz) : ∀ (rs : List (List PV)) (k : Nat), (∀ x ∈ rs, x.length = sz) → k < rs.length → setRow rs.flatten (k * sz) r = (rs.set k r).flatten := by
  intro rs k h hk
  have hl := flat_len2 sz rs h
  have h1 : k * sz + r.length ≤ rs.flatten.length := by
    rw [hl, hr, ← Nat.succ_mul]; exact Nat.mul_le_mul_right _ hk
  rw [setRow_spec _ _ _ h1]
  clear h1 hl
  induction rs generalizing k with
  | nil => simp at hk
  | cons x rs ih =>
    have hx := h x (by simp)
    cases k with
    | zero => simp [hr, ← hx]
    | succ k =>
      have ih := ih k (fun y hy => h y (by simp [hy])) (by simpa using hk)
      have e1 : (k + 1) * sz = x.length + k * sz := by rw [Nat.succ_mul, hx]; omega
      have e2 : (k + 1) * sz + r.length = x.length + (k * sz + r.length) := by rw [e1]; omega
      rw [List.flatten_cons, List.set_cons_succ, List.flatten_cons, ← ih, e2, e1, List.take_append, List.drop_append]
      have e3 : x.length + k * sz - x.length = k * sz := by omega
      have e4 : x.length + (k * sz + r.length) - x.length = k * sz + r.length := by omega
      rw [e3, e4, List.take_of_length_le (by omega), List.drop_eq_nil_of_le (by omega)]
      simp
theorem close_rows (S : St) (os : List Ob) (w : List Nat) (k sz : Nat) (t : TypeId) (rs : List (List PV)) (e : Int) (hp : ∀ x ∈ rs, PlainL x ∧ x.length = sz) (h : os[k]? = some (.row t rs.flatten)) :
    close S ⟨S.obs ++ os, S.own ++ w⟩ (.tup [.msl (S.obs.length + k) 0 rs.length sz, .int .i64 e]) = (.tup [.sl .ro rs, .int .i64 e], S) := by
  rw [close_junk]
  have h2 : ¬ S.obs.length + k < S.obs.length := by omega
  have h3 : (⟨S.obs ++ os, S.own ++ w⟩ : St).cells (S.obs.length + k) = some rs.flatten := by simp only [St.cells, app_get, h]
  have h4 := plain_flat rs fun x hx => (hp x hx).1
  have h5 := flat_len2 sz rs fun x hx => (hp x hx).2
  simp only [sealW, sealL, h2, if_false, drD, h3, List.drop_zero, Nat.zero_le, if_true, h4 _ _, Option.map_some, Option.bind_some, h5, Nat.le_refl, chunk_flat sz rs fun x hx => (hp x hx).2]
/-- Rows of definitions that grow by copies. -/
def DGrow (w0 w : List Nat) (g : Tag) (xs : List GDef) : Prop := g = .exact ∨ ∃ k, g = .own (w0.length + k) 40 ∧ w[k]? = some (xs.length * 15)
theorem dgrow_app (O : List Ob) (w0 w : List Nat) (g : Tag) (xs ys : List GDef) (h : DGrow w0 w g xs) (hl : xs.length + ys.length ≤ 5000000) :
    ∃ g' w', appP ⟨O, w0 ++ w⟩ 40 15 256 g (xs.map rDef) (ys.map rDef) = some (.sl g' ((xs ++ ys).map rDef), ⟨O, w0 ++ w'⟩) ∧ DGrow w0 w' g' (xs ++ ys) := by
  by_cases hy : ys = []
  · subst hy; exact ⟨g, w, by simp [appP], by rw [List.append_nil]; exact h⟩
  · have hye : (ys.map rDef).isEmpty = false := by cases ys; exact absurd rfl hy; rfl
    have h1 : (xs.map rDef).length = xs.length := by simp
    have h2 : (ys.map rDef).length = ys.length := by simp
    have h3 : (xs.length + ys.length) * 256 ≤ 140737488355328 ∧ xs.length + ys.length ≤ 9223372036854775807 := by omega
    rcases h with rfl | ⟨k, rfl, hk⟩
    · refine ⟨.own (w0.length + w.length) 40, w ++ [(xs.length + ys.length) * 15], ?_, .inr ⟨w.length, rfl, by simp⟩⟩
      unfold appP
      rw [hye, h1, h2, rDef_ok, rDef_ok]
      simp only [h3, and_self, if_true, Bool.false_eq_true, if_false, List.map_append, List.length_append, List.append_assoc, Nat.zero_lt_succ, show (0 < 15) = True by simp]
    · refine ⟨.own (w0.length + k) 40, w.set k ((xs.length + ys.length) * 15), ?_, .inr ⟨k, rfl, ?_⟩⟩
      · unfold appP
        rw [hye, h1, h2, rDef_ok, rDef_ok]
        have e1 : (w0 ++ w)[w0.length + k]? = some (xs.length * 15) := by rw [List.getElem?_append_right (by omega)]; simpa using hk
        have e2 : ∀ x, (w0 ++ w).set (w0.length + k) x = w0 ++ w.set k x := fun x => by rw [List.set_append_right _ _ (by omega)]; simp
        simp only [h3, and_self, if_true, Bool.false_eq_true, if_false, List.map_append, e1, e2, show (0 < 15) = True by simp]
      · have := getElem?_lt hk
        simp [this]
theorem dgrow_close (S : St) (os : List Ob) (w : List Nat) (g : Tag) (xs : List GDef) (e : Int) : close S ⟨S.obs ++ os, S.own ++ w⟩ (.tup [.sl g (xs.map rDef), .int .i64 e]) = (.tup [.sl .ro (xs.map rDef), .int .i64 e], S) := by
  rw [close_junk]
  simp only [sealW, sealL, rDef_sll, Option.map_some, Option.bind_some]
section
variable {ot : TypeId} {oz : EP}
/-- Does it come behind that name? -/
def behind (n : ByteArray) (d : GDef) : Bool := !(strLt d.Sig.Name n || strEq d.Sig.Name n)
theorem put_loop (l : List GDef) (hl : Short l.length) (d : GDef) (T : St) : ∃ i : Nat, i ≤ l.length ∧ ∀ fin st, run (env ot oz) fin st c20_l0 [(0, some (.sl .ro (l.map rDef))), (3, some (.at_ (rDef d))), (8, some (.int .i64 0))] T =
    aft (env ot oz) fin st (.exit 0) [(0, some (.sl .ro (l.map rDef))), (3, some (.at_ (rDef d))), (8, some (.int .i64 (i : Int))), (49, some (.bool false))] T := by
  have f0 := fun fin st => loopP (E := (env ot oz)) (S := T) (c := c20_l0) l hl (fun i => [(0, some (.sl .ro (l.map rDef))), (3, some (.at_ (rDef d))), (8, some (.int .i64 (i : Int)))]) (behind d.Sig.Name) fin st
    (fun i => aft (env ot oz) fin st (.exit 0) [(0, some (.sl .ro (l.map rDef))), (3, some (.at_ (rDef d))), (8, some (.int .i64 (i : Int))), (49, some (.bool false))] T) (aft (env ot oz) fin st (.exit 0) [(0, some (.sl .ro (l.map rDef))), (3, some (.at_ (rDef d))), (8, some (.int .i64 (l.length : Int))), (49, some (.bool false))] T)
    (fun i a h1 h2 h3 h4 h5 => by
      unfold behind at h5
      simp only [Bool.not_eq_false'] at h5
      (rw [c20_l0_w]; simp only [c20_l0_b, c20_l0_a, c20_r4, c20_r11, go_sem, h1, h3, h4, h5]; repeat' (first | (rw [guardO_t]; split <;> rename_i h <;> (try rw [Bool.not_eq_true] at h) <;> (try simp only [go_sem, c20_r4, c20_r11, c20_l0_a, h1, h3, h4, h5, *])) | (rw [guardO_f]; split <;> rename_i h <;> (try rw [Bool.not_eq_true] at h) <;> (try simp only [go_sem, c20_r4, c20_r11, c20_l0_a, h1, h3, h4, h5, *])) | (rw [cw_bool]; split <;> rename_i h <;> (try rw [Bool.not_eq_true] at h) <;> (try simp only [go_sem, c20_r4, c20_r11, c20_l0_a, h1, h3, h4, h5, *])))))
    (fun i a h1 h2 h3 h4 h5 => by
      unfold behind at h5
      simp only [Bool.not_eq_true'] at h5
      (rw [c20_l0_w]; simp only [c20_l0_b, c20_l0_a, c20_r4, c20_r11, go_sem, h1, h3, h4, h5]; repeat' (first | (rw [guardO_t]; split <;> rename_i h <;> (try rw [Bool.not_eq_true] at h) <;> (try simp only [go_sem, c20_r4, c20_r11, c20_l0_a, h1, h3, h4, h5, *])) | (rw [guardO_f]; split <;> rename_i h <;> (try rw [Bool.not_eq_true] at h) <;> (try simp only [go_sem, c20_r4, c20_r11, c20_l0_a, h1, h3, h4, h5, *])) | (rw [cw_bool]; split <;> rename_i h <;> (try rw [Bool.not_eq_true] at h) <;> (try simp only [go_sem, c20_r4, c20_r11, c20_l0_a, h1, h3, h4, h5, *])))))
    (by (rw [c20_l0_w]; simp only [c20_l0_b, c20_l0_a, c20_r4, c20_r11, go_sem]; repeat' (first | (rw [guardO_t]; split <;> rename_i h <;> (try rw [Bool.not_eq_true] at h) <;> (try simp only [go_sem, c20_r4, c20_r11, c20_l0_a, *])) | (rw [guardO_f]; split <;> rename_i h <;> (try rw [Bool.not_eq_true] at h) <;> (try simp only [go_sem, c20_r4, c20_r11, c20_l0_a, *])) | (rw [cw_bool]; split <;> rename_i h <;> (try rw [Bool.not_eq_true] at h) <;> (try simp only [go_sem, c20_r4, c20_r11, c20_l0_a, *])))))
  simp only [Int.cast_ofNat_Int] at f0
  cases q : l.any (behind d.Sig.Name) with
  | true =>
    refine ⟨l.findIdx (behind d.Sig.Name), Nat.le_of_lt (List.findIdx_lt_length.2 (by simpa using q)), fun fin st => ?_⟩
    have := f0 fin st
    rw [q] at this
    simpa only [if_true] using this
  | false =>
    refine ⟨l.length, Nat.le_refl _, fun fin st => ?_⟩
    have := f0 fin st
    rw [q] at this
    simpa only [Bool.false_eq_true, if_false] using this
theorem rDef_lds {G : Glob} {call : CallFn} {ts : Tmps} {S0 S1 : St} {n : Option Nat} {r : List EI} {v : PV} {b : Bool} {d : GDef} (h : look ts 3 = some (.at_ (rDef d))) :
    stepO G call n ⟨.lds [(some 15, .tmp 3)], b⟩ r ts S0 (some (v, S1)) = evOps G call r (put ts n (some v)) S1 := by
  refine stepO_lds ⟨⟨.agg (rDef d), ?_, ?_⟩, trivial⟩ <;>
    simp only [rdE, EOpd.val, h, Option.bind_some, derefP, rowOf, rDef_len, Nat.le_refl, if_true, rDef_take]
/-- The document's Put, where that name is there already: it stands in its place. -/
theorem put37 (l : List GDef) (hl : l.length ≤ 2000000) (d : GDef) (od : OkDef d) (hn : defNodes d ≤ 1000000000) (hd : defOk d = true) (hk : l.any (isN d.Sig.Name) = true) (S : St) :
    cal (env ot oz) 20 [.sl .ro (l.map rDef), .agg (rDef d)] S = some (.tup [.sl .ro ((l.set (l.findIdx (isN d.Sig.Name)) d).map rDef), .int .i64 0], S) := by
  have hl' : Short l.length := by unfold Short maxLen; omega
  have c1 := def14 (ot := ot) (oz := oz) d od hn
  have c2 := find37 (ot := ot) (oz := oz) l hl' d.Sig.Name
  rw [hk] at c2
  simp only [if_true] at c2
  obtain ⟨x, _, hx, _⟩ := (find_idx (isN d.Sig.Name) l).1 hk
  have hlt := getElem?_lt hx
  generalize hke : l.findIdx (isN d.Sig.Name) = k at *
  have z1 : decide (((k : Nat) : Int) < 0) = false := decide_eq_false (by omega)
  have z2 : decide ((0 : Int) ≤ ((k : Nat) : Int)) = true := decide_eq_true (by omega)
  have hlt' : ((k : Nat) : Int) < (l.length : Int) := by omega
  have hne : l ≠ [] := by intro e; subst e; simp at hlt
  have ap : ∀ T : St, appM T 40 15 256 (.sl .exact []) (l.map rDef) = some (.msl T.obs.length 0 l.length 15, { T with obs := T.obs ++ [.row 40 (l.map rDef).flatten] }) := fun T => by
    have h1 : (l.map rDef).isEmpty = false := by cases l; exact absurd rfl hne; rfl
    have h2 : (l.map rDef).length = l.length := by simp
    unfold appM
    rw [h1, rDef_ok, h2]
    have h3 : l.length * 256 ≤ 140737488355328 ∧ l.length ≤ 9223372036854775807 := by omega
    simp [h3]
  have hs : setRow (l.map rDef).flatten (k * 15) (rDef d) = ((l.set k d).map rDef).flatten := by
    rw [setRow_flat 15 _ (rDef_len d) _ k (by intro x hx; obtain ⟨y, _, rfl⟩ := List.mem_map.1 hx; exact rDef_len y) (by simpa using hlt), List.map_set]
  have cl := close_rows S [.row 40 ((l.set k d).map rDef).flatten] [] 0 15 40 ((l.set k d).map rDef) 0 (by intro x hx; obtain ⟨y, _, rfl⟩ := List.mem_map.1 hx; exact ⟨rDef_plain y, rDef_len y⟩) rfl
  simp only [List.length_map, List.length_set, List.append_nil, Nat.add_zero] at cl
  have hb : k * 15 + 15 ≤ (l.map rDef).flatten.length := by
    rw [flat_len2 15 _ (by intro x hx; obtain ⟨y, _, rfl⟩ := List.mem_map.1 hx; exact rDef_len y), List.length_map]; omega
  (rw [w_plain (fn := c20) rfl rfl (by simp only [go_sem, c1, hd, c2, z1, z2, hlt', ap, hs, cl, hb]) rfl (by decide)]; simp only [c20, c20_b, c20_r4, c20_r11, go_sem, c1, hd, c2, z1, z2, hlt', ap, hs, cl, hb]; repeat' (first | (rw [guardO_t]; split <;> rename_i h <;> (try rw [Bool.not_eq_true] at h) <;> (try simp only [go_sem, c20_r4, c20_r11, c1, hd, c2, z1, z2, hlt', ap, hs, cl, hb, *])) | (rw [guardO_f]; split <;> rename_i h <;> (try rw [Bool.not_eq_true] at h) <;> (try simp only [go_sem, c20_r4, c20_r11, c1, hd, c2, z1, z2, hlt', ap, hs, cl, hb, *])) | (rw [cw_bool]; split <;> rename_i h <;> (try rw [Bool.not_eq_true] at h) <;> (try simp only [go_sem, c20_r4, c20_r11, c1, hd, c2, z1, z2, hlt', ap, hs, cl, hb, *]))))
theorem put37_bad (l : List GDef) (d : GDef) (od : OkDef d) (hn : defNodes d ≤ 1000000000) (hd : defOk d = false) (S : St) :
    cal (env ot oz) 20 [.sl .ro (l.map rDef), .agg (rDef d)] S = some (.tup [.sl .ro [], .int .i64 21], S) := by
  have c1 := def14 (ot := ot) (oz := oz) d od hn
  (rw [w_plain (fn := c20) rfl rfl (by simp only [go_sem, c1, hd]) rfl (by decide)]; simp only [c20, c20_b, c20_r4, c20_r11, go_sem, c1, hd]; repeat' (first | (rw [guardO_t]; split <;> rename_i h <;> (try rw [Bool.not_eq_true] at h) <;> (try simp only [go_sem, c20_r4, c20_r11, c1, hd, *])) | (rw [guardO_f]; split <;> rename_i h <;> (try rw [Bool.not_eq_true] at h) <;> (try simp only [go_sem, c20_r4, c20_r11, c1, hd, *])) | (rw [cw_bool]; split <;> rename_i h <;> (try rw [Bool.not_eq_true] at h) <;> (try simp only [go_sem, c20_r4, c20_r11, c1, hd, *]))))
/-- The document's Put, where that name is not there yet: it tells some number. -/
theorem put37_new (l : List GDef) (hl : l.length ≤ 2000000) (d : GDef) (od : OkDef d) (hn : defNodes d ≤ 1000000000) (hk : l.any (isN d.Sig.Name) = false) (S : St) :
    ∃ (xs : List GDef) (e : Int), cal (env ot oz) 20 [.sl .ro (l.map rDef), .agg (rDef d)] S = some (.tup [.sl .ro (xs.map rDef), .int .i64 e], S) := by
  have hl' : Short l.length := by unfold Short maxLen; omega
  have c1 := def14 (ot := ot) (oz := oz) d od hn
  have c2 := find37 (ot := ot) (oz := oz) l hl' d.Sig.Name
  rw [hk] at c2
  simp only [Bool.false_eq_true, if_false] at c2
  have z1 : decide ((-1 : Int) < 0) = true := rfl
  have z2 : decide ((0 : Int) ≤ -1) = false := rfl
  cases q : defOk d with
  | false =>
    refine ⟨[], 21, ?_⟩
    (rw [w_plain (fn := c20) rfl rfl (by simp only [go_sem, c1, q]) rfl (by decide)]; simp only [c20, c20_b, c20_r4, c20_r11, go_sem, c1, q]; repeat' (first | (rw [guardO_t]; split <;> rename_i h <;> (try rw [Bool.not_eq_true] at h) <;> (try simp only [go_sem, c20_r4, c20_r11, c1, q, *])) | (rw [guardO_f]; split <;> rename_i h <;> (try rw [Bool.not_eq_true] at h) <;> (try simp only [go_sem, c20_r4, c20_r11, c1, q, *])) | (rw [cw_bool]; split <;> rename_i h <;> (try rw [Bool.not_eq_true] at h) <;> (try simp only [go_sem, c20_r4, c20_r11, c1, q, *]))))
  | true =>
    cases q2 : decide ((12 : Int) ≤ (l.length : Int)) with
    | true =>
      refine ⟨[], 8, ?_⟩
      (rw [w_plain (fn := c20) rfl rfl (by simp only [go_sem, c1, q, c2, z1, q2]) rfl (by decide)]; simp only [c20, c20_b, c20_r4, c20_r11, go_sem, c1, q, c2, z1, q2]; repeat' (first | (rw [guardO_t]; split <;> rename_i h <;> (try rw [Bool.not_eq_true] at h) <;> (try simp only [go_sem, c20_r4, c20_r11, c1, q, c2, z1, q2, *])) | (rw [guardO_f]; split <;> rename_i h <;> (try rw [Bool.not_eq_true] at h) <;> (try simp only [go_sem, c20_r4, c20_r11, c1, q, c2, z1, q2, *])) | (rw [cw_bool]; split <;> rename_i h <;> (try rw [Bool.not_eq_true] at h) <;> (try simp only [go_sem, c20_r4, c20_r11, c1, q, c2, z1, q2, *]))))
    | false =>
      have ap : ∃ os v, appM S 40 15 256 (.sl .exact []) (l.map rDef) = some (v, ⟨S.obs ++ os, S.own⟩) := by
        cases l with
        | nil => exact ⟨[], .sl .exact [], by simp [appM]⟩
        | cons a l =>
          have h3 : (l.length + 1) * 256 ≤ 140737488355328 ∧ l.length + 1 ≤ 9223372036854775807 := by simp only [List.length_cons] at hl; omega
          have h4 := rDef_ok (a :: l)
          have h5 : ((a :: l).map rDef).isEmpty = false := rfl
          have h6 : ((a :: l).map rDef).length = l.length + 1 := by simp
          refine ⟨[.row 40 ((a :: l).map rDef).flatten], .msl S.obs.length 0 (l.length + 1) 15, ?_⟩
          unfold appM
          rw [h5, h4, h6]
          simp [h3]
      obtain ⟨os, v, ap⟩ := ap
      obtain ⟨i, hi, f0⟩ := put_loop (ot := ot) (oz := oz) l hl' d ⟨S.obs ++ os, S.own⟩
      obtain ⟨g1, w1, a1, k1⟩ := dgrow_app (S.obs ++ os) S.own [] .exact [] (l.take i) (.inl rfl) (by simp; omega)
      obtain ⟨g2, w2, a2, k2⟩ := dgrow_app (S.obs ++ os) S.own w1 g1 ([] ++ l.take i) [d] k1 (by simp; omega)
      obtain ⟨g3, w3, a3, k3⟩ := dgrow_app (S.obs ++ os) S.own w2 g2 ([] ++ l.take i ++ [d]) (l.drop i) k2 (by simp; omega)
      have cl := dgrow_close S os w3 g3 ([] ++ l.take i ++ [d] ++ l.drop i) 0
      refine ⟨_, 0, Eq.trans ?_ (congrArg some cl)⟩
      clear k1 k2 k3
      simp only [List.append_nil, List.nil_append, List.map_nil, List.map_cons] at a1 a2 a3 ⊢
      simp only [List.map_append, List.map_cons, List.map_nil, List.append_assoc, List.cons_append, List.nil_append] at a2 a3 cl ⊢
      have hdr : (l.map rDef).take i = (l.take i).map rDef := List.map_take.symm
      have hdd : ((l.map rDef).take l.length).drop i = (l.drop i).map rDef := by rw [List.take_of_length_le (by simp)]; exact List.map_drop.symm
      have hi2 : ((i : Nat) : Int) ≤ (l.length : Int) := by omega
      (rw [w_plain (fn := c20) rfl rfl (by simp only [go_sem, c1, q, c2, z1, z2, q2, ap, f0, a1, a2, a3, hdr, hdd, hi2, cl, Option.isSome_none, Option.isNone_none, Option.isSome_some, Option.isNone_some, Nat.min_self, rDef_lds (d := d)]) rfl (by decide)]; simp only [c20, c20_b, c20_r4, c20_r11, go_sem, c1, q, c2, z1, z2, q2, ap, f0, a1, a2, a3, hdr, hdd, hi2, cl, Option.isSome_none, Option.isNone_none, Option.isSome_some, Option.isNone_some, Nat.min_self, rDef_lds (d := d)]; repeat' (first | (rw [guardO_t]; split <;> rename_i h <;> (try rw [Bool.not_eq_true] at h) <;> (try simp only [go_sem, c20_r4, c20_r11, c1, q, c2, z1, z2, q2, ap, f0, a1, a2, a3, hdr, hdd, hi2, cl, Option.isSome_none, Option.isNone_none, Option.isSome_some, Option.isNone_some, Nat.min_self, rDef_lds (d := d), *])) | (rw [guardO_f]; split <;> rename_i h <;> (try rw [Bool.not_eq_true] at h) <;> (try simp only [go_sem, c20_r4, c20_r11, c1, q, c2, z1, z2, q2, ap, f0, a1, a2, a3, hdr, hdd, hi2, cl, Option.isSome_none, Option.isNone_none, Option.isSome_some, Option.isNone_some, Nat.min_self, rDef_lds (d := d), *])) | (rw [cw_bool]; split <;> rename_i h <;> (try rw [Bool.not_eq_true] at h) <;> (try simp only [go_sem, c20_r4, c20_r11, c1, q, c2, z1, z2, q2, ap, f0, a1, a2, a3, hdr, hdd, hi2, cl, Option.isSome_none, Option.isNone_none, Option.isSome_some, Option.isNone_some, Nat.min_self, rDef_lds (d := d), *]))))
end
/-! ### one definition put into its place -/
theorem findD_set (d : GDef) (n : ByteArray) : ∀ l : List GDef, l.any (isN d.Sig.Name) = true → findD (l.set (l.findIdx (isN d.Sig.Name)) d) n = if strEq d.Sig.Name n then some d else findD l n
  | [], h => by simp at h
  | a :: l, h => by
    rw [List.findIdx_cons]
    unfold findD isN
    cases q : strEq a.Sig.Name d.Sig.Name with
    | true =>
      have e := strEq_iff.1 q
      simp only [q, cond_true, List.set_cons_zero, List.find?_cons, e]
      cases strEq d.Sig.Name n <;> rfl
    | false =>
      have h' : l.any (isN d.Sig.Name) = true := by
        rw [List.any_cons] at h
        unfold isN at h ⊢
        rwa [q, Bool.false_or] at h
      have ih := findD_set d n l h'
      unfold findD isN at ih
      simp only [q, cond_false, List.set_cons_succ, List.find?_cons, ih]
      cases q2 : strEq a.Sig.Name n with
      | false => rfl
      | true =>
        have e := strEq_iff.1 q2
        subst e
        have : strEq d.Sig.Name a.Sig.Name = false := by rw [strEq_comm]; exact q
        simp [this]
theorem sameSig_refl (a : GSig) : sameSig a a = true := sameSig_iff.2 rfl
theorem stale_set (l : List GDef) (d x : GDef) (hk : l.any (isN d.Sig.Name) = true) (hx : findD l d.Sig.Name = some x) (hs : sameSig x.Sig d.Sig = true) (n : ByteArray) (hn : (findD l n).isSome = true) :
    staleS l (l.set (l.findIdx (isN d.Sig.Name)) d) n = (strEq d.Sig.Name n && !(sameDef x d)) := by
  have hf := fun n => findD_set d n l hk
  have hp : ∀ s, promisedS l (l.set (l.findIdx (isN d.Sig.Name)) d) s = true := fun s => by
    unfold promisedS
    rw [hf]
    cases q : strEq d.Sig.Name s with
    | true =>
      have e := strEq_iff.1 q
      subst e
      rw [hx]
      simpa using hs
    | false =>
      simp only [Bool.false_eq_true, if_false]
      cases findD l s with
      | none => rfl
      | some y => exact sameSig_refl _
  have ha : ∀ m : List ByteArray, (m.any fun s => !(promisedS l (l.set (l.findIdx (isN d.Sig.Name)) d) s)) = false := fun m => by
    rw [List.any_eq_false]; intro s _; rw [hp]; simp
  unfold staleS
  simp only [ha, Bool.or_false, hf]
  cases q : strEq d.Sig.Name n with
  | true =>
    have e := strEq_iff.1 q
    subst e
    rw [hx]; simp
  | false =>
    obtain ⟨y, hy⟩ := Option.isSome_iff_exists.1 hn
    rw [hy]
    have : sameDef y y = true := sameDef_iff.2 rfl
    simp [this]
theorem staleL_set (l : List GDef) (d x : GDef) (hk : l.any (isN d.Sig.Name) = true) (hx : findD l d.Sig.Name = some x) (hs : sameSig x.Sig d.Sig = true) :
    staleL l (l.set (l.findIdx (isN d.Sig.Name)) d) = if sameDef x d then [] else [d.Sig.Name] := by
  have hst := stale_set l d x hk hx hs
  obtain ⟨_, _, hg, _⟩ := (find_idx (isN d.Sig.Name) l).1 hk
  have hlt := getElem?_lt hg
  have hmem : ∀ y ∈ l.set (l.findIdx (isN d.Sig.Name)) d, (findD l y.Sig.Name).isSome = true := fun y hy => by
    rcases List.mem_or_eq_of_mem_set hy with h | h
    · unfold findD; rw [List.find?_isSome]; exact ⟨y, h, strEq_refl _⟩
    · subst h; rw [hx]; rfl
  have hin : d ∈ l.set (l.findIdx (isN d.Sig.Name)) d := List.mem_set hlt d
  rw [← staleG_eq]
  generalize l.set (l.findIdx (isN d.Sig.Name)) d = m at *
  cases q : sameDef x d with
  | true =>
    simp only [q, Bool.not_true, Bool.and_false] at hst
    have key : ∀ (r : List GDef), (∀ y ∈ r, y ∈ m) → r.foldl (staleG l m) [] = [] := by
      intro r
      induction r with
      | nil => intro _; rfl
      | cons a r ih =>
        intro h
        rw [List.foldl_cons]
        have : staleG l m [] a = [] := by unfold staleG; rw [hst _ (hmem a (h a (by simp)))]; simp
        rw [this]; exact ih fun y hy => h y (by simp [hy])
    simpa using key m fun y hy => hy
  | false =>
    simp only [q, Bool.not_false, Bool.and_true] at hst
    have k1 : ∀ (r : List GDef), (∀ y ∈ r, y ∈ m) → r.foldl (staleG l m) [d.Sig.Name] = [d.Sig.Name] := by
      intro r
      induction r with
      | nil => intro _; rfl
      | cons a r ih =>
        intro h
        rw [List.foldl_cons]
        have : staleG l m [d.Sig.Name] a = [d.Sig.Name] := by
          unfold staleG; rw [hst _ (hmem a (h a (by simp)))]
          cases q : strEq d.Sig.Name a.Sig.Name with
          | false => simp
          | true => have e := strEq_iff.1 q; simp [e, strEq_refl]
        rw [this]; exact ih fun y hy => h y (by simp [hy])
    have k2 : ∀ (r : List GDef), (∀ y ∈ r, y ∈ m) → d ∈ r → r.foldl (staleG l m) [] = [d.Sig.Name] := by
      intro r
      induction r with
      | nil => intro _ h; simp at h
      | cons a r ih =>
        intro h hd
        rw [List.foldl_cons]
        cases q : strEq d.Sig.Name a.Sig.Name with
        | true =>
          have e := strEq_iff.1 q
          have : staleG l m [] a = [d.Sig.Name] := by unfold staleG; rw [hst _ (hmem a (h a (by simp))), q, e]; simp
          rw [this]; exact k1 r fun y hy => h y (by simp [hy])
        | false =>
          have : staleG l m [] a = [] := by unfold staleG; rw [hst _ (hmem a (h a (by simp))), q]; simp
          rw [this]
          rcases List.mem_cons.1 hd with e | e
          · subst e; rw [strEq_refl] at q; cases q
          · exact ih (fun y hy => h y (by simp [hy])) e
    simpa using k2 m (fun y hy => hy) hin
section
variable {ot : TypeId} {oz : EP}
theorem depsOne (l : List GDef) (d : GDef) (okl : Short l.length ∧ ∀ d ∈ l, OkDef d) (okd : OkDef d) (hl : PV.bulk (.sl .ro (l.map rDef)) ≤ 1048576) (hd : bulkL (rDef d) ≤ 1048576) :
    Ev (env ot oz) 4 [.sl .ro (l.map rDef), .agg (rDef d)] .none (.bool true) .none := by
  refine cal_ev ?_
  have aw := aw39 (ot := ot) (oz := oz)
  have ol := okL_bulk okl.2 hl
  obtain ⟨b1, s1⟩ := small_n (ot := ot) (oz := oz) l okl.1 okl.2
  obtain ⟨n1, s2⟩ := allE_n (ot := ot) (oz := oz) d okd
  have hdn : ∀ d ∈ l, OkDef d ∧ defNodes d ≤ 1000000000 := fun d hd => ⟨okl.2 d hd, by
    have h1 := defNodes_bulk d
    have h2 := bulk_mem (r := rDef) hd
    simp only [PV.bulk] at hl
    omega⟩
  have pr := right37 (ot := ot) (oz := oz) l okl.1 hdn
  have hdn2 : defNodes d ≤ 1000000000 := by
    have h1 := defNodes_bulk d
    omega
  have hdp : (preE d.Body).length ≤ 2000000 := by
    have h1 := pre_bulk d.Body
    have h2 := bulk_def d
    omega
  have hc1 := find37 (ot := ot) (oz := oz) l okl.1 d.Sig.Name
  cases b1 with
  | false => (rw [w_plain (fn := c4) rfl rfl (by simp only [go_sem, s1, aw]) rfl (by decide)]; simp only [c4, c4_b, c4_r1, c4_r5, go_sem, s1, aw]; repeat' (first | (rw [guardO_t]; split <;> rename_i h <;> (try rw [Bool.not_eq_true] at h) <;> (try simp only [go_sem, c4_r1, c4_r5, s1, aw, *])) | (rw [guardO_f]; split <;> rename_i h <;> (try rw [Bool.not_eq_true] at h) <;> (try simp only [go_sem, c4_r1, c4_r5, s1, aw, *])) | (rw [cw_bool]; split <;> rename_i h <;> (try rw [Bool.not_eq_true] at h) <;> (try simp only [go_sem, c4_r1, c4_r5, s1, aw, *]))))
  | true =>
    cases q1 : decide ((500 : Int) < n1) with
    | true => (rw [w_plain (fn := c4) rfl rfl (by simp only [go_sem, s1, s2, q1, aw]) rfl (by decide)]; simp only [c4, c4_b, c4_r1, c4_r5, go_sem, s1, s2, q1, aw]; repeat' (first | (rw [guardO_t]; split <;> rename_i h <;> (try rw [Bool.not_eq_true] at h) <;> (try simp only [go_sem, c4_r1, c4_r5, s1, s2, q1, aw, *])) | (rw [guardO_f]; split <;> rename_i h <;> (try rw [Bool.not_eq_true] at h) <;> (try simp only [go_sem, c4_r1, c4_r5, s1, s2, q1, aw, *])) | (rw [cw_bool]; split <;> rename_i h <;> (try rw [Bool.not_eq_true] at h) <;> (try simp only [go_sem, c4_r1, c4_r5, s1, s2, q1, aw, *]))))
    | false =>
      cases q2 : progOk l with
      | false => (rw [w_plain (fn := c4) rfl rfl (by simp only [go_sem, s1, s2, q1, pr, q2, aw]) rfl (by decide)]; simp only [c4, c4_b, c4_r1, c4_r5, go_sem, s1, s2, q1, pr, q2, aw]; repeat' (first | (rw [guardO_t]; split <;> rename_i h <;> (try rw [Bool.not_eq_true] at h) <;> (try simp only [go_sem, c4_r1, c4_r5, s1, s2, q1, pr, q2, aw, *])) | (rw [guardO_f]; split <;> rename_i h <;> (try rw [Bool.not_eq_true] at h) <;> (try simp only [go_sem, c4_r1, c4_r5, s1, s2, q1, pr, q2, aw, *])) | (rw [cw_bool]; split <;> rename_i h <;> (try rw [Bool.not_eq_true] at h) <;> (try simp only [go_sem, c4_r1, c4_r5, s1, s2, q1, pr, q2, aw, *]))))
      | true =>
        cases q3 : l.any (isN d.Sig.Name) with
        | false =>
          obtain ⟨xs, e, hc2⟩ := put37_new (ot := ot) (oz := oz) l ol.1 d okd hdn2 q3 .none
          rw [q3] at hc1
          simp only [Bool.false_eq_true, if_false] at hc1
          have z1 : decide ((-1 : Int) < 0) = true := rfl
          cases q4 : decide (e = 0) <;> (rw [w_plain (fn := c4) rfl rfl (by simp only [go_sem, s1, s2, q1, pr, q2, hc1, hc2, z1, q4, aw]) rfl (by decide)]; simp only [c4, c4_b, c4_r1, c4_r5, go_sem, s1, s2, q1, pr, q2, hc1, hc2, z1, q4, aw]; repeat' (first | (rw [guardO_t]; split <;> rename_i h <;> (try rw [Bool.not_eq_true] at h) <;> (try simp only [go_sem, c4_r1, c4_r5, s1, s2, q1, pr, q2, hc1, hc2, z1, q4, aw, *])) | (rw [guardO_f]; split <;> rename_i h <;> (try rw [Bool.not_eq_true] at h) <;> (try simp only [go_sem, c4_r1, c4_r5, s1, s2, q1, pr, q2, hc1, hc2, z1, q4, aw, *])) | (rw [cw_bool]; split <;> rename_i h <;> (try rw [Bool.not_eq_true] at h) <;> (try simp only [go_sem, c4_r1, c4_r5, s1, s2, q1, pr, q2, hc1, hc2, z1, q4, aw, *]))))
        | true =>
          cases q4 : defOk d with
          | false =>
            have hc2 := put37_bad (ot := ot) (oz := oz) l d okd hdn2 q4
            have z0 : ((21 : Int) != 0) = true := rfl
            (rw [w_plain (fn := c4) rfl rfl (by simp only [go_sem, s1, s2, q1, pr, q2, hc1, hc2, z0, aw]) rfl (by decide)]; simp only [c4, c4_b, c4_r1, c4_r5, go_sem, s1, s2, q1, pr, q2, hc1, hc2, z0, aw]; repeat' (first | (rw [guardO_t]; split <;> rename_i h <;> (try rw [Bool.not_eq_true] at h) <;> (try simp only [go_sem, c4_r1, c4_r5, s1, s2, q1, pr, q2, hc1, hc2, z0, aw, *])) | (rw [guardO_f]; split <;> rename_i h <;> (try rw [Bool.not_eq_true] at h) <;> (try simp only [go_sem, c4_r1, c4_r5, s1, s2, q1, pr, q2, hc1, hc2, z0, aw, *])) | (rw [cw_bool]; split <;> rename_i h <;> (try rw [Bool.not_eq_true] at h) <;> (try simp only [go_sem, c4_r1, c4_r5, s1, s2, q1, pr, q2, hc1, hc2, z0, aw, *]))))
          | true =>
            have hc2 := put37 (ot := ot) (oz := oz) l ol.1 d okd hdn2 q4 q3
            obtain ⟨x, hx, hg, hxn⟩ := (find_idx (isN d.Sig.Name) l).1 q3
            have hlt := getElem?_lt hg
            have hxm := mem_of_get hg
            have ox := okl.2 x hxm
            have omx : OkL (l.set (l.findIdx (isN d.Sig.Name)) d) := ⟨by rw [List.length_set]; exact ol.1, fun y hy => by
              rcases List.mem_or_eq_of_mem_set hy with h | h
              · exact ol.2 y h
              · subst h; exact ⟨okd, hdp⟩⟩
            have hc3 := sameSig14 (ot := ot) (oz := oz) x.Sig d.Sig ox.Sig okd.Sig
            have hc4 := staleLP (ot := ot) (oz := oz) l _ ol omx
            have hc5 := sameDef14 (ot := ot) (oz := oz) x d ox okd
            have e1 := staleL_set l d x q3 hx
            have hc6 : ∀ S, cal (env ot oz) 8 [.sl .ro [[.str d.Sig.Name]], .sl .exact [[.str d.Sig.Name]]] S = some (.bool true, S) := fun S => by
              rw [← same01_same (ot := ot) (oz := oz) [d.Sig.Name] (by unfold Short maxLen; simp) S]
              exact cal_ask (by simp [askD, sealL, sealW, sealLL, rStr]) (by simp [askD, sealL, sealW, sealLL, rStr]) rfl
            rw [q3] at hc1
            simp only [if_true] at hc1
            have hm : ∀ k, ((l.set k d).map rDef) = (l.map rDef).set k (rDef d) := fun k => List.map_set
            generalize l.set (l.findIdx (isN d.Sig.Name)) d = m at *
            generalize l.findIdx (isN d.Sig.Name) = k at *
            have z1 : decide (((k : Nat) : Int) < 0) = false := decide_eq_false (by omega)
            have hlt' : ((k : Nat) : Int) < (l.length : Int) := by omega
            clear hm omx
            cases q5 : sameSig x.Sig d.Sig with
            | false => (rw [w_plain (fn := c4) rfl rfl (by simp only [go_sem, s1, s2, q1, pr, q2, hc1, hc2, z1, hlt', hg, hc3, q5, aw]) rfl (by decide)]; simp only [c4, c4_b, c4_r1, c4_r5, go_sem, s1, s2, q1, pr, q2, hc1, hc2, z1, hlt', hg, hc3, q5, aw]; repeat' (first | (rw [guardO_t]; split <;> rename_i h <;> (try rw [Bool.not_eq_true] at h) <;> (try simp only [go_sem, c4_r1, c4_r5, s1, s2, q1, pr, q2, hc1, hc2, z1, hlt', hg, hc3, q5, aw, *])) | (rw [guardO_f]; split <;> rename_i h <;> (try rw [Bool.not_eq_true] at h) <;> (try simp only [go_sem, c4_r1, c4_r5, s1, s2, q1, pr, q2, hc1, hc2, z1, hlt', hg, hc3, q5, aw, *])) | (rw [cw_bool]; split <;> rename_i h <;> (try rw [Bool.not_eq_true] at h) <;> (try simp only [go_sem, c4_r1, c4_r5, s1, s2, q1, pr, q2, hc1, hc2, z1, hlt', hg, hc3, q5, aw, *]))))
            | true =>
              have e1 := e1 q5
              cases q6 : sameDef x d <;> simp only [q6, if_true, if_false, Bool.false_eq_true] at e1 <;> rw [e1] at hc4 <;> (rw [w_plain (fn := c4) rfl rfl (by simp only [go_sem, s1, s2, q1, pr, q2, hc1, hc2, z1, hlt', hg, hc3, q5, hc4, hc5, q6, hc6, aw]) rfl (by decide)]; simp only [c4, c4_b, c4_r1, c4_r5, go_sem, s1, s2, q1, pr, q2, hc1, hc2, z1, hlt', hg, hc3, q5, hc4, hc5, q6, hc6, aw]; repeat' (first | (rw [guardO_t]; split <;> rename_i h <;> (try rw [Bool.not_eq_true] at h) <;> (try simp only [go_sem, c4_r1, c4_r5, s1, s2, q1, pr, q2, hc1, hc2, z1, hlt', hg, hc3, q5, hc4, hc5, q6, hc6, aw, *])) | (rw [guardO_f]; split <;> rename_i h <;> (try rw [Bool.not_eq_true] at h) <;> (try simp only [go_sem, c4_r1, c4_r5, s1, s2, q1, pr, q2, hc1, hc2, z1, hlt', hg, hc3, q5, hc4, hc5, q6, hc6, aw, *])) | (rw [cw_bool]; split <;> rename_i h <;> (try rw [Bool.not_eq_true] at h) <;> (try simp only [go_sem, c4_r1, c4_r5, s1, s2, q1, pr, q2, hc1, hc2, z1, hlt', hg, hc3, q5, hc4, hc5, q6, hc6, aw, *]))))
end
end Go.PE
