/-
  Loops over lists, round by round. Conditions: each law's own.
-/
import Derived.Test.YtleggogbmklddaaGreatDoorN01
import Derived.Test.YtleggogbmklddaaGreatDoorPQ
namespace Go.PE
open Go Go.RowKit
set_option linter.unusedVariables false
set_option linter.unusedSimpArgs false

theorem loopF {α β : Type} {E : Env} {c : EC} (l : List α) (hl : Short l.length) (F : Nat → β → Tmps) (G : Nat → β → St) (step : β → α → β) (I : Nat → β → Prop) (fin : Kont (PV × St)) (st : List Fw)
    (hs : ∀ (i : Nat) (b : β) (a : α), l[i]? = some a → a ∈ l → (i : Int) < (l.length : Int) → IntKind.i64.wrap ((i : Int) + 1) = ((i + 1 : Nat) : Int) → I i b → I (i + 1) (step b a) ∧ run E fin st c (F i b) (G i b) = run E fin st c (F (i + 1) (step b a)) (G (i + 1) (step b a))) :
    ∀ (rest : List α) (i : Nat) (b : β), l.drop i = rest → I i b → I (i + rest.length) (rest.foldl step b) ∧ run E fin st c (F i b) (G i b) = run E fin st c (F (i + rest.length) (rest.foldl step b)) (G (i + rest.length) (rest.foldl step b))
  | [], i, b, h, hI => ⟨hI, rfl⟩
  | a :: r, i, b, h, hI => by
    obtain ⟨h1, h2, h3⟩ := drop_cons h
    unfold Short maxLen at hl
    have w := wrap_succ (i := i) (n := l.length) h3 (by omega)
    obtain ⟨k1, k2⟩ := hs i b a h1 (mem_of_get h1) (by omega) w hI
    have ih := loopF l (by unfold Short maxLen; omega) F G step I fin st hs r (i + 1) (step b a) h2 k1
    have e : i + (a :: r).length = i + 1 + r.length := by simp only [List.length_cons]; omega
    rw [e, List.foldl_cons, k2]
    exact ih
theorem loopF0 {α β : Type} {E : Env} {c : EC} {S : St} (l : List α) (hl : Short l.length) (F : Nat → β → Tmps) (step : β → α → β) (b : β) (fin : Kont (PV × St)) (st : List Fw)
    (hs : ∀ (i : Nat) (b : β) (a : α), l[i]? = some a → a ∈ l → (i : Int) < (l.length : Int) → IntKind.i64.wrap ((i : Int) + 1) = ((i + 1 : Nat) : Int) → run E fin st c (F i b) S = run E fin st c (F (i + 1) (step b a)) S) :
    run E fin st c (F 0 b) S = run E fin st c (F l.length (l.foldl step b)) S := by
  have := (loopF l hl F (fun _ _ => S) step (fun _ _ => True) fin st (fun i b a h1 h2 h3 h4 _ => ⟨trivial, hs i b a h1 h2 h3 h4⟩) l 0 b rfl trivial).2
  simpa using this
theorem loopA {α : Type} {E : Env} {c : EC} {S : St} (l : List α) (hl : Short l.length) (F : Nat → Tmps) (p : α → Bool) (fin : Kont (PV × St)) (st : List Fw) (K X : Option (PV × St))
    (hs : ∀ (i : Nat) (a : α), l[i]? = some a → a ∈ l → (i : Int) < (l.length : Int) → IntKind.i64.wrap ((i : Int) + 1) = ((i + 1 : Nat) : Int) → p a = false → run E fin st c (F i) S = run E fin st c (F (i + 1)) S)
    (hk : ∀ (i : Nat) (a : α), l[i]? = some a → a ∈ l → (i : Int) < (l.length : Int) → IntKind.i64.wrap ((i : Int) + 1) = ((i + 1 : Nat) : Int) → p a = true → run E fin st c (F i) S = K) (hx : run E fin st c (F l.length) S = X) :
    run E fin st c (F 0) S = if l.any p then K else X := by
  rw [← hx]
  have key : ∀ (rest : List α) (i : Nat), l.drop i = rest → run E fin st c (F i) S = if rest.any p then K else run E fin st c (F (i + rest.length)) S := by
    intro rest
    induction rest with
    | nil => intro i h; simp
    | cons a r ih =>
      intro i h
      obtain ⟨h1, h2, h3⟩ := drop_cons h
      unfold Short maxLen at hl
      have w := wrap_succ (i := i) (n := l.length) h3 (by omega)
      have hlt : (i : Int) < (l.length : Int) := by omega
      cases q : p a with
      | true => rw [hk i a h1 (mem_of_get h1) hlt w q, List.any_cons, q]; simp
      | false =>
        rw [hs i a h1 (mem_of_get h1) hlt w q, ih (i + 1) h2, List.any_cons, q]
        have e : i + (a :: r).length = i + 1 + r.length := by simp only [List.length_cons]; omega
        rw [e]; simp
  have := key l 0 rfl
  simpa using this
theorem loopP {α : Type} {E : Env} {c : EC} {S : St} (l : List α) (hl : Short l.length) (F : Nat → Tmps) (p : α → Bool) (fin : Kont (PV × St)) (st : List Fw) (K : Nat → Option (PV × St)) (X : Option (PV × St))
    (hs : ∀ (i : Nat) (a : α), l[i]? = some a → a ∈ l → (i : Int) < (l.length : Int) → IntKind.i64.wrap ((i : Int) + 1) = ((i + 1 : Nat) : Int) → p a = false → run E fin st c (F i) S = run E fin st c (F (i + 1)) S)
    (hk : ∀ (i : Nat) (a : α), l[i]? = some a → a ∈ l → (i : Int) < (l.length : Int) → IntKind.i64.wrap ((i : Int) + 1) = ((i + 1 : Nat) : Int) → p a = true → run E fin st c (F i) S = K i) (hx : run E fin st c (F l.length) S = X) :
    run E fin st c (F 0) S = if l.any p then K (l.findIdx p) else X := by
  rw [← hx]
  have key : ∀ (rest : List α) (i : Nat), l.drop i = rest → run E fin st c (F i) S = if rest.any p then K (i + rest.findIdx p) else run E fin st c (F (i + rest.length)) S := by
    intro rest
    induction rest with
    | nil => intro i h; simp
    | cons a r ih =>
      intro i h
      obtain ⟨h1, h2, h3⟩ := drop_cons h
      unfold Short maxLen at hl
      have w := wrap_succ (i := i) (n := l.length) h3 (by omega)
      have hlt : (i : Int) < (l.length : Int) := by omega
      cases q : p a with
      | true =>
        rw [hk i a h1 (mem_of_get h1) hlt w q, List.any_cons, q, List.findIdx_cons, q]; simp
      | false =>
        rw [hs i a h1 (mem_of_get h1) hlt w q, ih (i + 1) h2, List.any_cons, q, List.findIdx_cons, q]
        have e : i + (a :: r).length = i + 1 + r.length := by simp only [List.length_cons]; omega
        have e2 : i + (r.findIdx p + 1) = i + 1 + r.findIdx p := by omega
        rw [e]; simp [e2]
  have := key l 0 rfl
  simpa using this

/-! ### rounds that leave objects behind -/
theorem loopR {α β : Type} {E : Env} {c : EC} (l : List α) (hl : Short l.length) (step : β → α → β) (I : Nat → β → Tmps → St → Prop)
    (hs : ∀ (i : Nat) (b : β) (a : α) (ts : Tmps) (T : St), l[i]? = some a → a ∈ l → (i : Int) < (l.length : Int) → IntKind.i64.wrap ((i : Int) + 1) = ((i + 1 : Nat) : Int) → I i b ts T → ∃ ts' T', I (i + 1) (step b a) ts' T' ∧ ∀ fin st, run E fin st c ts T = run E fin st c ts' T')
    (b : β) (ts : Tmps) (S : St) (h0 : I 0 b ts S) : ∃ ts' T', I l.length (l.foldl step b) ts' T' ∧ ∀ fin st, run E fin st c ts S = run E fin st c ts' T' := by
  have key : ∀ (rest : List α) (i : Nat) (b : β) (ts : Tmps) (S : St), l.drop i = rest → I i b ts S → ∃ ts' T', I (i + rest.length) (rest.foldl step b) ts' T' ∧ ∀ fin st, run E fin st c ts S = run E fin st c ts' T' := by
    intro rest
    induction rest with
    | nil => intro i b ts S h hI; exact ⟨ts, S, by simpa using hI, fun _ _ => rfl⟩
    | cons a r ih =>
      intro i b ts S h hI
      obtain ⟨h1, h2, h3⟩ := drop_cons h
      unfold Short maxLen at hl
      have w := wrap_succ (i := i) (n := l.length) h3 (by omega)
      obtain ⟨ts1, T1, k1, k2⟩ := hs i b a ts S h1 (mem_of_get h1) (by omega) w hI
      obtain ⟨ts2, T2, k3, k4⟩ := ih (i + 1) _ ts1 T1 h2 k1
      have e : i + (a :: r).length = i + 1 + r.length := by simp only [List.length_cons]; omega
      exact ⟨ts2, T2, by rw [e]; simpa using k3, fun fin st => (k2 fin st).trans (k4 fin st)⟩
  have := key l 0 b ts S rfl h0
  simpa using this
theorem loopT {α β : Type} {E : Env} {c : EC} (l : List α) (hl : Short l.length) (F : Nat → β → Tmps) (X : Nat → β → St → Kont (PV × St) → List Fw → Option (PV × St))
    (hs : ∀ (i : Nat) (b : β) (a : α), l[i]? = some a → a ∈ l → (i : Int) < (l.length : Int) → IntKind.i64.wrap ((i : Int) + 1) = ((i + 1 : Nat) : Int) → (∃ b', ∀ S fin st, run E fin st c (F i b) S = run E fin st c (F (i + 1) b') S) ∨ ∃ i' b', ∀ S fin st, run E fin st c (F i b) S = X i' b' S fin st)
    (hx : ∀ (b : β), ∃ i' b', ∀ S fin st, run E fin st c (F l.length b) S = X i' b' S fin st) (b : β) : ∃ (i : Nat) (b' : β), ∀ S fin st, run E fin st c (F 0 b) S = X i b' S fin st := by
  have key : ∀ (rest : List α) (i : Nat) (b : β), l.drop i = rest → i ≤ l.length → ∃ (j : Nat) (b' : β), ∀ S fin st, run E fin st c (F i b) S = X j b' S fin st := by
    intro rest
    induction rest with
    | nil =>
      intro i b h hle
      have h1 := drop_nil h
      have q : i = l.length := by omega
      subst q; exact hx b
    | cons a r ih =>
      intro i b h hle
      obtain ⟨h1, h2, h3⟩ := drop_cons h
      unfold Short maxLen at hl
      have w := wrap_succ (i := i) (n := l.length) h3 (by omega)
      rcases hs i b a h1 (mem_of_get h1) (by omega) w with ⟨b', hb⟩ | hb
      · obtain ⟨j, b2, hj⟩ := ih (i + 1) b' h2 (by omega)
        exact ⟨j, b2, fun S fin st => (hb S fin st).trans (hj S fin st)⟩
      · exact hb
  exact key l 0 b rfl (by omega)
end Go.PE
namespace Go.PE
open Go Go.RowKit Go.Proofs
set_option linter.unusedVariables false
set_option linter.unusedSimpArgs false
set_option maxRecDepth 100000
section
variable {ot : TypeId} {oz : EP}
theorem muchE_n : ∀ (e : GExp), OkExp e → ∃ n : Int, ∀ S, cal (env ot oz) 6 [.agg (rExp e)] S = some (.int .i64 n, S) := by
  refine GExp.ind fun e ih oe => ?_
  have hk : Short e.Kids.length ∧ ∀ x ∈ e.Kids, OkExp x := by cases oe; exact ⟨by assumption, by assumption⟩
  have ht : Short e.Types.length ∧ ∀ x ∈ e.Types, OkTy x := by cases oe; assumption
  have hl : Short e.Labels.length := by cases oe; exact (by assumption : _ ∧ _).1
  obtain ⟨i1, n1, f1⟩ := loopT (E := (env ot oz)) (c := c6_l0) e.Labels hl (fun i (n : Int) => [(1, some (.at_ (rExp e))), (3, some (.int .i64 n)), (4, some (.int .i64 (i : Int)))])
    (fun i n S fin st => aft (env ot oz) fin st (.exit 0) [(1, some (.at_ (rExp e))), (3, some (.int .i64 n)), (4, some (.int .i64 (i : Int))), (24, some (.bool false))] S)
    (fun i n s h1 h2 h3 h4 => by
      by_cases q : (i : Int) < 1000
      · refine .inl ⟨w64 (n + w64 ((s.size : Int).tdiv 8)), fun S fin st => ?_⟩
        (rw [c6_l0_w]; simp only [c6_l0_b, c6_l0_a, c6_r3, c6_r7, c6_r11, go_sem, h1, h3, h4, q]; repeat' ((first | rw [guardO_t] | rw [guardO_f] | rw [cw_bool]); split <;> rename_i h <;> (try rw [Bool.not_eq_true] at h) <;> (try simp only [go_sem, c6_r3, c6_r7, c6_r11, c6_l0_a, h1, h3, h4, q, *])))
      · refine .inr ⟨i, n, fun S fin st => ?_⟩
        (rw [c6_l0_w]; simp only [c6_l0_b, c6_l0_a, c6_r3, c6_r7, c6_r11, go_sem, h1, h3, h4, q]; repeat' ((first | rw [guardO_t] | rw [guardO_f] | rw [cw_bool]); split <;> rename_i h <;> (try rw [Bool.not_eq_true] at h) <;> (try simp only [go_sem, c6_r3, c6_r7, c6_r11, c6_l0_a, h1, h3, h4, q, *]))))
    (fun n => ⟨e.Labels.length, n, fun S fin st => by (rw [c6_l0_w]; simp only [c6_l0_b, c6_l0_a, c6_r3, c6_r7, c6_r11, go_sem]; repeat' ((first | rw [guardO_t] | rw [guardO_f] | rw [cw_bool]); split <;> rename_i h <;> (try rw [Bool.not_eq_true] at h) <;> (try simp only [go_sem, c6_r3, c6_r7, c6_r11, c6_l0_a, *])))⟩) (w64 (w64 (1 + w64 ((e.Name.size : Int).tdiv 8)) + (e.Labels.length : Int)))
  obtain ⟨i2, n2, f2⟩ := loopT (E := (env ot oz)) (c := c6_l1) e.Types ht.1 (fun i (n : Int) => [(1, some (.at_ (rExp e))), (3, some (.int .i64 n)), (5, some (.int .i64 (i : Int)))])
    (fun i n S fin st => aft (env ot oz) fin st (.exit 2) [(1, some (.at_ (rExp e))), (3, some (.int .i64 n)), (5, some (.int .i64 (i : Int))), (44, some (.bool false))] S)
    (fun i n t h1 h2 h3 h4 => by
      have m := fun S => cal_ans (muchT_ok (ot := ot) (oz := oz) t (ht.2 t h2)) (S := S)
      by_cases q : n < 3000
      · refine .inl ⟨w64 (n + muchT t), fun S fin st => ?_⟩
        (rw [c6_l1_w]; simp only [c6_l1_b, c6_l1_a, c6_r3, c6_r7, c6_r11, go_sem, h1, h3, h4, q, m]; repeat' ((first | rw [guardO_t] | rw [guardO_f] | rw [cw_bool]); split <;> rename_i h <;> (try rw [Bool.not_eq_true] at h) <;> (try simp only [go_sem, c6_r3, c6_r7, c6_r11, c6_l1_a, h1, h3, h4, q, m, *])))
      · refine .inr ⟨i, n, fun S fin st => ?_⟩
        (rw [c6_l1_w]; simp only [c6_l1_b, c6_l1_a, c6_r3, c6_r7, c6_r11, go_sem, h1, h3, h4, q]; repeat' ((first | rw [guardO_t] | rw [guardO_f] | rw [cw_bool]); split <;> rename_i h <;> (try rw [Bool.not_eq_true] at h) <;> (try simp only [go_sem, c6_r3, c6_r7, c6_r11, c6_l1_a, h1, h3, h4, q, *]))))
    (fun n => ⟨e.Types.length, n, fun S fin st => by (rw [c6_l1_w]; simp only [c6_l1_b, c6_l1_a, c6_r3, c6_r7, c6_r11, go_sem]; repeat' ((first | rw [guardO_t] | rw [guardO_f] | rw [cw_bool]); split <;> rename_i h <;> (try rw [Bool.not_eq_true] at h) <;> (try simp only [go_sem, c6_r3, c6_r7, c6_r11, c6_l1_a, *])))⟩) n1
  obtain ⟨i3, n3, f3⟩ := loopT (E := (env ot oz)) (c := c6_l2) e.Kids hk.1 (fun i (n : Int) => [(1, some (.at_ (rExp e))), (3, some (.int .i64 n)), (6, some (.int .i64 (i : Int)))])
    (fun i n S fin st => aft (env ot oz) fin st (.exit 4) [(1, some (.at_ (rExp e))), (3, some (.int .i64 n)), (6, some (.int .i64 (i : Int))), (63, some (.bool false))] S)
    (fun i n k h1 h2 h3 h4 => by
      obtain ⟨v, m⟩ := ih k h2 (hk.2 k h2)
      by_cases q : n < 3000
      · refine .inl ⟨w64 (n + v), fun S fin st => ?_⟩
        (rw [c6_l2_w]; simp only [c6_l2_b, c6_l2_a, c6_r3, c6_r7, c6_r11, go_sem, h1, h3, h4, q, m]; repeat' ((first | rw [guardO_t] | rw [guardO_f] | rw [cw_bool]); split <;> rename_i h <;> (try rw [Bool.not_eq_true] at h) <;> (try simp only [go_sem, c6_r3, c6_r7, c6_r11, c6_l2_a, h1, h3, h4, q, m, *])))
      · refine .inr ⟨i, n, fun S fin st => ?_⟩
        (rw [c6_l2_w]; simp only [c6_l2_b, c6_l2_a, c6_r3, c6_r7, c6_r11, go_sem, h1, h3, h4, q]; repeat' ((first | rw [guardO_t] | rw [guardO_f] | rw [cw_bool]); split <;> rename_i h <;> (try rw [Bool.not_eq_true] at h) <;> (try simp only [go_sem, c6_r3, c6_r7, c6_r11, c6_l2_a, h1, h3, h4, q, *]))))
    (fun n => ⟨e.Kids.length, n, fun S fin st => by (rw [c6_l2_w]; simp only [c6_l2_b, c6_l2_a, c6_r3, c6_r7, c6_r11, go_sem]; repeat' ((first | rw [guardO_t] | rw [guardO_f] | rw [cw_bool]); split <;> rename_i h <;> (try rw [Bool.not_eq_true] at h) <;> (try simp only [go_sem, c6_r3, c6_r7, c6_r11, c6_l2_a, *])))⟩) n2
  simp only [Int.cast_ofNat_Int] at f1 f2 f3
  refine ⟨n3, fun S => ?_⟩
  (rw [w_plain (fn := c6) rfl rfl (by simp only [go_sem, f1, f2, f3]) rfl (by decide)]; simp only [c6, c6_b, c6_r3, c6_r7, c6_r11, go_sem, f1, f2, f3]; repeat' ((first | rw [guardO_t] | rw [guardO_f] | rw [cw_bool]); split <;> rename_i h <;> (try rw [Bool.not_eq_true] at h) <;> (try simp only [go_sem, c6_r3, c6_r7, c6_r11, f1, f2, f3, *])))
theorem bindsE_n (l : List GBind) (hl : Short l.length) (ok : ∀ b ∈ l, OkBind b) : ∃ n : Int, ∀ S, cal (env ot oz) 25 [.sl .ro (l.map rBind)] S = some (.int .i64 n, S) := by
  obtain ⟨i1, n1, f1⟩ := loopT (E := (env ot oz)) (c := c25_l0) l hl (fun i (n : Int) => [(0, some (.sl .ro (l.map rBind))), (3, some (.int .i64 n)), (4, some (.int .i64 (i : Int)))])
    (fun i n S fin st => aft (env ot oz) fin st (.exit 0) [(0, some (.sl .ro (l.map rBind))), (3, some (.int .i64 n)), (4, some (.int .i64 (i : Int))), (14, some (.bool false))] S)
    (fun i n b h1 h2 h3 h4 => by
      have m := fun S => cal_ans (muchT_ok (ot := ot) (oz := oz) b.Typ (ok b h2).Typ) (S := S)
      by_cases q : n < 3000
      · refine .inl ⟨w64 (w64 (n + muchT b.Typ) + w64 ((b.Name.size : Int).tdiv 8)), fun S fin st => ?_⟩
        (rw [c25_l0_w]; simp only [c25_l0_b, c25_l0_a, c25_r3, go_sem, h1, h3, h4, q, m]; repeat' ((first | rw [guardO_t] | rw [guardO_f] | rw [cw_bool]); split <;> rename_i h <;> (try rw [Bool.not_eq_true] at h) <;> (try simp only [go_sem, c25_r3, c25_l0_a, h1, h3, h4, q, m, *])))
      · refine .inr ⟨i, n, fun S fin st => ?_⟩
        (rw [c25_l0_w]; simp only [c25_l0_b, c25_l0_a, c25_r3, go_sem, h1, h3, h4, q]; repeat' ((first | rw [guardO_t] | rw [guardO_f] | rw [cw_bool]); split <;> rename_i h <;> (try rw [Bool.not_eq_true] at h) <;> (try simp only [go_sem, c25_r3, c25_l0_a, h1, h3, h4, q, *]))))
    (fun n => ⟨l.length, n, fun S fin st => by (rw [c25_l0_w]; simp only [c25_l0_b, c25_l0_a, c25_r3, go_sem]; repeat' ((first | rw [guardO_t] | rw [guardO_f] | rw [cw_bool]); split <;> rename_i h <;> (try rw [Bool.not_eq_true] at h) <;> (try simp only [go_sem, c25_r3, c25_l0_a, *])))⟩) (l.length : Int)
  simp only [Int.cast_ofNat_Int] at f1
  refine ⟨n1, fun S => ?_⟩
  (rw [w_plain (fn := c25) rfl rfl (by simp only [go_sem, f1]) rfl (by decide)]; simp only [c25, c25_b, c25_r3, go_sem, f1]; repeat' ((first | rw [guardO_t] | rw [guardO_f] | rw [cw_bool]); split <;> rename_i h <;> (try rw [Bool.not_eq_true] at h) <;> (try simp only [go_sem, c25_r3, f1, *])))
theorem allE_n (d : GDef) (ok : OkDef d) : ∃ n : Int, ∀ S, cal (env ot oz) 12 [.agg (rDef d)] S = some (.int .i64 n, S) := by
  obtain ⟨a, ha⟩ := muchE_n (ot := ot) (oz := oz) d.Body ok.Body
  obtain ⟨b, hb⟩ := bindsE_n (ot := ot) (oz := oz) d.Sig.Binders ok.Sig.Binders.1 ok.Sig.Binders.2
  obtain ⟨c, hc⟩ := bindsE_n (ot := ot) (oz := oz) d.Sig.Params ok.Sig.Params.1 ok.Sig.Params.2
  have m := fun S => cal_ans (muchT_ok (ot := ot) (oz := oz) d.Sig.Result ok.Sig.Result) (S := S)
  refine ⟨w64 (w64 (w64 (w64 (a + b) + c) + muchT d.Sig.Result) + w64 ((d.Sig.Name.size : Int).tdiv 8)), fun S => ?_⟩
  (rw [w_plain (fn := c12) rfl rfl (by simp only [go_sem, ha, hb, hc, m]) rfl (by decide)]; simp only [c12, c12_b, go_sem, ha, hb, hc, m]; repeat' ((first | rw [guardO_t] | rw [guardO_f] | rw [cw_bool]); split <;> rename_i h <;> (try rw [Bool.not_eq_true] at h) <;> (try simp only [go_sem, ha, hb, hc, m, *])))
end
end Go.PE
