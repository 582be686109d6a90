/-
  Loops over lists, round by round. Conditions: each law's own.
-/
import Derived.Test.YtleggogbmklddaaGreatDoorPE21
import Derived.Test.YtleggogbmklddaaGreatDoorT04
namespace Go.PE
open Go Go.RowKit
set_option linter.unusedVariables false
set_option linter.unusedSimpArgs false

/-- A loop that goes through a list, and is not left ahead of its end. -/
theorem loopF {α β : Type} {E : Env} {c : EC} (l : List α) (hl : Short l.length) (F : Nat → β → Tmps) (G : Nat → β → St) (step : β → α → β) (I : Nat → β → Prop) (fin : Kont (PV × St)) (st : List Fw)
    (hs : ∀ (i : Nat) (b : β) (a : α), l[i]? = some a → a ∈ l → (i : Int) < (l.length : Int) → IntKind.i64.wrap ((i : Int) + 1) = ((i + 1 : Nat) : Int) → I i b → I (i + 1) (step b a) ∧ run E fin st c (F i b) (G i b) = run E fin st c (F (i + 1) (step b a)) (G (i + 1) (step b a))) :
    ∀ (rest : List α) (i : Nat) (b : β), l.drop i = rest → I i b → I (i + rest.length) (rest.foldl step b) ∧ run E fin st c (F i b) (G i b) = run E fin st c (F (i + rest.length) (rest.foldl step b)) (G (i + rest.length) (rest.foldl step b))
  | [], i, b, h, hI => ⟨hI, rfl⟩
  | a :: r, i, b, h, hI => by
    obtain ⟨h1, h2, h3⟩ := drop_cons h
    unfold Short maxLen at hl
    have w := wrap_succ (i := i) (n := l.length) h3 (by omega)
    obtain ⟨k1, k2⟩ := hs i b a h1 (mem_of_get h1) (by omega) w hI
    have ih := loopF l (by unfold Short maxLen; omega) F G step I fin st hs r (i + 1) (step b a) h2 k1
    have e : i + (a :: r).length = i + 1 + r.length := by simp only [List.length_cons]; omega
    rw [e, List.foldl_cons, k2]
    exact ih
/-- The whole list, with a state that does not turn. -/
theorem loopF0 {α β : Type} {E : Env} {c : EC} {S : St} (l : List α) (hl : Short l.length) (F : Nat → β → Tmps) (step : β → α → β) (b : β) (fin : Kont (PV × St)) (st : List Fw)
    (hs : ∀ (i : Nat) (b : β) (a : α), l[i]? = some a → a ∈ l → (i : Int) < (l.length : Int) → IntKind.i64.wrap ((i : Int) + 1) = ((i + 1 : Nat) : Int) → run E fin st c (F i b) S = run E fin st c (F (i + 1) (step b a)) S) :
    run E fin st c (F 0 b) S = run E fin st c (F l.length (l.foldl step b)) S := by
  have := (loopF l hl F (fun _ _ => S) step (fun _ _ => True) fin st (fun i b a h1 h2 h3 h4 _ => ⟨trivial, hs i b a h1 h2 h3 h4⟩) l 0 b rfl trivial).2
  simpa using this
/-- A loop that is left at the first member of which something is so; the state does not turn. -/
theorem loopA {α : Type} {E : Env} {c : EC} {S : St} (l : List α) (hl : Short l.length) (F : Nat → Tmps) (p : α → Bool) (fin : Kont (PV × St)) (st : List Fw) (K X : Option (PV × St))
    (hs : ∀ (i : Nat) (a : α), l[i]? = some a → a ∈ l → (i : Int) < (l.length : Int) → IntKind.i64.wrap ((i : Int) + 1) = ((i + 1 : Nat) : Int) → p a = false → run E fin st c (F i) S = run E fin st c (F (i + 1)) S)
    (hk : ∀ (i : Nat) (a : α), l[i]? = some a → a ∈ l → (i : Int) < (l.length : Int) → IntKind.i64.wrap ((i : Int) + 1) = ((i + 1 : Nat) : Int) → p a = true → run E fin st c (F i) S = K) (hx : run E fin st c (F l.length) S = X) :
    run E fin st c (F 0) S = if l.any p then K else X := by
  rw [← hx]
  have key : ∀ (rest : List α) (i : Nat), l.drop i = rest → run E fin st c (F i) S = if rest.any p then K else run E fin st c (F (i + rest.length)) S := by
    intro rest
    induction rest with
    | nil => intro i h; simp
    | cons a r ih =>
      intro i h
      obtain ⟨h1, h2, h3⟩ := drop_cons h
      unfold Short maxLen at hl
      have w := wrap_succ (i := i) (n := l.length) h3 (by omega)
      have hlt : (i : Int) < (l.length : Int) := by omega
      cases q : p a with
      | true => rw [hk i a h1 (mem_of_get h1) hlt w q, List.any_cons, q]; simp
      | false =>
        rw [hs i a h1 (mem_of_get h1) hlt w q, ih (i + 1) h2, List.any_cons, q]
        have e : i + (a :: r).length = i + 1 + r.length := by simp only [List.length_cons]; omega
        rw [e]; simp
  have := key l 0 rfl
  simpa using this
/-! ### rounds that leave objects behind -/
/-- A loop through a list, with whatever is so of frame and state. -/
theorem loopR {α β : Type} {E : Env} {c : EC} (l : List α) (hl : Short l.length) (step : β → α → β) (I : Nat → β → Tmps → St → Prop)
    (hs : ∀ (i : Nat) (b : β) (a : α) (ts : Tmps) (T : St), l[i]? = some a → a ∈ l → (i : Int) < (l.length : Int) → IntKind.i64.wrap ((i : Int) + 1) = ((i + 1 : Nat) : Int) → I i b ts T → ∃ ts' T', I (i + 1) (step b a) ts' T' ∧ ∀ fin st, run E fin st c ts T = run E fin st c ts' T')
    (b : β) (ts : Tmps) (S : St) (h0 : I 0 b ts S) : ∃ ts' T', I l.length (l.foldl step b) ts' T' ∧ ∀ fin st, run E fin st c ts S = run E fin st c ts' T' := by
  have key : ∀ (rest : List α) (i : Nat) (b : β) (ts : Tmps) (S : St), l.drop i = rest → I i b ts S → ∃ ts' T', I (i + rest.length) (rest.foldl step b) ts' T' ∧ ∀ fin st, run E fin st c ts S = run E fin st c ts' T' := by
    intro rest
    induction rest with
    | nil => intro i b ts S h hI; exact ⟨ts, S, by simpa using hI, fun _ _ => rfl⟩
    | cons a r ih =>
      intro i b ts S h hI
      obtain ⟨h1, h2, h3⟩ := drop_cons h
      unfold Short maxLen at hl
      have w := wrap_succ (i := i) (n := l.length) h3 (by omega)
      obtain ⟨ts1, T1, k1, k2⟩ := hs i b a ts S h1 (mem_of_get h1) (by omega) w hI
      obtain ⟨ts2, T2, k3, k4⟩ := ih (i + 1) _ ts1 T1 h2 k1
      have e : i + (a :: r).length = i + 1 + r.length := by simp only [List.length_cons]; omega
      exact ⟨ts2, T2, by rw [e]; simpa using k3, fun fin st => (k2 fin st).trans (k4 fin st)⟩
  have := key l 0 b ts S rfl h0
  simpa using this
/-- A loop that ends, whatever it gathers. -/
theorem loopT {α β : Type} {E : Env} {c : EC} (l : List α) (hl : Short l.length) (F : Nat → β → Tmps) (X : Nat → β → St → Kont (PV × St) → List Fw → Option (PV × St))
    (hs : ∀ (i : Nat) (b : β) (a : α), l[i]? = some a → a ∈ l → (i : Int) < (l.length : Int) → IntKind.i64.wrap ((i : Int) + 1) = ((i + 1 : Nat) : Int) → (∃ b', ∀ S fin st, run E fin st c (F i b) S = run E fin st c (F (i + 1) b') S) ∨ ∃ i' b', ∀ S fin st, run E fin st c (F i b) S = X i' b' S fin st)
    (hx : ∀ (b : β), ∃ i' b', ∀ S fin st, run E fin st c (F l.length b) S = X i' b' S fin st) (b : β) : ∃ (i : Nat) (b' : β), ∀ S fin st, run E fin st c (F 0 b) S = X i b' S fin st := by
  have key : ∀ (rest : List α) (i : Nat) (b : β), l.drop i = rest → i ≤ l.length → ∃ (j : Nat) (b' : β), ∀ S fin st, run E fin st c (F i b) S = X j b' S fin st := by
    intro rest
    induction rest with
    | nil =>
      intro i b h hle
      have h1 := drop_nil h
      have q : i = l.length := by omega
      subst q; exact hx b
    | cons a r ih =>
      intro i b h hle
      obtain ⟨h1, h2, h3⟩ := drop_cons h
      unfold Short maxLen at hl
      have w := wrap_succ (i := i) (n := l.length) h3 (by omega)
      rcases hs i b a h1 (mem_of_get h1) (by omega) w with ⟨b', hb⟩ | hb
      · obtain ⟨j, b2, hj⟩ := ih (i + 1) b' h2 (by omega)
        exact ⟨j, b2, fun S fin st => (hb S fin st).trans (hj S fin st)⟩
      · exact hb
  exact key l 0 b rfl (by omega)
end Go.PE
namespace Go.PE
open Go Go.RowKit Go.Proofs
set_option linter.unusedVariables false
set_option linter.unusedSimpArgs false
set_option maxRecDepth 100000
mutual
def hasT (k : Int) : GTy → Bool
  | .mk K N Name Labels Args => K == k || hasTs k Args
def hasTs (k : Int) : List GTy → Bool
  | [] => false
  | a :: l => hasT k a || hasTs k l
end
theorem hasTs_any (k : Int) : ∀ l, hasTs k l = l.any (hasT k)
  | [] => by simp [hasTs]
  | a :: l => by rw [hasTs, List.any_cons, hasTs_any k l]
theorem hasT_eq (k : Int) (t : GTy) : hasT k t = (t.K == k || t.Args.any (hasT k)) := by cases t; rw [hasT, hasTs_any]; rfl
/-- Types that may stand in a definition. -/
def typesOk (l : List GTy) : Bool := l.all fun t => rightT t && !(hasT 9 t)
/-- As many types and Kids as these. -/
def shpE (e : GExp) (t0 t1 k0 k1 : Int) : Bool := decide (t0 ≤ (e.Types.length : Int)) && (decide ((e.Types.length : Int) ≤ t1) && (decide (k0 ≤ (e.Kids.length : Int)) && (decide ((e.Kids.length : Int) ≤ k1) && typesOk e.Types)))
/-- Labels that are fine. -/
def labE (e : GExp) : Bool := risingS e.Labels && !(decide ((6 : Int) < (e.Labels.length : Int)))
def l0E (e : GExp) : Bool := !(decide (0 < e.Labels.length)) && labE e
/-- Its own fields are as its kind asks. -/
def ownE (e : GExp) : Bool :=
  if e.K = 1 then strEq e.Name ⟨#[]⟩ && (!(decide (e.N < 0)) && (!e.Has && (l0E e && shpE e 0 0 0 0)))
  else if e.K = 2 then strEq e.Name ⟨#[]⟩ && (!((e.N != 0) && (e.N != 1)) && (!e.Has && (l0E e && shpE e 0 0 0 0)))
  else if e.K = 3 then !(decide ((40 : Int) < (e.Name.size : Int))) && (!(e.N != 0) && (!e.Has && (l0E e && shpE e 0 0 0 0)))
  else if e.K = 4 then fineS e.Name && (!(e.N != 0) && (!e.Has && (l0E e && shpE e 0 0 0 0)))
  else if e.K = 5 then fineS e.Name && (!(e.N != 0) && (!e.Has && (l0E e && shpE e 0 1 2 2)))
  else if e.K = 6 then strEq e.Name ⟨#[]⟩ && (!(e.N != 0) && (!e.Has && (l0E e && shpE e 0 0 3 3)))
  else if e.K = 7 then fineS e.Name && (!(e.N != 0) && (!e.Has && (l0E e && shpE e 0 1 1 1)))
  else if e.K = 8 then strEq e.Name ⟨#[]⟩ && (!(e.N != 0) && (!e.Has && (l0E e && shpE e 0 0 2 2)))
  else if e.K = 9 then strEq e.Name ⟨#[]⟩ && (!(e.N != 0) && (!e.Has && (labE e && shpE e 0 0 (e.Labels.length : Int) (e.Labels.length : Int))))
  else if e.K = 10 then fineS e.Name && (!(e.N != 0) && (!e.Has && (l0E e && shpE e 0 0 1 1)))
  else if e.K = 11 then strEq e.Name ⟨#[]⟩ && (!(decide (e.N < 1) || decide (7 < e.N)) && (!e.Has && (l0E e && shpE e 0 0 2 2)))
  else if e.K = 12 then strEq e.Name ⟨#[]⟩ && (!(e.N != 0) && (!e.Has && (l0E e && shpE e 1 1 1 1)))
  else if e.K = 13 then fineS e.Name && (!(e.N != 0) && (l0E e && shpE e (if e.Has then 1 else 0) (if e.Has then 3 else 0) 0 4))
  else false
mutual
def rightE : GExp → Bool
  | .mk K N Name Has Types Labels Kids => ownE (.mk K N Name Has Types Labels Kids) && rightEs Kids
def rightEs : List GExp → Bool
  | [] => true
  | a :: l => rightE a && rightEs l
end
theorem rightE_eq (e : GExp) : rightE e = (ownE e && rightEs e.Kids) := by cases e; rw [rightE]; rfl
theorem rightEs_all : ∀ l, rightEs l = l.all rightE
  | [] => by simp [rightEs]
  | a :: l => by rw [rightEs, List.all_cons, rightEs_all l]
section
variable {ot : TypeId} {oz : EP}
theorem okTy_a {t : GTy} (h : OkTy t) : Short t.Args.length ∧ (∀ x ∈ t.Args, OkTy x) := by cases h; exact ⟨by assumption, by assumption⟩
theorem okExp_a {t : GExp} (h : OkExp t) : (Short t.Kids.length ∧ ∀ x ∈ t.Kids, OkExp x) ∧ (Short t.Types.length ∧ ∀ x ∈ t.Types, OkTy x) ∧ Short t.Labels.length := by
  cases h; exact ⟨⟨by assumption, by assumption⟩, by assumption, (by assumption : _ ∧ _).1⟩
theorem has04 (k : Int) : ∀ (t : GTy), OkTy t → ∀ S, cal (env ot oz) 113 [.agg (rTy t), .int .i64 k] S = some (.bool (hasT k t), S) := by
  refine GTy.ind fun t ih ok S => ?_
  obtain ⟨a1, a2⟩ := okTy_a ok
  have f0 := fun fin st => loopA (E := (env ot oz)) (S := S) (c := c113_l0) t.Args a1 (fun i => [(1, some (.int .i64 k)), (2, some (.at_ (rTy t))), (5, some (.int .i64 (i : Int)))]) (hasT k) fin st
    (aft (env ot oz) fin st .ret [(4, some (.bool true))] S) (aft (env ot oz) fin st (.exit 0) [(1, some (.int .i64 k)), (2, some (.at_ (rTy t))), (5, some (.int .i64 (t.Args.length : Int))), (14, some (.bool false))] S)
    (fun i a h1 h2 h3 h4 h5 => by
      have c := ih a h2 (a2 a h2)
      (rw [c113_l0_w]; simp only [c113_l0_b, c113_l0_a, go_sem, h1, h3, h4, h5, c]; repeat' (first | (rw [guardO_t]; split <;> rename_i h <;> (try rw [Bool.not_eq_true] at h) <;> (try simp only [go_sem, c113_l0_a, h1, h3, h4, h5, c, *])) | (rw [guardO_f]; split <;> rename_i h <;> (try rw [Bool.not_eq_true] at h) <;> (try simp only [go_sem, c113_l0_a, h1, h3, h4, h5, c, *])) | (rw [cw_bool]; split <;> rename_i h <;> (try rw [Bool.not_eq_true] at h) <;> (try simp only [go_sem, c113_l0_a, h1, h3, h4, h5, c, *])))))
    (fun i a h1 h2 h3 h4 h5 => by
      have c := ih a h2 (a2 a h2)
      (rw [c113_l0_w]; simp only [c113_l0_b, c113_l0_a, go_sem, h1, h3, h4, h5, c]; repeat' (first | (rw [guardO_t]; split <;> rename_i h <;> (try rw [Bool.not_eq_true] at h) <;> (try simp only [go_sem, c113_l0_a, h1, h3, h4, h5, c, *])) | (rw [guardO_f]; split <;> rename_i h <;> (try rw [Bool.not_eq_true] at h) <;> (try simp only [go_sem, c113_l0_a, h1, h3, h4, h5, c, *])) | (rw [cw_bool]; split <;> rename_i h <;> (try rw [Bool.not_eq_true] at h) <;> (try simp only [go_sem, c113_l0_a, h1, h3, h4, h5, c, *])))))
    (by (rw [c113_l0_w]; simp only [c113_l0_b, c113_l0_a, go_sem]; repeat' (first | (rw [guardO_t]; split <;> rename_i h <;> (try rw [Bool.not_eq_true] at h) <;> (try simp only [go_sem, c113_l0_a, *])) | (rw [guardO_f]; split <;> rename_i h <;> (try rw [Bool.not_eq_true] at h) <;> (try simp only [go_sem, c113_l0_a, *])) | (rw [cw_bool]; split <;> rename_i h <;> (try rw [Bool.not_eq_true] at h) <;> (try simp only [go_sem, c113_l0_a, *])))))
  simp only [Int.cast_ofNat_Int] at f0
  rw [hasT_eq]
  cases q0 : (t.K == k) <;> cases q : t.Args.any (hasT k) <;> simp only [q, if_true, if_false, Bool.false_eq_true] at f0 <;> (rw [w_plain (fn := c113) rfl rfl (by simp only [go_sem, q0, f0]) rfl (by decide)]; simp only [c113, c113_b, go_sem, q0, f0]; repeat' (first | (rw [guardO_t]; split <;> rename_i h <;> (try rw [Bool.not_eq_true] at h) <;> (try simp only [go_sem, q0, f0, *])) | (rw [guardO_f]; split <;> rename_i h <;> (try rw [Bool.not_eq_true] at h) <;> (try simp only [go_sem, q0, f0, *])) | (rw [cw_bool]; split <;> rename_i h <;> (try rw [Bool.not_eq_true] at h) <;> (try simp only [go_sem, q0, f0, *]))))
end
end Go.PE
