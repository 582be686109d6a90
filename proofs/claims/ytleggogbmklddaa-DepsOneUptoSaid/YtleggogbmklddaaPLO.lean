/-
  Loops over lists, round by round. Conditions: each law's own.
-/
import Derived.Test.YtleggogbmklddaaPE21
namespace Go.PE
open Go Go.RowKit
set_option linter.unusedVariables false
set_option linter.unusedSimpArgs false

/-- A loop that goes through a list, and is not left ahead of its end. -/
theorem loopF {α β : Type} {E : Env} {c : EC} (l : List α) (hl : Short l.length) (F : Nat → β → Tmps) (G : Nat → β → St) (step : β → α → β) (I : Nat → β → Prop) (fin : Kont (PV × St)) (st : List Fw)
    (hs : ∀ (i : Nat) (b : β) (a : α), l[i]? = some a → a ∈ l → (i : Int) < (l.length : Int) → IntKind.i64.wrap ((i : Int) + 1) = ((i + 1 : Nat) : Int) → I i b → I (i + 1) (step b a) ∧ run E fin st c (F i b) (G i b) = run E fin st c (F (i + 1) (step b a)) (G (i + 1) (step b a))) :
    ∀ (rest : List α) (i : Nat) (b : β), l.drop i = rest → I i b → I (i + rest.length) (rest.foldl step b) ∧ run E fin st c (F i b) (G i b) = run E fin st c (F (i + rest.length) (rest.foldl step b)) (G (i + rest.length) (rest.foldl step b))
  | [], i, b, h, hI => ⟨hI, rfl⟩
  | a :: r, i, b, h, hI => by
    obtain ⟨h1, h2, h3⟩ := drop_cons h
    unfold Short maxLen at hl
    have w := wrap_succ (i := i) (n := l.length) h3 (by omega)
    obtain ⟨k1, k2⟩ := hs i b a h1 (mem_of_get h1) (by omega) w hI
    have ih := loopF l (by unfold Short maxLen; omega) F G step I fin st hs r (i + 1) (step b a) h2 k1
    have e : i + (a :: r).length = i + 1 + r.length := by simp only [List.length_cons]; omega
    rw [e, List.foldl_cons, k2]
    exact ih
/-- A loop that is left at the first member of which something is so; the state does not turn. -/
theorem loopA {α : Type} {E : Env} {c : EC} {S : St} (l : List α) (hl : Short l.length) (F : Nat → Tmps) (p : α → Bool) (fin : Kont (PV × St)) (st : List Fw) (K X : Option (PV × St))
    (hs : ∀ (i : Nat) (a : α), l[i]? = some a → a ∈ l → (i : Int) < (l.length : Int) → IntKind.i64.wrap ((i : Int) + 1) = ((i + 1 : Nat) : Int) → p a = false → run E fin st c (F i) S = run E fin st c (F (i + 1)) S)
    (hk : ∀ (i : Nat) (a : α), l[i]? = some a → a ∈ l → (i : Int) < (l.length : Int) → IntKind.i64.wrap ((i : Int) + 1) = ((i + 1 : Nat) : Int) → p a = true → run E fin st c (F i) S = K) (hx : run E fin st c (F l.length) S = X) :
    run E fin st c (F 0) S = if l.any p then K else X := by
  rw [← hx]
  have key : ∀ (rest : List α) (i : Nat), l.drop i = rest → run E fin st c (F i) S = if rest.any p then K else run E fin st c (F (i + rest.length)) S := by
    intro rest
    induction rest with
    | nil => intro i h; simp
    | cons a r ih =>
      intro i h
      obtain ⟨h1, h2, h3⟩ := drop_cons h
      unfold Short maxLen at hl
      have w := wrap_succ (i := i) (n := l.length) h3 (by omega)
      have hlt : (i : Int) < (l.length : Int) := by omega
      cases q : p a with
      | true => rw [hk i a h1 (mem_of_get h1) hlt w q, List.any_cons, q]; simp
      | false =>
        rw [hs i a h1 (mem_of_get h1) hlt w q, ih (i + 1) h2, List.any_cons, q]
        have e : i + (a :: r).length = i + 1 + r.length := by simp only [List.length_cons]; omega
        rw [e]; simp
  have := key l 0 rfl
  simpa using this
/-- A loop that is left at the first member of which something is so, with its place. -/
theorem loopP {α : Type} {E : Env} {c : EC} {S : St} (l : List α) (hl : Short l.length) (F : Nat → Tmps) (p : α → Bool) (fin : Kont (PV × St)) (st : List Fw) (K : Nat → Option (PV × St)) (X : Option (PV × St))
    (hs : ∀ (i : Nat) (a : α), l[i]? = some a → a ∈ l → (i : Int) < (l.length : Int) → IntKind.i64.wrap ((i : Int) + 1) = ((i + 1 : Nat) : Int) → p a = false → run E fin st c (F i) S = run E fin st c (F (i + 1)) S)
    (hk : ∀ (i : Nat) (a : α), l[i]? = some a → a ∈ l → (i : Int) < (l.length : Int) → IntKind.i64.wrap ((i : Int) + 1) = ((i + 1 : Nat) : Int) → p a = true → run E fin st c (F i) S = K i) (hx : run E fin st c (F l.length) S = X) :
    run E fin st c (F 0) S = if l.any p then K (l.findIdx p) else X := by
  rw [← hx]
  have key : ∀ (rest : List α) (i : Nat), l.drop i = rest → run E fin st c (F i) S = if rest.any p then K (i + rest.findIdx p) else run E fin st c (F (i + rest.length)) S := by
    intro rest
    induction rest with
    | nil => intro i h; simp
    | cons a r ih =>
      intro i h
      obtain ⟨h1, h2, h3⟩ := drop_cons h
      unfold Short maxLen at hl
      have w := wrap_succ (i := i) (n := l.length) h3 (by omega)
      have hlt : (i : Int) < (l.length : Int) := by omega
      cases q : p a with
      | true =>
        rw [hk i a h1 (mem_of_get h1) hlt w q, List.any_cons, q, List.findIdx_cons, q]; simp
      | false =>
        rw [hs i a h1 (mem_of_get h1) hlt w q, ih (i + 1) h2, List.any_cons, q, List.findIdx_cons, q]
        have e : i + (a :: r).length = i + 1 + r.length := by simp only [List.length_cons]; omega
        have e2 : i + (r.findIdx p + 1) = i + 1 + r.findIdx p := by omega
        rw [e]; simp [e2]
  have := key l 0 rfl
  simpa using this

/-! ### rounds that leave objects behind -/
/-- A loop that is left at the first member of which something is so; each round leaves objects behind. -/
theorem loopAJ {α : Type} {E : Env} {c : EC} (l : List α) (hl : Short l.length) (F : Nat → Tmps) (p : α → Bool) (J : α → List Ob) (fin : Kont (PV × St)) (st : List Fw) (K X : St → Option (PV × St))
    (hs : ∀ (i : Nat) (a : α) (T : St), l[i]? = some a → a ∈ l → (i : Int) < (l.length : Int) → IntKind.i64.wrap ((i : Int) + 1) = ((i + 1 : Nat) : Int) → p a = false → run E fin st c (F i) T = run E fin st c (F (i + 1)) ⟨T.obs ++ J a, T.own⟩)
    (hk : ∀ (i : Nat) (a : α) (T : St), l[i]? = some a → a ∈ l → (i : Int) < (l.length : Int) → IntKind.i64.wrap ((i : Int) + 1) = ((i + 1 : Nat) : Int) → p a = true → run E fin st c (F i) T = K ⟨T.obs ++ J a, T.own⟩) (hx : ∀ T, run E fin st c (F l.length) T = X T) (S : St) :
    run E fin st c (F 0) S = if l.any p then K ⟨S.obs ++ (l.take (l.findIdx p + 1)).flatMap J, S.own⟩ else X ⟨S.obs ++ l.flatMap J, S.own⟩ := by
  rw [← hx]
  have key : ∀ (rest : List α) (i : Nat) (T : St), l.drop i = rest → run E fin st c (F i) T = if rest.any p then K ⟨T.obs ++ (rest.take (rest.findIdx p + 1)).flatMap J, T.own⟩ else run E fin st c (F (i + rest.length)) ⟨T.obs ++ rest.flatMap J, T.own⟩ := by
    intro rest
    induction rest with
    | nil => intro i T h; simp
    | cons a r ih =>
      intro i T h
      obtain ⟨h1, h2, h3⟩ := drop_cons h
      unfold Short maxLen at hl
      have w := wrap_succ (i := i) (n := l.length) h3 (by omega)
      have hlt : (i : Int) < (l.length : Int) := by omega
      cases q : p a with
      | true =>
        rw [hk i a T h1 (mem_of_get h1) hlt w q, List.any_cons, q, List.findIdx_cons, q]; simp
      | false =>
        rw [hs i a T h1 (mem_of_get h1) hlt w q, ih (i + 1) _ h2, List.any_cons, q, List.findIdx_cons, q]
        have e : i + (a :: r).length = i + 1 + r.length := by simp only [List.length_cons]; omega
        rw [e]; simp [List.append_assoc]
  have := key l 0 S rfl
  simpa using this
/-- A loop through a list, with whatever is so of frame and state. -/
theorem loopR {α β : Type} {E : Env} {c : EC} (l : List α) (hl : Short l.length) (step : β → α → β) (I : Nat → β → Tmps → St → Prop)
    (hs : ∀ (i : Nat) (b : β) (a : α) (ts : Tmps) (T : St), l[i]? = some a → a ∈ l → (i : Int) < (l.length : Int) → IntKind.i64.wrap ((i : Int) + 1) = ((i + 1 : Nat) : Int) → I i b ts T → ∃ ts' T', I (i + 1) (step b a) ts' T' ∧ ∀ fin st, run E fin st c ts T = run E fin st c ts' T')
    (b : β) (ts : Tmps) (S : St) (h0 : I 0 b ts S) : ∃ ts' T', I l.length (l.foldl step b) ts' T' ∧ ∀ fin st, run E fin st c ts S = run E fin st c ts' T' := by
  have key : ∀ (rest : List α) (i : Nat) (b : β) (ts : Tmps) (S : St), l.drop i = rest → I i b ts S → ∃ ts' T', I (i + rest.length) (rest.foldl step b) ts' T' ∧ ∀ fin st, run E fin st c ts S = run E fin st c ts' T' := by
    intro rest
    induction rest with
    | nil => intro i b ts S h hI; exact ⟨ts, S, by simpa using hI, fun _ _ => rfl⟩
    | cons a r ih =>
      intro i b ts S h hI
      obtain ⟨h1, h2, h3⟩ := drop_cons h
      unfold Short maxLen at hl
      have w := wrap_succ (i := i) (n := l.length) h3 (by omega)
      obtain ⟨ts1, T1, k1, k2⟩ := hs i b a ts S h1 (mem_of_get h1) (by omega) w hI
      obtain ⟨ts2, T2, k3, k4⟩ := ih (i + 1) _ ts1 T1 h2 k1
      have e : i + (a :: r).length = i + 1 + r.length := by simp only [List.length_cons]; omega
      exact ⟨ts2, T2, by rw [e]; simpa using k3, fun fin st => (k2 fin st).trans (k4 fin st)⟩
  have := key l 0 b ts S rfl h0
  simpa using this
theorem zip_get {α β : Type} {l : List α} {m : List β} {i : Nat} {a : α} {b : β} (h : (l.zip m)[i]? = some (a, b)) : l[i]? = some a ∧ m[i]? = some b := by
  rw [List.getElem?_zip_eq_some] at h; exact h
/-- Two lists, member by member. -/
def allZ {α : Type} (p : α → α → Bool) : List α → List α → Bool
  | [], [] => true
  | a :: l, b :: m => p a b && allZ p l m
  | _, _ => false
theorem allZ_len {α : Type} {p : α → α → Bool} : ∀ {l m : List α}, l.length ≠ m.length → allZ p l m = false
  | [], [], h => absurd rfl h
  | [], _ :: _, _ => rfl
  | _ :: _, [], _ => rfl
  | a :: l, b :: m, h => by rw [allZ, allZ_len (by simpa using h), Bool.and_false]
theorem allZ_zip {α : Type} {p : α → α → Bool} : ∀ {l m : List α}, l.length = m.length → (l.zip m).any (fun q => !(p q.1 q.2)) = !(allZ p l m)
  | [], [], _ => rfl
  | [], _ :: _, h => by simp at h
  | _ :: _, [], h => by simp at h
  | a :: l, b :: m, h => by
    rw [List.zip_cons_cons, List.any_cons, allZ_zip (by simpa using h), allZ]
    cases p a b <;> simp
theorem allZ_iff {α : Type} {p : α → α → Bool} (l : List α) (hp : ∀ a ∈ l, ∀ b, p a b = true ↔ a = b) : ∀ m, allZ p l m = true ↔ l = m := by
  induction l with
  | nil => intro m; cases m <;> simp [allZ]
  | cons a l ih =>
    intro m
    cases m with
    | nil => simp [allZ]
    | cons b m =>
      rw [allZ, Bool.and_eq_true, hp a (by simp) b, ih (fun x hx => hp x (List.mem_cons_of_mem _ hx)) m]
      simp
theorem zip_len {α : Type} {l m : List α} (h : l.length = m.length) : (l.zip m).length = l.length := by simp [h]
theorem rb1 (S : List Ob) (a b : Ob) : (S ++ [a, b])[S.length]? = some a ∧ (S ++ [a, b])[S.length + 1]? = some b := by simp
/-- A loop that ends, whatever it gathers. -/
theorem loopT {α β : Type} {E : Env} {c : EC} (l : List α) (hl : Short l.length) (F : Nat → β → Tmps) (X : Nat → β → St → Kont (PV × St) → List Fw → Option (PV × St))
    (hs : ∀ (i : Nat) (b : β) (a : α), l[i]? = some a → a ∈ l → (i : Int) < (l.length : Int) → IntKind.i64.wrap ((i : Int) + 1) = ((i + 1 : Nat) : Int) → (∃ b', ∀ S fin st, run E fin st c (F i b) S = run E fin st c (F (i + 1) b') S) ∨ ∃ i' b', ∀ S fin st, run E fin st c (F i b) S = X i' b' S fin st)
    (hx : ∀ (b : β), ∃ i' b', ∀ S fin st, run E fin st c (F l.length b) S = X i' b' S fin st) (b : β) : ∃ (i : Nat) (b' : β), ∀ S fin st, run E fin st c (F 0 b) S = X i b' S fin st := by
  have key : ∀ (rest : List α) (i : Nat) (b : β), l.drop i = rest → i ≤ l.length → ∃ (j : Nat) (b' : β), ∀ S fin st, run E fin st c (F i b) S = X j b' S fin st := by
    intro rest
    induction rest with
    | nil =>
      intro i b h hle
      have h1 := drop_nil h
      have q : i = l.length := by omega
      subst q; exact hx b
    | cons a r ih =>
      intro i b h hle
      obtain ⟨h1, h2, h3⟩ := drop_cons h
      unfold Short maxLen at hl
      have w := wrap_succ (i := i) (n := l.length) h3 (by omega)
      rcases hs i b a h1 (mem_of_get h1) (by omega) w with ⟨b', hb⟩ | hb
      · obtain ⟨j, b2, hj⟩ := ih (i + 1) b' h2 (by omega)
        exact ⟨j, b2, fun S fin st => (hb S fin st).trans (hj S fin st)⟩
      · exact hb
  exact key l 0 b rfl (by omega)
end Go.PE
