/-
  What is stale between two programs. Conditions: each law's own.
-/
import Derived.Test.YtleggogbmklddaaDX6
namespace Go.PE
open Go Go.RowKit Go.Proofs
set_option linter.unusedVariables false
set_option linter.unusedSimpArgs false
set_option maxRecDepth 100000
/-! ### maps that count -/
/-- A map that counts these texts. -/
def MapOk (es : List (ByteArray × PV × Nat)) (names : List ByteArray) : Prop := ∀ s, (findM s es = none ∧ s ∉ names) ∨ ∃ k n, findM s es = some (.int .i64 k, n) ∧ s ∈ names ∧ 0 < k ∧ k ≤ names.length
theorem mapOk_nil : MapOk [] [] := fun s => .inl ⟨rfl, by simp⟩
theorem findM_app (s t : ByteArray) (v : PV) (n : Nat) : ∀ es, findM s (es ++ [(t, v, n)]) = match findM s es with
    | some x => some x
    | none => if strEq s t then some (v, n) else none
  | [] => by simp [findM]
  | (k, v', n') :: es => by
    simp only [List.cons_append, findM]
    split
    · rfl
    · exact findM_app s t v n es
theorem mapOk_new {es : List (ByteArray × PV × Nat)} {names : List ByteArray} (h : MapOk es names) (t : ByteArray) (ht : findM t es = none) (c : Nat) : MapOk (es ++ [(t, .int .i64 1, c)]) (names ++ [t]) := fun s => by
  rw [findM_app]
  rcases h s with ⟨h1, h2⟩ | ⟨k, n, h1, h2, h3, h4⟩
  · rw [h1]
    by_cases q : strEq s t = true
    · rw [strEq_iff] at q; subst q
      exact .inr ⟨1, c, by simp [strEq_refl], by simp, by omega, by simp; omega⟩
    · refine .inl ⟨by simp [q], ?_⟩
      intro hm
      rcases List.mem_append.1 hm with hm | hm
      · exact h2 hm
      · rw [List.mem_singleton] at hm; subst hm; exact q (strEq_refl _)
  · rw [h1]
    exact .inr ⟨k, n, rfl, by simp [h2], h3, by simp; omega⟩
section
variable {ot : TypeId} {oz : EP}
end
end Go.PE
namespace Go.PE
open Go Go.RowKit Go.Proofs
set_option linter.unusedVariables false
set_option linter.unusedSimpArgs false
set_option maxRecDepth 100000
def found (l : List GDef) (x : ByteArray) : Bool := (findD l x).isSome
/-- What is reached. -/
inductive Rch (l : List GDef) (n : ByteArray) : ByteArray → Prop
  | one {x} (h : x ∈ asksS l n) (f : found l x = true) : Rch l n x
  | more {x y} (h : Rch l n x) (k : y ∈ asksS l x) (f : found l y = true) : Rch l n y
/-- What is gathered, and what is to be done yet. -/
structure RInv (l : List GDef) (n : ByteArray) (todo met : List ByteArray) : Prop where
  nd : met.Nodup
  rch : ∀ x ∈ met, Rch l n x
  from_ : ∀ x ∈ todo, x ∈ asksS l n ∨ ∃ y ∈ met, x ∈ asksS l y
  cl1 : ∀ x ∈ asksS l n, found l x = true → x ∈ met ∨ x ∈ todo
  cl2 : ∀ y ∈ met, ∀ x ∈ asksS l y, found l x = true → x ∈ met ∨ x ∈ todo
theorem RInv.rch_of {l : List GDef} {n : ByteArray} {todo met : List ByteArray} (h : RInv l n todo met) {x : ByteArray} (hx : x ∈ todo) (f : found l x = true) : Rch l n x := by
  rcases h.from_ x hx with h1 | ⟨y, hy, h1⟩
  · exact .one h1 f
  · exact .more (h.rch y hy) h1 f
theorem RInv.done {l : List GDef} {n : ByteArray} {met : List ByteArray} (h : RInv l n [] met) (x : ByteArray) : x ∈ met ↔ Rch l n x := by
  refine ⟨h.rch x, fun hr => ?_⟩
  induction hr with
  | one h1 f => rcases h.cl1 _ h1 f with k | k; exact k; simp at k
  | more _ h1 f ih => rcases h.cl2 _ ih _ h1 f with k | k; exact k; simp at k
theorem RInv.skip {l : List GDef} {n s : ByteArray} {todo met : List ByteArray} (h : RInv l n (s :: todo) met) (hs : found l s = false ∨ s ∈ met) : RInv l n todo met := by
  refine ⟨h.nd, h.rch, fun x hx => h.from_ x (by simp [hx]), fun x hx f => ?_, fun y hy x hx f => ?_⟩
  · rcases h.cl1 x hx f with k | k
    · exact .inl k
    · rcases List.mem_cons.1 k with e | e
      · subst e; rcases hs with q | q
        · rw [q] at f; cases f
        · exact .inl q
      · exact .inr e
  · rcases h.cl2 y hy x hx f with k | k
    · exact .inl k
    · rcases List.mem_cons.1 k with e | e
      · subst e; rcases hs with q | q
        · rw [q] at f; cases f
        · exact .inl q
      · exact .inr e
theorem RInv.take {l : List GDef} {n s : ByteArray} {todo met : List ByteArray} (h : RInv l n (s :: todo) met) (hf : found l s = true) (hs : s ∉ met) : RInv l n (todo ++ asksS l s) (met ++ [s]) := by
  have hr := h.rch_of (x := s) (by simp) hf
  refine ⟨?_, fun x hx => ?_, fun x hx => ?_, fun x hx f => ?_, fun y hy x hx f => ?_⟩
  · rw [List.nodup_append]
    exact ⟨h.nd, by simp, fun a ha b hb e => by rw [List.mem_singleton] at hb; subst hb; subst e; exact hs ha⟩
  · rcases List.mem_append.1 hx with k | k
    · exact h.rch x k
    · rw [List.mem_singleton] at k; subst k; exact hr
  · rcases List.mem_append.1 hx with k | k
    · rcases h.from_ x (by simp [k]) with q | ⟨y, hy, q⟩
      · exact .inl q
      · exact .inr ⟨y, by simp [hy], q⟩
    · exact .inr ⟨s, by simp, k⟩
  · rcases h.cl1 x hx f with k | k
    · exact .inl (by simp [k])
    · rcases List.mem_cons.1 k with e | e
      · subst e; exact .inl (by simp)
      · exact .inr (by simp [e])
  · rcases List.mem_append.1 hy with k | k
    · rcases h.cl2 y k x hx f with q | q
      · exact .inl (by simp [q])
      · rcases List.mem_cons.1 q with e | e
        · subst e; exact .inl (by simp)
        · exact .inr (by simp [e])
    · rw [List.mem_singleton] at k; subst k
      exact .inr (by simp [hx])
/-- What is left to be put. -/
def leftN (l : List GDef) (met : List ByteArray) : List GDef → Nat
  | [] => 0
  | d :: m => (if met.any (strEq d.Sig.Name) then 0 else (asksS l d.Sig.Name).length) + leftN l met m
theorem leftN_le (l : List GDef) (met : List ByteArray) (ol : OkL l) : ∀ m : List GDef, leftN l met m ≤ m.length * 2000000
  | [] => by simp [leftN]
  | d :: m => by
    have := leftN_le l met ol m
    have h2 := asks_len ol d.Sig.Name
    rw [leftN, List.length_cons, Nat.succ_mul]
    split <;> omega
theorem leftN_app_le (l : List GDef) (met : List ByteArray) (s : ByteArray) : ∀ m : List GDef, leftN l (met ++ [s]) m ≤ leftN l met m
  | [] => by simp [leftN]
  | d :: m => by
    have := leftN_app_le l met s m
    rw [leftN, leftN, List.any_append]
    cases met.any (strEq d.Sig.Name) <;> simp <;> (try split) <;> omega
theorem leftN_take (l : List GDef) (met : List ByteArray) (s : ByteArray) (hs : s ∉ met) : ∀ m : List GDef, (∃ d ∈ m, d.Sig.Name = s) → leftN l (met ++ [s]) m + (asksS l s).length ≤ leftN l met m
  | [], h => by obtain ⟨d, hd, _⟩ := h; simp at hd
  | d :: m, h => by
    have h1 := leftN_app_le l met s m
    rw [leftN, leftN, List.any_append]
    by_cases e : d.Sig.Name = s
    · subst e
      have q : met.any (strEq d.Sig.Name) = false := by
        cases q : met.any (strEq d.Sig.Name) with
        | false => rfl
        | true => exact absurd ((any_strEq _ _).1 q) hs
      simp [q, strEq_refl]; omega
    · obtain ⟨d', hd', e'⟩ := h
      have : ∃ d ∈ m, d.Sig.Name = s := by
        rcases List.mem_cons.1 hd' with k | k
        · subst k; exact absurd e' e
        · exact ⟨d', k, e'⟩
      have ih := leftN_take l met s hs m this
      have q : [s].any (strEq d.Sig.Name) = false := by simp [strEq_no e]
      rw [q, Bool.or_false]
      split <;> omega
theorem found_name {l : List GDef} {s : ByteArray} (h : found l s = true) : ∃ d ∈ l, d.Sig.Name = s := by
  unfold found at h
  cases q : findD l s with
  | none => rw [q] at h; cases h
  | some d => exact ⟨d, (findD_mem q).1, (findD_mem q).2⟩
/-- All that are reached, in order. -/
theorem sortS_perm (xs : List ByteArray) : (sortS xs).Perm xs := by
  unfold sortS
  have := (srtL_perm (xs.map tl)).map txt
  rwa [map_txt_tl] at this
theorem sortS_mem (x : ByteArray) (xs : List ByteArray) : x ∈ sortS xs ↔ x ∈ xs := (sortS_perm xs).mem_iff
section
variable {ot : TypeId} {oz : EP}
theorem mrow_app2 (A : List Ob) (os : List Ob) (w : List Nat) (v : PV) (out : List ByteArray) (s : ByteArray) (h : MRow ⟨A ++ os, w⟩ 9 A.length v out) (hb : out.length ≤ 8000000000000) :
    ∃ os', appM ⟨A ++ os, w⟩ 9 1 16 v [[.str s]] = some (.msl (A.length + os.length) 0 (out ++ [s]).length 1, ⟨A ++ os', w⟩) ∧ MRow ⟨A ++ os', w⟩ 9 A.length (.msl (A.length + os.length) 0 (out ++ [s]).length 1) (out ++ [s]) := by
  rcases h with ⟨rfl, rfl⟩ | ⟨hn, k, rfl, hk⟩
  · have := appM_first ⟨A ++ os, w⟩ 9 s
    simp only [List.length_append, List.append_assoc] at this
    exact ⟨_, this, .inr ⟨by simp, os.length, rfl, by simp⟩⟩
  · have := appM_next ⟨A ++ os, w⟩ 9 (A.length + k) out s hk hn hb
    have hk2 : k < os.length := by have := getElem?_lt hk; simp at this; exact this
    simp only [List.length_append, app_set, List.append_assoc] at this
    refine ⟨os.set k .dead ++ [.row 9 ((out ++ [s]).map .str)], by simpa using this, .inr ⟨by simp, os.length, rfl, ?_⟩⟩
    simp only [app_get]
    have hl : (os.set k .dead).length = os.length := by simp
    rw [List.getElem?_append_right (by omega), hl]; simp
theorem mrow_more2 (A : List Ob) (os : List Ob) (w w' : List Nat) (v : PV) (out : List ByteArray) (xs : List Ob) (h : MRow ⟨A ++ os, w⟩ 9 A.length v out) : MRow ⟨A ++ (os ++ xs), w'⟩ 9 A.length v out := by
  rcases h with h | ⟨hn, k, hv, hk⟩
  · exact .inl h
  · refine .inr ⟨hn, k, hv, ?_⟩
    simp only [app_get] at hk ⊢
    rw [List.getElem?_append_left (getElem?_lt hk)]; exact hk
theorem mrow_pre (A B : List Ob) (hAB : A.length = B.length) (os : List Ob) (w w' : List Nat) (v : PV) (out : List ByteArray) (h : MRow ⟨A ++ os, w⟩ 9 A.length v out) : MRow ⟨B ++ os, w'⟩ 9 B.length v out := by
  rcases h with h | ⟨hn, k, hv, hk⟩
  · exact .inl h
  · refine .inr ⟨hn, k, by rw [← hAB]; exact hv, ?_⟩
    simp only [app_get] at hk ⊢
    exact hk
/-- One more text list behind another one, whose room is used up. -/
theorem app_exact (O : List Ob) (w : List Nat) (todo ys : List ByteArray) (h : todo.length + ys.length ≤ 8000000000000) : ∃ g w', appP ⟨O, w⟩ 9 1 16 .exact (todo.map rStr) (ys.map rStr) = some (.sl g ((todo ++ ys).map rStr), ⟨O, w'⟩) ∧ ∃ x, w' = w ++ x := by
  by_cases hy : ys = []
  · subst hy; exact ⟨.exact, w, by simp [appP], [], by simp⟩
  · have hye : (ys.map rStr).isEmpty = false := by cases ys; exact absurd rfl hy; rfl
    refine ⟨.own w.length 9, w ++ [(todo.length + ys.length) * 1], ?_, _, rfl⟩
    unfold appP
    rw [hye]
    have h1 : (todo.map rStr).length = todo.length := by simp
    have h2 : (ys.map rStr).length = ys.length := by simp
    rw [h1, h2, rStr_ok, rStr_ok]
    have h3 : (todo.length + ys.length) * 16 ≤ 140737488355328 ∧ todo.length + ys.length ≤ 9223372036854775807 := by omega
    simp only [h3, Nat.zero_lt_one, and_self, if_true, Bool.false_eq_true, if_false, List.map_append]
theorem reach_loop (l : List GDef) (ol : OkL l) (n : ByteArray) (S : St) : ∀ (N : Nat) (todo met : List ByteArray) (g : Tag) (v : PV) (es : List (ByteArray × PV × Nat)) (c : Nat) (os : List Ob) (w : List Nat), todo.length + leftN l met l ≤ N → N ≤ 7000000000000 → RInv l n todo met → MapOk es met →
    MRow ⟨(S.obs ++ [Ob.map es c]) ++ os, S.own ++ w⟩ 9 (S.obs ++ [Ob.map es c]).length v met → met.length + N ≤ 7500000000000 →
    ∃ met' v' es' c' os' w', (met'.Nodup ∧ ∀ x, x ∈ met' ↔ Rch l n x) ∧ met'.length ≤ 7500000000000 ∧ MRow ⟨(S.obs ++ [Ob.map es' c']) ++ os', S.own ++ w'⟩ 9 (S.obs ++ [Ob.map es' c']).length v' met' ∧
      ∀ fin st, ∃ x, run (env ot oz) fin st c13_l0 [(0, some (.sl .ro (l.map rDef))), (5, some (.mp S.obs.length)), (6, some (v)), (7, some (.sl g (todo.map rStr)))] ⟨(S.obs ++ [Ob.map es c]) ++ os, S.own ++ w⟩ =
        aft (env ot oz) fin st (.exit 0) [(0, some (.sl .ro (l.map rDef))), (5, some (.mp S.obs.length)), (6, some (v')), (7, some (x)), (17, some (.bool false))] ⟨(S.obs ++ [Ob.map es' c']) ++ os', S.own ++ w'⟩ := by
  intro N
  induction N with
  | zero =>
    intro todo met g v es c os w hN _ hI hM hR hl
    have : todo = [] := List.eq_nil_of_length_eq_zero (by omega)
    subst this
    refine ⟨met, v, es, c, os, w, ⟨hI.nd, hI.done⟩, by omega, hR, fun fin st => ⟨.sl g [], ?_⟩⟩
    generalize (⟨(S.obs ++ [Ob.map es c]) ++ os, S.own ++ w⟩ : St) = T
    (rw [c13_l0_w]; simp only [c13_l0_b, c13_l0_a, c13_r8, go_sem]; repeat' (first | (rw [guardO_t]; split <;> rename_i h <;> (try rw [Bool.not_eq_true] at h) <;> (try simp only [go_sem, c13_r8, c13_l0_a, *])) | (rw [guardO_f]; split <;> rename_i h <;> (try rw [Bool.not_eq_true] at h) <;> (try simp only [go_sem, c13_r8, c13_l0_a, *])) | (rw [cw_bool]; split <;> rename_i h <;> (try rw [Bool.not_eq_true] at h) <;> (try simp only [go_sem, c13_r8, c13_l0_a, *]))))
  | succ N ih =>
    intro todo met g v es c os w hN hN2 hI hM hR hl
    cases todo with
    | nil =>
      refine ⟨met, v, es, c, os, w, ⟨hI.nd, hI.done⟩, by omega, hR, fun fin st => ⟨.sl g [], ?_⟩⟩
      generalize (⟨(S.obs ++ [Ob.map es c]) ++ os, S.own ++ w⟩ : St) = T
      (rw [c13_l0_w]; simp only [c13_l0_b, c13_l0_a, c13_r8, go_sem]; repeat' (first | (rw [guardO_t]; split <;> rename_i h <;> (try rw [Bool.not_eq_true] at h) <;> (try simp only [go_sem, c13_r8, c13_l0_a, *])) | (rw [guardO_f]; split <;> rename_i h <;> (try rw [Bool.not_eq_true] at h) <;> (try simp only [go_sem, c13_r8, c13_l0_a, *])) | (rw [cw_bool]; split <;> rename_i h <;> (try rw [Bool.not_eq_true] at h) <;> (try simp only [go_sem, c13_r8, c13_l0_a, *]))))
    | cons s todo =>
      simp only [List.length_cons] at hN
      have f := findP (ot := ot) (oz := oz) l ol.short s
      have hlen : decide ((0 : Int) < ((todo.length + 1 : Nat) : Int)) = true := decide_eq_true (by omega)
      have hix : ((0 : Int) < ((todo.length + 1 : Nat) : Int)) := by omega
      have htk : ((s :: todo).map rStr).take (todo.length + 1) = (s :: todo).map rStr := List.take_of_length_le (by simp)
      have hone : (1 : Int) ≤ ((todo.length + 1 : Nat) : Int) := by omega
      have htk2 : (todo.map rStr).take todo.length = todo.map rStr := List.take_of_length_le (by simp)
      have A1 : (S.obs ++ [Ob.map es c]).length = S.obs.length + 1 := by simp
      have skip : ∀ y, (found l s = false ∨ s ∈ met) → (∀ fin st, run (env ot oz) fin st c13_l0 [(0, some (.sl .ro (l.map rDef))), (5, some (.mp S.obs.length)), (6, some (v)), (7, some (.sl g ((s :: todo).map rStr)))] ⟨(S.obs ++ [Ob.map es c]) ++ os, S.own ++ w⟩ = run (env ot oz) fin st c13_l0 [(0, some (.sl .ro (l.map rDef))), (5, some (.mp S.obs.length)), (6, some (v)), (7, some (.sl .ro (todo.map rStr)))] ⟨(S.obs ++ [Ob.map es c]) ++ (os ++ [y]), S.own ++ w⟩) →
          ∃ met' v' es' c' os' w', (met'.Nodup ∧ ∀ x, x ∈ met' ↔ Rch l n x) ∧ met'.length ≤ 7500000000000 ∧ MRow ⟨(S.obs ++ [Ob.map es' c']) ++ os', S.own ++ w'⟩ 9 (S.obs ++ [Ob.map es' c']).length v' met' ∧
      ∀ fin st, ∃ x, run (env ot oz) fin st c13_l0 [(0, some (.sl .ro (l.map rDef))), (5, some (.mp S.obs.length)), (6, some (v)), (7, some (.sl g ((s :: todo).map rStr)))] ⟨(S.obs ++ [Ob.map es c]) ++ os, S.own ++ w⟩ =
        aft (env ot oz) fin st (.exit 0) [(0, some (.sl .ro (l.map rDef))), (5, some (.mp S.obs.length)), (6, some (v')), (7, some (x)), (17, some (.bool false))] ⟨(S.obs ++ [Ob.map es' c']) ++ os', S.own ++ w'⟩ := fun y hs hr => by
        obtain ⟨met', v', es', c', os', w', p1, p2, p3, p4⟩ := ih todo met .ro v es c (os ++ [y]) w (by omega) (by omega) (hI.skip hs) hM (mrow_more2 _ os _ _ v met [y] hR) (by omega)
        exact ⟨met', v', es', c', os', w', p1, p2, p3, fun fin st => by obtain ⟨x, hx⟩ := p4 fin st; exact ⟨x, (hr fin st).trans hx⟩⟩
      have g0 : ∀ os', (S.obs ++ Ob.map es c :: os')[S.obs.length]? = some (.map es c) := fun os' => by simp
      have g1 : ∀ y, (S.obs ++ Ob.map es c :: (os ++ [y]))[S.obs.length + (os.length + 1)]? = some y := fun y => by simp
      have g2 : ∀ y z, (S.obs ++ Ob.map es c :: (os ++ [y])).set (S.obs.length + (os.length + 1)) z = S.obs ++ Ob.map es c :: (os ++ [z]) := fun y z => by simp
      have g3 : ∀ os' z, (S.obs ++ Ob.map es c :: os').set S.obs.length z = S.obs ++ z :: os' := fun os' z => by simp
      cases hf : findD l s with
      | none =>
        rw [hf] at f
        simp only [findR] at f
        refine skip (.cells 40 (rDef zDef)) (.inl (by unfold found; rw [hf]; rfl)) fun fin st => ?_
        simp only [List.append_assoc, List.cons_append, List.nil_append]
        (rw [c13_l0_w]; simp only [c13_l0_b, c13_l0_a, c13_r8, go_sem, f, hlen, hix, htk, htk2, hone, Nat.min_self, Option.isSome_none, Option.isNone_none, Option.isSome_some, Option.isNone_some, g0, g1, g2, g3]; repeat' (first | (rw [guardO_t]; split <;> rename_i h <;> (try rw [Bool.not_eq_true] at h) <;> (try simp only [go_sem, c13_r8, c13_l0_a, f, hlen, hix, htk, htk2, hone, Nat.min_self, Option.isSome_none, Option.isNone_none, Option.isSome_some, Option.isNone_some, g0, g1, g2, g3, *])) | (rw [guardO_f]; split <;> rename_i h <;> (try rw [Bool.not_eq_true] at h) <;> (try simp only [go_sem, c13_r8, c13_l0_a, f, hlen, hix, htk, htk2, hone, Nat.min_self, Option.isSome_none, Option.isNone_none, Option.isSome_some, Option.isNone_some, g0, g1, g2, g3, *])) | (rw [cw_bool]; split <;> rename_i h <;> (try rw [Bool.not_eq_true] at h) <;> (try simp only [go_sem, c13_r8, c13_l0_a, f, hlen, hix, htk, htk2, hone, Nat.min_self, Option.isSome_none, Option.isNone_none, Option.isSome_some, Option.isNone_some, g0, g1, g2, g3, *]))))
      | some d =>
        have hfd : found l s = true := by unfold found; rw [hf]; rfl
        rw [hf] at f
        simp only [findR] at f
        rcases hM s with ⟨k1, k2⟩ | ⟨k, nn, k1, k2, k3, k4⟩
        · have ca := asksP (ot := ot) (oz := oz) l ol s
          have hal := asks_len ol s
          have hle := leftN_take l met s k2 l (found_name hfd)
          have hM2 := mapOk_new hM s k1 c
          have hR2 := mrow_pre (S.obs ++ [Ob.map es c]) (S.obs ++ [Ob.map (es ++ [(s, .int .i64 1, c)]) (c + 1)]) (by simp) _ _ (S.own ++ w) v met (mrow_more2 _ os _ (S.own ++ w) v met [.cells 40 (rDef d)] hR)
          obtain ⟨os', ap, hR3⟩ := mrow_app2 _ _ _ v met s hR2 (by omega)
          obtain ⟨gt, w', ax, xw, rfl⟩ := app_exact ((S.obs ++ [Ob.map (es ++ [(s, .int .i64 1, c)]) (c + 1)]) ++ os') (S.own ++ w) todo (asksS l s) (by omega)
          have hR4 : MRow ⟨(S.obs ++ [Ob.map (es ++ [(s, .int .i64 1, c)]) (c + 1)]) ++ os', S.own ++ (w ++ xw)⟩ 9 (S.obs ++ [Ob.map (es ++ [(s, .int .i64 1, c)]) (c + 1)]).length (.msl ((S.obs ++ [Ob.map (es ++ [(s, .int .i64 1, c)]) (c + 1)]).length + (os ++ [Ob.cells 40 (rDef d)]).length) 0 (met ++ [s]).length 1) (met ++ [s]) := by
            rcases hR3 with h | ⟨hn, k, hv, hk⟩
            · exact .inl h
            · exact .inr ⟨hn, k, hv, hk⟩
          obtain ⟨met', v', es', c', os'', w'', p1, p2, p3, p4⟩ := ih (todo ++ asksS l s) (met ++ [s]) gt _ _ (c + 1) os' (w ++ xw) (by simp only [List.length_append]; omega) (by omega) (hI.take hfd k2) hM2 hR4 (by simp only [List.length_append, List.length_singleton]; omega)
          refine ⟨met', v', es', c', os'', w'', p1, p2, p3, fun fin st => ?_⟩
          obtain ⟨x, hx⟩ := p4 fin st
          refine ⟨x, Eq.trans ?_ hx⟩
          generalize hv2 : PV.msl ((S.obs ++ [Ob.map (es ++ [(s, .int .i64 1, c)]) (c + 1)]).length + (os ++ [Ob.cells 40 (rDef d)]).length) 0 (met ++ [s]).length 1 = v2 at *
          simp only [List.append_assoc, List.cons_append, List.nil_append, List.map_append] at ap ax ⊢
          (rw [c13_l0_w]; simp only [c13_l0_b, c13_l0_a, c13_r8, go_sem, f, hlen, hix, htk, htk2, hone, Nat.min_self, Option.isSome_none, Option.isNone_none, Option.isSome_some, Option.isNone_some, Int.le_refl, k1, ca, ap, ax, g0, g1, g2, g3]; repeat' (first | (rw [guardO_t]; split <;> rename_i h <;> (try rw [Bool.not_eq_true] at h) <;> (try simp only [go_sem, c13_r8, c13_l0_a, f, hlen, hix, htk, htk2, hone, Nat.min_self, Option.isSome_none, Option.isNone_none, Option.isSome_some, Option.isNone_some, Int.le_refl, k1, ca, ap, ax, g0, g1, g2, g3, *])) | (rw [guardO_f]; split <;> rename_i h <;> (try rw [Bool.not_eq_true] at h) <;> (try simp only [go_sem, c13_r8, c13_l0_a, f, hlen, hix, htk, htk2, hone, Nat.min_self, Option.isSome_none, Option.isNone_none, Option.isSome_some, Option.isNone_some, Int.le_refl, k1, ca, ap, ax, g0, g1, g2, g3, *])) | (rw [cw_bool]; split <;> rename_i h <;> (try rw [Bool.not_eq_true] at h) <;> (try simp only [go_sem, c13_r8, c13_l0_a, f, hlen, hix, htk, htk2, hone, Nat.min_self, Option.isSome_none, Option.isNone_none, Option.isSome_some, Option.isNone_some, Int.le_refl, k1, ca, ap, ax, g0, g1, g2, g3, *]))))
        · have kz : decide (0 < k) = true := by simp; omega
          refine skip (.cells 40 (rDef d)) (.inr k2) fun fin st => ?_
          simp only [List.append_assoc, List.cons_append, List.nil_append]
          (rw [c13_l0_w]; simp only [c13_l0_b, c13_l0_a, c13_r8, go_sem, f, hlen, hix, htk, htk2, hone, Nat.min_self, Option.isSome_none, Option.isNone_none, Option.isSome_some, Option.isNone_some, k1, kz, g0, g1, g2, g3]; repeat' (first | (rw [guardO_t]; split <;> rename_i h <;> (try rw [Bool.not_eq_true] at h) <;> (try simp only [go_sem, c13_r8, c13_l0_a, f, hlen, hix, htk, htk2, hone, Nat.min_self, Option.isSome_none, Option.isNone_none, Option.isSome_some, Option.isNone_some, k1, kz, g0, g1, g2, g3, *])) | (rw [guardO_f]; split <;> rename_i h <;> (try rw [Bool.not_eq_true] at h) <;> (try simp only [go_sem, c13_r8, c13_l0_a, f, hlen, hix, htk, htk2, hone, Nat.min_self, Option.isSome_none, Option.isNone_none, Option.isSome_some, Option.isNone_some, k1, kz, g0, g1, g2, g3, *])) | (rw [cw_bool]; split <;> rename_i h <;> (try rw [Bool.not_eq_true] at h) <;> (try simp only [go_sem, c13_r8, c13_l0_a, f, hlen, hix, htk, htk2, hone, Nat.min_self, Option.isSome_none, Option.isNone_none, Option.isSome_some, Option.isNone_some, k1, kz, g0, g1, g2, g3, *]))))
theorem rinv_start (l : List GDef) (n : ByteArray) : RInv l n (asksS l n) [] := ⟨by simp, by simp, fun x hx => .inl hx, fun x hx _ => .inr hx, by simp⟩
theorem reachP (l : List GDef) (ol : OkL l) (n : ByteArray) (S : St) : ∃ met, (met.Nodup ∧ ∀ x, x ∈ met ↔ Rch l n x) ∧ met.length ≤ 7500000000000 ∧ cal (env ot oz) 13 [.sl .ro (l.map rDef), .str n] S = some (.sl .ro ((sortS met).map rStr), S) := by
  have ca := asksP (ot := ot) (oz := oz) l ol n
  have hal := asks_len ol n
  have hll := leftN_le l [] ol l
  have hl2 := ol.1
  have hm : l.length * 2000000 ≤ 2000000 * 2000000 := Nat.mul_le_mul_right _ hl2
  obtain ⟨met, v, es, c, os, w, p1, p2, p3, p4⟩ := reach_loop (ot := ot) (oz := oz) l ol n S 5000000000000 (asksS l n) [] .ro (.sl .null []) [] 0 [] [] (by omega) (by omega) (rinv_start l n) mapOk_nil (.inl ⟨rfl, rfl⟩) (by simp)
  refine ⟨met, p1, p2, ?_⟩
  simp only [List.append_nil] at p4
  obtain ⟨x, f⟩ := p4 (endF S [.tmp 4]) [.block 0, .seq (.seq (.reg 12 [⟨some 55, .mv (.tmp 6), none, Q0⟩, ⟨some 56, .call (.con (.fn 29 [] [])) [(.tmp 55)], none, Q0⟩] false (some [6])) (.seq (.reg 13 [⟨some 57, .mv (.tmp 6), none, Q0⟩, ⟨some 4, .mv (.tmp 57), none, Q0⟩] false (some [4])) .ret))]
  rcases p3 with ⟨rfl, rfl⟩ | ⟨hn, k, rfl, hk⟩
  · have h1 := sort_null (ot := ot) (oz := oz) .null ⟨S.obs ++ [Ob.map es c] ++ os, S.own ++ w⟩
    have cl : close S ⟨S.obs ++ [Ob.map es c] ++ os, S.own ++ w⟩ (.sl .null []) = (.sl .ro [], S) := by
      rw [List.append_assoc, close_junk]; simp [sealW, sealLL]
    have e1 : sortS ([] : List ByteArray) = [] := rfl
    rw [e1]
    generalize (⟨S.obs ++ [Ob.map es c] ++ os, S.own ++ w⟩ : St) = T at *
    (rw [w_plain (fn := c13) rfl rfl (by simp only [go_sem, ca, f, h1, cl]) rfl (by decide)]; simp only [c13, c13_b, c13_r8, go_sem, ca, f, h1, cl]; repeat' (first | (rw [guardO_t]; split <;> rename_i h <;> (try rw [Bool.not_eq_true] at h) <;> (try simp only [go_sem, c13_r8, ca, f, h1, cl, *])) | (rw [guardO_f]; split <;> rename_i h <;> (try rw [Bool.not_eq_true] at h) <;> (try simp only [go_sem, c13_r8, ca, f, h1, cl, *])) | (rw [cw_bool]; split <;> rename_i h <;> (try rw [Bool.not_eq_true] at h) <;> (try simp only [go_sem, c13_r8, ca, f, h1, cl, *]))))
  · have hk0 := hk
    simp only [app_get] at hk0
    have hkl := getElem?_lt hk0
    have h1 := sort_w (ot := ot) (oz := oz) ⟨S.obs ++ [Ob.map es c] ++ os, S.own ++ w⟩ ((S.obs ++ [Ob.map es c]).length + k) met 9 hk hn (by omega)
    simp only [app_set] at h1
    have hll2 : (S.obs ++ [Ob.map es c]).length + k = S.obs.length + (k + 1) := by simp; omega
    have cl : close S ⟨S.obs ++ [Ob.map es c] ++ os.set k (.row 9 ((sortS met).map .str)), S.own ++ w⟩ (.msl ((S.obs ++ [Ob.map es c]).length + k) 0 met.length 1) = (.sl .ro ((sortS met).map rStr), S) := by
      rw [hll2, List.append_assoc, ← sortS_len met]
      exact close_mslW S _ w (k + 1) 9 (sortS met) [] (by simp [hkl])
    generalize (⟨S.obs ++ [Ob.map es c] ++ os.set k (.row 9 ((sortS met).map .str)), S.own ++ w⟩ : St) = T2 at *
    generalize (⟨S.obs ++ [Ob.map es c] ++ os, S.own ++ w⟩ : St) = T at *
    generalize PV.msl ((S.obs ++ [Ob.map es c]).length + k) 0 met.length 1 = v2 at *
    (rw [w_plain (fn := c13) rfl rfl (by simp only [go_sem, ca, f, h1, cl]) rfl (by decide)]; simp only [c13, c13_b, c13_r8, go_sem, ca, f, h1, cl]; repeat' (first | (rw [guardO_t]; split <;> rename_i h <;> (try rw [Bool.not_eq_true] at h) <;> (try simp only [go_sem, c13_r8, ca, f, h1, cl, *])) | (rw [guardO_f]; split <;> rename_i h <;> (try rw [Bool.not_eq_true] at h) <;> (try simp only [go_sem, c13_r8, ca, f, h1, cl, *])) | (rw [cw_bool]; split <;> rename_i h <;> (try rw [Bool.not_eq_true] at h) <;> (try simp only [go_sem, c13_r8, ca, f, h1, cl, *]))))
end
end Go.PE
namespace Go.PE
open Go Go.RowKit Go.Proofs
set_option linter.unusedVariables false
set_option linter.unusedSimpArgs false
set_option maxRecDepth 100000
theorem RInv.congr {l : List GDef} {n : ByteArray} {t t' m m' : List ByteArray} (h : RInv l n t m) (ht : ∀ x, x ∈ t ↔ x ∈ t') (hm : ∀ x, x ∈ m ↔ x ∈ m') (nd : m'.Nodup) : RInv l n t' m' := by
  refine ⟨nd, fun x hx => h.rch x ((hm x).2 hx), fun x hx => ?_, fun x hx f => ?_, fun y hy x hx f => ?_⟩
  · rcases h.from_ x ((ht x).2 hx) with k | ⟨y, hy, k⟩
    · exact .inl k
    · exact .inr ⟨y, (hm y).1 hy, k⟩
  · rcases h.cl1 x hx f with k | k
    · exact .inl ((hm x).1 k)
    · exact .inr ((ht x).1 k)
  · rcases h.cl2 y ((hm y).2 hy) x hx f with k | k
    · exact .inl ((hm x).1 k)
    · exact .inr ((ht x).1 k)
theorem rch_found {l : List GDef} {n x : ByteArray} (h : Rch l n x) : found l x = true := by
  cases h <;> assumption
section
variable {ot : TypeId} {oz : EP}
end
end Go.PE
