/-
  What is stale between two programs. Conditions: each law's own.
-/
import Derived.Test.YtleggogbmklddaaDX6
namespace Go.PE
open Go Go.RowKit Go.Proofs
set_option linter.unusedVariables false
set_option linter.unusedSimpArgs false
set_option maxRecDepth 100000
theorem appP_obs {A B : List Ob} {w w' : List Nat} {e : TypeId} {sz bytes : Nat} {g : Tag} {xs ys : List (List PV)} {v : PV} (h : appP ⟨A, w⟩ e sz bytes g xs ys = some (v, ⟨A, w'⟩)) : appP ⟨B, w⟩ e sz bytes g xs ys = some (v, ⟨B, w'⟩) := by
  unfold appP at h ⊢
  split at h
  · rename_i q; rw [if_pos q]; injection h with h; injection h with h1 h2; injection h2 with _ h2; subst h1 h2; rfl
  · rename_i q
    rw [if_neg q]
    split at h
    · rename_i q2
      rw [if_pos q2]
      cases g with
      | ro => cases h
      | own k e' =>
        simp only at h ⊢
        split at h
        · rename_i q3; rw [if_pos q3]; injection h with h; injection h with h1 h2; injection h2 with _ h2; subst h1 h2; rfl
        · cases h
      | exact => simp only at h ⊢; injection h with h; injection h with h1 h2; injection h2 with _ h2; subst h1 h2; rfl
      | null => simp only at h ⊢; injection h with h; injection h with h1 h2; injection h2 with _ h2; subst h1 h2; rfl
    · cases h
theorem aS_mk (S : St) (out : List ByteArray) : aS S out = ⟨S.obs, (aS S out).own⟩ := by rw [← aS_obs S out]
theorem aStr_appO (O : List Ob) (S : St) (out : List ByteArray) (s : ByteArray) (h : out.length + 1 ≤ 8000000000000) : appP ⟨O, (aS S out).own⟩ 9 1 16 (aG S out) (out.map rStr) [[.str s]] = some (.sl (aG S (out ++ [s])) ((out ++ [s]).map rStr), ⟨O, (aS S (out ++ [s])).own⟩) := by
  have := aStr_app S out s h
  rw [aS_mk S out, aS_mk S (out ++ [s])] at this
  exact appP_obs this
theorem aStr_closeO (S : St) (os : List Ob) (out : List ByteArray) : close S ⟨S.obs ++ os, (aS S out).own⟩ (.sl (aG S out) (out.map rStr)) = (.sl .ro (out.map rStr), S) := by
  have h : ∃ w, (aS S out).own = S.own ++ w := by
    unfold aS accS; split
    · exact ⟨[], by simp⟩
    · exact ⟨_, rfl⟩
  obtain ⟨w, hw⟩ := h
  rw [hw]
  unfold close
  have h1 : beqO ((S.obs ++ os).take S.obs.length) S.obs = true := by simp [beqO_refl]
  have h2 : (S.own ++ w).take S.own.length = S.own := by simp
  simp only [h1, h2, beq_self_eq_true, Bool.and_self, if_true, sealW, rStr_sll, Option.map_some]
/-! ### maps that count -/
/-- A map that counts these texts. -/
def MapOk (es : List (ByteArray × PV × Nat)) (names : List ByteArray) : Prop := ∀ s, (findM s es = none ∧ s ∉ names) ∨ ∃ k n, findM s es = some (.int .i64 k, n) ∧ s ∈ names ∧ 0 < k ∧ k ≤ names.length
theorem mapOk_nil : MapOk [] [] := fun s => .inl ⟨rfl, by simp⟩
theorem findM_app (s t : ByteArray) (v : PV) (n : Nat) : ∀ es, findM s (es ++ [(t, v, n)]) = match findM s es with
    | some x => some x
    | none => if strEq s t then some (v, n) else none
  | [] => by simp [findM]
  | (k, v', n') :: es => by
    simp only [List.cons_append, findM]
    split
    · rfl
    · exact findM_app s t v n es
theorem findM_set (s t : ByteArray) (x : PV) : ∀ es v n, findM t es = some (v, n) → findM s (setM t x es) = if strEq s t then some (x, n) else findM s es
  | [], v, n, h => by simp [findM] at h
  | (k, v', n') :: es, v, n, h => by
    simp only [findM] at h
    simp only [setM]
    split at h
    · rename_i q
      injection h with h; injection h with h1 h2; subst h1 h2
      rw [if_pos q]
      rw [strEq_iff] at q; subst q
      simp only [findM]
      by_cases q2 : strEq s t = true <;> simp [q2]
    · rename_i q
      rw [if_neg q]
      simp only [findM]
      rw [findM_set s t x es v n h]
      by_cases q2 : strEq s k = true
      · have : ¬ strEq s t = true := by
          intro q3
          rw [strEq_iff] at q2 q3; subst q2; subst q3; exact q (strEq_refl _)
        simp [q2, this]
      · simp [q2]
theorem mapOk_new {es : List (ByteArray × PV × Nat)} {names : List ByteArray} (h : MapOk es names) (t : ByteArray) (ht : findM t es = none) (c : Nat) : MapOk (es ++ [(t, .int .i64 1, c)]) (names ++ [t]) := fun s => by
  rw [findM_app]
  rcases h s with ⟨h1, h2⟩ | ⟨k, n, h1, h2, h3, h4⟩
  · rw [h1]
    by_cases q : strEq s t = true
    · rw [strEq_iff] at q; subst q
      exact .inr ⟨1, c, by simp [strEq_refl], by simp, by omega, by simp; omega⟩
    · refine .inl ⟨by simp [q], ?_⟩
      intro hm
      rcases List.mem_append.1 hm with hm | hm
      · exact h2 hm
      · rw [List.mem_singleton] at hm; subst hm; exact q (strEq_refl _)
  · rw [h1]
    exact .inr ⟨k, n, rfl, by simp [h2], h3, by simp; omega⟩
theorem mapOk_old {es : List (ByteArray × PV × Nat)} {names : List ByteArray} (h : MapOk es names) (t : ByteArray) {k : Int} {n : Nat} (ht : findM t es = some (.int .i64 k, n)) (hk : 0 < k ∧ k ≤ names.length) (hm : t ∈ names) : MapOk (setM t (.int .i64 (k + 1)) es) (names ++ [t]) := fun s => by
  rw [findM_set s t _ es _ n ht]
  by_cases q : strEq s t = true
  · rw [strEq_iff] at q; subst q
    exact .inr ⟨k + 1, n, by simp [strEq_refl], by simp, by omega, by simp; omega⟩
  · simp only [q, Bool.false_eq_true, if_false]
    rcases h s with ⟨h1, h2⟩ | ⟨k', n', h1, h2, h3, h4⟩
    · refine .inl ⟨h1, ?_⟩
      intro hm
      rcases List.mem_append.1 hm with hm | hm
      · exact h2 hm
      · rw [List.mem_singleton] at hm; subst hm; exact q (strEq_refl _)
    · exact .inr ⟨k', n', h1, by simp [h2], h3, by simp; omega⟩
/-- Those that are stale, with the names that were met. -/
def staleF (b a : List GDef) (r : List ByteArray × List ByteArray) (d : GDef) : List ByteArray × List ByteArray :=
  (if (!(r.2.any (strEq d.Sig.Name)) && staleS b a d.Sig.Name) = true then r.1 ++ [d.Sig.Name] else r.1, r.2 ++ [d.Sig.Name])
def staleL (b a : List GDef) : List ByteArray := (a.foldl (staleF b a) ([], [])).1
section
variable {ot : TypeId} {oz : EP}
theorem staleLP (b a : List GDef) (ob : OkL b) (oa : OkL a) (S : St) : cal (env ot oz) 15 [.sl .ro (b.map rDef), .sl .ro (a.map rDef)] S = some (.sl .ro ((staleL b a).map rStr), S) := by
  obtain ⟨ts, T, hI, hr⟩ := loopR (E := (env ot oz)) (c := c15_l0) a oa.short (staleF b a)
    (fun i r ts T => ∃ es c os, ts = [(0, some (.sl .ro (b.map rDef))), (1, some (.sl .ro (a.map rDef))), (5, some (.mp S.obs.length)), (6, some (.sl (aG S r.1) (r.1.map rStr))), (10, some (.sl .ro (a.map rDef))), (11, some (.int .i64 (a.length : Int))), (12, some (.int .i64 (i : Int)))] ∧ T = ⟨S.obs ++ Ob.map es c :: os, (aS S r.1).own⟩ ∧ MapOk es r.2 ∧ r.1.length ≤ i ∧ r.2.length ≤ i)
    (fun i r d ts T h1 h2 h3 h4 hI => by
      obtain ⟨es, c, os, rfl, rfl, hM, hl1, hl2⟩ := hI
      obtain ⟨out, names⟩ := r
      simp only at hM hl1 hl2
      have h5 := oa.1
      have cs := staleP (ot := ot) (oz := oz) b a ob oa d.Sig.Name
      have ap := aStr_appO (S.obs ++ Ob.map es c :: (os ++ [.cells 40 (rDef d)])) S out d.Sig.Name (by omega)
      have g0 : ∀ os', (S.obs ++ Ob.map es c :: os')[S.obs.length]? = some (.map es c) := fun os' => by simp
      have g1 : ∀ y, (S.obs ++ Ob.map es c :: (os ++ [y]))[S.obs.length + (os.length + 1)]? = some y := fun y => by simp
      have g2 : ∀ y z, (S.obs ++ Ob.map es c :: (os ++ [y])).set (S.obs.length + (os.length + 1)) z = S.obs ++ Ob.map es c :: (os ++ [z]) := fun y z => by simp
      have g3 : ∀ os' z, (S.obs ++ Ob.map es c :: os').set S.obs.length z = S.obs ++ z :: os' := fun os' z => by simp
      have hany : names.any (strEq d.Sig.Name) = true ↔ d.Sig.Name ∈ names := any_strEq names d.Sig.Name
      unfold staleF
      rcases hM d.Sig.Name with ⟨k1, k2⟩ | ⟨k, n, k1, k2, k3, k4⟩
      · have q0 : names.any (strEq d.Sig.Name) = false := by
          cases q : names.any (strEq d.Sig.Name) with
          | false => rfl
          | true => exact absurd (hany.1 q) k2
        simp only [q0, Bool.not_false, Bool.true_and]
        have hM2 := mapOk_new hM d.Sig.Name k1 c
        cases q : staleS b a d.Sig.Name with
        | false =>
          rw [q] at cs
          simp only [Bool.false_eq_true, if_false]
          refine ⟨_, _, ⟨_, c + 1, os ++ [.cells 40 (rDef d)], rfl, rfl, hM2, by first | omega | (simp only; omega), by simp only [List.length_append, List.length_singleton]; omega⟩, fun fin st => ?_⟩
          generalize aS S out = T1 at *
          (rw [c15_l0_w]; simp only [c15_l0_b, c15_l0_a, c15_r6, go_sem, h1, h3, h4, cs, k1, g0, g1, g2, g3]; repeat' (first | (rw [guardO_t]; split <;> rename_i h <;> (try rw [Bool.not_eq_true] at h) <;> (try simp only [go_sem, c15_r6, c15_l0_a, h1, h3, h4, cs, k1, g0, g1, g2, g3, *])) | (rw [guardO_f]; split <;> rename_i h <;> (try rw [Bool.not_eq_true] at h) <;> (try simp only [go_sem, c15_r6, c15_l0_a, h1, h3, h4, cs, k1, g0, g1, g2, g3, *])) | (rw [cw_bool]; split <;> rename_i h <;> (try rw [Bool.not_eq_true] at h) <;> (try simp only [go_sem, c15_r6, c15_l0_a, h1, h3, h4, cs, k1, g0, g1, g2, g3, *]))))
        | true =>
          rw [q] at cs
          simp only [if_true]
          refine ⟨_, _, ⟨_, c + 1, os ++ [.cells 40 (rDef d)], rfl, rfl, hM2, by simp only [List.length_append, List.length_singleton]; omega, by simp only [List.length_append, List.length_singleton]; omega⟩, fun fin st => ?_⟩
          generalize aS S (out ++ [d.Sig.Name]) = T2 at *
          generalize aG S (out ++ [d.Sig.Name]) = gg at *
          generalize aS S out = T1 at *
          (rw [c15_l0_w]; simp only [c15_l0_b, c15_l0_a, c15_r6, go_sem, h1, h3, h4, cs, k1, ap, g0, g1, g2, g3]; repeat' (first | (rw [guardO_t]; split <;> rename_i h <;> (try rw [Bool.not_eq_true] at h) <;> (try simp only [go_sem, c15_r6, c15_l0_a, h1, h3, h4, cs, k1, ap, g0, g1, g2, g3, *])) | (rw [guardO_f]; split <;> rename_i h <;> (try rw [Bool.not_eq_true] at h) <;> (try simp only [go_sem, c15_r6, c15_l0_a, h1, h3, h4, cs, k1, ap, g0, g1, g2, g3, *])) | (rw [cw_bool]; split <;> rename_i h <;> (try rw [Bool.not_eq_true] at h) <;> (try simp only [go_sem, c15_r6, c15_l0_a, h1, h3, h4, cs, k1, ap, g0, g1, g2, g3, *]))))
      · have q0 : names.any (strEq d.Sig.Name) = true := hany.2 k2
        simp only [q0, Bool.not_true, Bool.false_and, Bool.false_eq_true, if_false]
        have hM2 := mapOk_old hM d.Sig.Name k1 ⟨k3, k4⟩ k2
        have kz : (k == 0) = false := by simp; omega
        have kw : IntKind.i64.wrap (k + 1) = k + 1 := wrap64 (by omega) (by omega)
        refine ⟨_, _, ⟨_, c, os ++ [.cells 40 (rDef d)], rfl, rfl, hM2, by first | omega | (simp only; omega), by simp only [List.length_append, List.length_singleton]; omega⟩, fun fin st => ?_⟩
        generalize aS S out = T1 at *
        (rw [c15_l0_w]; simp only [c15_l0_b, c15_l0_a, c15_r6, go_sem, h1, h3, h4, cs, k1, kz, kw, g0, g1, g2, g3]; repeat' (first | (rw [guardO_t]; split <;> rename_i h <;> (try rw [Bool.not_eq_true] at h) <;> (try simp only [go_sem, c15_r6, c15_l0_a, h1, h3, h4, cs, k1, kz, kw, g0, g1, g2, g3, *])) | (rw [guardO_f]; split <;> rename_i h <;> (try rw [Bool.not_eq_true] at h) <;> (try simp only [go_sem, c15_r6, c15_l0_a, h1, h3, h4, cs, k1, kz, kw, g0, g1, g2, g3, *])) | (rw [cw_bool]; split <;> rename_i h <;> (try rw [Bool.not_eq_true] at h) <;> (try simp only [go_sem, c15_r6, c15_l0_a, h1, h3, h4, cs, k1, kz, kw, g0, g1, g2, g3, *]))))) ([], []) _ ⟨S.obs ++ [.map [] 0], S.own⟩ ⟨[], 0, [], rfl, rfl, mapOk_nil, by simp, by simp⟩
  obtain ⟨es, c, os, rfl, rfl, hM, hl1, hl2⟩ := hI
  have e0 : staleL b a = (a.foldl (staleF b a) ([], [])).1 := rfl
  generalize a.foldl (staleF b a) ([], []) = r at *
  obtain ⟨out, names⟩ := r
  simp only at e0 hr
  subst e0
  have f : ∀ fin st, _ := fun fin st => (hr fin st).trans (by
    show run (env ot oz) fin st c15_l0 [(0, some (.sl .ro (b.map rDef))), (1, some (.sl .ro (a.map rDef))), (5, some (.mp S.obs.length)), (6, some (.sl (aG S (staleL b a)) ((staleL b a).map rStr))), (10, some (.sl .ro (a.map rDef))), (11, some (.int .i64 (a.length : Int))), (12, some (.int .i64 (a.length : Int)))] ⟨S.obs ++ Ob.map es c :: os, (aS S (staleL b a)).own⟩ = aft (env ot oz) fin st (.exit 0) [(0, some (.sl .ro (b.map rDef))), (1, some (.sl .ro (a.map rDef))), (5, some (.mp S.obs.length)), (6, some (.sl (aG S (staleL b a)) ((staleL b a).map rStr))), (10, some (.sl .ro (a.map rDef))), (11, some (.int .i64 (a.length : Int))), (12, some (.int .i64 (a.length : Int))), (13, some (.bool false))] ⟨S.obs ++ Ob.map es c :: os, (aS S (staleL b a)).own⟩
    generalize staleL b a = xs
    (rw [c15_l0_w]; simp only [c15_l0_b, c15_l0_a, c15_r6, go_sem]; repeat' (first | (rw [guardO_t]; split <;> rename_i h <;> (try rw [Bool.not_eq_true] at h) <;> (try simp only [go_sem, c15_r6, c15_l0_a, *])) | (rw [guardO_f]; split <;> rename_i h <;> (try rw [Bool.not_eq_true] at h) <;> (try simp only [go_sem, c15_r6, c15_l0_a, *])) | (rw [cw_bool]; split <;> rename_i h <;> (try rw [Bool.not_eq_true] at h) <;> (try simp only [go_sem, c15_r6, c15_l0_a, *])))))
  simp only [Int.cast_ofNat_Int, List.map_nil, aG_nil] at f
  have cl := aStr_closeO S (.map es c :: os) (staleL b a)
  generalize (⟨S.obs ++ Ob.map es c :: os, (aS S (staleL b a)).own⟩ : St) = T at *
  (rw [w_plain (fn := c15) rfl rfl (by simp only [go_sem, f, cl]) rfl (by decide)]; simp only [c15, c15_b, c15_r6, go_sem, f, cl]; repeat' (first | (rw [guardO_t]; split <;> rename_i h <;> (try rw [Bool.not_eq_true] at h) <;> (try simp only [go_sem, c15_r6, f, cl, *])) | (rw [guardO_f]; split <;> rename_i h <;> (try rw [Bool.not_eq_true] at h) <;> (try simp only [go_sem, c15_r6, f, cl, *])) | (rw [cw_bool]; split <;> rename_i h <;> (try rw [Bool.not_eq_true] at h) <;> (try simp only [go_sem, c15_r6, f, cl, *]))))
def staleG (b a : List GDef) (out : List ByteArray) (d : GDef) : List ByteArray := if (staleS b a d.Sig.Name && !(out.any (strEq d.Sig.Name))) = true then out ++ [d.Sig.Name] else out
theorem staleG_eq (b a : List GDef) : a.foldl (staleG b a) [] = staleL b a := by
  have key : ∀ (m : List GDef) (out names : List ByteArray), (∀ x, x ∈ out ↔ x ∈ names ∧ staleS b a x = true) → m.foldl (staleG b a) out = (m.foldl (staleF b a) (out, names)).1 := by
    intro m
    induction m with
    | nil => intro out names h; rfl
    | cons d m ih =>
      intro out names h
      rw [List.foldl_cons, List.foldl_cons]
      have e : staleF b a (out, names) d = (staleG b a out d, names ++ [d.Sig.Name]) := by
        unfold staleF staleG
        simp only [Prod.mk.injEq, and_true]
        cases q : staleS b a d.Sig.Name with
        | false => simp
        | true =>
          have : names.any (strEq d.Sig.Name) = out.any (strEq d.Sig.Name) := by
            apply Bool.eq_iff_iff.2
            rw [any_strEq, any_strEq, h]; simp [q]
          simp [this]
      rw [e]
      refine ih _ _ fun x => ?_
      unfold staleG
      cases q : staleS b a d.Sig.Name with
      | false =>
        simp only [Bool.false_and, Bool.false_eq_true, if_false]
        rw [h, List.mem_append, List.mem_singleton]
        constructor
        · rintro ⟨h1, h2⟩; exact ⟨.inl h1, h2⟩
        · rintro ⟨h1 | h1, h2⟩
          · exact ⟨h1, h2⟩
          · subst h1; rw [q] at h2; cases h2
      | true =>
        simp only [Bool.true_and]
        split
        · rw [List.mem_append, List.mem_append, h, List.mem_singleton]
          constructor
          · rintro (⟨h1, h2⟩ | h1)
            · exact ⟨.inl h1, h2⟩
            · subst h1; exact ⟨.inr rfl, q⟩
          · rintro ⟨h1 | h1, h2⟩
            · exact .inl ⟨h1, h2⟩
            · exact .inr h1
        · rename_i q2
          have hin : d.Sig.Name ∈ out := by
            rw [← any_strEq]
            cases q3 : out.any (strEq d.Sig.Name) with
            | true => rfl
            | false => exact absurd (by simp [q3]) q2
          rw [h, List.mem_append, List.mem_singleton]
          constructor
          · rintro ⟨h1, h2⟩; exact ⟨.inl h1, h2⟩
          · rintro ⟨h1 | h1, h2⟩
            · exact ⟨h1, h2⟩
            · subst h1; exact ⟨((h _).1 hin).1, h2⟩
  exact key a [] [] (by simp)
end
end Go.PE
namespace Go.PE
open Go Go.RowKit Go.Proofs
set_option linter.unusedVariables false
set_option linter.unusedSimpArgs false
set_option maxRecDepth 100000
def found (l : List GDef) (x : ByteArray) : Bool := (findD l x).isSome
/-- What is reached. -/
inductive Rch (l : List GDef) (n : ByteArray) : ByteArray → Prop
  | one {x} (h : x ∈ asksS l n) (f : found l x = true) : Rch l n x
  | more {x y} (h : Rch l n x) (k : y ∈ asksS l x) (f : found l y = true) : Rch l n y
/-- What is gathered, and what is to be done yet. -/
structure RInv (l : List GDef) (n : ByteArray) (todo met : List ByteArray) : Prop where
  nd : met.Nodup
  rch : ∀ x ∈ met, Rch l n x
  from_ : ∀ x ∈ todo, x ∈ asksS l n ∨ ∃ y ∈ met, x ∈ asksS l y
  cl1 : ∀ x ∈ asksS l n, found l x = true → x ∈ met ∨ x ∈ todo
  cl2 : ∀ y ∈ met, ∀ x ∈ asksS l y, found l x = true → x ∈ met ∨ x ∈ todo
theorem RInv.rch_of {l : List GDef} {n : ByteArray} {todo met : List ByteArray} (h : RInv l n todo met) {x : ByteArray} (hx : x ∈ todo) (f : found l x = true) : Rch l n x := by
  rcases h.from_ x hx with h1 | ⟨y, hy, h1⟩
  · exact .one h1 f
  · exact .more (h.rch y hy) h1 f
theorem RInv.done {l : List GDef} {n : ByteArray} {met : List ByteArray} (h : RInv l n [] met) (x : ByteArray) : x ∈ met ↔ Rch l n x := by
  refine ⟨h.rch x, fun hr => ?_⟩
  induction hr with
  | one h1 f => rcases h.cl1 _ h1 f with k | k; exact k; simp at k
  | more _ h1 f ih => rcases h.cl2 _ ih _ h1 f with k | k; exact k; simp at k
theorem RInv.skip {l : List GDef} {n s : ByteArray} {todo met : List ByteArray} (h : RInv l n (s :: todo) met) (hs : found l s = false ∨ s ∈ met) : RInv l n todo met := by
  refine ⟨h.nd, h.rch, fun x hx => h.from_ x (by simp [hx]), fun x hx f => ?_, fun y hy x hx f => ?_⟩
  · rcases h.cl1 x hx f with k | k
    · exact .inl k
    · rcases List.mem_cons.1 k with e | e
      · subst e; rcases hs with q | q
        · rw [q] at f; cases f
        · exact .inl q
      · exact .inr e
  · rcases h.cl2 y hy x hx f with k | k
    · exact .inl k
    · rcases List.mem_cons.1 k with e | e
      · subst e; rcases hs with q | q
        · rw [q] at f; cases f
        · exact .inl q
      · exact .inr e
theorem RInv.take {l : List GDef} {n s : ByteArray} {todo met : List ByteArray} (h : RInv l n (s :: todo) met) (hf : found l s = true) (hs : s ∉ met) : RInv l n (todo ++ asksS l s) (met ++ [s]) := by
  have hr := h.rch_of (x := s) (by simp) hf
  refine ⟨?_, fun x hx => ?_, fun x hx => ?_, fun x hx f => ?_, fun y hy x hx f => ?_⟩
  · rw [List.nodup_append]
    exact ⟨h.nd, by simp, fun a ha b hb e => by rw [List.mem_singleton] at hb; subst hb; subst e; exact hs ha⟩
  · rcases List.mem_append.1 hx with k | k
    · exact h.rch x k
    · rw [List.mem_singleton] at k; subst k; exact hr
  · rcases List.mem_append.1 hx with k | k
    · rcases h.from_ x (by simp [k]) with q | ⟨y, hy, q⟩
      · exact .inl q
      · exact .inr ⟨y, by simp [hy], q⟩
    · exact .inr ⟨s, by simp, k⟩
  · rcases h.cl1 x hx f with k | k
    · exact .inl (by simp [k])
    · rcases List.mem_cons.1 k with e | e
      · subst e; exact .inl (by simp)
      · exact .inr (by simp [e])
  · rcases List.mem_append.1 hy with k | k
    · rcases h.cl2 y k x hx f with q | q
      · exact .inl (by simp [q])
      · rcases List.mem_cons.1 q with e | e
        · subst e; exact .inl (by simp)
        · exact .inr (by simp [e])
    · rw [List.mem_singleton] at k; subst k
      exact .inr (by simp [hx])
section
variable {ot : TypeId} {oz : EP}
end
end Go.PE
namespace Go.PE
open Go Go.RowKit Go.Proofs
set_option linter.unusedVariables false
set_option linter.unusedSimpArgs false
set_option maxRecDepth 100000
theorem RInv.congr {l : List GDef} {n : ByteArray} {t t' m m' : List ByteArray} (h : RInv l n t m) (ht : ∀ x, x ∈ t ↔ x ∈ t') (hm : ∀ x, x ∈ m ↔ x ∈ m') (nd : m'.Nodup) : RInv l n t' m' := by
  refine ⟨nd, fun x hx => h.rch x ((hm x).2 hx), fun x hx => ?_, fun x hx f => ?_, fun y hy x hx f => ?_⟩
  · rcases h.from_ x ((ht x).2 hx) with k | ⟨y, hy, k⟩
    · exact .inl k
    · exact .inr ⟨y, (hm y).1 hy, k⟩
  · rcases h.cl1 x hx f with k | k
    · exact .inl ((hm x).1 k)
    · exact .inr ((ht x).1 k)
  · rcases h.cl2 y ((hm y).2 hy) x hx f with k | k
    · exact .inl ((hm x).1 k)
    · exact .inr ((ht x).1 k)
section
variable {ot : TypeId} {oz : EP}
end
end Go.PE
