/-
  What is stale between two programs. Conditions: each law's own.
-/
import Derived.Test.YtleggogbmklddaaDX6
namespace Go.PE
open Go Go.RowKit Go.Proofs
set_option linter.unusedVariables false
set_option linter.unusedSimpArgs false
set_option maxRecDepth 100000
theorem appP_obs {A B : List Ob} {w w' : List Nat} {e : TypeId} {sz bytes : Nat} {g : Tag} {xs ys : List (List PV)} {v : PV} (h : appP ⟨A, w⟩ e sz bytes g xs ys = some (v, ⟨A, w'⟩)) : appP ⟨B, w⟩ e sz bytes g xs ys = some (v, ⟨B, w'⟩) := by
  unfold appP at h ⊢
  split at h
  · rename_i q; rw [if_pos q]; injection h with h; injection h with h1 h2; injection h2 with _ h2; subst h1 h2; rfl
  · rename_i q
    rw [if_neg q]
    split at h
    · rename_i q2
      rw [if_pos q2]
      cases g with
      | ro => cases h
      | own k e' =>
        simp only at h ⊢
        split at h
        · rename_i q3; rw [if_pos q3]; injection h with h; injection h with h1 h2; injection h2 with _ h2; subst h1 h2; rfl
        · cases h
      | exact => simp only at h ⊢; injection h with h; injection h with h1 h2; injection h2 with _ h2; subst h1 h2; rfl
      | null => simp only at h ⊢; injection h with h; injection h with h1 h2; injection h2 with _ h2; subst h1 h2; rfl
    · cases h
theorem aS_mk (S : St) (out : List ByteArray) : aS S out = ⟨S.obs, (aS S out).own⟩ := by rw [← aS_obs S out]
theorem aStr_appO (O : List Ob) (S : St) (out : List ByteArray) (s : ByteArray) (h : out.length + 1 ≤ 8000000000000) : appP ⟨O, (aS S out).own⟩ 9 1 16 (aG S out) (out.map rStr) [[.str s]] = some (.sl (aG S (out ++ [s])) ((out ++ [s]).map rStr), ⟨O, (aS S (out ++ [s])).own⟩) := by
  have := aStr_app S out s h
  rw [aS_mk S out, aS_mk S (out ++ [s])] at this
  exact appP_obs this
theorem aOwn_nil (S : St) : (aS S []).own = S.own := rfl
theorem aStr_closeO (S : St) (os : List Ob) (out : List ByteArray) : close S ⟨S.obs ++ os, (aS S out).own⟩ (.sl (aG S out) (out.map rStr)) = (.sl .ro (out.map rStr), S) := by
  have h : ∃ w, (aS S out).own = S.own ++ w := by
    unfold aS accS; split
    · exact ⟨[], by simp⟩
    · exact ⟨_, rfl⟩
  obtain ⟨w, hw⟩ := h
  rw [hw]
  unfold close
  have h1 : beqO ((S.obs ++ os).take S.obs.length) S.obs = true := by simp [beqO_refl]
  have h2 : (S.own ++ w).take S.own.length = S.own := by simp
  simp only [h1, h2, beq_self_eq_true, Bool.and_self, if_true, sealW, rStr_sll, Option.map_some]
/-! ### maps that count -/
/-- A map that counts these texts. -/
def MapOk (es : List (ByteArray × PV × Nat)) (names : List ByteArray) : Prop := ∀ s, (findM s es = none ∧ s ∉ names) ∨ ∃ k n, findM s es = some (.int .i64 k, n) ∧ s ∈ names ∧ 0 < k ∧ k ≤ names.length
theorem mapOk_nil : MapOk [] [] := fun s => .inl ⟨rfl, by simp⟩
theorem findM_app (s t : ByteArray) (v : PV) (n : Nat) : ∀ es, findM s (es ++ [(t, v, n)]) = match findM s es with
    | some x => some x
    | none => if strEq s t then some (v, n) else none
  | [] => by simp [findM]
  | (k, v', n') :: es => by
    simp only [List.cons_append, findM]
    split
    · rfl
    · exact findM_app s t v n es
theorem findM_set (s t : ByteArray) (x : PV) : ∀ es v n, findM t es = some (v, n) → findM s (setM t x es) = if strEq s t then some (x, n) else findM s es
  | [], v, n, h => by simp [findM] at h
  | (k, v', n') :: es, v, n, h => by
    simp only [findM] at h
    simp only [setM]
    split at h
    · rename_i q
      injection h with h; injection h with h1 h2; subst h1 h2
      rw [if_pos q]
      rw [strEq_iff] at q; subst q
      simp only [findM]
      by_cases q2 : strEq s t = true <;> simp [q2]
    · rename_i q
      rw [if_neg q]
      simp only [findM]
      rw [findM_set s t x es v n h]
      by_cases q2 : strEq s k = true
      · have : ¬ strEq s t = true := by
          intro q3
          rw [strEq_iff] at q2 q3; subst q2; subst q3; exact q (strEq_refl _)
        simp [q2, this]
      · simp [q2]
theorem mapOk_new {es : List (ByteArray × PV × Nat)} {names : List ByteArray} (h : MapOk es names) (t : ByteArray) (ht : findM t es = none) (c : Nat) : MapOk (es ++ [(t, .int .i64 1, c)]) (names ++ [t]) := fun s => by
  rw [findM_app]
  rcases h s with ⟨h1, h2⟩ | ⟨k, n, h1, h2, h3, h4⟩
  · rw [h1]
    by_cases q : strEq s t = true
    · rw [strEq_iff] at q; subst q
      exact .inr ⟨1, c, by simp [strEq_refl], by simp, by omega, by simp; omega⟩
    · refine .inl ⟨by simp [q], ?_⟩
      intro hm
      rcases List.mem_append.1 hm with hm | hm
      · exact h2 hm
      · rw [List.mem_singleton] at hm; subst hm; exact q (strEq_refl _)
  · rw [h1]
    exact .inr ⟨k, n, rfl, by simp [h2], h3, by simp; omega⟩
theorem mapOk_old {es : List (ByteArray × PV × Nat)} {names : List ByteArray} (h : MapOk es names) (t : ByteArray) {k : Int} {n : Nat} (ht : findM t es = some (.int .i64 k, n)) (hk : 0 < k ∧ k ≤ names.length) (hm : t ∈ names) : MapOk (setM t (.int .i64 (k + 1)) es) (names ++ [t]) := fun s => by
  rw [findM_set s t _ es _ n ht]
  by_cases q : strEq s t = true
  · rw [strEq_iff] at q; subst q
    exact .inr ⟨k + 1, n, by simp [strEq_refl], by simp, by omega, by simp; omega⟩
  · simp only [q, Bool.false_eq_true, if_false]
    rcases h s with ⟨h1, h2⟩ | ⟨k', n', h1, h2, h3, h4⟩
    · refine .inl ⟨h1, ?_⟩
      intro hm
      rcases List.mem_append.1 hm with hm | hm
      · exact h2 hm
      · rw [List.mem_singleton] at hm; subst hm; exact q (strEq_refl _)
    · exact .inr ⟨k', n', h1, by simp [h2], h3, by simp; omega⟩
/-- Those that are stale, with the names that were met. -/
def staleF (b a : List GDef) (r : List ByteArray × List ByteArray) (d : GDef) : List ByteArray × List ByteArray :=
  (if (!(r.2.any (strEq d.Sig.Name)) && staleS b a d.Sig.Name) = true then r.1 ++ [d.Sig.Name] else r.1, r.2 ++ [d.Sig.Name])
def staleL (b a : List GDef) : List ByteArray := (a.foldl (staleF b a) ([], [])).1
section
variable {ot : TypeId} {oz : EP}
theorem staleLP (b a : List GDef) (ob : OkL b) (oa : OkL a) (S : St) : cal (env ot oz) 15 [.sl .ro (b.map rDef), .sl .ro (a.map rDef)] S = some (.sl .ro ((staleL b a).map rStr), S) := by
  obtain ⟨ts, T, hI, hr⟩ := loopR (E := (env ot oz)) (c := c15_l0) a oa.short (staleF b a)
    (fun i r ts T => ∃ es c os, ts = [(0, some (.sl .ro (b.map rDef))), (1, some (.sl .ro (a.map rDef))), (5, some (.mp S.obs.length)), (6, some (.sl (aG S r.1) (r.1.map rStr))), (10, some (.sl .ro (a.map rDef))), (11, some (.int .i64 (a.length : Int))), (12, some (.int .i64 (i : Int)))] ∧ T = ⟨S.obs ++ Ob.map es c :: os, (aS S r.1).own⟩ ∧ MapOk es r.2 ∧ r.1.length ≤ i ∧ r.2.length ≤ i)
    (fun i r d ts T h1 h2 h3 h4 hI => by
      obtain ⟨es, c, os, rfl, rfl, hM, hl1, hl2⟩ := hI
      obtain ⟨out, names⟩ := r
      simp only at hM hl1 hl2
      have h5 := oa.1
      have cs := staleP (ot := ot) (oz := oz) b a ob oa d.Sig.Name
      have ap := aStr_appO (S.obs ++ Ob.map es c :: (os ++ [.cells 40 (rDef d)])) S out d.Sig.Name (by omega)
      have g0 : ∀ os', (S.obs ++ Ob.map es c :: os')[S.obs.length]? = some (.map es c) := fun os' => by simp
      have g1 : ∀ y, (S.obs ++ Ob.map es c :: (os ++ [y]))[S.obs.length + (os.length + 1)]? = some y := fun y => by simp
      have g2 : ∀ y z, (S.obs ++ Ob.map es c :: (os ++ [y])).set (S.obs.length + (os.length + 1)) z = S.obs ++ Ob.map es c :: (os ++ [z]) := fun y z => by simp
      have g3 : ∀ os' z, (S.obs ++ Ob.map es c :: os').set S.obs.length z = S.obs ++ z :: os' := fun os' z => by simp
      have hany : names.any (strEq d.Sig.Name) = true ↔ d.Sig.Name ∈ names := any_strEq names d.Sig.Name
      unfold staleF
      rcases hM d.Sig.Name with ⟨k1, k2⟩ | ⟨k, n, k1, k2, k3, k4⟩
      · have q0 : names.any (strEq d.Sig.Name) = false := by
          cases q : names.any (strEq d.Sig.Name) with
          | false => rfl
          | true => exact absurd (hany.1 q) k2
        simp only [q0, Bool.not_false, Bool.true_and]
        have hM2 := mapOk_new hM d.Sig.Name k1 c
        cases q : staleS b a d.Sig.Name with
        | false =>
          rw [q] at cs
          simp only [Bool.false_eq_true, if_false]
          refine ⟨_, _, ⟨_, c + 1, os ++ [.cells 40 (rDef d)], rfl, rfl, hM2, by first | omega | (simp only; omega), by simp only [List.length_append, List.length_singleton]; omega⟩, fun fin st => ?_⟩
          generalize aS S out = T1 at *
          (rw [c15_l0_w]; simp only [c15_l0_b, c15_l0_a, c15_r6, go_sem, h1, h3, h4, cs, k1, g0, g1, g2, g3]; repeat' (first | (rw [guardO_t]; split <;> rename_i h <;> (try rw [Bool.not_eq_true] at h) <;> (try simp only [go_sem, c15_r6, c15_l0_a, h1, h3, h4, cs, k1, g0, g1, g2, g3, *])) | (rw [guardO_f]; split <;> rename_i h <;> (try rw [Bool.not_eq_true] at h) <;> (try simp only [go_sem, c15_r6, c15_l0_a, h1, h3, h4, cs, k1, g0, g1, g2, g3, *])) | (rw [cw_bool]; split <;> rename_i h <;> (try rw [Bool.not_eq_true] at h) <;> (try simp only [go_sem, c15_r6, c15_l0_a, h1, h3, h4, cs, k1, g0, g1, g2, g3, *]))))
        | true =>
          rw [q] at cs
          simp only [if_true]
          refine ⟨_, _, ⟨_, c + 1, os ++ [.cells 40 (rDef d)], rfl, rfl, hM2, by simp only [List.length_append, List.length_singleton]; omega, by simp only [List.length_append, List.length_singleton]; omega⟩, fun fin st => ?_⟩
          generalize aS S (out ++ [d.Sig.Name]) = T2 at *
          generalize aG S (out ++ [d.Sig.Name]) = gg at *
          generalize aS S out = T1 at *
          (rw [c15_l0_w]; simp only [c15_l0_b, c15_l0_a, c15_r6, go_sem, h1, h3, h4, cs, k1, ap, g0, g1, g2, g3]; repeat' (first | (rw [guardO_t]; split <;> rename_i h <;> (try rw [Bool.not_eq_true] at h) <;> (try simp only [go_sem, c15_r6, c15_l0_a, h1, h3, h4, cs, k1, ap, g0, g1, g2, g3, *])) | (rw [guardO_f]; split <;> rename_i h <;> (try rw [Bool.not_eq_true] at h) <;> (try simp only [go_sem, c15_r6, c15_l0_a, h1, h3, h4, cs, k1, ap, g0, g1, g2, g3, *])) | (rw [cw_bool]; split <;> rename_i h <;> (try rw [Bool.not_eq_true] at h) <;> (try simp only [go_sem, c15_r6, c15_l0_a, h1, h3, h4, cs, k1, ap, g0, g1, g2, g3, *]))))
      · have q0 : names.any (strEq d.Sig.Name) = true := hany.2 k2
        simp only [q0, Bool.not_true, Bool.false_and, Bool.false_eq_true, if_false]
        have hM2 := mapOk_old hM d.Sig.Name k1 ⟨k3, k4⟩ k2
        have kz : (k == 0) = false := by simp; omega
        have kw : IntKind.i64.wrap (k + 1) = k + 1 := wrap64 (by omega) (by omega)
        refine ⟨_, _, ⟨_, c, os ++ [.cells 40 (rDef d)], rfl, rfl, hM2, by first | omega | (simp only; omega), by simp only [List.length_append, List.length_singleton]; omega⟩, fun fin st => ?_⟩
        generalize aS S out = T1 at *
        (rw [c15_l0_w]; simp only [c15_l0_b, c15_l0_a, c15_r6, go_sem, h1, h3, h4, cs, k1, kz, kw, g0, g1, g2, g3]; repeat' (first | (rw [guardO_t]; split <;> rename_i h <;> (try rw [Bool.not_eq_true] at h) <;> (try simp only [go_sem, c15_r6, c15_l0_a, h1, h3, h4, cs, k1, kz, kw, g0, g1, g2, g3, *])) | (rw [guardO_f]; split <;> rename_i h <;> (try rw [Bool.not_eq_true] at h) <;> (try simp only [go_sem, c15_r6, c15_l0_a, h1, h3, h4, cs, k1, kz, kw, g0, g1, g2, g3, *])) | (rw [cw_bool]; split <;> rename_i h <;> (try rw [Bool.not_eq_true] at h) <;> (try simp only [go_sem, c15_r6, c15_l0_a, h1, h3, h4, cs, k1, kz, kw, g0, g1, g2, g3, *]))))) ([], []) _ ⟨S.obs ++ [.map [] 0], S.own⟩ ⟨[], 0, [], rfl, rfl, mapOk_nil, by simp, by simp⟩
  obtain ⟨es, c, os, rfl, rfl, hM, hl1, hl2⟩ := hI
  have e0 : staleL b a = (a.foldl (staleF b a) ([], [])).1 := rfl
  generalize a.foldl (staleF b a) ([], []) = r at *
  obtain ⟨out, names⟩ := r
  simp only at e0 hr
  subst e0
  have f : ∀ fin st, _ := fun fin st => (hr fin st).trans (by
    show run (env ot oz) fin st c15_l0 [(0, some (.sl .ro (b.map rDef))), (1, some (.sl .ro (a.map rDef))), (5, some (.mp S.obs.length)), (6, some (.sl (aG S (staleL b a)) ((staleL b a).map rStr))), (10, some (.sl .ro (a.map rDef))), (11, some (.int .i64 (a.length : Int))), (12, some (.int .i64 (a.length : Int)))] ⟨S.obs ++ Ob.map es c :: os, (aS S (staleL b a)).own⟩ = aft (env ot oz) fin st (.exit 0) [(0, some (.sl .ro (b.map rDef))), (1, some (.sl .ro (a.map rDef))), (5, some (.mp S.obs.length)), (6, some (.sl (aG S (staleL b a)) ((staleL b a).map rStr))), (10, some (.sl .ro (a.map rDef))), (11, some (.int .i64 (a.length : Int))), (12, some (.int .i64 (a.length : Int))), (13, some (.bool false))] ⟨S.obs ++ Ob.map es c :: os, (aS S (staleL b a)).own⟩
    generalize staleL b a = xs
    (rw [c15_l0_w]; simp only [c15_l0_b, c15_l0_a, c15_r6, go_sem]; repeat' (first | (rw [guardO_t]; split <;> rename_i h <;> (try rw [Bool.not_eq_true] at h) <;> (try simp only [go_sem, c15_r6, c15_l0_a, *])) | (rw [guardO_f]; split <;> rename_i h <;> (try rw [Bool.not_eq_true] at h) <;> (try simp only [go_sem, c15_r6, c15_l0_a, *])) | (rw [cw_bool]; split <;> rename_i h <;> (try rw [Bool.not_eq_true] at h) <;> (try simp only [go_sem, c15_r6, c15_l0_a, *])))))
  simp only [Int.cast_ofNat_Int, List.map_nil, aG_nil] at f
  have cl := aStr_closeO S (.map es c :: os) (staleL b a)
  generalize (⟨S.obs ++ Ob.map es c :: os, (aS S (staleL b a)).own⟩ : St) = T at *
  (rw [w_plain (fn := c15) rfl rfl (by simp only [go_sem, f, cl]) rfl (by decide)]; simp only [c15, c15_b, c15_r6, go_sem, f, cl]; repeat' (first | (rw [guardO_t]; split <;> rename_i h <;> (try rw [Bool.not_eq_true] at h) <;> (try simp only [go_sem, c15_r6, f, cl, *])) | (rw [guardO_f]; split <;> rename_i h <;> (try rw [Bool.not_eq_true] at h) <;> (try simp only [go_sem, c15_r6, f, cl, *])) | (rw [cw_bool]; split <;> rename_i h <;> (try rw [Bool.not_eq_true] at h) <;> (try simp only [go_sem, c15_r6, f, cl, *]))))
def staleG (b a : List GDef) (out : List ByteArray) (d : GDef) : List ByteArray := if (staleS b a d.Sig.Name && !(out.any (strEq d.Sig.Name))) = true then out ++ [d.Sig.Name] else out
theorem staleG_eq (b a : List GDef) : a.foldl (staleG b a) [] = staleL b a := by
  have key : ∀ (m : List GDef) (out names : List ByteArray), (∀ x, x ∈ out ↔ x ∈ names ∧ staleS b a x = true) → m.foldl (staleG b a) out = (m.foldl (staleF b a) (out, names)).1 := by
    intro m
    induction m with
    | nil => intro out names h; rfl
    | cons d m ih =>
      intro out names h
      rw [List.foldl_cons, List.foldl_cons]
      have e : staleF b a (out, names) d = (staleG b a out d, names ++ [d.Sig.Name]) := by
        unfold staleF staleG
        simp only [Prod.mk.injEq, and_true]
        cases q : staleS b a d.Sig.Name with
        | false => simp
        | true =>
          have : names.any (strEq d.Sig.Name) = out.any (strEq d.Sig.Name) := by
            apply Bool.eq_iff_iff.2
            rw [any_strEq, any_strEq, h]; simp [q]
          simp [this]
      rw [e]
      refine ih _ _ fun x => ?_
      unfold staleG
      cases q : staleS b a d.Sig.Name with
      | false =>
        simp only [Bool.false_and, Bool.false_eq_true, if_false]
        rw [h, List.mem_append, List.mem_singleton]
        constructor
        · rintro ⟨h1, h2⟩; exact ⟨.inl h1, h2⟩
        · rintro ⟨h1 | h1, h2⟩
          · exact ⟨h1, h2⟩
          · subst h1; rw [q] at h2; cases h2
      | true =>
        simp only [Bool.true_and]
        split
        · rw [List.mem_append, List.mem_append, h, List.mem_singleton]
          constructor
          · rintro (⟨h1, h2⟩ | h1)
            · exact ⟨.inl h1, h2⟩
            · subst h1; exact ⟨.inr rfl, q⟩
          · rintro ⟨h1 | h1, h2⟩
            · exact .inl ⟨h1, h2⟩
            · exact .inr h1
        · rename_i q2
          have hin : d.Sig.Name ∈ out := by
            rw [← any_strEq]
            cases q3 : out.any (strEq d.Sig.Name) with
            | true => rfl
            | false => exact absurd (by simp [q3]) q2
          rw [h, List.mem_append, List.mem_singleton]
          constructor
          · rintro ⟨h1, h2⟩; exact ⟨.inl h1, h2⟩
          · rintro ⟨h1 | h1, h2⟩
            · exact ⟨h1, h2⟩
            · subst h1; exact ⟨((h _).1 hin).1, h2⟩
  exact key a [] [] (by simp)
theorem stale39L (b a : List GDef) (ob : OkL b) (oa : OkL a) (S : St) : cal (env ot oz) 16 [.sl .ro (b.map rDef), .sl .ro (a.map rDef)] S = some (.sl .ro ((staleL b a).map rStr), S) := by
  obtain ⟨ts, T, hI, hr⟩ := loopR (E := (env ot oz)) (c := c16_l0) a oa.short (staleG b a)
    (fun i out ts T => ts = [(0, some (.sl .ro (b.map rDef))), (1, some (.sl .ro (a.map rDef))), (5, some (.sl (aG S out) (out.map rStr))), (6, some (.int .i64 (i : Int)))] ∧ T = aS S out ∧ out.length ≤ i)
    (fun i out d ts T h1 h2 h3 h4 hI => by
      obtain ⟨rfl, rfl, hl⟩ := hI
      have h5 := oa.1
      have hf : (findD a d.Sig.Name).isSome = true := by
        unfold findD
        rw [List.find?_isSome]
        exact ⟨d, h2, strEq_refl _⟩
      have cs := stale39 (ot := ot) (oz := oz) b a ob oa d.Sig.Name hf
      have cp := place01 (ot := ot) (oz := oz) out (by unfold Short maxLen; omega) d.Sig.Name (aG S out)
      have pl := place_lt out d.Sig.Name
      rw [any_strEq2] at cp pl
      have ap := aStr_app S out d.Sig.Name (by omega)
      unfold staleG
      generalize (if out.any (strEq d.Sig.Name) = true then ((out.findIdx (strEq · d.Sig.Name) : Nat) : Int) else -1) = z at *
      cases q : staleS b a d.Sig.Name with
      | false =>
        rw [q] at cs
        simp only [Bool.false_and, Bool.false_eq_true, if_false]
        refine ⟨_, _, ⟨rfl, rfl, by omega⟩, fun fin st => ?_⟩
        generalize aS S out = T1 at *
        (rw [c16_l0_w]; simp only [c16_l0_b, c16_l0_a, c16_r6, go_sem, h1, h3, h4, cs]; repeat' (first | (rw [guardO_t]; split <;> rename_i h <;> (try rw [Bool.not_eq_true] at h) <;> (try simp only [go_sem, c16_r6, c16_l0_a, h1, h3, h4, cs, *])) | (rw [guardO_f]; split <;> rename_i h <;> (try rw [Bool.not_eq_true] at h) <;> (try simp only [go_sem, c16_r6, c16_l0_a, h1, h3, h4, cs, *])) | (rw [cw_bool]; split <;> rename_i h <;> (try rw [Bool.not_eq_true] at h) <;> (try simp only [go_sem, c16_r6, c16_l0_a, h1, h3, h4, cs, *]))))
      | true =>
        rw [q] at cs
        simp only [Bool.true_and]
        cases q2 : out.any (strEq d.Sig.Name) with
        | true =>
          rw [q2] at pl
          simp only [Bool.not_true, Bool.false_eq_true, if_false]
          refine ⟨_, _, ⟨rfl, rfl, by omega⟩, fun fin st => ?_⟩
          generalize aS S out = T1 at *
          (rw [c16_l0_w]; simp only [c16_l0_b, c16_l0_a, c16_r6, go_sem, h1, h3, h4, cs, cp, pl]; repeat' (first | (rw [guardO_t]; split <;> rename_i h <;> (try rw [Bool.not_eq_true] at h) <;> (try simp only [go_sem, c16_r6, c16_l0_a, h1, h3, h4, cs, cp, pl, *])) | (rw [guardO_f]; split <;> rename_i h <;> (try rw [Bool.not_eq_true] at h) <;> (try simp only [go_sem, c16_r6, c16_l0_a, h1, h3, h4, cs, cp, pl, *])) | (rw [cw_bool]; split <;> rename_i h <;> (try rw [Bool.not_eq_true] at h) <;> (try simp only [go_sem, c16_r6, c16_l0_a, h1, h3, h4, cs, cp, pl, *]))))
        | false =>
          rw [q2] at pl
          simp only [Bool.not_false, if_true]
          refine ⟨_, _, ⟨rfl, rfl, by simp; omega⟩, fun fin st => ?_⟩
          generalize aS S (out ++ [d.Sig.Name]) = T2 at *
          generalize aG S (out ++ [d.Sig.Name]) = gg at *
          generalize aS S out = T1 at *
          (rw [c16_l0_w]; simp only [c16_l0_b, c16_l0_a, c16_r6, go_sem, h1, h3, h4, cs, cp, pl, ap]; repeat' (first | (rw [guardO_t]; split <;> rename_i h <;> (try rw [Bool.not_eq_true] at h) <;> (try simp only [go_sem, c16_r6, c16_l0_a, h1, h3, h4, cs, cp, pl, ap, *])) | (rw [guardO_f]; split <;> rename_i h <;> (try rw [Bool.not_eq_true] at h) <;> (try simp only [go_sem, c16_r6, c16_l0_a, h1, h3, h4, cs, cp, pl, ap, *])) | (rw [cw_bool]; split <;> rename_i h <;> (try rw [Bool.not_eq_true] at h) <;> (try simp only [go_sem, c16_r6, c16_l0_a, h1, h3, h4, cs, cp, pl, ap, *]))))) [] _ S ⟨rfl, rfl, by simp⟩
  obtain ⟨rfl, rfl, hl⟩ := hI
  rw [staleG_eq] at hr
  have f : ∀ fin st, _ := fun fin st => (hr fin st).trans (by
    show run (env ot oz) fin st c16_l0 [(0, some (.sl .ro (b.map rDef))), (1, some (.sl .ro (a.map rDef))), (5, some (.sl (aG S (staleL b a)) ((staleL b a).map rStr))), (6, some (.int .i64 (a.length : Int)))] (aS S (staleL b a)) = aft (env ot oz) fin st (.exit 0) [(0, some (.sl .ro (b.map rDef))), (1, some (.sl .ro (a.map rDef))), (5, some (.sl (aG S (staleL b a)) ((staleL b a).map rStr))), (6, some (.int .i64 (a.length : Int))), (11, some (.bool false))] (aS S (staleL b a))
    generalize aS S (staleL b a) = T
    generalize aG S (staleL b a) = gg
    generalize staleL b a = xs
    (rw [c16_l0_w]; simp only [c16_l0_b, c16_l0_a, c16_r6, go_sem]; repeat' (first | (rw [guardO_t]; split <;> rename_i h <;> (try rw [Bool.not_eq_true] at h) <;> (try simp only [go_sem, c16_r6, c16_l0_a, *])) | (rw [guardO_f]; split <;> rename_i h <;> (try rw [Bool.not_eq_true] at h) <;> (try simp only [go_sem, c16_r6, c16_l0_a, *])) | (rw [cw_bool]; split <;> rename_i h <;> (try rw [Bool.not_eq_true] at h) <;> (try simp only [go_sem, c16_r6, c16_l0_a, *])))))
  simp only [Int.cast_ofNat_Int, List.map_nil, aG_nil] at f
  have cl := aStr_close S (staleL b a)
  generalize aS S (staleL b a) = T at *
  (rw [w_plain (fn := c16) rfl rfl (by simp only [go_sem, f, cl]) rfl (by decide)]; simp only [c16, c16_b, c16_r6, go_sem, f, cl]; repeat' (first | (rw [guardO_t]; split <;> rename_i h <;> (try rw [Bool.not_eq_true] at h) <;> (try simp only [go_sem, c16_r6, f, cl, *])) | (rw [guardO_f]; split <;> rename_i h <;> (try rw [Bool.not_eq_true] at h) <;> (try simp only [go_sem, c16_r6, f, cl, *])) | (rw [cw_bool]; split <;> rename_i h <;> (try rw [Bool.not_eq_true] at h) <;> (try simp only [go_sem, c16_r6, f, cl, *]))))
end
end Go.PE
namespace Go.PE
open Go Go.RowKit Go.Proofs
set_option linter.unusedVariables false
set_option linter.unusedSimpArgs false
set_option maxRecDepth 100000
def found (l : List GDef) (x : ByteArray) : Bool := (findD l x).isSome
/-- What is reached. -/
inductive Rch (l : List GDef) (n : ByteArray) : ByteArray → Prop
  | one {x} (h : x ∈ asksS l n) (f : found l x = true) : Rch l n x
  | more {x y} (h : Rch l n x) (k : y ∈ asksS l x) (f : found l y = true) : Rch l n y
/-- What is gathered, and what is to be done yet. -/
structure RInv (l : List GDef) (n : ByteArray) (todo met : List ByteArray) : Prop where
  nd : met.Nodup
  rch : ∀ x ∈ met, Rch l n x
  from_ : ∀ x ∈ todo, x ∈ asksS l n ∨ ∃ y ∈ met, x ∈ asksS l y
  cl1 : ∀ x ∈ asksS l n, found l x = true → x ∈ met ∨ x ∈ todo
  cl2 : ∀ y ∈ met, ∀ x ∈ asksS l y, found l x = true → x ∈ met ∨ x ∈ todo
theorem RInv.rch_of {l : List GDef} {n : ByteArray} {todo met : List ByteArray} (h : RInv l n todo met) {x : ByteArray} (hx : x ∈ todo) (f : found l x = true) : Rch l n x := by
  rcases h.from_ x hx with h1 | ⟨y, hy, h1⟩
  · exact .one h1 f
  · exact .more (h.rch y hy) h1 f
theorem RInv.done {l : List GDef} {n : ByteArray} {met : List ByteArray} (h : RInv l n [] met) (x : ByteArray) : x ∈ met ↔ Rch l n x := by
  refine ⟨h.rch x, fun hr => ?_⟩
  induction hr with
  | one h1 f => rcases h.cl1 _ h1 f with k | k; exact k; simp at k
  | more _ h1 f ih => rcases h.cl2 _ ih _ h1 f with k | k; exact k; simp at k
theorem RInv.skip {l : List GDef} {n s : ByteArray} {todo met : List ByteArray} (h : RInv l n (s :: todo) met) (hs : found l s = false ∨ s ∈ met) : RInv l n todo met := by
  refine ⟨h.nd, h.rch, fun x hx => h.from_ x (by simp [hx]), fun x hx f => ?_, fun y hy x hx f => ?_⟩
  · rcases h.cl1 x hx f with k | k
    · exact .inl k
    · rcases List.mem_cons.1 k with e | e
      · subst e; rcases hs with q | q
        · rw [q] at f; cases f
        · exact .inl q
      · exact .inr e
  · rcases h.cl2 y hy x hx f with k | k
    · exact .inl k
    · rcases List.mem_cons.1 k with e | e
      · subst e; rcases hs with q | q
        · rw [q] at f; cases f
        · exact .inl q
      · exact .inr e
theorem RInv.take {l : List GDef} {n s : ByteArray} {todo met : List ByteArray} (h : RInv l n (s :: todo) met) (hf : found l s = true) (hs : s ∉ met) : RInv l n (todo ++ asksS l s) (met ++ [s]) := by
  have hr := h.rch_of (x := s) (by simp) hf
  refine ⟨?_, fun x hx => ?_, fun x hx => ?_, fun x hx f => ?_, fun y hy x hx f => ?_⟩
  · rw [List.nodup_append]
    exact ⟨h.nd, by simp, fun a ha b hb e => by rw [List.mem_singleton] at hb; subst hb; subst e; exact hs ha⟩
  · rcases List.mem_append.1 hx with k | k
    · exact h.rch x k
    · rw [List.mem_singleton] at k; subst k; exact hr
  · rcases List.mem_append.1 hx with k | k
    · rcases h.from_ x (by simp [k]) with q | ⟨y, hy, q⟩
      · exact .inl q
      · exact .inr ⟨y, by simp [hy], q⟩
    · exact .inr ⟨s, by simp, k⟩
  · rcases h.cl1 x hx f with k | k
    · exact .inl (by simp [k])
    · rcases List.mem_cons.1 k with e | e
      · subst e; exact .inl (by simp)
      · exact .inr (by simp [e])
  · rcases List.mem_append.1 hy with k | k
    · rcases h.cl2 y k x hx f with q | q
      · exact .inl (by simp [q])
      · rcases List.mem_cons.1 q with e | e
        · subst e; exact .inl (by simp)
        · exact .inr (by simp [e])
    · rw [List.mem_singleton] at k; subst k
      exact .inr (by simp [hx])
/-- What is left to be put. -/
def leftN (l : List GDef) (met : List ByteArray) : List GDef → Nat
  | [] => 0
  | d :: m => (if met.any (strEq d.Sig.Name) then 0 else (asksS l d.Sig.Name).length) + leftN l met m
theorem leftN_le (l : List GDef) (met : List ByteArray) (ol : OkL l) : ∀ m : List GDef, leftN l met m ≤ m.length * 2000000
  | [] => by simp [leftN]
  | d :: m => by
    have := leftN_le l met ol m
    have h2 := asks_len ol d.Sig.Name
    rw [leftN, List.length_cons, Nat.succ_mul]
    split <;> omega
theorem leftN_app_le (l : List GDef) (met : List ByteArray) (s : ByteArray) : ∀ m : List GDef, leftN l (met ++ [s]) m ≤ leftN l met m
  | [] => by simp [leftN]
  | d :: m => by
    have := leftN_app_le l met s m
    rw [leftN, leftN, List.any_append]
    cases met.any (strEq d.Sig.Name) <;> simp <;> (try split) <;> omega
theorem leftN_take (l : List GDef) (met : List ByteArray) (s : ByteArray) (hs : s ∉ met) : ∀ m : List GDef, (∃ d ∈ m, d.Sig.Name = s) → leftN l (met ++ [s]) m + (asksS l s).length ≤ leftN l met m
  | [], h => by obtain ⟨d, hd, _⟩ := h; simp at hd
  | d :: m, h => by
    have h1 := leftN_app_le l met s m
    rw [leftN, leftN, List.any_append]
    by_cases e : d.Sig.Name = s
    · subst e
      have q : met.any (strEq d.Sig.Name) = false := by
        cases q : met.any (strEq d.Sig.Name) with
        | false => rfl
        | true => exact absurd ((any_strEq _ _).1 q) hs
      simp [q, strEq_refl]; omega
    · obtain ⟨d', hd', e'⟩ := h
      have : ∃ d ∈ m, d.Sig.Name = s := by
        rcases List.mem_cons.1 hd' with k | k
        · subst k; exact absurd e' e
        · exact ⟨d', k, e'⟩
      have ih := leftN_take l met s hs m this
      have q : [s].any (strEq d.Sig.Name) = false := by simp [strEq_no e]
      rw [q, Bool.or_false]
      split <;> omega
theorem found_name {l : List GDef} {s : ByteArray} (h : found l s = true) : ∃ d ∈ l, d.Sig.Name = s := by
  unfold found at h
  cases q : findD l s with
  | none => rw [q] at h; cases h
  | some d => exact ⟨d, (findD_mem q).1, (findD_mem q).2⟩
theorem nodup_len {α : Type} : ∀ {l m : List α}, l.Nodup → (∀ x ∈ l, x ∈ m) → l.length ≤ m.length
  | [], _, _, _ => by simp
  | a :: l, m, h, hs => by
    obtain ⟨s, t, rfl⟩ := List.append_of_mem (hs a (by simp))
    rw [List.nodup_cons] at h
    have := nodup_len (l := l) (m := s ++ t) h.2 fun x hx => by
      have := hs x (by simp [hx])
      rw [List.mem_append, List.mem_cons] at this
      rcases this with k | k | k
      · simp [k]
      · subst k; exact absurd hx h.1
      · simp [k]
    simp at this ⊢; omega
/-- All that are reached, in order. -/
theorem sortS_perm (xs : List ByteArray) : (sortS xs).Perm xs := by
  unfold sortS
  have := (srtL_perm (xs.map tl)).map txt
  rwa [map_txt_tl] at this
theorem sortS_rise {xs : List ByteArray} (h : xs.Nodup) : Rise (sortS xs) := by
  have h1 := srtL_sorted (xs.map tl)
  have h2 : (srtL (xs.map tl)).Nodup := by
    rw [(srtL_perm _).nodup_iff]
    unfold List.Nodup at h ⊢
    rw [List.pairwise_map]
    exact h.imp fun hne e => hne (tl_inj e)
  unfold Rise sortS
  rw [List.pairwise_map]
  simp only [tl_txt]
  refine (h1.and h2).imp ?_
  intro x y hh
  obtain ⟨a, b⟩ := hh
  · rcases lt_tri x y with k | k | k
    · exact k
    · exact absurd k b
    · exact absurd (List.le_antisymm a (List.le_of_lt k)) b
theorem sortS_mem (x : ByteArray) (xs : List ByteArray) : x ∈ sortS xs ↔ x ∈ xs := (sortS_perm xs).mem_iff
section
variable {ot : TypeId} {oz : EP}
theorem mrow_app2 (A : List Ob) (os : List Ob) (w : List Nat) (v : PV) (out : List ByteArray) (s : ByteArray) (h : MRow ⟨A ++ os, w⟩ 9 A.length v out) (hb : out.length ≤ 8000000000000) :
    ∃ os', appM ⟨A ++ os, w⟩ 9 1 16 v [[.str s]] = some (.msl (A.length + os.length) 0 (out ++ [s]).length 1, ⟨A ++ os', w⟩) ∧ MRow ⟨A ++ os', w⟩ 9 A.length (.msl (A.length + os.length) 0 (out ++ [s]).length 1) (out ++ [s]) := by
  rcases h with ⟨rfl, rfl⟩ | ⟨hn, k, rfl, hk⟩
  · have := appM_first ⟨A ++ os, w⟩ 9 s
    simp only [List.length_append, List.append_assoc] at this
    exact ⟨_, this, .inr ⟨by simp, os.length, rfl, by simp⟩⟩
  · have := appM_next ⟨A ++ os, w⟩ 9 (A.length + k) out s hk hn hb
    have hk2 : k < os.length := by have := getElem?_lt hk; simp at this; exact this
    simp only [List.length_append, app_set, List.append_assoc] at this
    refine ⟨os.set k .dead ++ [.row 9 ((out ++ [s]).map .str)], by simpa using this, .inr ⟨by simp, os.length, rfl, ?_⟩⟩
    simp only [app_get]
    have hl : (os.set k .dead).length = os.length := by simp
    rw [List.getElem?_append_right (by omega), hl]; simp
theorem mrow_more2 (A : List Ob) (os : List Ob) (w w' : List Nat) (v : PV) (out : List ByteArray) (xs : List Ob) (h : MRow ⟨A ++ os, w⟩ 9 A.length v out) : MRow ⟨A ++ (os ++ xs), w'⟩ 9 A.length v out := by
  rcases h with h | ⟨hn, k, hv, hk⟩
  · exact .inl h
  · refine .inr ⟨hn, k, hv, ?_⟩
    simp only [app_get] at hk ⊢
    rw [List.getElem?_append_left (getElem?_lt hk)]; exact hk
theorem mrow_pre (A B : List Ob) (hAB : A.length = B.length) (os : List Ob) (w w' : List Nat) (v : PV) (out : List ByteArray) (h : MRow ⟨A ++ os, w⟩ 9 A.length v out) : MRow ⟨B ++ os, w'⟩ 9 B.length v out := by
  rcases h with h | ⟨hn, k, hv, hk⟩
  · exact .inl h
  · refine .inr ⟨hn, k, by rw [← hAB]; exact hv, ?_⟩
    simp only [app_get] at hk ⊢
    exact hk
/-- One more text list behind another one, whose room is used up. -/
theorem app_exact (O : List Ob) (w : List Nat) (todo ys : List ByteArray) (h : todo.length + ys.length ≤ 8000000000000) : ∃ g w', appP ⟨O, w⟩ 9 1 16 .exact (todo.map rStr) (ys.map rStr) = some (.sl g ((todo ++ ys).map rStr), ⟨O, w'⟩) ∧ ∃ x, w' = w ++ x := by
  by_cases hy : ys = []
  · subst hy; exact ⟨.exact, w, by simp [appP], [], by simp⟩
  · have hye : (ys.map rStr).isEmpty = false := by cases ys; exact absurd rfl hy; rfl
    refine ⟨.own w.length 9, w ++ [(todo.length + ys.length) * 1], ?_, _, rfl⟩
    unfold appP
    rw [hye]
    have h1 : (todo.map rStr).length = todo.length := by simp
    have h2 : (ys.map rStr).length = ys.length := by simp
    rw [h1, h2, rStr_ok, rStr_ok]
    have h3 : (todo.length + ys.length) * 16 ≤ 140737488355328 ∧ todo.length + ys.length ≤ 9223372036854775807 := by omega
    simp only [h3, Nat.zero_lt_one, and_self, if_true, Bool.false_eq_true, if_false, List.map_append]
theorem reach_loop (l : List GDef) (ol : OkL l) (n : ByteArray) (S : St) : ∀ (N : Nat) (todo met : List ByteArray) (g : Tag) (v : PV) (es : List (ByteArray × PV × Nat)) (c : Nat) (os : List Ob) (w : List Nat), todo.length + leftN l met l ≤ N → N ≤ 7000000000000 → RInv l n todo met → MapOk es met →
    MRow ⟨(S.obs ++ [Ob.map es c]) ++ os, S.own ++ w⟩ 9 (S.obs ++ [Ob.map es c]).length v met → met.length + N ≤ 7500000000000 →
    ∃ met' v' es' c' os' w', (met'.Nodup ∧ ∀ x, x ∈ met' ↔ Rch l n x) ∧ met'.length ≤ 7500000000000 ∧ MRow ⟨(S.obs ++ [Ob.map es' c']) ++ os', S.own ++ w'⟩ 9 (S.obs ++ [Ob.map es' c']).length v' met' ∧
      ∀ fin st, ∃ x, run (env ot oz) fin st c13_l0 [(0, some (.sl .ro (l.map rDef))), (5, some (.mp S.obs.length)), (6, some (v)), (7, some (.sl g (todo.map rStr)))] ⟨(S.obs ++ [Ob.map es c]) ++ os, S.own ++ w⟩ =
        aft (env ot oz) fin st (.exit 0) [(0, some (.sl .ro (l.map rDef))), (5, some (.mp S.obs.length)), (6, some (v')), (7, some (x)), (17, some (.bool false))] ⟨(S.obs ++ [Ob.map es' c']) ++ os', S.own ++ w'⟩ := by
  intro N
  induction N with
  | zero =>
    intro todo met g v es c os w hN _ hI hM hR hl
    have : todo = [] := List.eq_nil_of_length_eq_zero (by omega)
    subst this
    refine ⟨met, v, es, c, os, w, ⟨hI.nd, hI.done⟩, by omega, hR, fun fin st => ⟨.sl g [], ?_⟩⟩
    generalize (⟨(S.obs ++ [Ob.map es c]) ++ os, S.own ++ w⟩ : St) = T
    (rw [c13_l0_w]; simp only [c13_l0_b, c13_l0_a, c13_r8, go_sem]; repeat' (first | (rw [guardO_t]; split <;> rename_i h <;> (try rw [Bool.not_eq_true] at h) <;> (try simp only [go_sem, c13_r8, c13_l0_a, *])) | (rw [guardO_f]; split <;> rename_i h <;> (try rw [Bool.not_eq_true] at h) <;> (try simp only [go_sem, c13_r8, c13_l0_a, *])) | (rw [cw_bool]; split <;> rename_i h <;> (try rw [Bool.not_eq_true] at h) <;> (try simp only [go_sem, c13_r8, c13_l0_a, *]))))
  | succ N ih =>
    intro todo met g v es c os w hN hN2 hI hM hR hl
    cases todo with
    | nil =>
      refine ⟨met, v, es, c, os, w, ⟨hI.nd, hI.done⟩, by omega, hR, fun fin st => ⟨.sl g [], ?_⟩⟩
      generalize (⟨(S.obs ++ [Ob.map es c]) ++ os, S.own ++ w⟩ : St) = T
      (rw [c13_l0_w]; simp only [c13_l0_b, c13_l0_a, c13_r8, go_sem]; repeat' (first | (rw [guardO_t]; split <;> rename_i h <;> (try rw [Bool.not_eq_true] at h) <;> (try simp only [go_sem, c13_r8, c13_l0_a, *])) | (rw [guardO_f]; split <;> rename_i h <;> (try rw [Bool.not_eq_true] at h) <;> (try simp only [go_sem, c13_r8, c13_l0_a, *])) | (rw [cw_bool]; split <;> rename_i h <;> (try rw [Bool.not_eq_true] at h) <;> (try simp only [go_sem, c13_r8, c13_l0_a, *]))))
    | cons s todo =>
      simp only [List.length_cons] at hN
      have f := findP (ot := ot) (oz := oz) l ol.short s
      have hlen : decide ((0 : Int) < ((todo.length + 1 : Nat) : Int)) = true := decide_eq_true (by omega)
      have hix : ((0 : Int) < ((todo.length + 1 : Nat) : Int)) := by omega
      have htk : ((s :: todo).map rStr).take (todo.length + 1) = (s :: todo).map rStr := List.take_of_length_le (by simp)
      have hone : (1 : Int) ≤ ((todo.length + 1 : Nat) : Int) := by omega
      have htk2 : (todo.map rStr).take todo.length = todo.map rStr := List.take_of_length_le (by simp)
      have A1 : (S.obs ++ [Ob.map es c]).length = S.obs.length + 1 := by simp
      have skip : ∀ y, (found l s = false ∨ s ∈ met) → (∀ fin st, run (env ot oz) fin st c13_l0 [(0, some (.sl .ro (l.map rDef))), (5, some (.mp S.obs.length)), (6, some (v)), (7, some (.sl g ((s :: todo).map rStr)))] ⟨(S.obs ++ [Ob.map es c]) ++ os, S.own ++ w⟩ = run (env ot oz) fin st c13_l0 [(0, some (.sl .ro (l.map rDef))), (5, some (.mp S.obs.length)), (6, some (v)), (7, some (.sl .ro (todo.map rStr)))] ⟨(S.obs ++ [Ob.map es c]) ++ (os ++ [y]), S.own ++ w⟩) →
          ∃ met' v' es' c' os' w', (met'.Nodup ∧ ∀ x, x ∈ met' ↔ Rch l n x) ∧ met'.length ≤ 7500000000000 ∧ MRow ⟨(S.obs ++ [Ob.map es' c']) ++ os', S.own ++ w'⟩ 9 (S.obs ++ [Ob.map es' c']).length v' met' ∧
      ∀ fin st, ∃ x, run (env ot oz) fin st c13_l0 [(0, some (.sl .ro (l.map rDef))), (5, some (.mp S.obs.length)), (6, some (v)), (7, some (.sl g ((s :: todo).map rStr)))] ⟨(S.obs ++ [Ob.map es c]) ++ os, S.own ++ w⟩ =
        aft (env ot oz) fin st (.exit 0) [(0, some (.sl .ro (l.map rDef))), (5, some (.mp S.obs.length)), (6, some (v')), (7, some (x)), (17, some (.bool false))] ⟨(S.obs ++ [Ob.map es' c']) ++ os', S.own ++ w'⟩ := fun y hs hr => by
        obtain ⟨met', v', es', c', os', w', p1, p2, p3, p4⟩ := ih todo met .ro v es c (os ++ [y]) w (by omega) (by omega) (hI.skip hs) hM (mrow_more2 _ os _ _ v met [y] hR) (by omega)
        exact ⟨met', v', es', c', os', w', p1, p2, p3, fun fin st => by obtain ⟨x, hx⟩ := p4 fin st; exact ⟨x, (hr fin st).trans hx⟩⟩
      have g0 : ∀ os', (S.obs ++ Ob.map es c :: os')[S.obs.length]? = some (.map es c) := fun os' => by simp
      have g1 : ∀ y, (S.obs ++ Ob.map es c :: (os ++ [y]))[S.obs.length + (os.length + 1)]? = some y := fun y => by simp
      have g2 : ∀ y z, (S.obs ++ Ob.map es c :: (os ++ [y])).set (S.obs.length + (os.length + 1)) z = S.obs ++ Ob.map es c :: (os ++ [z]) := fun y z => by simp
      have g3 : ∀ os' z, (S.obs ++ Ob.map es c :: os').set S.obs.length z = S.obs ++ z :: os' := fun os' z => by simp
      cases hf : findD l s with
      | none =>
        rw [hf] at f
        simp only [findR] at f
        refine skip (.cells 40 (rDef zDef)) (.inl (by unfold found; rw [hf]; rfl)) fun fin st => ?_
        simp only [List.append_assoc, List.cons_append, List.nil_append]
        (rw [c13_l0_w]; simp only [c13_l0_b, c13_l0_a, c13_r8, go_sem, f, hlen, hix, htk, htk2, hone, Nat.min_self, Option.isSome_none, Option.isNone_none, Option.isSome_some, Option.isNone_some, g0, g1, g2, g3]; repeat' (first | (rw [guardO_t]; split <;> rename_i h <;> (try rw [Bool.not_eq_true] at h) <;> (try simp only [go_sem, c13_r8, c13_l0_a, f, hlen, hix, htk, htk2, hone, Nat.min_self, Option.isSome_none, Option.isNone_none, Option.isSome_some, Option.isNone_some, g0, g1, g2, g3, *])) | (rw [guardO_f]; split <;> rename_i h <;> (try rw [Bool.not_eq_true] at h) <;> (try simp only [go_sem, c13_r8, c13_l0_a, f, hlen, hix, htk, htk2, hone, Nat.min_self, Option.isSome_none, Option.isNone_none, Option.isSome_some, Option.isNone_some, g0, g1, g2, g3, *])) | (rw [cw_bool]; split <;> rename_i h <;> (try rw [Bool.not_eq_true] at h) <;> (try simp only [go_sem, c13_r8, c13_l0_a, f, hlen, hix, htk, htk2, hone, Nat.min_self, Option.isSome_none, Option.isNone_none, Option.isSome_some, Option.isNone_some, g0, g1, g2, g3, *]))))
      | some d =>
        have hfd : found l s = true := by unfold found; rw [hf]; rfl
        rw [hf] at f
        simp only [findR] at f
        rcases hM s with ⟨k1, k2⟩ | ⟨k, nn, k1, k2, k3, k4⟩
        · have ca := asksP (ot := ot) (oz := oz) l ol s
          have hal := asks_len ol s
          have hle := leftN_take l met s k2 l (found_name hfd)
          have hM2 := mapOk_new hM s k1 c
          have hR2 := mrow_pre (S.obs ++ [Ob.map es c]) (S.obs ++ [Ob.map (es ++ [(s, .int .i64 1, c)]) (c + 1)]) (by simp) _ _ (S.own ++ w) v met (mrow_more2 _ os _ (S.own ++ w) v met [.cells 40 (rDef d)] hR)
          obtain ⟨os', ap, hR3⟩ := mrow_app2 _ _ _ v met s hR2 (by omega)
          obtain ⟨gt, w', ax, xw, rfl⟩ := app_exact ((S.obs ++ [Ob.map (es ++ [(s, .int .i64 1, c)]) (c + 1)]) ++ os') (S.own ++ w) todo (asksS l s) (by omega)
          have hR4 : MRow ⟨(S.obs ++ [Ob.map (es ++ [(s, .int .i64 1, c)]) (c + 1)]) ++ os', S.own ++ (w ++ xw)⟩ 9 (S.obs ++ [Ob.map (es ++ [(s, .int .i64 1, c)]) (c + 1)]).length (.msl ((S.obs ++ [Ob.map (es ++ [(s, .int .i64 1, c)]) (c + 1)]).length + (os ++ [Ob.cells 40 (rDef d)]).length) 0 (met ++ [s]).length 1) (met ++ [s]) := by
            rcases hR3 with h | ⟨hn, k, hv, hk⟩
            · exact .inl h
            · exact .inr ⟨hn, k, hv, hk⟩
          obtain ⟨met', v', es', c', os'', w'', p1, p2, p3, p4⟩ := ih (todo ++ asksS l s) (met ++ [s]) gt _ _ (c + 1) os' (w ++ xw) (by simp only [List.length_append]; omega) (by omega) (hI.take hfd k2) hM2 hR4 (by simp only [List.length_append, List.length_singleton]; omega)
          refine ⟨met', v', es', c', os'', w'', p1, p2, p3, fun fin st => ?_⟩
          obtain ⟨x, hx⟩ := p4 fin st
          refine ⟨x, Eq.trans ?_ hx⟩
          generalize hv2 : PV.msl ((S.obs ++ [Ob.map (es ++ [(s, .int .i64 1, c)]) (c + 1)]).length + (os ++ [Ob.cells 40 (rDef d)]).length) 0 (met ++ [s]).length 1 = v2 at *
          simp only [List.append_assoc, List.cons_append, List.nil_append, List.map_append] at ap ax ⊢
          (rw [c13_l0_w]; simp only [c13_l0_b, c13_l0_a, c13_r8, go_sem, f, hlen, hix, htk, htk2, hone, Nat.min_self, Option.isSome_none, Option.isNone_none, Option.isSome_some, Option.isNone_some, Int.le_refl, k1, ca, ap, ax, g0, g1, g2, g3]; repeat' (first | (rw [guardO_t]; split <;> rename_i h <;> (try rw [Bool.not_eq_true] at h) <;> (try simp only [go_sem, c13_r8, c13_l0_a, f, hlen, hix, htk, htk2, hone, Nat.min_self, Option.isSome_none, Option.isNone_none, Option.isSome_some, Option.isNone_some, Int.le_refl, k1, ca, ap, ax, g0, g1, g2, g3, *])) | (rw [guardO_f]; split <;> rename_i h <;> (try rw [Bool.not_eq_true] at h) <;> (try simp only [go_sem, c13_r8, c13_l0_a, f, hlen, hix, htk, htk2, hone, Nat.min_self, Option.isSome_none, Option.isNone_none, Option.isSome_some, Option.isNone_some, Int.le_refl, k1, ca, ap, ax, g0, g1, g2, g3, *])) | (rw [cw_bool]; split <;> rename_i h <;> (try rw [Bool.not_eq_true] at h) <;> (try simp only [go_sem, c13_r8, c13_l0_a, f, hlen, hix, htk, htk2, hone, Nat.min_self, Option.isSome_none, Option.isNone_none, Option.isSome_some, Option.isNone_some, Int.le_refl, k1, ca, ap, ax, g0, g1, g2, g3, *]))))
        · have kz : decide (0 < k) = true := by simp; omega
          refine skip (.cells 40 (rDef d)) (.inr k2) fun fin st => ?_
          simp only [List.append_assoc, List.cons_append, List.nil_append]
          (rw [c13_l0_w]; simp only [c13_l0_b, c13_l0_a, c13_r8, go_sem, f, hlen, hix, htk, htk2, hone, Nat.min_self, Option.isSome_none, Option.isNone_none, Option.isSome_some, Option.isNone_some, k1, kz, g0, g1, g2, g3]; repeat' (first | (rw [guardO_t]; split <;> rename_i h <;> (try rw [Bool.not_eq_true] at h) <;> (try simp only [go_sem, c13_r8, c13_l0_a, f, hlen, hix, htk, htk2, hone, Nat.min_self, Option.isSome_none, Option.isNone_none, Option.isSome_some, Option.isNone_some, k1, kz, g0, g1, g2, g3, *])) | (rw [guardO_f]; split <;> rename_i h <;> (try rw [Bool.not_eq_true] at h) <;> (try simp only [go_sem, c13_r8, c13_l0_a, f, hlen, hix, htk, htk2, hone, Nat.min_self, Option.isSome_none, Option.isNone_none, Option.isSome_some, Option.isNone_some, k1, kz, g0, g1, g2, g3, *])) | (rw [cw_bool]; split <;> rename_i h <;> (try rw [Bool.not_eq_true] at h) <;> (try simp only [go_sem, c13_r8, c13_l0_a, f, hlen, hix, htk, htk2, hone, Nat.min_self, Option.isSome_none, Option.isNone_none, Option.isSome_some, Option.isNone_some, k1, kz, g0, g1, g2, g3, *]))))
theorem rinv_start (l : List GDef) (n : ByteArray) : RInv l n (asksS l n) [] := ⟨by simp, by simp, fun x hx => .inl hx, fun x hx _ => .inr hx, by simp⟩
theorem reachP (l : List GDef) (ol : OkL l) (n : ByteArray) (S : St) : ∃ met, (met.Nodup ∧ ∀ x, x ∈ met ↔ Rch l n x) ∧ met.length ≤ 7500000000000 ∧ cal (env ot oz) 13 [.sl .ro (l.map rDef), .str n] S = some (.sl .ro ((sortS met).map rStr), S) := by
  have ca := asksP (ot := ot) (oz := oz) l ol n
  have hal := asks_len ol n
  have hll := leftN_le l [] ol l
  have hl2 := ol.1
  have hm : l.length * 2000000 ≤ 2000000 * 2000000 := Nat.mul_le_mul_right _ hl2
  obtain ⟨met, v, es, c, os, w, p1, p2, p3, p4⟩ := reach_loop (ot := ot) (oz := oz) l ol n S 5000000000000 (asksS l n) [] .ro (.sl .null []) [] 0 [] [] (by omega) (by omega) (rinv_start l n) mapOk_nil (.inl ⟨rfl, rfl⟩) (by simp)
  refine ⟨met, p1, p2, ?_⟩
  simp only [List.append_nil] at p4
  obtain ⟨x, f⟩ := p4 (endF S [.tmp 4]) [.block 0, .seq (.seq (.reg 12 [⟨some 55, .mv (.tmp 6), none, Q0⟩, ⟨some 56, .call (.con (.fn 29 [] [])) [(.tmp 55)], none, Q0⟩] false (some [6])) (.seq (.reg 13 [⟨some 57, .mv (.tmp 6), none, Q0⟩, ⟨some 4, .mv (.tmp 57), none, Q0⟩] false (some [4])) .ret))]
  rcases p3 with ⟨rfl, rfl⟩ | ⟨hn, k, rfl, hk⟩
  · have h1 := sort_null (ot := ot) (oz := oz) .null ⟨S.obs ++ [Ob.map es c] ++ os, S.own ++ w⟩
    have cl : close S ⟨S.obs ++ [Ob.map es c] ++ os, S.own ++ w⟩ (.sl .null []) = (.sl .ro [], S) := by
      rw [List.append_assoc, close_junk]; simp [sealW, sealLL]
    have e1 : sortS ([] : List ByteArray) = [] := rfl
    rw [e1]
    generalize (⟨S.obs ++ [Ob.map es c] ++ os, S.own ++ w⟩ : St) = T at *
    (rw [w_plain (fn := c13) rfl rfl (by simp only [go_sem, ca, f, h1, cl]) rfl (by decide)]; simp only [c13, c13_b, c13_r8, go_sem, ca, f, h1, cl]; repeat' (first | (rw [guardO_t]; split <;> rename_i h <;> (try rw [Bool.not_eq_true] at h) <;> (try simp only [go_sem, c13_r8, ca, f, h1, cl, *])) | (rw [guardO_f]; split <;> rename_i h <;> (try rw [Bool.not_eq_true] at h) <;> (try simp only [go_sem, c13_r8, ca, f, h1, cl, *])) | (rw [cw_bool]; split <;> rename_i h <;> (try rw [Bool.not_eq_true] at h) <;> (try simp only [go_sem, c13_r8, ca, f, h1, cl, *]))))
  · have hk0 := hk
    simp only [app_get] at hk0
    have hkl := getElem?_lt hk0
    have h1 := sort_w (ot := ot) (oz := oz) ⟨S.obs ++ [Ob.map es c] ++ os, S.own ++ w⟩ ((S.obs ++ [Ob.map es c]).length + k) met 9 hk hn (by omega)
    simp only [app_set] at h1
    have hll2 : (S.obs ++ [Ob.map es c]).length + k = S.obs.length + (k + 1) := by simp; omega
    have cl : close S ⟨S.obs ++ [Ob.map es c] ++ os.set k (.row 9 ((sortS met).map .str)), S.own ++ w⟩ (.msl ((S.obs ++ [Ob.map es c]).length + k) 0 met.length 1) = (.sl .ro ((sortS met).map rStr), S) := by
      rw [hll2, List.append_assoc, ← sortS_len met]
      exact close_mslW S _ w (k + 1) 9 (sortS met) [] (by simp [hkl])
    generalize (⟨S.obs ++ [Ob.map es c] ++ os.set k (.row 9 ((sortS met).map .str)), S.own ++ w⟩ : St) = T2 at *
    generalize (⟨S.obs ++ [Ob.map es c] ++ os, S.own ++ w⟩ : St) = T at *
    generalize PV.msl ((S.obs ++ [Ob.map es c]).length + k) 0 met.length 1 = v2 at *
    (rw [w_plain (fn := c13) rfl rfl (by simp only [go_sem, ca, f, h1, cl]) rfl (by decide)]; simp only [c13, c13_b, c13_r8, go_sem, ca, f, h1, cl]; repeat' (first | (rw [guardO_t]; split <;> rename_i h <;> (try rw [Bool.not_eq_true] at h) <;> (try simp only [go_sem, c13_r8, ca, f, h1, cl, *])) | (rw [guardO_f]; split <;> rename_i h <;> (try rw [Bool.not_eq_true] at h) <;> (try simp only [go_sem, c13_r8, ca, f, h1, cl, *])) | (rw [cw_bool]; split <;> rename_i h <;> (try rw [Bool.not_eq_true] at h) <;> (try simp only [go_sem, c13_r8, ca, f, h1, cl, *]))))
end
end Go.PE
namespace Go.PE
open Go Go.RowKit Go.Proofs
set_option linter.unusedVariables false
set_option linter.unusedSimpArgs false
set_option maxRecDepth 100000
theorem RInv.congr {l : List GDef} {n : ByteArray} {t t' m m' : List ByteArray} (h : RInv l n t m) (ht : ∀ x, x ∈ t ↔ x ∈ t') (hm : ∀ x, x ∈ m ↔ x ∈ m') (nd : m'.Nodup) : RInv l n t' m' := by
  refine ⟨nd, fun x hx => h.rch x ((hm x).2 hx), fun x hx => ?_, fun x hx f => ?_, fun y hy x hx f => ?_⟩
  · rcases h.from_ x ((ht x).2 hx) with k | ⟨y, hy, k⟩
    · exact .inl k
    · exact .inr ⟨y, (hm y).1 hy, k⟩
  · rcases h.cl1 x hx f with k | k
    · exact .inl ((hm x).1 k)
    · exact .inr ((ht x).1 k)
  · rcases h.cl2 y ((hm y).2 hy) x hx f with k | k
    · exact .inl ((hm x).1 k)
    · exact .inr ((ht x).1 k)
theorem rise_nodup {l : List ByteArray} (h : Rise l) : l.Nodup := by
  unfold List.Nodup
  exact h.imp fun {a b} hlt e => by subst e; exact lt_irr _ hlt
theorem rch_found {l : List GDef} {n x : ByteArray} (h : Rch l n x) : found l x = true := by
  cases h <;> assumption
theorem out_len {l : List GDef} {n : ByteArray} {t m : List ByteArray} (h : RInv l n t m) : m.length ≤ l.length := by
  have := nodup_len (l := m) (m := l.map fun d => d.Sig.Name) h.nd fun x hx => by
    obtain ⟨d, hd, rfl⟩ := found_name (rch_found (h.rch x hx))
    exact List.mem_map_of_mem hd
  simpa using this
section
variable {ot : TypeId} {oz : EP}
/-- Between the rounds: what is gathered, and what is to be done yet. -/
def r39 (l : List GDef) (n : ByteArray) (todo out : List ByteArray) : Prop := RInv l n todo out ∧ Rise out
theorem reach39_in (l : List GDef) (ol : OkL l) (n : ByteArray) (T0 : St) (todo out0 : List ByteArray) (g0 gt : Tag) (rd : PV) (ht : Short todo.length) (hI : r39 l n todo out0) :
    ∃ out more g, r39 l n more out ∧ (more = [] ∨ out0.length < out.length) ∧ (todo = [] → more = []) ∧ more.length ≤ 5000000000000 ∧
      ∀ fin st, run (env ot oz) fin st c14_l0 [(0, some (.sl .ro (l.map rDef))), (5, some (.sl g0 (out0.map rStr))), (6, some (.sl gt (todo.map rStr))), (7, some (rd)), (8, some (.sl .null [])), (9, some (.int .i64 0))] T0 =
        aft (env ot oz) fin st (.exit 2) [(0, some (.sl .ro (l.map rDef))), (5, some (.sl g (out.map rStr))), (6, some (.sl gt (todo.map rStr))), (7, some (rd)), (8, some (.sl (aG T0 more) (more.map rStr))), (9, some (.int .i64 (todo.length : Int))), (22, some (.bool false))] (aS T0 more) := by
  have hm : ∀ k : Nat, k ≤ l.length → k * 2000000 ≤ 4000000000000 := fun k hk => by have := ol.1; omega
  obtain ⟨ts, T, hJ, hr⟩ := loopR (E := (env ot oz)) (c := c14_l0) todo ht (fun (b : List ByteArray × List ByteArray) s => if (found l s && !(b.1.any (strEq s))) = true then (putS s b.1, b.2 ++ asksS l s) else b)
    (fun i b ts T => ∃ g, ts = [(0, some (.sl .ro (l.map rDef))), (5, some (.sl g (b.1.map rStr))), (6, some (.sl gt (todo.map rStr))), (7, some (rd)), (8, some (.sl (aG T0 b.2) (b.2.map rStr))), (9, some (.int .i64 (i : Int)))] ∧ T = aS T0 b.2 ∧ r39 l n (todo.drop i ++ b.2) b.1 ∧ b.2.length ≤ b.1.length * 2000000 ∧ (b.2 = [] ∨ out0.length < b.1.length) ∧ out0.length ≤ b.1.length ∧ (todo = [] → b.2 = []))
    (fun i b s ts T h1 h2 h3 h4 hJ => by
      obtain ⟨g, rfl, rfl, ⟨hI, hR⟩, hl, hmo, hle, htd⟩ := hJ
      obtain ⟨out, more⟩ := b
      simp only at hI hR hl hmo hle htd ⊢
      have hd : todo.drop i = s :: todo.drop (i + 1) := by
        rw [List.drop_eq_getElem_cons (by omega)]
        congr 1
        rw [List.getElem?_eq_getElem (by omega)] at h1; exact Option.some.inj h1
      rw [hd, List.cons_append] at hI
      have hol := out_len hI
      have hml := hm _ hol
      have f := find37 (ot := ot) (oz := oz) l ol.short s
      obtain ⟨hf1, hf2⟩ := find_idx (isN s) l
      have hfe : found l s = l.any (isN s) := by
        unfold found findD
        cases q : l.any (isN s) with
        | false => rw [hf2 q]; rfl
        | true => obtain ⟨d, k1, _⟩ := hf1 q; rw [k1]; rfl
      have hge : decide ((0 : Int) ≤ (if l.any (isN s) then (l.findIdx (isN s) : Int) else -1)) = l.any (isN s) := by
        cases l.any (isN s) <;> simp
      rw [← hfe] at f hge
      have h5 := ol.1
      have cp := place01 (ot := ot) (oz := oz) out (by unfold Short maxLen; omega) s g
      have pl := place_lt out s
      rw [any_strEq2] at cp pl
      clear hf1 hf2 hfe
      generalize (if found l s = true then ((l.findIdx (isN s) : Nat) : Int) else -1) = z1 at *
      generalize (if out.any (strEq s) = true then ((out.findIdx (strEq · s) : Nat) : Int) else -1) = z2 at *
      have hne : todo ≠ [] := by intro e; subst e; simp at h2
      cases q : found l s with
      | false =>
        rw [q] at hge
        refine ⟨_, _, ⟨g, rfl, rfl, ⟨hI.skip (.inl q), hR⟩, hl, hmo, hle, fun e => absurd e hne⟩, fun fin st => ?_⟩
        simp only [Bool.false_and, Bool.false_eq_true, if_false]
        generalize aS T0 more = T1 at *
        (rw [c14_l0_w]; simp only [c14_l0_b, c14_l0_a, c14_r10, go_sem, h1, h3, h4, f, hge]; repeat' (first | (rw [guardO_t]; split <;> rename_i h <;> (try rw [Bool.not_eq_true] at h) <;> (try simp only [go_sem, c14_r10, c14_l0_a, h1, h3, h4, f, hge, *])) | (rw [guardO_f]; split <;> rename_i h <;> (try rw [Bool.not_eq_true] at h) <;> (try simp only [go_sem, c14_r10, c14_l0_a, h1, h3, h4, f, hge, *])) | (rw [cw_bool]; split <;> rename_i h <;> (try rw [Bool.not_eq_true] at h) <;> (try simp only [go_sem, c14_r10, c14_l0_a, h1, h3, h4, f, hge, *]))))
      | true =>
        rw [q] at hge
        cases q2 : out.any (strEq s) with
        | true =>
          rw [q2] at pl
          refine ⟨_, _, ⟨g, rfl, rfl, ⟨hI.skip (.inr ((any_strEq _ _).1 q2)), hR⟩, hl, hmo, hle, fun e => absurd e hne⟩, fun fin st => ?_⟩
          simp only [Bool.true_and, Bool.not_true, Bool.false_eq_true, if_false]
          generalize aS T0 more = T1 at *
          (rw [c14_l0_w]; simp only [c14_l0_b, c14_l0_a, c14_r10, go_sem, h1, h3, h4, f, hge, cp, pl]; repeat' (first | (rw [guardO_t]; split <;> rename_i h <;> (try rw [Bool.not_eq_true] at h) <;> (try simp only [go_sem, c14_r10, c14_l0_a, h1, h3, h4, f, hge, cp, pl, *])) | (rw [guardO_f]; split <;> rename_i h <;> (try rw [Bool.not_eq_true] at h) <;> (try simp only [go_sem, c14_r10, c14_l0_a, h1, h3, h4, f, hge, cp, pl, *])) | (rw [cw_bool]; split <;> rename_i h <;> (try rw [Bool.not_eq_true] at h) <;> (try simp only [go_sem, c14_r10, c14_l0_a, h1, h3, h4, f, hge, cp, pl, *]))))
        | false =>
          rw [q2] at pl
          have hns : s ∉ out := fun h => by have := (any_strEq _ _).2 h; rw [q2] at this; cases this
          have hI2 := hI.take q hns
          have hR2 := putS_rise s out hR
          have hI3 : RInv l n (todo.drop (i + 1) ++ (more ++ asksS l s)) (putS s out) := hI2.congr (fun x => by simp) (fun x => by rw [putS_mem]; simp; exact or_comm) (rise_nodup hR2)
          have hal := asks_len ol s
          have hpl : (putS s out).length = out.length + 1 := by
            have e1 := putS_len s out
            have e2 := nodup_len (l := out ++ [s]) (m := putS s out) hI2.nd fun x hx => by rw [putS_mem]; simp at hx; exact hx.symm
            simp at e2; omega
          have put := put04 (ot := ot) (oz := oz) out (by omega) s g
          have ca := asks39 (ot := ot) (oz := oz) l ol s
          have ap := aStr_apps T0 more (asksS l s) (by omega)
          refine ⟨_, _, ⟨.ro, rfl, rfl, ⟨hI3, hR2⟩, (show (more ++ asksS l s).length ≤ (putS s out).length * 2000000 by rw [hpl, List.length_append, Nat.succ_mul]; omega), .inr (show out0.length < (putS s out).length by rw [hpl]; omega), (show out0.length ≤ (putS s out).length by rw [hpl]; omega), fun e => absurd e hne⟩, fun fin st => ?_⟩
          simp only [Bool.true_and, Bool.not_false, if_true]
          simp only [List.map_append] at ap
          generalize aS T0 (more ++ asksS l s) = T2 at *
          generalize aG T0 (more ++ asksS l s) = gg at *
          generalize aS T0 more = T1 at *
          (rw [c14_l0_w]; simp only [c14_l0_b, c14_l0_a, c14_r10, go_sem, h1, h3, h4, f, hge, cp, pl, put, ca, ap]; repeat' (first | (rw [guardO_t]; split <;> rename_i h <;> (try rw [Bool.not_eq_true] at h) <;> (try simp only [go_sem, c14_r10, c14_l0_a, h1, h3, h4, f, hge, cp, pl, put, ca, ap, *])) | (rw [guardO_f]; split <;> rename_i h <;> (try rw [Bool.not_eq_true] at h) <;> (try simp only [go_sem, c14_r10, c14_l0_a, h1, h3, h4, f, hge, cp, pl, put, ca, ap, *])) | (rw [cw_bool]; split <;> rename_i h <;> (try rw [Bool.not_eq_true] at h) <;> (try simp only [go_sem, c14_r10, c14_l0_a, h1, h3, h4, f, hge, cp, pl, put, ca, ap, *]))))) (out0, []) _ T0 ⟨g0, rfl, rfl, by simpa using hI, by simp, .inl rfl, Nat.le_refl _, fun _ => rfl⟩
  obtain ⟨g, rfl, rfl, hI2, hl, hmo, _, htd⟩ := hJ
  rw [List.drop_length, List.nil_append] at hI2
  generalize List.foldl _ (out0, ([] : List ByteArray)) todo = b at *
  obtain ⟨out, more⟩ := b
  simp only at hI2 hl hmo htd hr
  have hol := hm _ (out_len hI2.1)
  refine ⟨out, more, g, hI2, hmo, htd, by omega, fun fin st => ?_⟩
  have := hr fin st
  simp only [Int.cast_ofNat_Int, List.map_nil, aG_nil] at this
  rw [this]
  generalize aS T0 more = T1
  (rw [c14_l0_w]; simp only [c14_l0_b, c14_l0_a, c14_r10, go_sem]; repeat' (first | (rw [guardO_t]; split <;> rename_i h <;> (try rw [Bool.not_eq_true] at h) <;> (try simp only [go_sem, c14_r10, c14_l0_a, *])) | (rw [guardO_f]; split <;> rename_i h <;> (try rw [Bool.not_eq_true] at h) <;> (try simp only [go_sem, c14_r10, c14_l0_a, *])) | (rw [cw_bool]; split <;> rename_i h <;> (try rw [Bool.not_eq_true] at h) <;> (try simp only [go_sem, c14_r10, c14_l0_a, *]))))
theorem reach39_out (l : List GDef) (ol : OkL l) (n : ByteArray) (S : St) : ∀ (k r : Nat) (todo out : List ByteArray) (g gt : Tag) (w : List Nat), r + k = l.length + 1 → Short todo.length → r39 l n todo out → (todo = [] ∨ r ≤ out.length) →
    ∃ out' w', r39 l n [] out' ∧ ∀ fin st, ∃ x y z, run (env ot oz) fin st c14_l1 [(0, some (.sl .ro (l.map rDef))), (5, some (.sl g (out.map rStr))), (6, some (.sl gt (todo.map rStr))), (7, some (.int .i64 (r : Int)))] ⟨S.obs, S.own ++ w⟩ =
        aft (env ot oz) fin st (.exit 0) [(0, some (.sl .ro (l.map rDef))), (5, some (.sl x (out'.map rStr))), (6, some (y)), (7, some (z)), (16, some (.bool false))] ⟨S.obs, S.own ++ w'⟩ := by
  intro k
  induction k with
  | zero =>
    intro r todo out g gt w hr ht hI hd
    have hol := out_len hI.1
    have : todo = [] := by rcases hd with h | h; exact h; omega
    subst this
    have lt : decide ((r : Int) ≤ (l.length : Int)) = false := decide_eq_false (by omega)
    refine ⟨out, w, hI, fun fin st => ⟨g, .sl gt [], .int .i64 (r : Int), ?_⟩⟩
    generalize (⟨S.obs, S.own ++ w⟩ : St) = T
    (rw [c14_l1_w]; simp only [c14_l1_b, c14_l1_a, c14_r10, go_sem, lt]; repeat' (first | (rw [guardO_t]; split <;> rename_i h <;> (try rw [Bool.not_eq_true] at h) <;> (try simp only [go_sem, c14_r10, c14_l1_a, lt, *])) | (rw [guardO_f]; split <;> rename_i h <;> (try rw [Bool.not_eq_true] at h) <;> (try simp only [go_sem, c14_r10, c14_l1_a, lt, *])) | (rw [cw_bool]; split <;> rename_i h <;> (try rw [Bool.not_eq_true] at h) <;> (try simp only [go_sem, c14_r10, c14_l1_a, lt, *]))))
  | succ k ih =>
    intro r todo out g gt w hr ht hI hd
    have lt : decide ((r : Int) ≤ (l.length : Int)) = true := decide_eq_true (by omega)
    have h5 := ol.1
    have w1 : IntKind.i64.wrap ((r : Int) + 1) = ((r + 1 : Nat) : Int) := by rw [wrap64 (by omega) (by omega)]; omega
    obtain ⟨out2, more, g2, hI2, hmo, htd, hml, f⟩ := reach39_in (ot := ot) (oz := oz) l ol n ⟨S.obs, S.own ++ w⟩ todo out g gt (.int .i64 (r : Int)) ht hI
    have hw : ∃ w2, aS ⟨S.obs, S.own ++ w⟩ more = ⟨S.obs, S.own ++ w2⟩ := by
      unfold aS accS; split
      · exact ⟨w, rfl⟩
      · exact ⟨w ++ [(0 + (more.map rStr).length) * 1], by simp only [List.length_nil, List.append_assoc]⟩
    obtain ⟨w2, hw⟩ := hw
    rw [hw] at f
    obtain ⟨out', w', p1, p2⟩ := ih (r + 1) more out2 g2 (aG ⟨S.obs, S.own ++ w⟩ more) w2 (by omega) (by unfold Short maxLen; omega) hI2 (by
      rcases hmo with h | h
      · exact .inl h
      · rcases hd with h' | h'
        · exact .inl (htd h')
        · exact .inr (by omega))
    refine ⟨out', w', p1, fun fin st => ?_⟩
    obtain ⟨x, y, z, hx⟩ := p2 fin st
    refine ⟨x, y, z, Eq.trans ?_ hx⟩
    generalize aG ⟨S.obs, S.own ++ w⟩ more = gm at *
    generalize (⟨S.obs, S.own ++ w2⟩ : St) = T2 at *
    generalize (⟨S.obs, S.own ++ w⟩ : St) = T1 at *
    (rw [c14_l1_w]; simp only [c14_l1_b, c14_l1_a, c14_r10, go_sem, lt, w1, f]; repeat' (first | (rw [guardO_t]; split <;> rename_i h <;> (try rw [Bool.not_eq_true] at h) <;> (try simp only [go_sem, c14_r10, c14_l1_a, lt, w1, f, *])) | (rw [guardO_f]; split <;> rename_i h <;> (try rw [Bool.not_eq_true] at h) <;> (try simp only [go_sem, c14_r10, c14_l1_a, lt, w1, f, *])) | (rw [cw_bool]; split <;> rename_i h <;> (try rw [Bool.not_eq_true] at h) <;> (try simp only [go_sem, c14_r10, c14_l1_a, lt, w1, f, *]))))
theorem reach39 (l : List GDef) (ol : OkL l) (n : ByteArray) (S : St) : ∃ out, (Rise out ∧ ∀ x, x ∈ out ↔ Rch l n x) ∧ cal (env ot oz) 14 [.sl .ro (l.map rDef), .str n] S = some (.sl .ro (out.map rStr), S) := by
  have ca := asks39 (ot := ot) (oz := oz) l ol n
  have hal := asks_len ol n
  obtain ⟨out, w, p1, p2⟩ := reach39_out (ot := ot) (oz := oz) l ol n S (l.length + 1) 0 (asksS l n) [] .null .ro [] (by omega) (by unfold Short maxLen; omega) ⟨rinv_start l n, by simp [Rise]⟩ (.inr (by simp))
  refine ⟨out, ⟨p1.2, p1.1.done⟩, ?_⟩
  obtain ⟨x, y, z, f⟩ := p2 (endF S [.tmp 4]) [.block 0, .seq (.seq (.reg 14 [⟨some 56, .mv (.tmp 5), none, Q0⟩, ⟨some 4, .mv (.tmp 56), none, Q0⟩] false (some [4])) .ret)]
  simp only [List.append_nil, Int.cast_ofNat_Int, List.map_nil] at f
  have cl : close S ⟨S.obs, S.own ++ w⟩ (.sl x (out.map rStr)) = (.sl .ro (out.map rStr), S) := by
    have := close_junk S [] w (.sl x (out.map rStr))
    rw [List.append_nil] at this
    rw [this]; simp [sealW, rStr_sll]
  generalize (⟨S.obs, S.own ++ w⟩ : St) = T1 at *
  (rw [w_plain (fn := c14) rfl rfl (by simp only [go_sem, ca, f, cl]) rfl (by decide)]; simp only [c14, c14_b, c14_r10, go_sem, ca, f, cl]; repeat' (first | (rw [guardO_t]; split <;> rename_i h <;> (try rw [Bool.not_eq_true] at h) <;> (try simp only [go_sem, c14_r10, ca, f, cl, *])) | (rw [guardO_f]; split <;> rename_i h <;> (try rw [Bool.not_eq_true] at h) <;> (try simp only [go_sem, c14_r10, ca, f, cl, *])) | (rw [cw_bool]; split <;> rename_i h <;> (try rw [Bool.not_eq_true] at h) <;> (try simp only [go_sem, c14_r10, ca, f, cl, *]))))
end
end Go.PE
