/-
  Regions in the order of the text. Conditions: each law's own.
-/
import Derived.Test.YtaofeleeinjclaaDoorPE10
namespace Go.PE
open Go Go.RowKit
set_option linter.unusedVariables false
set_option linter.unusedSimpArgs false

/-- A compiled operation of a region. -/
structure EIof (P : Program) (ops : List Oper) (o : Oper) (e : EI) : Prop where
  op : cOp P o = some e.op.strip
  guard : cGuard ops o = some e.guard
  dst : e.dst = o.dst

theorem zipIdx_get {α : Type} (l : List α) (i : Nat) : l.zipIdx[i]? = (l[i]?).map fun x => (x, i) := by
  simp [List.getElem?_zipIdx]

theorem loud_strip {e : EOp} (h : loud e = true) : loud e.strip = true := by cases e <;> simp_all [loud, EOp.strip]

theorem cOps_spec0 {P : Program} {nt : Nat} {ops : List Oper} {draw : Bool} {es : List EI} (h : cOps P nt ops draw = some es) :
    es.length = ops.length ∧ (∀ (i : Nat) o e, ops[i]? = some o → es[i]? = some e → cOp P o = some e.op ∧ cGuard ops o = some e.guard ∧ e.dst = o.dst) ∧ (∀ e ∈ es, ∀ d, e.dst = some d → d < nt) ∧
    (draw = true → predsOk ops (preds ops) = true ∧ apartE es (preds ops) = true ∧ ∀ (i j : Nat) e e', es[i]? = some e → es[j]? = some e' → loud e.op = true → loud e'.op = true → i ≠ j → ordered (preds ops) i j = false → e.q = true) := by
  simp only [cOps, bind, Option.bind_eq_some_iff] at h
  obtain ⟨es0, he, gs, hg, h⟩ := h
  obtain ⟨e1, e2⟩ := mapM_some he
  obtain ⟨g1, g2⟩ := mapM_some hg
  have get : ∀ {i : Nat} {o : Oper}, ops[i]? = some o → ∃ x g, es0[i]? = some x ∧ gs[i]? = some g ∧ cOp P o = some x ∧ cGuard ops o = some g := by
    intro i o ho
    have hi := getElem?_lt ho
    have h1 : es0[i]? = some (es0[i]'(by omega)) := List.getElem?_eq_getElem _
    have h2 : gs[i]? = some (gs[i]'(by omega)) := List.getElem?_eq_getElem _
    exact ⟨_, _, h1, h2, e2 i o _ ho h1, g2 i o _ ho h2⟩
  generalize hpr : (if draw = true then preds ops else []) = pr at *
  split at h
  · cases h
  rename_i hds
  split at h
  · cases h
  · rename_i hok
    injection h with h
    subst h
    have hget : ∀ {i : Nat} {e : EI}, (mkEs draw pr es0 gs (ops.map (·.dst)))[i]? = some e →
        ∃ x g o, es0[i]? = some x ∧ gs[i]? = some g ∧ ops[i]? = some o ∧ e = ⟨o.dst, x, g, draw && loud x && (es0.zipIdx.any fun (e', j) => loud e' && i != j && !ordered pr i j)⟩ := by
      intro i e hi
      simp only [mkEs, List.getElem?_map, zipIdx_get, Option.map_eq_some_iff] at hi
      obtain ⟨⟨⟨x', g', d'⟩, i'⟩, ⟨⟨x2, g2, d2⟩, hz, hz2⟩, rfl⟩ := hi
      simp only [Prod.mk.injEq] at hz2
      obtain ⟨⟨rfl, rfl, rfl⟩, rfl⟩ := hz2
      simp only [List.getElem?_zip_eq_some] at hz
      obtain ⟨z1, z2, z3⟩ := hz
      simp only [List.getElem?_map, Option.map_eq_some_iff] at z3
      obtain ⟨o, ho, rfl⟩ := z3
      exact ⟨x2, g2, o, z1, z2, ho, rfl⟩
    refine ⟨by simp [mkEs, e1, g1], fun i o e ho hi => ?_, fun e he d hd => ?_, fun hd => ?_⟩
    · obtain ⟨x, g, o', h1, h2, h3, rfl⟩ := hget hi
      rw [ho] at h3; injection h3 with h3; subst h3
      obtain ⟨x', g', k1, k2, k3, k4⟩ := get ho
      rw [h1] at k1; rw [h2] at k2; injection k1 with k1; injection k2 with k2; subst k1 k2
      exact ⟨k3, k4, rfl⟩
    · simp only [Bool.not_eq_true', Bool.not_eq_false, List.all_eq_true] at hds
      have := hds e he
      rw [hd] at this
      simpa using this
    · subst hd
      simp only [if_true] at hpr
      subst hpr
      simp only [Bool.true_and, Bool.not_eq_true', Bool.not_eq_false, Bool.and_eq_true] at hok
      refine ⟨hok.1, hok.2, fun i j e e' hi hj hl hl' hne hord => ?_⟩
      obtain ⟨x, g, o, h1, h2, h3, rfl⟩ := hget hi
      obtain ⟨x', g', o', k1, k2, k3, rfl⟩ := hget hj
      simp only at hl hl'
      simp only [hl, Bool.true_and, List.any_eq_true]
      exact ⟨(x', j), List.mem_of_getElem? (by rw [zipIdx_get, k1]; rfl), by simp [hl', hne, hord]⟩

theorem reads_strip (e : EOp) : e.strip.reads = e.reads := by cases e <;> rfl
theorem looks_strip (e : EI) : e.strip.looks = e.looks := by simp [EI.looks, EI.strip, reads_strip]

theorem apartE_strip {es : List EI} {pr : List (List Nat)} (h : apartE (es.map EI.strip) pr = true) : apartE es pr = true := by
  simp only [apartE, List.all_eq_true] at h ⊢
  rintro ⟨x, i⟩ hx
  have hx' := List.mem_zipIdx' hx
  have h1 := h (x.strip, i) (List.mem_of_getElem? (i := i) (by rw [zipIdx_get, List.getElem?_map, List.getElem?_eq_getElem hx'.1, ← hx'.2]; rfl))
  simp only [EI.strip] at h1 ⊢
  cases hd : x.dst with
  | none => rfl
  | some d =>
    rw [hd] at h1
    simp only [List.all_eq_true] at h1 ⊢
    rintro ⟨y, j⟩ hy
    have hy' := List.mem_zipIdx' hy
    have h2 := h1 (y.strip, j) (List.mem_of_getElem? (i := j) (by rw [zipIdx_get, List.getElem?_map, List.getElem?_eq_getElem hy'.1, ← hy'.2]; rfl))
    rw [looks_strip] at h2
    simpa [EI.strip] using h2

theorem cOps_spec {P : Program} {nt : Nat} {ops : List Oper} {draw : Bool} {es : List EI} (h : cOps P nt ops draw = some (es.map EI.strip)) :
    es.length = ops.length ∧ (∀ (i : Nat) o e, ops[i]? = some o → es[i]? = some e → EIof P ops o e) ∧ (∀ e ∈ es, ∀ d, e.dst = some d → d < nt) ∧
    (draw = true → predsOk ops (preds ops) = true ∧ apartE es (preds ops) = true ∧ ∀ (i j : Nat) e e', es[i]? = some e → es[j]? = some e' → loud e.op = true → loud e'.op = true → i ≠ j → ordered (preds ops) i j = false → e.q = true) := by
  obtain ⟨h1, h2, h3, h4⟩ := cOps_spec0 h
  have get : ∀ {i : Nat} {e : EI}, es[i]? = some e → (es.map EI.strip)[i]? = some e.strip := fun he => by rw [List.getElem?_map, he]; rfl
  refine ⟨by simpa using h1, fun i o e ho he => ?_, fun e he d hd => h3 e.strip (List.mem_map_of_mem he) d hd, fun hd => ?_⟩
  · obtain ⟨g1, g2, g3⟩ := h2 i o _ ho (get he)
    exact ⟨g1, g2, g3⟩
  · obtain ⟨g1, g2, g3⟩ := h4 hd
    exact ⟨g1, apartE_strip g2, fun i j e e' he he' hl hl' hne ho => g3 i j e.strip e'.strip (get he) (get he') (loud_strip hl) (loud_strip hl') hne ho⟩

section
variable {nt : Nat} {P : Program} {G : Glob} {C : Ctx} {S : St} {w : World} {ts : Tmps} {a : Act} {o : Oper} {v : PV}

theorem wanted_iff (hT : TR nt C w ts a.tmps) {ops : Array Oper} {o : Oper} {g : Option (Nat × Bool)} (hg : cGuard ops.toList o = some g) {b : Bool} (hb : wantedE g ts = some b) : Region.wanted o (yielded ops a.tmps) = b := by
  unfold cGuard at hg
  unfold Region.wanted
  unfold wantedE at hb
  cases hgd : o.guard with
  | none => rw [hgd] at hg; simp at hg; subst hg; simpa using hb
  | some q =>
    obtain ⟨j, want⟩ := q
    rw [hgd] at hg
    simp only [Option.map_eq_some_iff] at hg
    obtain ⟨d, hd, rfl⟩ := hg
    rw [Array.getElem?_toList] at hd
    simp only at hb
    split at hb
    · rename_i x hx
      obtain ⟨u, h1, h2⟩ := hT.get d _ hx
      have := h2.bool_inv
      subst this
      injection hb with hb
      simp only [yielded, hd, Option.bind_some, h1]
      rw [← hb]
      cases x <;> cases want <;> rfl
    · rename_i hx
      obtain ⟨u, h1, h2⟩ := hT.get d _ hx
      cases h2 with | tup cs vs hl h =>
      injection hb with hb
      simp only [yielded, hd, Option.bind_some, h1]
      rw [← hb]
      rfl
    · cases hb

theorem evOps_wp {call : CallFn} (hC : CallOk P G call) {ops : Array Oper} {Q : Exit → Act → World → Prop} : ∀ (l : List Oper) (es : List EI) (C : Ctx) (ts : Tmps) (S : St) (a : Act) (w : World) (ts' : Tmps) (S' : St),
    es.length = l.length → (∀ (i : Nat) o e, l[i]? = some o → es[i]? = some e → EIof P ops.toList o e) → (∀ e ∈ es, ∀ d, e.dst = some d → d < nt) → WRel G C S w → TR nt C w ts a.tmps → evOps G call es ts S = some (ts', S') →
    (∀ C' a' w', TR nt C' w' ts' a'.tmps → WRel G C' S' w' → Step C w C' w' → a'.defers = a.defers → Q .normal a' w') → wpList P ops Q l a w
  | [], [], C, ts, S, a, w, ts', S', _, _, _, hW, hT, hv, hk => by
    simp only [evOps, Option.some.injEq, Prod.mk.injEq] at hv
    obtain ⟨rfl, rfl⟩ := hv
    exact hk C a w hT hW (.refl C w) rfl
  | [], e :: es, _, _, _, _, _, _, _, hl, _, _, _, _, _, _ => by simp at hl
  | o :: l, [], _, _, _, _, _, _, _, hl, _, _, _, _, _, _ => by simp at hl
  | o :: l, e :: es, C, ts, S, a, w, ts', S', hl, hof, hds, hW, hT, hv, hk => by
    have he := hof 0 o e rfl rfl
    have hrest : ∀ (i : Nat) o' e', l[i]? = some o' → es[i]? = some e' → EIof P ops.toList o' e' := fun i o' e' h1 h2 => hof (i + 1) o' e' (by simpa using h1) (by simpa using h2)
    have hds' : ∀ e ∈ es, ∀ d, e.dst = some d → d < nt := fun e he => hds e (by simp [he])
    have hd0 : ∀ d, o.dst = some d → d < nt := fun d hd => hds e (by simp) d (by rw [he.dst]; exact hd)
    simp only [evOps] at hv
    unfold wpList
    split at hv
    · rename_i hwant
      rw [wanted_iff (ops := ops) hT he.guard hwant, if_pos rfl]
      left
      split at hv
      · rename_i p S1 hop
        split at hv
        · cases hv
        · refine op_does hW hT hC he.op hop _ _ fun C1 w1 v1 hr hW1 hs => ?_
          refine evOps_wp hC l es C1 _ S1 _ w1 ts' S' (by simpa using hl) hrest hds' hW1 ?_ hv fun C' a' w' h1 h2 h3 h4 => ?_
          · have := (hT.step hs).put (ds := a.defers) hd0 (q := some p) (v := v1) (fun q hq => by injection hq with hq; subst hq; exact hr)
            rw [he.dst]
            exact this
          · refine hk C' a' w' h1 h2 (hs.trans h3) (h4.trans ?_)
            cases o.dst <;> rfl
      · cases hv
    · rename_i hwant
      rw [wanted_iff (ops := ops) hT he.guard hwant, if_neg (by simp)]
      refine evOps_wp hC l es C _ S _ w ts' S' (by simpa using hl) hrest hds' hW ?_ hv fun C' a' w' h1 h2 h3 h4 => ?_
      · have := hT.put (ds := a.defers) hd0 (q := some .un) (v := undef) (fun q hq => by injection hq with hq; subst hq; exact .un C w)
        rw [he.dst]
        exact this
      · refine hk C' a' w' h1 h2 h3 (h4.trans ?_)
        cases o.dst <;> rfl
    · cases hv

/-- A region in the order of the text. -/
theorem reg_wp {call : CallFn} (hC : CallOk P G call) {id : Nat} {ops : Array Oper} {es : List EI} (hc : cOps P nt ops.toList false = some (es.map EI.strip)) {Q : Exit → Act → World → Prop} {ts' : Tmps} {S' : St} (hW : WRel G C S w) (hT : TR nt C w ts a.tmps) (hv : evOps G call es ts S = some (ts', S'))
    (hk : ∀ C' a' w', TR nt C' w' ts' a'.tmps → WRel G C' S' w' → Step C w C' w' → a'.defers = a.defers → Q .normal a' w') : (Code.region id ops false).wp P Q a w := by
  obtain ⟨h1, h2, h3, _⟩ := cOps_spec hc
  exact wp_region_list (evOps_wp hC ops.toList es C ts S a w ts' S' h1 h2 h3 hW hT hv hk)
end
end Go.PE
