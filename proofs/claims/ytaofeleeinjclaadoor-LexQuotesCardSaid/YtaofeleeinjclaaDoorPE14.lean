/-
  A region that draws its order: the walk over whatever order. Conditions: each law's own.
-/
import Derived.Test.YtaofeleeinjclaaDoorPE13
namespace Go.PE
open Go Go.RowKit
set_option linter.unusedVariables false
set_option linter.unusedSimpArgs false
section
variable {nt : Nat} {P : Program} {G : Glob} {call : CallFn}

theorem getD_set (l : Array Bool) (i j : Nat) (b : Bool) (hi : i < l.size) : (l.setIfInBounds i true).getD j b = if j = i then true else l.getD j b := by
  simp only [Array.getD_eq_getD_getElem?]
  by_cases h : j = i
  · subst h; simp [hi]
  · rw [if_neg h, Array.getElem?_setIfInBounds_ne (Ne.symm h)]

theorem getD_repl (n j : Nat) : (Array.replicate n false).getD j false = false := by
  rw [Array.getD_eq_getD_getElem?, Array.getElem?_replicate]
  split <;> rfl

theorem state_eq {T : Nat → Tmps × St} : ∀ (k a : Nat), (∀ j, a ≤ j → j < a + k → (T (j + 1)).2 = (T j).2) → (T (a + k)).2 = (T a).2
  | 0, a, _ => rfl
  | k + 1, a, h => by
    rw [show a + (k + 1) = (a + k) + 1 from by omega, h (a + k) (by omega) (by omega)]
    exact state_eq k a fun j h1 h2 => h j h1 (by omega)

theorem state_same {T : Nat → Tmps × St} {m i : Nat} (h : ∀ j, (T (j + 1)).2 ≠ (T j).2 → (j < m ↔ j < i)) : (T m).2 = (T i).2 := by
  by_cases hle : m ≤ i
  · have := state_eq (T := T) (i - m) m fun j h1 h2 => Classical.byContradiction fun hn => by have := h j hn; omega
    rw [show m + (i - m) = i from by omega] at this
    exact this.symm
  · have := state_eq (T := T) (m - i) i fun j h1 h2 => Classical.byContradiction fun hn => by have := h j hn; omega
    rw [show i + (m - i) = m from by omega] at this
    exact this

/-- A region that draws its order. -/
theorem draw_wp (hC : CallOk P G call) (hm : P.follows .mixedOrders = true) {id : Nat} {ops : Array Oper} {es : List EI} (hc : cOps P nt ops.toList true = some (es.map EI.strip)) {Q : Exit → Act → World → Prop} {C0 : Ctx} {S0 S' : St} {w0 : World} {ts0 ts' : Tmps} {a0 : Act} (hW0 : WRel G C0 S0 w0) (hT0 : TR nt C0 w0 ts0 a0.tmps)
    (hv : evOps G call es ts0 S0 = some (ts', S')) (hk : ∀ C' a' w', TR nt C' w' ts' a'.tmps → WRel G C' S' w' → Step C0 w0 C' w' → a'.defers = a0.defers → Q .normal a' w') : (Code.region id ops true).wp P Q a0 w0 := by
  obtain ⟨hlen, hof, hdst, hdr⟩ := cOps_spec hc
  obtain ⟨hpr, hap, hq⟩ := hdr rfl
  generalize preds ops.toList = pr at hpr hap hq
  obtain ⟨T, V, hT0', hTn, hTr⟩ := trace_of hv
  have hn : es.length = ops.size := by simpa using hlen
  have hprlt : ∀ j o, ops.toList[j]? = some o → ∀ i ∈ pr.getD j [], i < j := fun j o ho i hi => ((predsOk_spec hpr ho).2 i hi).1
  have hordlt : ∀ {i j : Nat} {x y : EI}, es[i]? = some x → es[j]? = some y → ordered pr i j = true → i < j → i ∈ pr.getD j [] := by
    intro i j x y hi hj h hlt
    simp only [ordered, Bool.or_eq_true, List.contains_iff_mem] at h
    rcases h with h | h
    · exact h
    · have hil : i < ops.toList.length := by rw [← hlen]; exact getElem?_lt hi
      have := hprlt i _ (List.getElem?_eq_getElem hil) j h
      omega
  -- an operation that turns the state is ordered against all that are loud
  have hWop : ∀ j, (T (j + 1)).2 ≠ (T j).2 → j < es.length → ∃ e, es[j]? = some e ∧ loud e.op = true ∧ ∀ k e', es[k]? = some e' → loud e'.op = true → j ≠ k → ordered pr j k = true := by
    intro j hj hjl
    have he := List.getElem?_eq_getElem hjl
    rcases hTr.st j _ he with ⟨_, _, _, h2, h3⟩ | ⟨_, _, h3⟩
    · have hloud : loud es[j].op = true := by
        cases hl : loud es[j].op with
        | true => rfl
        | false => exact absurd (evOp_still hl h2).1 hj
      refine ⟨_, he, hloud, fun k e' hk' hl' hne => ?_⟩
      cases ho : ordered pr j k with
      | true => rfl
      | false => exact absurd (h3 (hq j k _ _ he hk' hloud hl' hne ho)) hj
    · exact absurd h3 hj
  have hbig : ∀ j, (T (j + 1)).2 ≠ (T j).2 → ∀ (hjl : ¬ j < es.length), True := fun _ _ _ => trivial
  -- whatever is listed
  have main : ∀ (fuel : Nat) (listed : Array Bool) (C : Ctx) (m : Nat) (a : Act) (w : World), listed.size = ops.size → left ops.size listed ≤ fuel →
      (∀ j, listed.getD j false = true → j < ops.size → ∀ i ∈ pr.getD j [], listed.getD i false = true) → TR nt C w (FL es ts0 V (fun j => listed.getD j false) es.length) a.tmps →
      (∀ j, j < es.length → (T (j + 1)).2 ≠ (T j).2 → (listed.getD j false = true ↔ j < m)) → m ≤ es.length → WRel G C (T m).2 w → Step C0 w0 C w → a.defers = a0.defers →
      wpAny P .any ops Q fuel listed a w := by
    intro fuel
    induction fuel with
    | zero =>
      intro listed C m a w hsz hleft hcl hTR hWl hmn hW hs hd
      have hall : ∀ j, j < ops.size → listed.getD j true = true := by
        intro j hj
        have h0 : left ops.size listed = 0 := by omega
        simp only [left, List.countP_eq_zero, List.mem_range] at h0
        have := h0 j hj
        simpa using this
      refine ⟨?_, ?_⟩
      · simp only [Region.ready, List.filter_eq_nil_iff, List.mem_range]
        intro i hi
        simp [hall i hi]
      · have hall' : ∀ j, j < es.length → listed.getD j false = true := by
          intro j hj
          have := hall j (by omega)
          simp only [Array.getD_eq_getD_getElem?] at this ⊢
          rw [Array.getElem?_eq_getElem (by omega)] at this ⊢
          exact this
        have e1 : FL es ts0 V (fun j => listed.getD j false) es.length = ts' := by
          rw [FL_congr (L' := fun _ => true) es.length (fun j hj => hall' j hj)]
          have := FL_trace hTr es.length (Nat.le_refl _)
          rw [hTn, hT0'] at this
          exact this.symm
        have e2 : (T m).2 = S' := by
          have := state_eq (T := T) (es.length - m) m fun j h1 h2 => Classical.byContradiction fun hne => by
            have := (hWl j (by omega) hne).1 (hall' j (by omega)); omega
          rw [show m + (es.length - m) = es.length from by omega, hTn] at this
          exact this.symm
        rw [e1] at hTR
        rw [e2] at hW
        exact hk C a w hTR hW hs hd
    | succ fuel ih =>
      intro listed C m a w hsz hleft hcl hTR hWl hmn hW hs hd
      refine ⟨fun hr => ?_, fun i hi => ?_⟩
      · -- none is ready: all are listed
        have hall : ∀ j, j < ops.size → listed.getD j true = true := by
          intro j
          induction j using Nat.strongRecOn with
          | _ j ihj =>
            intro hj
            have hnr : j ∉ Region.ready .any ops listed := by rw [hr]; simp
            simp only [Region.ready, List.mem_filter, List.mem_range, not_and] at hnr
            have h1 := hnr hj
            cases hlj : listed.getD j true with
            | true => rfl
            | false =>
              exfalso
              apply h1
              have ho : ops[j]? = some ops[j] := Array.getElem?_eq_getElem hj
              simp only [hlj, Bool.not_false, Bool.true_and, ho, Option.map_some, Option.getD_some, Array.all_eq_true]
              intro k hk'
              have hmem : ops[j].after[k] ∈ ops[j].after.toList := by simp
              have hsp := (predsOk_spec hpr (j := j) (o := ops[j]) (by rw [Array.getElem?_toList]; exact ho)).1 _ hmem
              cases hb : Region.binds .any ops[j].after[k] with
              | false => rfl
              | true =>
                have hlt := hsp hb
                have := ihj _ hlt (by omega)
                simp only [Bool.not_true, Bool.false_or]
                simp only [Array.getD_eq_getD_getElem?] at this ⊢
                rw [Array.getElem?_eq_getElem (by omega)] at this ⊢
                exact this
        have hall' : ∀ j, j < es.length → listed.getD j false = true := by
          intro j hj
          have := hall j (by omega)
          simp only [Array.getD_eq_getD_getElem?] at this ⊢
          rw [Array.getElem?_eq_getElem (by omega)] at this ⊢
          exact this
        have e1 : FL es ts0 V (fun j => listed.getD j false) es.length = ts' := by
          rw [FL_congr (L' := fun _ => true) es.length (fun j hj => hall' j hj)]
          have := FL_trace hTr es.length (Nat.le_refl _)
          rw [hTn, hT0'] at this
          exact this.symm
        have e2 : (T m).2 = S' := by
          have := state_eq (T := T) (es.length - m) m fun j h1 h2 => Classical.byContradiction fun hne => by
            have := (hWl j (by omega) hne).1 (hall' j (by omega)); omega
          rw [show m + (es.length - m) = es.length from by omega, hTn] at this
          exact this.symm
        rw [e1] at hTR
        rw [e2] at hW
        exact hk C a w hTR hW hs hd
      · simp only [Region.ready, List.mem_filter, List.mem_range, Bool.and_eq_true, Bool.not_eq_true'] at hi
        obtain ⟨hin, hli, hedges⟩ := hi
        have ho : ops[i]? = some ops[i] := Array.getElem?_eq_getElem hin
        have ho' : ops.toList[i]? = some ops[i] := by rw [Array.getElem?_toList]; exact ho
        rw [ho] at hedges
        simp only [Option.map_some, Option.getD_some] at hedges
        have hedge : ∀ e ∈ ops[i].after.toList, Region.binds .any e = true → listed.getD e.on false = true := by
          intro e he hb
          have := Array.all_eq_true'.1 hedges e (by simpa using he)
          simpa [hb] using this
        have hil : i < es.length := by omega
        have hei : es[i]? = some es[i] := List.getElem?_eq_getElem hil
        have hE := hof i _ _ ho' hei
        have hLi : listed.getD i false = false := by
          simp only [Array.getD_eq_getD_getElem?] at hli ⊢
          rw [Array.getElem?_eq_getElem (by omega)] at hli ⊢
          exact hli
        -- those surely ahead are listed
        have hpre : ∀ j ∈ pr.getD i [], listed.getD j false = true := by
          intro j hj
          obtain ⟨_, e, he, hb, h⟩ := (predsOk_spec hpr ho').2 j hj
          have hon := hedge e he hb
          rcases h with h | h
          · rw [← h]; exact hon
          · have hlt := (predsOk_spec hpr ho').1 e he hb
            exact hcl e.on hon (by omega) j h
        -- those surely behind are not
        have hsuc : ∀ j, j < ops.size → i ∈ pr.getD j [] → listed.getD j false = false := by
          intro j hj h
          cases hlj : listed.getD j false with
          | false => rfl
          | true => have := hcl j hlj hj i h; rw [hLi] at this; cases this
        have hord : ∀ j x, es[j]? = some x → j ≠ i → ordered pr j i = true → (j < i → listed.getD j false = true) ∧ (i ≤ j → listed.getD j false = false) := by
          intro j x hj hne h
          refine ⟨fun hlt => hpre j (hordlt hj hei h hlt), fun hle => hsuc j (by have := getElem?_lt hj; omega) (hordlt hei hj (by rw [ordered_comm]; exact h) (by omega))⟩
        -- the frame reads as it does in the order of the text
        have hread : ∀ d, d ∈ es[i].looks → look (FL es ts0 V (fun j => listed.getD j false) es.length) d = look (T i).1 d := by
          intro d hd
          rw [FL_get (i := i) (d := d) (fun j hj => ?_) es.length, show min es.length i = i from by omega]
          · have := FL_trace hTr i (by omega)
            rw [hT0'] at this
            rw [this]
          · simp only [Option.bind_eq_some_iff] at hj
            obtain ⟨x, hx, hxd⟩ := hj
            by_cases hne : j = i
            · subst hne; exact ⟨fun h => by omega, fun _ => hLi⟩
            · exact hord j x hx hne (apartE_spec hap hx hei hne hxd (.inl hd))
        have hreadD : ∀ d ∈ es[i].op.reads, look (FL es ts0 V (fun j => listed.getD j false) es.length) d = look (T i).1 d := by
          intro d hd
          exact hread d (by simp [EI.looks, hd])
        have hwant : wantedE es[i].guard (FL es ts0 V (fun j => listed.getD j false) es.length) = wantedE es[i].guard (T i).1 := by
          cases hg : es[i].guard with
          | none => rfl
          | some q =>
            obtain ⟨d, wt⟩ := q
            simp only [wantedE]
            rw [hread d (by simp [EI.looks, hg])]
        have hwr : ∀ {b}, wantedE es[i].guard (T i).1 = some b → Region.wanted ops[i] (yielded ops a.tmps) = b := fun hb => wanted_iff (ops := ops) hTR hE.guard (hwant.trans hb)
        have hd0 : ∀ d, ops[i].dst = some d → d < nt := fun d hd => hdst es[i] (List.mem_of_getElem? hei) d (by rw [hE.dst]; exact hd)
        -- the frame behind it
        have hframe : ∀ q, look (put (FL es ts0 V (fun j => listed.getD j false) es.length) ops[i].dst (V i)) q = look (FL es ts0 V (fun j => (listed.setIfInBounds i true).getD j false) es.length) q := by
          intro q
          have h1 := FL_add (es := es) (ts := ts0) (V := V) (L := fun j => listed.getD j false) (i := i) hLi (fun j hj hLj d hd hd' => ?_) es.length
          · have h1 := h1 q
            rw [if_pos hil, hei] at h1
            simp only [Option.bind_some, hE.dst] at h1
            rw [← h1]
            exact congrArg (fun f => look f q) (FL_congr _ fun j hj => (getD_set listed i j false (by omega)).symm)
          · rw [hei] at hd
            simp only [Option.bind_some] at hd
            simp only [Option.bind_eq_some_iff] at hd'
            obtain ⟨y, hy, hyd⟩ := hd'
            have := hord j y hy (by omega) (by rw [ordered_comm]; exact apartE_spec hap hei hy (by omega) hd (.inr hyd))
            have := this.2 (by omega)
            have hLj' : listed.getD j false = true := hLj
            rw [this] at hLj'
            cases hLj'
        have hcl' : ∀ j, (listed.setIfInBounds i true).getD j false = true → j < ops.size → ∀ k ∈ pr.getD j [], (listed.setIfInBounds i true).getD k false = true := by
          intro j hj hjn k hk'
          rw [getD_set _ _ _ _ (by omega)] at hj ⊢
          split
          · rfl
          · split at hj
            · rename_i e; subst e; exact hpre k hk'
            · exact hcl j hj hjn k hk'
        have hleft' : left ops.size (listed.setIfInBounds i true) ≤ fuel := by
          have : left ops.size (listed.setIfInBounds i true) < left ops.size listed := by
            refine countP_lt (y := i) (fun x hx h => ?_) (by simp [hin]) (by simp [hli]) ?_
            · rw [getD_set _ _ _ _ (by omega)] at h
              split at h
              · simp at h
              · exact h
            · rw [getD_set _ _ _ _ (by omega)]; simp
          omega
        unfold wpOp
        rw [ho]
        simp only
        rcases hTr.st i _ hei with ⟨vi, h1, hVi, h2, h3⟩ | ⟨h1, h2, h3⟩
        · rw [hwr h1, if_pos rfl]
          left
          cases hloud : loud es[i].op with
          | true =>
            -- the state is the one of the text's order
            have hWi : ∀ j, j < es.length → (T (j + 1)).2 ≠ (T j).2 → (j < m ↔ j < i) := by
              intro j hjl hj
              obtain ⟨e, he, hle, hall⟩ := hWop j hj hjl
              rw [← hWl j hjl hj]
              by_cases hne : j = i
              · subst hne; simp [hLi]
              · have ho2 := hord j e he hne (hall i _ hei hloud hne)
                constructor
                · intro hl
                  rcases Nat.lt_or_ge j i with h | h
                  · exact h
                  · rw [ho2.2 h] at hl; cases hl
                · exact ho2.1
            have hst : (T m).2 = (T i).2 := by
              by_cases hle : m ≤ i
              · have := state_eq (T := T) (i - m) m fun j g1 g2 => Classical.byContradiction fun hn' => by have := hWi j (by omega) hn'; omega
                rw [show m + (i - m) = i from by omega] at this
                exact this.symm
              · have := state_eq (T := T) (m - i) i fun j g1 g2 => Classical.byContradiction fun hn' => by have := hWi j (by omega) hn'; omega
                rw [show i + (m - i) = m from by omega] at this
                exact this
            rw [hst] at hW
            have hev : evOp G call (FL es ts0 V (fun j => listed.getD j false) es.length) (T i).2 es[i].op = some (vi, (T (i + 1)).2) := by
              rw [evOp_congr hreadD]; exact h2
            refine op_does hW hTR hC hE.op hev _ _ fun C1 w1 v1 hr hW1 hs1 => ?_
            refine ih _ C1 (i + 1) _ w1 (by simpa using hsz) hleft' hcl' ?_ (fun j hjl hj => ?_) (by omega) hW1 (hs.trans hs1) (by cases ops[i].dst <;> exact hd)
            · refine ((hTR.step hs1).put (ds := a.defers) hd0 (q := V i) (v := v1) fun p hp => ?_).ext fun d p hp => by rw [hframe]; exact hp
              rw [hVi] at hp; injection hp with hp; subst hp; exact hr
            · rw [getD_set _ _ _ _ (by omega)]
              by_cases hne : j = i
              · subst hne; simp
              · rw [if_neg hne, hWl j hjl hj, hWi j hjl hj]; omega
          | false =>
            obtain ⟨g1, g2⟩ := evOp_still hloud h2
            have hev : evOp G call (FL es ts0 V (fun j => listed.getD j false) es.length) (T m).2 es[i].op = some (vi, (T m).2) := by
              rw [evOp_congr hreadD]; exact g2 _
            refine op_does hW hTR hC hE.op hev _ _ fun C1 w1 v1 hr hW1 hs1 => ?_
            refine ih _ C1 m _ w1 (by simpa using hsz) hleft' hcl' ?_ (fun j hjl hj => ?_) hmn hW1 (hs.trans hs1) (by cases ops[i].dst <;> exact hd)
            · refine ((hTR.step hs1).put (ds := a.defers) hd0 (q := V i) (v := v1) fun p hp => ?_).ext fun d p hp => by rw [hframe]; exact hp
              rw [hVi] at hp; injection hp with hp; subst hp; exact hr
            · rw [getD_set _ _ _ _ (by omega)]
              by_cases hne : j = i
              · subst hne; exact absurd g1 hj
              · rw [if_neg hne]; exact hWl j hjl hj
        · rw [hwr h1, if_neg (by simp)]
          refine ih _ C m _ w (by simpa using hsz) hleft' hcl' ?_ (fun j hjl hj => ?_) hmn hW hs (by cases ops[i].dst <;> exact hd)
          · refine (hTR.put (ds := a.defers) hd0 (q := V i) (v := undef) fun p hp => ?_).ext fun d p hp => by rw [hframe]; exact hp
            rw [h2] at hp; injection hp with hp; subst hp; exact .un _ _
          · rw [getD_set _ _ _ _ (by omega)]
            by_cases hne : j = i
            · subst hne; exact absurd h3 hj
            · rw [if_neg hne]; exact hWl j hjl hj
  have hb : Below w0.heap.size w0 { w0 with drawn := w0.drawn + 1 } := (Below.refl _ w0).drew
  refine wp_region_any hm (main ops.size _ C0 0 a0 _ (by simp) ?_ (fun j hj => ?_) ?_ (fun j hjl hj => ?_) (Nat.zero_le _) ?_ (.of_below hb C0) rfl)
  · unfold left; exact Nat.le_trans (List.countP_le_length) (by simp)
  · rw [getD_repl] at hj; cases hj
  · have : FL es ts0 V (fun j => (Array.replicate ops.size false).getD j false) es.length = ts0 := by
      have : ∀ k, FL es ts0 V (fun j => (Array.replicate ops.size false).getD j false) k = ts0 := by
        intro k
        induction k with
        | zero => rfl
        | succ k ih =>
          simp only [FL]
          rw [if_neg, ih]
          rw [getD_repl]; simp
      exact this _
    rw [this]
    exact hT0.step (.of_below hb C0)
  · rw [getD_repl]; simp
  · rw [hT0']; exact hW0.of_below hb
end
end Go.PE
