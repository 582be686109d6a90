/-
  Code and calls: what the evaluator says is what the program does. Conditions: each law's own.
-/
import Derived.Test.YtaofeleeinjclaaDoorPE15
import Derived.Scope
namespace Go.PE
open Go Go.RowKit
set_option linter.unusedVariables false
set_option linter.unusedSimpArgs false

def EX.out : EX → Exit
  | .normal => .normal
  | .exit id => .exit id
  | .ret => .ret

/-- A loop, by the fuel that its rounds have. -/
theorem wp_loop_n {P : Program} {Q : Exit → Act → World → Prop} {c : Code} (I : Nat → Act → World → Prop) (round : ∀ n a w, I n a w → c.wp P (Exit.then (fun a' w' => ∃ m, m < n ∧ I m a' w') Q) a w) {n : Nat} {a : Act} {w : World} (h0 : I n a w) : (Code.loop c).wp P Q a w := by
  intro b k cs
  have key : ∀ n a w, I n a w → ∃ e a' w', Q e a' w' ∧ Arrives P (lone (b.at a (.code c :: .inLoop c :: k)) cs w) b k cs e a' w' := by
    intro n
    induction n using Nat.strongRecOn with
    | _ n ih =>
      intro a w hI
      obtain ⟨e, a₁, w₁, hq, harr⟩ := round n a w hI b (.inLoop c :: k) cs
      cases e with
      | normal =>
        obtain ⟨m, hm, hI₁⟩ := hq
        obtain ⟨e₂, a₂, w₂, hq₂, harr₂⟩ := ih m hm a₁ w₁ hI₁
        exact ⟨e₂, a₂, w₂, hq₂, .of_steps (Steps.trans harr (.one step_inLoop)) harr₂⟩
      | exit id => exact ⟨_, a₁, w₁, hq, .pass (x := .inLoop c) rfl (fun _ _ => .inl (by simp)) harr⟩
      | goto l => exact ⟨_, a₁, w₁, hq, .pass (x := .inLoop c) rfl (fun _ _ => .inl (by simp)) harr⟩
      | ret => exact ⟨_, a₁, w₁, hq, .pass (x := .inLoop c) rfl (fun _ _ => .inl (by simp)) harr⟩
      | panic ch => exact ⟨_, a₁, w₁, hq, .pass (x := .inLoop c) rfl (fun _ _ => .inl (by simp)) harr⟩
      | outgrown => exact ⟨_, a₁, w₁, hq, .pass (x := .inLoop c) rfl (fun _ _ => .inl (by simp)) harr⟩
  obtain ⟨e, a', w', hq, harr⟩ := key _ a w h0
  exact ⟨e, a', w', hq, .of_steps (.one step_loop) harr⟩

/-- What the tables say is so: compiled functions are the program's; known ones do what is said. -/
structure EnvOk (P : Program) (E : Env) : Prop where
  mixed : P.follows .mixedOrders = true
  tab : ∀ f c, E.tab f = some c → ∃ fn, P.funcs[f]? = some fn ∧ cFn P fn = some c.strip ∧ (fn.name == "runtime.NumGoroutine") = false
  known : ∀ f F, E.known f = some F → Enter P f ∧ ∀ args S r S', F args S = some (r, S') → CallSpec P E.G f args S r S'

/-- Code that is compiled does what is evaluated. -/
def EvOk (P : Program) (E : Env) (n : Nat) : Prop :=
  ∀ (nt : Nat) (code : Code) (c : EC), cCode P nt code = some (strip c) → ∀ (ts : Tmps) (S : St) (K : Kont (PV × St)) (r : PV × St), (lvl E n).ev c ts S K = some r →
    ∀ (C : Ctx) (a : Act) (w : World) (Q : Exit → Act → World → Prop), WRel E.G C S w → TR nt C w ts a.tmps →
      (∀ x ts' S' C' a' w', K x ts' S' = some r → TR nt C' w' ts' a'.tmps → WRel E.G C' S' w' → Step C w C' w' → a'.defers = a.defers → Q x.out a' w') → code.wp P Q a w

theorem ev_ok {P : Program} {E : Env} (hE : EnvOk P E) (n : Nat) (ihC : CallOk P E.G (lvl E n).call) (ihE : ∀ m, m ≤ n → EvOk P E m) : EvOk P E (n + 1) := by
  intro nt code
  induction code with
  | skip =>
    intro c hc ts S K r hv C a w Q hW hT hk
    cases c <;> simp [cCode, strip] at hc
    simp only [lvl, ev] at hv
    exact wp_skip (hk .normal ts S C a w hv hT hW (.refl C w) rfl)
  | region id ops draw =>
    intro c hc ts S K r hv C a w Q hW hT hk
    simp only [cCode, Option.map_eq_some_iff] at hc
    obtain ⟨l0, hl, hc⟩ := hc
    cases c <;> simp [strip] at hc
    rename_i id' l draw' keep
    obtain ⟨rfl, rfl, rfl⟩ := hc
    simp only [lvl, ev] at hv
    split at hv
    · rename_i ts' S' hops
      cases draw with
      | false => exact reg_wp ihC hl hW hT hops fun C' a' w' h1 h2 h3 h4 => hk .normal _ S' C' a' w' hv (h1.sel keep) h2 h3 h4
      | true => exact draw_wp ihC hE.mixed hl hW hT hops fun C' a' w' h1 h2 h3 h4 => hk .normal _ S' C' a' w' hv (h1.sel keep) h2 h3 h4
    · cases hv
  | seq x y ihx ihy =>
    intro c hc ts S K r hv C a w Q hW hT hk
    simp only [cCode, Option.bind_eq_some_iff, Option.map_eq_some_iff] at hc
    obtain ⟨cx', hx, cy', hy, hc⟩ := hc
    cases c <;> simp [strip] at hc
    rename_i cx cy
    obtain ⟨rfl, rfl⟩ := hc
    have hv' : (lvl E (n + 1)).ev cx ts S (fun x ts S => match x with | .normal => (lvl E (n + 1)).ev cy ts S K | x => K x ts S) = some r := hv
    refine wp_seq (ihx cx hx ts S _ r hv' C a w _ hW hT fun x ts' S' C' a' w' hK hT' hW' hs hd => ?_)
    cases x with
    | normal => exact ihy cy hy ts' S' K r hK C' a' w' Q hW' hT' fun x2 ts2 S2 C2 a2 w2 h1 h2 h3 h4 h5 => hk x2 ts2 S2 C2 a2 w2 h1 h2 h3 (hs.trans h4) (h5.trans hd)
    | exit id => exact hk (.exit id) ts' S' C' a' w' hK hT' hW' hs hd
    | ret => exact hk .ret ts' S' C' a' w' hK hT' hW' hs hd
  | cond x a1 b1 iha ihb =>
    intro c hc ts S K r hv C a w Q hW hT hk
    simp only [cCode, Option.bind_eq_some_iff, Option.map_eq_some_iff] at hc
    obtain ⟨ex', hx, ca', ha, cb', hb, hc⟩ := hc
    cases c <;> simp [strip] at hc
    rename_i ex ca cb
    obtain ⟨rfl, rfl, rfl⟩ := hc
    simp only [lvl, ev] at hv
    split at hv
    · rename_i t ht
      have e := (opd_rep hW hT hx ht).bool_inv
      cases t with
      | true => exact wp_cond_true e (iha ca ha ts S K r (by rw [if_pos rfl] at hv; exact hv) C a w Q hW hT hk)
      | false => exact wp_cond_false e (ihb cb hb ts S K r (by rw [if_neg (by simp)] at hv; exact hv) C a w Q hW hT hk)
    · cases hv
  | block id x ih =>
    intro c hc ts S K r hv C a w Q hW hT hk
    simp only [cCode, Option.map_eq_some_iff] at hc
    obtain ⟨cx', hx, hc⟩ := hc
    cases c <;> simp [strip] at hc
    rename_i id' cx
    obtain ⟨rfl, rfl⟩ := hc
    have hv' : (lvl E (n + 1)).ev cx ts S (fun x ts S => match x with | .exit id' => if id' = id then K .normal ts S else K (.exit id') ts S | x => K x ts S) = some r := hv
    refine wp_block (ih cx hx ts S _ r hv' C a w _ hW hT fun x ts' S' C' a' w' hK hT' hW' hs hd => ?_)
    cases x with
    | normal => exact hk .normal ts' S' C' a' w' hK hT' hW' hs hd
    | ret => exact hk .ret ts' S' C' a' w' hK hT' hW' hs hd
    | exit id' =>
      simp only at hK
      show Exit.inBlock id Q (.exit id') a' w'
      unfold Exit.inBlock
      split at hK
      · rename_i e; simp only [if_pos e]; exact hk .normal ts' S' C' a' w' hK hT' hW' hs hd
      · rename_i e; simp only [if_neg e]; exact hk (.exit id') ts' S' C' a' w' hK hT' hW' hs hd
  | loop x ih =>
    intro c hc ts S K r hv C a w Q hW hT hk
    simp only [cCode, Option.map_eq_some_iff] at hc
    obtain ⟨cx', hx, hc⟩ := hc
    cases c <;> simp [strip] at hc
    rename_i keep cx
    subst hc
    refine wp_loop_n (n := n + 1) (fun k a1 w1 => ∃ C1 ts1 S1, k ≤ n + 1 ∧ WRel E.G C1 S1 w1 ∧ TR nt C1 w1 ts1 a1.tmps ∧ (lvl E k).ev (.loop keep cx) ts1 S1 K = some r ∧ Step C w C1 w1 ∧ a1.defers = a.defers) ?_ ⟨C, ts, S, Nat.le_refl _, hW, hT, hv, .refl C w, rfl⟩
    rintro k a1 w1 ⟨C1, ts1, S1, hkn, hW1, hT1, hv1, hs1, hd1⟩
    cases k with
    | zero => simp [lvl] at hv1
    | succ k =>
      have hv1' : (lvl E (k + 1)).ev cx (sel keep ts1) S1 (fun x ts S => match x with | .normal => (lvl E k).ev (.loop keep cx) ts S K | x => K x ts S) = some r := hv1
      have hbody : ∀ (ts : Tmps) (S : St) (K : Kont (PV × St)) (r : PV × St), (lvl E (k + 1)).ev cx ts S K = some r → ∀ (C : Ctx) (a : Act) (w : World) (Q : Exit → Act → World → Prop), WRel E.G C S w → TR nt C w ts a.tmps →
          (∀ x ts' S' C' a' w', K x ts' S' = some r → TR nt C' w' ts' a'.tmps → WRel E.G C' S' w' → Step C w C' w' → a'.defers = a.defers → Q x.out a' w') → x.wp P Q a w := by
        by_cases hkn' : k = n
        · subst hkn'; exact ih cx hx
        · exact ihE (k + 1) (by omega) nt x cx hx
      refine hbody _ S1 _ r hv1' C1 a1 w1 _ hW1 (hT1.sel keep) fun x ts' S' C' a' w' hK hT' hW' hs hd => ?_
      cases x with
      | normal => exact ⟨k, by omega, C', ts', S', by omega, hW', hT', hK, hs1.trans hs, hd.trans hd1⟩
      | exit id => exact hk (.exit id) ts' S' C' a' w' hK hT' hW' (hs1.trans hs) (hd.trans hd1)
      | ret => exact hk .ret ts' S' C' a' w' hK hT' hW' (hs1.trans hs) (hd.trans hd1)
  | exit id =>
    intro c hc ts S K r hv C a w Q hW hT hk
    cases c <;> simp [cCode, strip] at hc
    subst hc
    simp only [lvl, ev] at hv
    exact wp_exit (hk (.exit id) ts S C a w hv hT hW (.refl C w) rfl)
  | ret =>
    intro c hc ts S K r hv C a w Q hW hT hk
    cases c <;> simp [cCode, strip] at hc
    simp only [lvl, ev] at hv
    exact wp_ret (hk .ret ts S C a w hv hT hW (.refl C w) rfl)
  | label l =>
    intro c hc ts S K r hv C a w Q hW hT hk
    cases c <;> simp [cCode, strip] at hc
    simp only [lvl, ev] at hv
    exact wp_label (hk .normal ts S C a w hv hT hW (.refl C w) rfl)
  | scope x ih =>
    intro c hc ts S K r hv C a w Q hW hT hk
    simp only [cCode] at hc
    refine wp_scope_straight (ih c hc ts S K r hv C a w _ hW hT fun x ts' S' C' a' w' h1 h2 h3 h4 h5 => ?_)
    cases x <;> exact hk _ ts' S' C' a' w' h1 h2 h3 h4 h5
  | _ => intro c hc; simp [cCode] at hc

theorem look_frameOf : ∀ (l : List PV) (i d : Nat) (p : PV), look (frameOf i l) d = some p → i ≤ d ∧ l[d - i]? = some p
  | [], i, d, p, h => by simp [frameOf, look] at h
  | v :: l, i, d, p, h => by
    simp only [frameOf, look] at h
    split at h
    · rename_i e; subst e; simp at h; subst h; simp
    · rename_i e
      obtain ⟨h1, h2⟩ := look_frameOf l (i + 1) d p h
      refine ⟨by omega, ?_⟩
      rw [show d - i = (d - (i + 1)) + 1 from by omega]
      simpa using h2

theorem resVs_run {nt : Nat} {P : Program} {G : Glob} {C : Ctx} {S : St} {w : World} {ts : Tmps} {tmps : Array Value} (hW : WRel G C S w) (hT : TR nt C w ts tmps) : ∀ {rs : List ResultVar} {es : List ERes} {vs : List PV}, rs.mapM (cRes P) = some es → resVs ts S es = some vs →
    ∃ us : List Value, (rs.mapM (m := Sem) fun | .tmp t => pure (tmps.getD t undef) | .cell a t => do loadVar t (← asAddr (tmps.getD a undef))).run P w = .ok us w ∧ RepL C w vs us
  | [], es, vs, h, hv => by
    simp at h; subst h
    simp [resVs] at hv; subst hv
    exact ⟨[], rfl, rfl, by simp⟩
  | x :: rs, es, vs, h, hv => by
    rw [List.mapM_cons] at h
    simp only [bind, Option.bind_eq_some_iff, pure, Option.some.injEq] at h
    obtain ⟨e, he, es', hes, rfl⟩ := h
    simp only [resVs, Option.bind_eq_some_iff, Option.map_eq_some_iff] at hv
    obtain ⟨p, hp, ps, hps, rfl⟩ := hv
    obtain ⟨us, hus, hr⟩ := resVs_run hW hT hes hps
    have key : ∃ u, ((match x with | .tmp t => pure (tmps.getD t undef) | .cell a t => do loadVar t (← asAddr (tmps.getD a undef)) : Sem Value)).run P w = .ok u w ∧ Rep C w p u := by
      cases x with
      | tmp t =>
        simp [cRes] at he; subst he
        exact ⟨_, rfl, hT.getD hp⟩
      | cell ad t =>
        simp only [cRes, Option.map_eq_some_iff] at he
        obtain ⟨n, hn, rfl⟩ := he
        simp only [resV, Option.bind_eq_some_iff] at hp
        obtain ⟨q, hq, cs, hcs, hp⟩ := hp
        obtain ⟨b, off, e, v', h1, h2⟩ := ld_run (P := P) hW hn (hT.getD hq) hcs hp
        exact ⟨v', by simp [e, asAddr, h1], h2⟩
    obtain ⟨u, hu, hru⟩ := key
    refine ⟨u :: us, ?_, by simp [hr.1], fun i q v hq hv => ?_⟩
    · rw [List.mapM_cons]
      simp only [Sem.run_bind]
      rw [hu]
      simp only [Result.andThen_ok, hus, Sem.run_pure]
    · cases i with
      | zero => simp at hq hv; subst hq hv; exact hru
      | succ i => exact hr.2 i q v (by simpa using hq) (by simpa using hv)

theorem oneOrTup_rep {C : Ctx} {w : World} {vs : List PV} {us : List Value} (h : RepL C w vs us) : Rep C w (oneOrTup vs) (if h : us.toArray.size = 1 then us.toArray[0] else .tuple us.toArray) := by
  have hl := h.1
  match vs, us, h with
  | [], [], h => simp [oneOrTup]; exact .un C w
  | [v], [u], h => simp [oneOrTup]; exact h.2 0 v u rfl rfl
  | v1 :: v2 :: vs, u1 :: u2 :: us, h =>
    simp only [oneOrTup, List.size_toArray, List.length_cons]
    rw [dif_neg (by omega)]
    exact .tup _ _ (by simpa using hl) (fun i p v hp hv => h.2 i p v hp (by simpa using hv))
  | [], u :: us, h => simp at hl
  | [v], [], h => simp at hl
  | [v], u :: u2 :: us, h => simp at hl
  | v1 :: v2 :: vs, [], h => simp at hl
  | v1 :: v2 :: vs, [u], h => simp at hl

theorem call_ok {P : Program} {E : Env} (hE : EnvOk P E) (n : Nat) (ihE : EvOk P E n) : CallOk P E.G (lvl E (n + 1)).call := by
  intro f args S r S' hv
  simp only [lvl] at hv
  split at hv
  · rename_i F hF
    simp only [Option.bind_eq_some_iff] at hv
    obtain ⟨args', ha, hv⟩ := hv
    obtain ⟨h1, h2⟩ := hE.known f F hF
    refine ⟨h1, fun C w vs hW hR => h2 args' S r S' hv C w vs hW (askD_rep hR ha)⟩
  · split at hv
    · rename_i c hc
      split at hv
      · rename_i hnp
        simp only [Option.bind_eq_some_iff] at hv
        obtain ⟨args', ha, hv⟩ := hv
        obtain ⟨fn, hf, hcf, hname⟩ := hE.tab f c hc
        have hcf' := hcf
        simp only [cFn, bind, Option.bind_eq_some_iff, Option.some.injEq] at hcf'
        obtain ⟨body, hb, cb', hcb, rs, hrs, hce⟩ := hcf'
        obtain ⟨np, ntm, rs', cb⟩ := c
        simp only [EFn.strip, EFn.mk.injEq] at hce
        obtain ⟨rfl, rfl, rfl, rfl⟩ := hce
        refine ⟨⟨fn, hf, hname, by rw [hb]; rfl⟩, fun C w vs hW hR => ?_⟩
        have hR' := askD_rep hR ha
        refine calls_of_wp hf hb ?_
        have hlen : vs.length = args.length := hR.1
        have hl' : args'.length = args.length := (sealL_spec ha).1
        refine ihE fn.ntmps body cb hcb _ S (finish ⟨fn.params.size + fn.nfree, fn.ntmps, rs, cb⟩ S) (r, S') hv C _ w _ hW ?_ fun x ts' S1 C1 a1 w1 hK hT1 hW1 hs1 hd1 => ?_
        · -- the frame at the start
          simp only at hnp
          refine ⟨by simp [hlen, hnp.1]; omega, fun d p hp => ?_⟩
          obtain ⟨_, h2⟩ := look_frameOf args' 0 d p hp
          rw [Nat.sub_zero] at h2
          have hd := getElem?_lt h2
          have hd' : d < vs.length := by omega
          refine ⟨vs[d], ?_, hR'.2 d p _ h2 (List.getElem?_eq_getElem hd')⟩
          rw [Array.getElem?_append_left (by simpa using hd')]
          simp [hd']
        · -- its end
          have fin : (resVs ts' S1 rs).map (fun vs => close S S1 (oneOrTup vs)) = some (r, S') → bodyPost P fn (fun e w' => ∃ C' v, e = .returned v ∧ Rep C' w' r v ∧ WRel E.G C' S' w' ∧ Step C w C' w') x.out a1 w1 ∨ (∃ id, x = .exit id) := by
            intro h
            simp only [Option.map_eq_some_iff] at h
            obtain ⟨pvs, hp, hcl⟩ := h
            obtain ⟨us, hus, hru⟩ := resVs_run hW1 hT1 hrs hp
            have hres : (results fn a1.tmps).run P w1 = .ok (if h : us.toArray.size = 1 then us.toArray[0] else .tuple us.toArray) w1 := by
              unfold results
              rw [Array.mapM_eq_mapM_toList]
              simp only [Sem.run_bind, Sem.run_map, Sem.run_pure]
              exact congrArg (fun r : Result (List Value) => (r.andThen fun a w' => Result.ok a.toArray w').andThen fun a w' => Result.ok (if h : a.size = 1 then a[0] else Value.tuple a) w') hus
            obtain ⟨C', g1, g2, g3⟩ := close_rep hW hW1 hs1 (oneOrTup_rep hru)
            rw [hcl] at g1 g2
            cases x with
            | normal => exact .inl ⟨hd1, _, hres, C', _, rfl, g1, g2, g3⟩
            | ret => exact .inl ⟨hd1, _, hres, C', _, rfl, g1, g2, g3⟩
            | exit id => exact .inr ⟨id, rfl⟩
          cases x with
          | exit id => simp [finish] at hK
          | normal => exact (fin hK).resolve_right (by simp)
          | ret => exact (fin hK).resolve_right (by simp)
      · cases hv
    · cases hv

theorem all_ok {P : Program} {E : Env} (hE : EnvOk P E) : ∀ n, CallOk P E.G (lvl E n).call ∧ EvOk P E n := by
  intro n
  induction n using Nat.strongRecOn with
  | _ n ih =>
    cases n with
    | zero => exact ⟨fun f args S r S' h => by simp [lvl] at h, fun nt code c hc ts S K r h => by simp [lvl] at h⟩
    | succ n =>
      exact ⟨call_ok hE n (ih n (by omega)).2, ev_ok hE n (ih n (by omega)).1 fun m hm => (ih m (by omega)).2⟩

def St.none : St := ⟨[], []⟩
def Ctx.none : Ctx := ⟨fun _ => .none, fun _ => .none⟩

/-- What the evaluator comes to, the program comes to; what was there is as it was. -/
theorem calls_of_ev {P : Program} {E : Env} (hE : EnvOk P E) {f : FuncId} {args : List PV} {r : PV} {S' : St} (h : Ev E f args .none r S') {w : World} {vs : List Value} (hg : ∀ g cs, E.G.tab g = some cs → Rep .none w (.at_ cs) (.pointer (some ⟨g, 0, none⟩))) (hbk : ∀ g o, E.G.blk g = some o → w.heap[g]? = some o) (hR : RepL .none w args vs) :
    Calls P f vs.toArray w fun e w' => ∃ C' v, e = .returned v ∧ Rep C' w' r v ∧ Below w.heap.size w w' := by
  obtain ⟨N, hN⟩ := h
  have hW : WRel E.G .none .none w := ⟨fun l ob h => (by simp [St.none] at h), fun l b h => (by cases h), fun l l' b h => (by cases h), fun k fr h => (by simp [St.none] at h), fun k b fr h => (by cases h), fun k k' b fr fr' h => (by cases h), fun l b k fr h => (by cases h), hg, fun g o h => ⟨hbk g o h, fun l h => (by cases h), fun k fr h => (by cases h)⟩⟩
  refine (((all_ok hE N).1 f args .none r S' (hN N (Nat.le_refl _))).2 .none w vs hW hR).mono fun e w' h => ?_
  obtain ⟨C', v, h1, h2, h3, h4⟩ := h
  exact ⟨C', v, h1, h2, ⟨h4.ext.os, h4.ext.tape, h4.ext.output, h4.ext.size, fun k hk => h4.ext.same k hk (fun l h => (by cases h)) (fun k fr h => (by cases h))⟩⟩
end Go.PE
