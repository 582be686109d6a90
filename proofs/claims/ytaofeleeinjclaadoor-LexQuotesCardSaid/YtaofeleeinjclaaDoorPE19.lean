/-
  The evaluator without fuel: what it comes to with enough of it, as equations. Conditions: each law's own.
-/
import Derived.Test.YtaofeleeinjclaaDoorPX
namespace Go.PE
open Go Go.RowKit
set_option linter.unusedVariables false
set_option linter.unusedSimpArgs false

/-- What is not known of the blocks of the package variables that are read: types, sizes, values. -/
structure EP where
  t : Nat → TypeId
  z : Nat → Nat × Nat
  v : Nat → Value

section
variable {α β : Type}
/-- What a rising row of answers comes to. -/
noncomputable def lim (F : Nat → Option α) : Option α := by
  classical exact if h : ∃ x, ∃ n, F n = some x then some (Classical.choose h) else none
def Mono (F : Nat → Option α) : Prop := ∀ n x, F n = some x → F (n + 1) = some x
theorem Mono.le {F : Nat → Option α} (h : Mono F) {n m : Nat} (hm : n ≤ m) {x : α} (hx : F n = some x) : F m = some x := by
  induction hm with
  | refl => exact hx
  | step _ ih => exact h _ _ ih
theorem Mono.one {F : Nat → Option α} (h : Mono F) {n m : Nat} {x y : α} (hx : F n = some x) (hy : F m = some y) : x = y := by
  have h1 := h.le (Nat.le_max_left n m) hx
  have h2 := h.le (Nat.le_max_right n m) hy
  rw [h1] at h2; exact Option.some.inj h2
theorem lim_some {F : Nat → Option α} (h : Mono F) {x : α} : lim F = some x ↔ ∃ n, F n = some x := by
  classical
  unfold lim
  split
  · rename_i hx
    have hc := Classical.choose_spec hx
    constructor
    · intro e; injection e with e; rw [← e]; exact hc
    · rintro ⟨n, hn⟩
      obtain ⟨m, hm⟩ := hc
      rw [h.one hm hn]
  · rename_i hx
    constructor
    · intro e; cases e
    · rintro ⟨n, hn⟩; exact absurd ⟨x, n, hn⟩ hx
theorem lim_congr {F G : Nat → Option α} (hF : Mono F) (hG : Mono G) (h1 : ∀ n x, F n = some x → ∃ m, G m = some x) (h2 : ∀ n x, G n = some x → ∃ m, F m = some x) : lim F = lim G := by
  apply Option.ext
  intro x
  rw [lim_some hF, lim_some hG]
  exact ⟨fun ⟨n, hn⟩ => h1 n x hn, fun ⟨n, hn⟩ => h2 n x hn⟩
theorem lim_ext {F G : Nat → Option α} (h : ∀ n, F n = G n) : lim F = lim G := by rw [funext h]
theorem Mono.shift {F : Nat → Option α} (h : Mono F) : Mono fun n => F (n + 1) := fun n x hx => h _ _ hx
theorem lim_shift {F : Nat → Option α} (h : Mono F) : lim (fun n => F (n + 1)) = lim F :=
  lim_congr h.shift h (fun n x hx => ⟨n + 1, hx⟩) (fun n x hx => ⟨n, h _ _ hx⟩)
theorem mono_const (a : Option α) : Mono fun _ => a := fun _ _ h => h
theorem lim_const (a : Option α) : lim (fun _ => a) = a := by
  apply Option.ext
  intro x
  rw [lim_some (mono_const a)]
  exact ⟨fun ⟨_, h⟩ => h, fun h => ⟨0, h⟩⟩
end

/-- What follows, as data. -/
inductive Fw where
  | seq (b : EC)
  | block (id : Nat)
  | again (c : EC)

def konN (E : Env) (fin : Kont (PV × St)) (n : Nat) : List Fw → Kont (PV × St)
  | [] => fin
  | .seq b :: st => fun x ts S => match x with
    | .normal => (lvl E n).ev b ts S (konN E fin n st)
    | x => konN E fin n st x ts S
  | .block id :: st => fun x ts S => match x with
    | .exit id' => if id' = id then konN E fin n st .normal ts S else konN E fin n st (.exit id') ts S
    | x => konN E fin n st x ts S
  | .again c :: st => fun x ts S => match x with
    | .normal => (lvl E n).ev c ts S (konN E fin n st)
    | x => konN E fin n st x ts S

theorem konN_succ (E : Env) (fin : Kont (PV × St)) (n : Nat) : ∀ (st : List Fw) (y : EX) (ts : Tmps) (S : St) (x : PV × St), konN E fin n st y ts S = some x → konN E fin (n + 1) st y ts S = some x
  | [], y, ts, S, x, h => h
  | .seq b :: st, y, ts, S, x, h => by
    cases y with
    | normal => exact (lvl_succ E n).2 b ts S _ _ x (konN_succ E fin n st) h
    | exit id => exact konN_succ E fin n st (.exit id) ts S x h
    | ret => exact konN_succ E fin n st .ret ts S x h
  | .again b :: st, y, ts, S, x, h => by
    cases y with
    | normal => exact (lvl_succ E n).2 b ts S _ _ x (konN_succ E fin n st) h
    | exit id => exact konN_succ E fin n st (.exit id) ts S x h
    | ret => exact konN_succ E fin n st .ret ts S x h
  | .block id :: st, y, ts, S, x, h => by
    cases y with
    | normal => exact konN_succ E fin n st .normal ts S x h
    | ret => exact konN_succ E fin n st .ret ts S x h
    | exit id' =>
      simp only [konN] at h ⊢
      split at h
      · rename_i e; rw [if_pos e]; exact konN_succ E fin n st .normal ts S x h
      · rename_i e; rw [if_neg e]; exact konN_succ E fin n st (.exit id') ts S x h

/-- Code, run. -/
noncomputable def run (E : Env) (fin : Kont (PV × St)) (st : List Fw) (c : EC) (ts : Tmps) (S : St) : Option (PV × St) := lim fun n => (lvl E n).ev c ts S (konN E fin n st)
/-- What follows, run. -/
noncomputable def aft (E : Env) (fin : Kont (PV × St)) (st : List Fw) (x : EX) (ts : Tmps) (S : St) : Option (PV × St) := lim fun n => konN E fin n st x ts S
/-- A function, called. -/
noncomputable def cal (E : Env) (f : FuncId) (args : List PV) (S : St) : Option (PV × St) := lim fun n => (lvl E n).call f args S

section
variable {E : Env} {fin : Kont (PV × St)} {st : List Fw} {ts : Tmps} {S : St}
theorem run_mono (c : EC) : Mono fun n => (lvl E n).ev c ts S (konN E fin n st) := fun n x h => (lvl_succ E n).2 c ts S _ _ x (konN_succ E fin n st) h
theorem aft_mono (x : EX) : Mono fun n => konN E fin n st x ts S := fun n y h => konN_succ E fin n st x ts S y h
theorem cal_mono (f : FuncId) (args : List PV) : Mono fun n => (lvl E n).call f args S := fun n x h => (lvl_succ E n).1 f args S x h

noncomputable def stepCw (E : Env) (fin : Kont (PV × St)) (st : List Fw) (a b : EC) (ts : Tmps) (S : St) : Option PV → Option (PV × St)
  | some (.bool t) => if t = true then run E fin st a ts S else run E fin st b ts S
  | _ => none
noncomputable def stepRw (E : Env) (fin : Kont (PV × St)) (st : List Fw) (ks : Option (List Nat)) : Option (Tmps × St) → Option (PV × St)
  | some (ts, S) => aft E fin st .normal (sel ks ts) S
  | none => none
end

section
variable {E : Env} {fin : Kont (PV × St)} {st : List Fw} {ts : Tmps} {S : St}
theorem w_skip : run E fin st .skip ts S = aft E fin st .normal ts S := by
  unfold run aft
  rw [← lim_shift (run_mono .skip), ← lim_shift (aft_mono .normal)]
  rfl
theorem w_exit {id : Nat} : run E fin st (.exit id) ts S = aft E fin st (.exit id) ts S := by
  unfold run aft
  rw [← lim_shift (run_mono (.exit id)), ← lim_shift (aft_mono (.exit id))]
  rfl
theorem w_ret : run E fin st .ret ts S = aft E fin st .ret ts S := by
  unfold run aft
  rw [← lim_shift (run_mono .ret), ← lim_shift (aft_mono .ret)]
  rfl
theorem w_seq {a b : EC} : run E fin st (.seq a b) ts S = run E fin (.seq b :: st) a ts S := by
  unfold run
  rw [← lim_shift (run_mono _), ← lim_shift (run_mono a)]
  rfl
theorem w_block {id : Nat} {c : EC} : run E fin st (.block id c) ts S = run E fin (.block id :: st) c ts S := by
  unfold run
  rw [← lim_shift (run_mono _), ← lim_shift (run_mono c)]
  rfl
theorem w_cond {c : EOpd} {a b : EC} : run E fin st (.cond c a b) ts S = stepCw E fin st a b ts S (c.val E.G ts) := by
  have key : ∀ n, (lvl E (n + 1)).ev (.cond c a b) ts S (konN E fin (n + 1) st) = match c.val E.G ts with
      | some (.bool t) => if t then (lvl E (n + 1)).ev a ts S (konN E fin (n + 1) st) else (lvl E (n + 1)).ev b ts S (konN E fin (n + 1) st)
      | _ => none := fun n => rfl
  unfold run
  rw [← lim_shift (run_mono (.cond c a b)), lim_ext key]
  cases c.val E.G ts with
  | none => exact lim_const none
  | some v =>
    cases v with
    | bool t =>
      simp only [stepCw]
      cases t with
      | true => simp only [if_true]; exact lim_shift (run_mono a)
      | false => simp only [Bool.false_eq_true, if_false]; exact lim_shift (run_mono b)
    | _ => exact lim_const none
theorem lev_k (E : Env) : ∀ (n : Nat) (e : EC) (ts : Tmps) (S : St) (K K' : Kont (PV × St)) (x : PV × St), (∀ y ts S x, K y ts S = some x → K' y ts S = some x) → (lvl E n).ev e ts S K = some x → (lvl E n).ev e ts S K' = some x
  | 0, e, ts, S, K, K', x, hK, h => by simp [lvl] at h
  | n + 1, e, ts, S, K, K', x, hK, h => ev_mono (fun _ _ _ _ h => h) (fun e ts S K K' x hK h => lev_k E n e ts S K K' x hK h) e hK h
theorem w_loop {ks : Option (List Nat)} {c : EC} : run E fin st (.loop ks c) ts S = run E fin (.again (.loop ks c) :: st) c (sel ks ts) S := by
  unfold run
  rw [← lim_shift (run_mono (.loop ks c))]
  have key : ∀ n, (lvl E (n + 1)).ev (.loop ks c) ts S (konN E fin (n + 1) st) = (lvl E (n + 1)).ev c (sel ks ts) S (fun x ts S => match x with | .normal => (lvl E n).ev (.loop ks c) ts S (konN E fin (n + 1) st) | x => konN E fin (n + 1) st x ts S) := fun n => rfl
  refine lim_congr (run_mono _).shift (run_mono c) (fun n x h => ⟨n + 1, ?_⟩) (fun n x h => ⟨n, ?_⟩)
  · simp only [key] at h
    refine lev_k E (n + 1) c _ S _ _ x (fun y ts S x hx => ?_) h
    cases y with
    | normal => exact (lvl_succ E n).2 _ ts S _ _ x (fun _ _ _ _ h => h) hx
    | exit id => exact hx
    | ret => exact hx
  · simp only [key]
    refine (lvl_succ E n).2 c _ S _ _ x (fun y ts S x hx => ?_) h
    cases y with
    | normal => exact lev_k E n _ ts S _ _ x (konN_succ E fin n st) hx
    | exit id => exact konN_succ E fin n st _ ts S x hx
    | ret => exact konN_succ E fin n st _ ts S x hx

theorem cal_le (n : Nat) : CallLe (lvl E n).call (cal E) := fun f a S x h => (lim_some (cal_mono f a)).2 ⟨n, h⟩
theorem evOps_cal {G : Glob} : ∀ {l : List EI} {ts : Tmps} {S : St} {x : Tmps × St}, evOps G (cal E) l ts S = some x → ∃ n, evOps G (lvl E n).call l ts S = some x
  | [], ts, S, x, h => ⟨0, h⟩
  | i :: r, ts, S, x, h => by
    simp only [evOps] at h ⊢
    split at h
    · split at h
      · rename_i v S' he
        split at h
        · cases h
        · rename_i hq
          obtain ⟨n, hn⟩ := evOps_cal h
          have hm : ∃ m, evOp G (lvl E m).call ts S i.op = some (v, S') := by
            cases ho : i.op with
            | call f args =>
              rw [ho] at he
              simp only [evOp] at he ⊢
              split at he
              · exact (lim_some (cal_mono _ _)).1 he
              · cases he
            | _ => rw [ho] at he; exact ⟨0, he⟩
          obtain ⟨m, hm⟩ := hm
          have h1 : CallLe (lvl E n).call (lvl E (n + m)).call := fun _ _ _ _ h => call_mono (Nat.le_add_right _ _) h
          have h2 : CallLe (lvl E m).call (lvl E (n + m)).call := fun _ _ _ _ h => call_mono (Nat.le_add_left _ _) h
          refine ⟨n + m, ?_⟩
          rw [evOp_mono h2 hm]
          simp only
          rw [if_neg hq]
          exact evOps_mono h1 hn
      · cases h
    · exact evOps_cal h
    · cases h
theorem w_reg {id : Nat} {ops : List EI} {dr : Bool} {ks : Option (List Nat)} : run E fin st (.reg id ops dr ks) ts S = stepRw E fin st ks (evOps E.G (cal E) ops ts S) := by
  have key : ∀ n, (lvl E (n + 1)).ev (.reg id ops dr ks) ts S (konN E fin (n + 1) st) = match evOps E.G (lvl E n).call ops ts S with
      | some (ts', S') => konN E fin (n + 1) st .normal (sel ks ts') S'
      | none => none := fun n => rfl
  unfold run
  rw [← lim_shift (run_mono (.reg id ops dr ks)), lim_ext key]
  cases h : evOps E.G (cal E) ops ts S with
  | none =>
    have : ∀ n, evOps E.G (lvl E n).call ops ts S = none := fun n => by
      cases h1 : evOps E.G (lvl E n).call ops ts S with
      | none => rfl
      | some x => rw [evOps_mono (cal_le n) h1] at h; cases h
    simp only [this, stepRw]
    exact lim_const none
  | some x =>
    obtain ⟨ts', S'⟩ := x
    obtain ⟨N, hN⟩ := evOps_cal h
    simp only [stepRw, aft]
    have hall : ∀ n y, evOps E.G (lvl E n).call ops ts S = some y → y = (ts', S') := fun n y hy => by
      have := evOps_mono (cal_le n) hy; rw [h] at this; exact (Option.some.inj this).symm
    refine lim_congr (fun n x hx => ?_) (aft_mono .normal) (fun n x hx => ?_) (fun n x hx => ⟨n + N, ?_⟩)
    · have := (run_mono (E := E) (fin := fin) (st := st) (ts := ts) (S := S) (.reg id ops dr ks)) (n + 1) x (by simp only [key]; exact hx)
      simp only [key] at this; exact this
    · split at hx
      · rename_i a b hab
        have := hall n _ hab
        injection this with e1 e2; subst e1 e2
        exact ⟨n + 1, hx⟩
      · cases hx
    · rw [evOps_mono (fun _ _ _ _ h => call_mono (Nat.le_add_left N n) h) hN]
      exact (aft_mono .normal).le (by omega) hx

theorem w_call {f : FuncId} {fn : EFn} {args args' : List PV} (h : E.known f = none) (ht : E.tab f = some fn) (ha : askD args = some args') (hl : args.length = fn.np) (hn : fn.np ≤ fn.ntmps) :
    cal E f args S = run E (endF S fn.res) [] fn.body (frameOf 0 args') S := by
  unfold cal run
  rw [← lim_shift (cal_mono f args), ← finish_end]
  refine lim_ext fun n => ?_
  simp only [lvl, h, ht, hl, hn, and_self, if_true, ha, Option.bind_some]
  rfl
theorem w_known {f : FuncId} {F : List PV → St → Option (PV × St)} {args args' : List PV} (h : E.known f = some F) (ha : askD args = some args') : cal E f args S = F args' S := by
  unfold cal
  rw [← lim_shift (cal_mono f args)]
  simp only [lvl, h, ha, Option.bind_some]
  exact lim_const _
/-- A call hands over what is read alone. -/
theorem cal_ask {f : FuncId} {args args' : List PV} (ha : askD args = some args') (ha' : askD args' = some args') (hl : args'.length = args.length) : cal E f args S = cal E f args' S := by
  unfold cal
  rw [← lim_shift (cal_mono f args), ← lim_shift (cal_mono f args')]
  refine lim_ext fun n => ?_
  simp only [lvl, ha, ha', hl]
theorem cal_ev {f : FuncId} {args : List PV} {r : PV} {S' : St} (h : cal E f args S = some (r, S')) : Ev E f args S r S' := by
  obtain ⟨n, hn⟩ := (lim_some (cal_mono f args)).1 h
  exact ⟨n, fun m hm => call_mono hm hn⟩
theorem cal_at {n : Nat} {f : FuncId} {args : List PV} {x : PV × St} (h : (lvl E n).call f args S = some x) : cal E f args S = some x := (lim_some (cal_mono f args)).2 ⟨n, h⟩
theorem cal_ans {f : FuncId} {args : List PV} {r : PV} (h : Ans E f args r) : cal E f args S = some (r, S) := by
  obtain ⟨n, hn⟩ := h
  exact cal_at (hn S)

theorem a_nil_n : aft E fin [] .normal ts S = fin .normal ts S := by unfold aft; exact lim_const _
theorem a_nil_r : aft E fin [] .ret ts S = fin .ret ts S := by unfold aft; exact lim_const _
theorem a_seq_n {b : EC} : aft E fin (.seq b :: st) .normal ts S = run E fin st b ts S := rfl
theorem a_seq_e {b : EC} {id : Nat} : aft E fin (.seq b :: st) (.exit id) ts S = aft E fin st (.exit id) ts S := rfl
theorem a_seq_r {b : EC} : aft E fin (.seq b :: st) .ret ts S = aft E fin st .ret ts S := rfl
theorem a_again_n {b : EC} : aft E fin (.again b :: st) .normal ts S = run E fin st b ts S := rfl
theorem a_again_e {b : EC} {id : Nat} : aft E fin (.again b :: st) (.exit id) ts S = aft E fin st (.exit id) ts S := rfl
theorem a_again_r {b : EC} : aft E fin (.again b :: st) .ret ts S = aft E fin st .ret ts S := rfl
theorem a_block_n {id : Nat} : aft E fin (.block id :: st) .normal ts S = aft E fin st .normal ts S := rfl
theorem a_block_r {id : Nat} : aft E fin (.block id :: st) .ret ts S = aft E fin st .ret ts S := rfl
theorem a_block_e {id id' : Nat} : aft E fin (.block id :: st) (.exit id') ts S = if id' = id then aft E fin st .normal ts S else aft E fin st (.exit id') ts S := by
  unfold aft
  by_cases h : id' = id
  · simp only [konN, h, if_true]
  · simp only [konN, if_neg h]
theorem rw_some {ks : Option (List Nat)} : stepRw E fin st ks (some (ts, S)) = aft E fin st .normal (sel ks ts) S := rfl
theorem cw_true {a b : EC} : stepCw E fin st a b ts S (some (.bool true)) = run E fin st a ts S := by simp [stepCw]
theorem cw_false {a b : EC} : stepCw E fin st a b ts S (some (.bool false)) = run E fin st b ts S := by simp [stepCw]
theorem cw_bool {a b : EC} {t : Bool} : stepCw E fin st a b ts S (some (.bool t)) = if t = true then run E fin st a ts S else run E fin st b ts S := rfl
end
end Go.PE
