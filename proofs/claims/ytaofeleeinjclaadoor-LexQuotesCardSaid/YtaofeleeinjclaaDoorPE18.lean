/-
  More fuel does no harm; closed calls are settled by evaluation. Conditions: each law's own.
-/
import Derived.Test.YtaofeleeinjclaaDoorPE17
namespace Go.PE
open Go Go.RowKit
set_option linter.unusedVariables false
set_option linter.unusedSimpArgs false

def CallLe (c d : CallFn) : Prop := ∀ f a S x, c f a S = some x → d f a S = some x

theorem evOp_mono {G : Glob} {c d : CallFn} (h : CallLe c d) {ts : Tmps} {S : St} {e : EOp} {x : PV × St} (hv : evOp G c ts S e = some x) : evOp G d ts S e = some x := by
  cases e with
  | call f args =>
    simp only [evOp] at hv ⊢
    split at hv
    · rename_i g first caps vs h1 h2
      exact h _ _ _ _ hv
    · cases hv
  | _ => exact hv

theorem evOps_mono {G : Glob} {c d : CallFn} (h : CallLe c d) : ∀ {l : List EI} {ts : Tmps} {S : St} {x : Tmps × St}, evOps G c l ts S = some x → evOps G d l ts S = some x
  | [], ts, S, x, hv => hv
  | i :: r, ts, S, x, hv => by
    simp only [evOps] at hv ⊢
    split at hv
    · split at hv
      · rename_i v S' he
        rw [evOp_mono h he]
        simp only
        split at hv
        · cases hv
        · rename_i hq
          rw [if_neg hq]
          exact evOps_mono h hv
      · cases hv
    · exact evOps_mono h hv
    · cases hv

theorem ev_mono {α : Type} {G : Glob} {c d : CallFn} (h : CallLe c d) {lp lq : EC → Tmps → St → Kont α → Option α}
    (hl : ∀ e ts S K K' x, (∀ y ts S x, K y ts S = some x → K' y ts S = some x) → lp e ts S K = some x → lq e ts S K' = some x) :
    ∀ (e : EC) {ts : Tmps} {S : St} {K K' : Kont α} {x : α}, (∀ y ts S x, K y ts S = some x → K' y ts S = some x) → ev G c lp e ts S K = some x → ev G d lq e ts S K' = some x := by
  intro e
  induction e with
  | skip => intro ts S K K' x hK hv; exact hK _ _ _ _ hv
  | reg id ops dr ks =>
    intro ts S K K' x hK hv
    simp only [ev] at hv ⊢
    split at hv
    · rename_i ts' S' he
      rw [evOps_mono h he]
      exact hK _ _ _ _ hv
    · cases hv
  | seq a b iha ihb =>
    intro ts S K K' x hK hv
    simp only [ev] at hv ⊢
    refine iha ?_ hv
    intro y ts S x hy
    cases y with
    | normal => exact ihb hK hy
    | exit id => exact hK _ _ _ _ hy
    | ret => exact hK _ _ _ _ hy
  | cond co a b iha ihb =>
    intro ts S K K' x hK hv
    simp only [ev] at hv ⊢
    split at hv
    · rename_i t ht
      cases t with
      | true => exact iha hK hv
      | false => exact ihb hK hv
    · cases hv
  | block id a iha =>
    intro ts S K K' x hK hv
    simp only [ev] at hv ⊢
    refine iha ?_ hv
    intro y ts S x hy
    cases y with
    | normal => exact hK _ _ _ _ hy
    | exit id' =>
      simp only at hy ⊢
      split at hy
      · rename_i he; rw [if_pos he]; exact hK _ _ _ _ hy
      · rename_i he; rw [if_neg he]; exact hK _ _ _ _ hy
    | ret => exact hK _ _ _ _ hy
  | loop ks a iha =>
    intro ts S K K' x hK hv
    simp only [ev] at hv ⊢
    refine iha ?_ hv
    intro y ts S x hy
    cases y with
    | normal => exact hl _ _ _ _ _ _ hK hy
    | exit id => exact hK _ _ _ _ hy
    | ret => exact hK _ _ _ _ hy
  | exit id => intro ts S K K' x hK hv; exact hK _ _ _ _ hv
  | ret => intro ts S K K' x hK hv; exact hK _ _ _ _ hv

def EvLe (p q : EC → Tmps → St → Kont (PV × St) → Option (PV × St)) : Prop :=
  ∀ e ts S K K' x, (∀ y ts S x, K y ts S = some x → K' y ts S = some x) → p e ts S K = some x → q e ts S K' = some x

theorem lvl_succ (E : Env) : ∀ n, CallLe (lvl E n).call (lvl E (n + 1)).call ∧ EvLe (lvl E n).ev (lvl E (n + 1)).ev
  | 0 => ⟨fun f a S x h => by simp [lvl] at h, fun e ts S K K' x hK h => by simp [lvl] at h⟩
  | n + 1 => by
    obtain ⟨h1, h2⟩ := lvl_succ E n
    refine ⟨fun f a S x h => ?_, fun e ts S K K' x hK h => ?_⟩
    · rw [show (lvl E (n + 1)).call f a S = (match E.known f with
        | some F => (askD a).bind fun a => F a S
        | none => match E.tab f with
          | some fn => if a.length = fn.np ∧ fn.np ≤ fn.ntmps then (askD a).bind fun a => (lvl E n).ev fn.body (frameOf 0 a) S (finish fn S) else none
          | none => none) from rfl] at h
      rw [show (lvl E (n + 1 + 1)).call f a S = (match E.known f with
        | some F => (askD a).bind fun a => F a S
        | none => match E.tab f with
          | some fn => if a.length = fn.np ∧ fn.np ≤ fn.ntmps then (askD a).bind fun a => (lvl E (n + 1)).ev fn.body (frameOf 0 a) S (finish fn S) else none
          | none => none) from rfl]
      cases hk : E.known f with
      | some F => rw [hk] at h; exact h
      | none =>
        rw [hk] at h
        cases ht : E.tab f with
        | none => rw [ht] at h; cases h
        | some fn =>
          rw [ht] at h
          simp only at h ⊢
          split at h
          · rename_i hc
            rw [if_pos hc]
            simp only [Option.bind_eq_some_iff] at h ⊢
            obtain ⟨a', ha, hv⟩ := h
            exact ⟨a', ha, h2 _ _ _ _ _ _ (fun _ _ _ _ h => h) hv⟩
          · cases h
    · exact ev_mono h1 h2 e hK h

theorem call_mono {E : Env} {n m : Nat} (hm : n ≤ m) {f : FuncId} {a : List PV} {S : St} {x : PV × St} (h : (lvl E n).call f a S = some x) : (lvl E m).call f a S = some x := by
  induction hm with
  | refl => exact h
  | step _ ih => exact (lvl_succ E _).1 _ _ _ _ ih
theorem lev_mono {E : Env} {n m : Nat} (hm : n ≤ m) {e : EC} {ts : Tmps} {S : St} {K : Kont (PV × St)} {x : PV × St} (h : (lvl E n).ev e ts S K = some x) : (lvl E m).ev e ts S K = some x := by
  induction hm with
  | refl => exact h
  | step _ ih => exact (lvl_succ E _).2 _ _ _ _ _ _ (fun _ _ _ _ h => h) ih

/-- Function f answers r, whatever is private, and turns nothing. -/
def Ans (E : Env) (f : FuncId) (args : List PV) (r : PV) : Prop := ∃ N, ∀ S, (lvl E N).call f args S = some (r, S)
theorem Ans.le {E : Env} {f : FuncId} {args : List PV} {r : PV} (h : Ans E f args r) : ∃ N, ∀ n, N ≤ n → ∀ S, (lvl E n).call f args S = some (r, S) := by
  obtain ⟨N, h⟩ := h
  exact ⟨N, fun n hn S => call_mono hn (h S)⟩
theorem Ans.ev {E : Env} {f : FuncId} {args : List PV} {r : PV} (h : Ans E f args r) (S : St) : Ev E f args S r S := by
  obtain ⟨N, h⟩ := h.le
  exact ⟨N, fun n hn => h n hn S⟩

/-- What a closed call comes to, looked at. -/
def callIs (E : Env) (n : Nat) (f : FuncId) (args : List PV) (r : PV) : Bool :=
  match (lvl E n).call f args .none with
  | some (v, S) => v.beq r && S.beq .none
  | none => false
theorem callIs_eq {E : Env} {n : Nat} {f : FuncId} {args : List PV} {r : PV} (h : callIs E n f args r = true) : (lvl E n).call f args .none = some (r, .none) := by
  unfold callIs at h
  split at h
  · rename_i v S he
    simp only [Bool.and_eq_true] at h
    rw [he, beq_sound h.1, St.beq_sound h.2]
  · cases h

/-! ### numerals -/
def digF : Nat → Nat → List UInt8
  | 0, _ => []
  | f + 1, n => if n < 10 then [UInt8.ofNat (48 + n)] else digF f (n / 10) ++ [UInt8.ofNat (48 + n % 10)]
/-- A number's text. -/
def numL (n : Int) : List UInt8 := if n < 0 then 45 :: digF 20 n.natAbs else digF 20 n.toNat
def numS (n : Int) : ByteArray := ⟨(numL n).toArray⟩

/-! ### many at once -/
theorem all_le {α : Type} {p : Nat → α → Prop} (hp : ∀ n m x, n ≤ m → p n x → p m x) : ∀ {l : List α}, (∀ x ∈ l, ∃ n, p n x) → ∃ n, ∀ x ∈ l, p n x
  | [], _ => ⟨0, by simp⟩
  | a :: l, h => by
    obtain ⟨n, hn⟩ := h a (by simp)
    obtain ⟨m, hm⟩ := all_le hp (l := l) fun x hx => h x (by simp [hx])
    refine ⟨n + m, fun x hx => ?_⟩
    rcases List.mem_cons.1 hx with rfl | hx
    · exact hp n _ _ (by omega) hn
    · exact hp m _ _ (by omega) (hm x hx)

/-! ### tables of functions -/
def findE : List (Nat × EFn) → Nat → Option EFn
  | [], _ => none
  | (k, c) :: l, f => if f = k then some c else findE l f

def TabOk (P : Program) : List (Nat × EFn) → Prop
  | [] => True
  | (k, c) :: l => (∃ fn, P.funcs[k]? = some fn ∧ cFn P fn = some c.strip ∧ (fn.name == "runtime.NumGoroutine") = false) ∧ TabOk P l

theorem TabOk.find {P : Program} : ∀ {l : List (Nat × EFn)}, TabOk P l → ∀ f c, findE l f = some c → ∃ fn, P.funcs[f]? = some fn ∧ cFn P fn = some c.strip ∧ (fn.name == "runtime.NumGoroutine") = false
  | [], _, f, c, h => by cases h
  | (k, c') :: l, ht, f, c, h => by
    simp only [findE] at h
    split at h
    · rename_i e; subst e
      injection h with h; subst h
      exact ht.1
    · exact TabOk.find ht.2 f c h
end Go.PE
