/-
  Where private objects stand does not matter: calls. Conditions: each law's own.
-/
import Derived.Test.YtaofeleeinjclaaDoorPE20
namespace Go.PE
open Go Go.RowKit
set_option linter.unusedVariables false
set_option linter.unusedSimpArgs false

section
variable {B : St}
mutual
theorem sealW_mv {n0 n1 : Nat} {d d' : Nat → Nat → Option PV} (hn : ∀ l, B.obs.length + l < n1 ↔ l < n0) (hd : ∀ l o, d' (B.obs.length + l) o = (d l o).map (mB B)) : ∀ p, sealW n1 d' (mB B p) = (sealW n0 d p).map (mB B)
  | .ref l o => by
    simp only [mB, mvV, sealW, hn]
    split
    · rfl
    · exact hd l o
  | .at_ cs => by
    simp only [mB, mvV, sealW]; rw [← mBL, sealL_mv hn hd cs]
    cases sealL n0 d cs <;> rfl
  | .sl g xs => by
    simp only [mB, mvV, sealW]; rw [← mBLL, sealLL_mv hn hd xs]
    cases sealLL n0 d xs <;> rfl
  | .row g xs => by
    simp only [mB, mvV, sealW]; rw [← mBLL, sealLL_mv hn hd xs]
    cases sealLL n0 d xs <;> rfl
  | .fn f x y => by
    simp only [mB, mvV, sealW]; rw [← mBL, ← mBL, sealL_mv hn hd x, sealL_mv hn hd y]
    cases sealL n0 d x <;> cases sealL n0 d y <;> rfl
  | .ifc t v => by
    simp only [mB, mvV, sealW]; rw [← mB, sealW_mv hn hd v]
    cases sealW n0 d v <;> rfl
  | .agg cs => by
    simp only [mB, mvV, sealW]; rw [← mBL, sealL_mv hn hd cs]
    cases sealL n0 d cs <;> rfl
  | .tup cs => by
    simp only [mB, mvV, sealW]; rw [← mBL, sealL_mv hn hd cs]
    cases sealL n0 d cs <;> rfl
  | .bool _ => by simp only [mB, mvV, sealW, Option.map_some]
  | .int _ _ => by simp only [mB, mvV, sealW, Option.map_some]
  | .str _ => by simp only [mB, mvV, sealW, Option.map_some]
  | .nilp => by simp only [mB, mvV, sealW, Option.map_some]
  | .nilfn => by simp only [mB, mvV, sealW, Option.map_some]
  | .nilifc => by simp only [mB, mvV, sealW, Option.map_some]
theorem sealL_mv {n0 n1 : Nat} {d d' : Nat → Nat → Option PV} (hn : ∀ l, B.obs.length + l < n1 ↔ l < n0) (hd : ∀ l o, d' (B.obs.length + l) o = (d l o).map (mB B)) : ∀ l, sealL n1 d' (mBL B l) = (sealL n0 d l).map (mBL B)
  | [] => by simp only [mBL, mvL, sealL, Option.map_some]
  | x :: l => by
    simp only [mBL, mvL, sealL]; rw [← mB, ← mBL, sealW_mv hn hd x, sealL_mv hn hd l]
    cases sealW n0 d x with
    | none => rfl
    | some y => cases sealL n0 d l <;> rfl
theorem sealLL_mv {n0 n1 : Nat} {d d' : Nat → Nat → Option PV} (hn : ∀ l, B.obs.length + l < n1 ↔ l < n0) (hd : ∀ l o, d' (B.obs.length + l) o = (d l o).map (mB B)) : ∀ l, sealLL n1 d' (mBLL B l) = (sealLL n0 d l).map (mBLL B)
  | [] => by simp only [mBLL, mvLL, sealLL, Option.map_some]
  | x :: l => by
    simp only [mBLL, mvLL, sealLL]; rw [← mBL, ← mBLL, sealL_mv hn hd x, sealLL_mv hn hd l]
    cases sealL n0 d x with
    | none => rfl
    | some y => cases sealLL n0 d l <;> rfl
end
theorem drD_mv (n0 : Nat) (S : St) : ∀ d l o, drD (B.obs.length + n0) (mS B S) d (B.obs.length + l) o = (drD n0 S d l o).map (mB B)
  | 0, l, o => rfl
  | d + 1, l, o => by
    simp only [drD, mS_cells]
    cases S.cells l with
    | none => rfl
    | some cs =>
      simp only [Option.map_some, mBL_len, mBL_drop]
      split
      · rw [sealL_mv (n0 := n0) (fun l => by omega) (drD_mv n0 S d)]
        cases sealL n0 (drD n0 S d) (cs.drop o) <;> rfl
      · rfl
theorem close_mv (S0 S : St) (v : PV) : close (mS B S0) (mS B S) (mB B v) = (mB B (close S0 S v).1, mS B (close S0 S v).2) := by
  have h1 : (beqO ((mS B S).obs.take (mS B S0).obs.length) (mS B S0).obs) = beqO (S.obs.take S0.obs.length) S0.obs := by
    rw [mS_len]
    have : (mS B S).obs.take (B.obs.length + S0.obs.length) = B.obs ++ (S.obs.take S0.obs.length).map (mBO B) := by
      simp only [mS]
      rw [List.take_length_add_append, List.map_take]
    rw [this]
    simp only [mS]
    rw [beqO_app, mvO_beqO]
  have h2 : ((mS B S).own.take (mS B S0).own.length == (mS B S0).own) = (S.own.take S0.own.length == S0.own) := by
    rw [mS_olen]
    have : (mS B S).own.take (B.own.length + S0.own.length) = B.own ++ S.own.take S0.own.length := by
      simp only [mS]
      rw [List.take_length_add_append]
    rw [this]
    simp only [mS]
    apply Bool.eq_iff_iff.2
    simp
  unfold close
  rw [h1, h2]
  split
  · rw [mS_len, sealW_mv (n0 := S0.obs.length) (fun l => by omega) (drD_mv S0.obs.length S 40)]
    cases sealW S0.obs.length (drD S0.obs.length S 40) v <;> rfl
  · rfl
theorem askD_mv (l : List PV) : askD (mBL B l) = (askD l).map (mBL B) :=
  sealL_mv (fun l => by omega) (fun l o => rfl) l
theorem frameOf_mv : ∀ (i : Nat) (l : List PV), frameOf i (mBL B l) = mT B (frameOf i l)
  | i, [] => rfl
  | i, x :: l => by
    show (i, some (mB B x)) :: frameOf (i + 1) (mBL B l) = _
    rw [frameOf_mv (i + 1) l]; rfl
theorem resVs_mv {ts : Tmps} {S : St} : ∀ {l : List ERes}, resVs (mT B ts) (mS B S) l = (resVs ts S l).map (mBL B)
  | [] => rfl
  | r :: l => by
    have h1 : resV (mT B ts) (mS B S) r = (resV ts S r).map (mB B) := by
      cases r with
      | tmp t => exact mT_look B ts t
      | cell a n =>
        simp only [resV, mT_look]
        cases look ts a with
        | none => rfl
        | some p =>
          simp only [Option.map_some, Option.bind_some, derefP_mv]
          cases derefP S p with
          | none => rfl
          | some cs => simp only [Option.map_some, Option.bind_some, rowOf_mv]
    simp only [resVs, h1, resVs_mv (l := l)]
    cases resV ts S r with
    | none => rfl
    | some v => cases resVs ts S l <;> rfl
theorem oneOrTup_mv (l : List PV) : oneOrTup (mBL B l) = mB B (oneOrTup l) := by
  match l with
  | [] => rfl
  | [v] => rfl
  | u :: v :: l => rfl
end

structure EnvFree (E : Env) : Prop where
  glob : E.G.Free
  tab : ∀ f c, E.tab f = some c → c.body.free = true
  known : ∀ B f F, E.known f = some F → ∀ args S r S', F args S = some (r, S') → F (mBL B args) (mS B S) = some (mB B r, mS B S')

def KLe (B : St) (K K' : Kont (PV × St)) : Prop := ∀ y ts S r S', K y ts S = some (r, S') → K' y (mT B ts) (mS B S) = some (mB B r, mS B S')
def EvMv (B : St) (p : EC → Tmps → St → Kont (PV × St) → Option (PV × St)) : Prop :=
  ∀ e ts S K K' r S', e.free = true → KLe B K K' → p e ts S K = some (r, S') → p e (mT B ts) (mS B S) K' = some (mB B r, mS B S')

theorem ev_mv {B : St} {G : Glob} (hG : G.Free) {c : CallFn} (hc : CallMv B c) {lp : EC → Tmps → St → Kont (PV × St) → Option (PV × St)} (hl : EvMv B lp) :
    ∀ (e : EC) {ts : Tmps} {S : St} {K K' : Kont (PV × St)} {r : PV} {S' : St}, e.free = true → KLe B K K' → ev G c lp e ts S K = some (r, S') → ev G c lp e (mT B ts) (mS B S) K' = some (mB B r, mS B S') := by
  intro e
  induction e with
  | skip => intro ts S K K' r S' hf hK hv; exact hK _ _ _ _ _ hv
  | reg id ops dr ks =>
    intro ts S K K' r S' hf hK hv
    simp only [ev] at hv ⊢
    split at hv
    · rename_i ts' S1 he
      rw [evOps_mv hG hc hf he]
      have := hK _ _ _ _ _ hv
      simp only
      rw [mT_sel]; exact this
    · cases hv
  | seq a b iha ihb =>
    intro ts S K K' r S' hf hK hv
    simp only [EC.free, Bool.and_eq_true] at hf
    simp only [ev] at hv ⊢
    refine iha hf.1 ?_ hv
    intro y ts S r S' hy
    cases y with
    | normal => exact ihb hf.2 hK hy
    | exit id => exact hK _ _ _ _ _ hy
    | ret => exact hK _ _ _ _ _ hy
  | cond co a b iha ihb =>
    intro ts S K K' r S' hf hK hv
    simp only [EC.free, Bool.and_eq_true] at hf
    simp only [ev] at hv ⊢
    rw [val_mv hG hf.1]
    split at hv
    · rename_i t ht
      simp only [ht, Option.map_some, mB, mvV]
      cases t with
      | true => exact iha hf.2.1 hK hv
      | false => exact ihb hf.2.2 hK hv
    · cases hv
  | block id a iha =>
    intro ts S K K' r S' hf hK hv
    simp only [ev] at hv ⊢
    refine iha hf ?_ hv
    intro y ts S r S' hy
    cases y with
    | normal => exact hK _ _ _ _ _ hy
    | exit id' =>
      simp only at hy ⊢
      split at hy
      · rename_i he; rw [if_pos he]; exact hK _ _ _ _ _ hy
      · rename_i he; rw [if_neg he]; exact hK _ _ _ _ _ hy
    | ret => exact hK _ _ _ _ _ hy
  | loop ks a iha =>
    intro ts S K K' r S' hf hK hv
    simp only [ev] at hv ⊢
    rw [mT_sel]
    refine iha hf ?_ hv
    intro y ts S r S' hy
    cases y with
    | normal => exact hl _ _ _ _ _ _ _ hf hK hy
    | exit id => exact hK _ _ _ _ _ hy
    | ret => exact hK _ _ _ _ _ hy
  | exit id => intro ts S K K' r S' hf hK hv; exact hK _ _ _ _ _ hv
  | ret => intro ts S K K' r S' hf hK hv; exact hK _ _ _ _ _ hv

theorem lvl_mv {E : Env} (hE : EnvFree E) (B : St) : ∀ n, CallMv B (lvl E n).call ∧ EvMv B (lvl E n).ev
  | 0 => ⟨fun f a S r S' h => by simp [lvl] at h, fun e ts S K K' r S' hf hK h => by simp [lvl] at h⟩
  | n + 1 => by
    obtain ⟨h1, h2⟩ := lvl_mv hE B n
    refine ⟨fun f a S r S' h => ?_, fun e ts S K K' r S' hf hK h => ev_mv hE.glob h1 h2 e hf hK h⟩
    rw [show ∀ a S, (lvl E (n + 1)).call f a S = (match E.known f with
      | some F => (askD a).bind fun a => F a S
      | none => match E.tab f with
        | some fn => if a.length = fn.np ∧ fn.np ≤ fn.ntmps then (askD a).bind fun a => (lvl E n).ev fn.body (frameOf 0 a) S (finish fn S) else none
        | none => none) from fun _ _ => rfl] at h ⊢
    cases hk : E.known f with
    | some F =>
      rw [hk] at h
      simp only [Option.bind_eq_some_iff] at h ⊢
      obtain ⟨a', ha, hF⟩ := h
      exact ⟨mBL B a', by rw [askD_mv, ha]; rfl, hE.known B f F hk _ _ _ _ hF⟩
    | none =>
      rw [hk] at h
      cases ht : E.tab f with
      | none => rw [ht] at h; cases h
      | some fn =>
        rw [ht] at h
        simp only at h ⊢
        rw [mBL_len]
        split at h
        · rename_i hc
          rw [if_pos hc]
          simp only [Option.bind_eq_some_iff] at h ⊢
          obtain ⟨a', ha, hv⟩ := h
          refine ⟨mBL B a', by rw [askD_mv, ha]; rfl, ?_⟩
          rw [frameOf_mv]
          refine h2 _ _ _ _ _ _ _ (hE.tab f fn ht) ?_ hv
          intro y ts S2 r S2' hy
          have hh : ∀ y, (y = .normal ∨ y = .ret) → finish fn S y ts S2 = some (r, S2') → finish fn (mS B S) y (mT B ts) (mS B S2) = some (mB B r, mS B S2') := by
            intro y hy0 hy
            have hy : ((resVs ts S2 fn.res).map fun vs => close S S2 (oneOrTup vs)) = some (r, S2') := by
              rcases hy0 with rfl | rfl <;> exact hy
            have goal : ((resVs (mT B ts) (mS B S2) fn.res).map fun vs => close (mS B S) (mS B S2) (oneOrTup vs)) = some (mB B r, mS B S2') := by
              rw [resVs_mv]
              simp only [Option.map_eq_some_iff] at hy
              obtain ⟨vs, hvs, e⟩ := hy
              rw [hvs]
              simp only [Option.map_some]
              rw [oneOrTup_mv, close_mv, e]
            rcases hy0 with rfl | rfl <;> exact goal
          cases y with
          | normal => exact hh _ (.inl rfl) hy
          | ret => exact hh _ (.inr rfl) hy
          | exit id => simp [finish] at hy
        · cases h

theorem cal_mv {E : Env} (hE : EnvFree E) (B : St) {f : FuncId} {args : List PV} {S S' : St} {r : PV} (h : cal E f args S = some (r, S')) : cal E f (mBL B args) (mS B S) = some (mB B r, mS B S') := by
  obtain ⟨n, hn⟩ := (lim_some (cal_mono f args)).1 h
  exact cal_at ((lvl_mv hE B n).1 _ _ _ _ _ hn)
/-- A call that hands no private object over or back: settled where there is none, settled anywhere. -/
theorem cal_any {E : Env} (hE : EnvFree E) {f : FuncId} {args : List PV} {r : PV} (h : cal E f args .none = some (r, .none)) (ha : freeL args = true) (hr : r.free = true) (S : St) : cal E f args S = some (r, S) := by
  have := cal_mv hE S h
  have e : mS S .none = S := by simp [mS, St.none]
  rw [e, mBL, mv_freeL _ _ _ ha, mB, mv_free _ _ _ hr] at this
  exact this
/-- Likewise, settled by evaluation. -/
theorem cal_closed {E : Env} (hE : EnvFree E) {n : Nat} {f : FuncId} {args : List PV} {r : PV} (h : callIs E n f args r = true) (ha : freeL args = true) (hr : r.free = true) (S : St) : cal E f args S = some (r, S) :=
  cal_any hE (cal_at (callIs_eq h)) ha hr S
theorem cal_tag1 {E : Env} {S : St} {f : FuncId} {g : Tag} {xs : List (List PV)} {x : Option (PV × St)} (h : cal E f [.sl .ro xs] S = x) (hp : PlainLL xs) : cal E f [.sl g xs] S = x := by
  rw [← h]
  have e : ∀ g, askD [.sl g xs] = some [.sl .ro xs] := fun g => by simp only [askD, sealL, sealW, hp _ _, Option.map_some, Option.bind_some]
  exact cal_ask (e g) (e .ro) rfl
theorem cal_tag2 {E : Env} {S : St} {f : FuncId} {g : Tag} {xs : List (List PV)} {ys : List PV} {x : Option (PV × St)} (h : cal E f (.sl .ro xs :: ys) S = x) (hp : PlainLL xs) (hy : PlainL ys) : cal E f (.sl g xs :: ys) S = x := by
  rw [← h]
  have e : ∀ g, askD (.sl g xs :: ys) = some (.sl .ro xs :: ys) := fun g => by simp only [askD, sealL, sealW, hp _ _, hy _ _, Option.map_some, Option.bind_some]
  exact cal_ask (e g) (e .ro) rfl
theorem none_obs : St.none.obs = [] := rfl
theorem none_own : St.none.own = [] := rfl
/-- A call that began without private objects ends so, where what it hands back can be read. -/
theorem close_none (S : St) (v : PV) : close .none S v = match sealW 0 (drD 0 S 40) v with | some v' => (v', .none) | none => (v, S) := by
  unfold close
  rw [if_pos (by simp [none_obs, none_own, beqO])]
  rfl
section
variable {G : Glob} {call : CallFn} {ts : Tmps} {S : St} {d : Option Nat} {o : EOp} {q : Bool} {r : List EI}
theorem guardO_t {t : Bool} : guardO G call d o true q r ts S (some (.bool t)) = if t = true then evOps G call (⟨d, o, none, q⟩ :: r) ts S else evOps G call r (put ts d (some .un)) S := by
  cases t <;> simp [guardO]
theorem guardO_f {t : Bool} : guardO G call d o false q r ts S (some (.bool t)) = if t = true then evOps G call r (put ts d (some .un)) S else evOps G call (⟨d, o, none, q⟩ :: r) ts S := by
  cases t <;> simp [guardO]
end
theorem sel_look (ts : Tmps) : ∀ (ks : List Nat) (d : Nat), d ∈ ks → look (ks.map fun k => (k, look ts k)) d = look ts d
  | k :: ks, d, h => by
    simp only [List.map_cons, look]
    split
    · rename_i e; rw [e]
    · rename_i e
      rcases List.mem_cons.1 h with h | h
      · exact absurd h e
      · exact sel_look ts ks d h
theorem sel_sel (ts : Tmps) (ks : List Nat) : sel (some ks) (sel (some ks) ts) = sel (some ks) ts := by
  simp only [sel]
  exact List.map_congr_left fun k hk => by rw [sel_look ts ks k hk]
theorem a_again_s {E : Env} {fin : Kont (PV × St)} {st : List Fw} {ts : Tmps} {S : St} {ks : List Nat} {b : EC} : aft E fin (.again (.loop (some ks) b) :: st) .normal ts S = run E fin st (.loop (some ks) b) (sel (some ks) ts) S := by
  rw [a_again_n, w_loop, w_loop, sel_sel]
theorem w_plain {E : Env} {S : St} {f : FuncId} {fn : EFn} {args : List PV} (h : E.known f = none) (ht : E.tab f = some fn) (ha : askD args = some args) (hl : args.length = fn.np) (hn : fn.np ≤ fn.ntmps) :
    cal E f args S = run E (endF S fn.res) [] fn.body (frameOf 0 args) S := w_call h ht ha hl hn
end Go.PE
