/-
  Types as texts, by the program: shown. Conditions: each law's own (texts of at most 2^46 bytes).
-/
import Derived.Test.YtleggogbmklddaaGreatDoorF5
namespace Go.PE
open Go Go.RowKit Go.Proofs
set_option linter.unusedVariables false
set_option linter.unusedSimpArgs false
set_option maxRecDepth 100000

mutual
/-- A right type's text. -/
def shownT : GTy → ByteArray
  | .mk K N Name Labels Args => if K == 1 then ⟨#[73, 110, 116]⟩ else if K == 2 then ⟨#[66, 111, 111, 108]⟩ else if K == 3 then ⟨#[83, 116, 114, 105, 110, 103]⟩ else if K == 4 then ⟨#[84, 111, 112]⟩ else if K == 5 then ⟨#[63]⟩ else if K == 6 then Name
    else if K == 9 then ⟨#[35]⟩ ++ numS N else if K == 7 then funT Args else ⟨#[123]⟩ ++ txt (joinL [44, 32] (fieldsT Labels Args)) ++ ⟨#[125]⟩
/-- A function's text. -/
def funT : List GTy → ByteArray
  | a :: r => (if a.K == 7 then ⟨#[40]⟩ ++ shownT a ++ ⟨#[41]⟩ else shownT a) ++ ⟨#[32, 45, 62, 32]⟩ ++ resT r
  | [] => ⟨#[]⟩
def resT : List GTy → ByteArray
  | b :: _ => shownT b
  | [] => ⟨#[]⟩
def fieldsT : List ByteArray → List GTy → List ByteArray
  | ls, a :: r => (ls.headD ⟨#[]⟩ ++ ⟨#[58, 32]⟩ ++ shownT a) :: fieldsT ls.tail r
  | _, [] => []
end
def takenT (t : GTy) : ByteArray := if t.K == 7 then ⟨#[40]⟩ ++ shownT t ++ ⟨#[41]⟩ else shownT t
theorem shownT_eq (t : GTy) : shownT t = if t.K == 1 then ⟨#[73, 110, 116]⟩ else if t.K == 2 then ⟨#[66, 111, 111, 108]⟩ else if t.K == 3 then ⟨#[83, 116, 114, 105, 110, 103]⟩ else if t.K == 4 then ⟨#[84, 111, 112]⟩ else if t.K == 5 then ⟨#[63]⟩ else if t.K == 6 then t.Name
    else if t.K == 9 then ⟨#[35]⟩ ++ numS t.N else if t.K == 7 then funT t.Args else ⟨#[123]⟩ ++ txt (joinL [44, 32] (fieldsT t.Labels t.Args)) ++ ⟨#[125]⟩ := by cases t; rw [shownT]; rfl
theorem funT_two (a b : GTy) : funT [a, b] = takenT a ++ ⟨#[32, 45, 62, 32]⟩ ++ shownT b := by simp only [funT, resT, takenT]
theorem fieldsT_len : ∀ (ls : List ByteArray) (as_ : List GTy), (fieldsT ls as_).length = as_.length
  | ls, [] => by simp [fieldsT]
  | ls, a :: r => by simp [fieldsT, fieldsT_len ls.tail r]
theorem fieldsT_get : ∀ (ls : List ByteArray) (as_ : List GTy) (i : Nat) (l : ByteArray) (a : GTy), ls[i]? = some l → as_[i]? = some a → (fieldsT ls as_)[i]? = some (l ++ ⟨#[58, 32]⟩ ++ shownT a)
  | [], as_, i, l, a, h, _ => by simp at h
  | _, [], i, l, a, _, h => by simp at h
  | x :: ls, y :: as_, 0, l, a, h, k => by simp at h k; subst h k; simp [fieldsT]
  | x :: ls, y :: as_, i + 1, l, a, h, k => by
    simp only [List.getElem?_cons_succ] at h k
    simp only [fieldsT, List.tail_cons, List.getElem?_cons_succ]
    exact fieldsT_get ls as_ i l a h k
theorem joinR_mem {b : List UInt8} {t : ByteArray} : ∀ {ts : List ByteArray}, t ∈ ts → t.size ≤ (joinR b ts).length
  | s :: r, h => by
    simp only [joinR, List.length_append, size_data]
    rcases List.mem_cons.1 h with rfl | h
    · omega
    · have := joinR_mem (b := b) h; omega
theorem joinL_mem {b : List UInt8} {t : ByteArray} {ts : List ByteArray} (h : t ∈ ts) : t.size ≤ (joinL b ts).length := by
  match ts, h with
  | s :: r, h =>
    simp only [joinL, List.length_append, size_data]
    rcases List.mem_cons.1 h with rfl | h
    · omega
    · have := joinR_mem (b := b) h; omega
section
variable {ot : TypeId} {oz : EP}
theorem taken_eq (t : GTy) (hz : (takenT t).size ≤ 70368744177664) (h : ∀ S, cal (env ot oz) 66 [.agg (rTy t)] S = some (.str (shownT t), S)) (S : St) : cal (env ot oz) 108 [.agg (rTy t)] S = some (.str (takenT t), S) := by
  by_cases h7 : t.K = 7
  · have e : takenT t = ⟨#[40]⟩ ++ shownT t ++ ⟨#[41]⟩ := by unfold takenT; rw [if_pos (by simp [h7])]
    rw [e, app_size, app_size] at hz
    have z1 := addS (a := ⟨#[40]⟩) (b := shownT t) (by omega)
    have z2 := addS (a := ⟨#[40]⟩ ++ shownT t) (b := ⟨#[41]⟩) (by rw [app_size]; omega)
    (rw [w_plain (fn := c108) rfl rfl (by simp only [go_sem, h, h7, ↓z1, ↓z2, e]) rfl (by decide)]; simp only [c108, c108_b, go_sem, h, h7, ↓z1, ↓z2, e]; repeat' (first | (rw [guardO_t]; split <;> rename_i h <;> (try rw [Bool.not_eq_true] at h) <;> (try simp only [go_sem, h, h7, ↓z1, ↓z2, e, *])) | (rw [guardO_f]; split <;> rename_i h <;> (try rw [Bool.not_eq_true] at h) <;> (try simp only [go_sem, h, h7, ↓z1, ↓z2, e, *])) | (rw [cw_bool]; split <;> rename_i h <;> (try rw [Bool.not_eq_true] at h) <;> (try simp only [go_sem, h, h7, ↓z1, ↓z2, e, *]))))
  · have e : takenT t = shownT t := by unfold takenT; rw [if_neg (by simpa using h7)]
    have h7 : (t.K == 7) = false := by simpa using h7
    (rw [w_plain (fn := c108) rfl rfl (by simp only [go_sem, h, h7, e]) rfl (by decide)]; simp only [c108, c108_b, go_sem, h, h7, e]; repeat' (first | (rw [guardO_t]; split <;> rename_i h <;> (try rw [Bool.not_eq_true] at h) <;> (try simp only [go_sem, h, h7, e, *])) | (rw [guardO_f]; split <;> rename_i h <;> (try rw [Bool.not_eq_true] at h) <;> (try simp only [go_sem, h, h7, e, *])) | (rw [cw_bool]; split <;> rename_i h <;> (try rw [Bool.not_eq_true] at h) <;> (try simp only [go_sem, h, h7, e, *]))))
theorem right_args {t : GTy} (h : rightT t = true) : ∀ a ∈ t.Args, rightT a = true := by
  rw [rightT_eq, Bool.and_eq_true, rightTs_any] at h
  intro a ha
  have := h.1
  simp only [Bool.not_eq_true', List.any_eq_false] at this
  simpa using this a ha
theorem shown_eq : ∀ (t : GTy), OkTy t → rightT t = true → (shownT t).size ≤ 70368744177664 → ∀ S, cal (env ot oz) 66 [.agg (rTy t)] S = some (.str (shownT t), S) := by
  refine GTy.ind fun t ih ok hr hz S => ?_
  have hA : Short t.Args.length ∧ (∀ x ∈ t.Args, OkTy x) ∧ Short t.Labels.length ∧ In64 t.N := by cases ok; exact ⟨by assumption, by assumption, (by assumption : _ ∧ _).1, by assumption⟩
  have hra := right_args hr
  have hh : headT t = true := by rw [rightT_eq, Bool.and_eq_true] at hr; exact hr.2
  have e := shownT_eq t
  by_cases h7 : t.K = 7
  · have h2 : t.Args.length = 2 := by
      unfold headT at hh
      simp [h7] at hh; omega
    obtain ⟨a, b, hab⟩ : ∃ a b, t.Args = [a, b] := by
      match hq : t.Args, h2 with
      | [a, b], _ => exact ⟨a, b, rfl⟩
    have e2 : shownT t = takenT a ++ ⟨#[32, 45, 62, 32]⟩ ++ shownT b := by rw [e, ← funT_two, ← hab]; simp [h7]
    rw [e2, app_size, app_size] at hz
    have ha : a ∈ t.Args := by rw [hab]; simp
    have hb : b ∈ t.Args := by rw [hab]; simp
    have sa : (shownT a).size ≤ (takenT a).size := by unfold takenT; split <;> simp [app_size] <;> omega
    have ca := taken_eq (ot := ot) (oz := oz) a (by omega) (ih a ha (hA.2.1 a ha) (hra a ha) (by omega))
    have cb := ih b hb (hA.2.1 b hb) (hra b hb) (by omega)
    have z1 := addS (a := takenT a) (b := ⟨#[32, 45, 62, 32]⟩) (by omega)
    have z2 := addS (a := takenT a ++ ⟨#[32, 45, 62, 32]⟩) (b := shownT b) (by rw [app_size]; omega)
    (rw [w_plain (fn := c66) rfl rfl (by simp only [go_sem, h7, hab, ca, cb, ↓z1, ↓z2, e2]) rfl (by decide)]; simp only [c66, c66_b, go_sem, h7, hab, ca, cb, ↓z1, ↓z2, e2]; repeat' (first | (rw [guardO_t]; split <;> rename_i h <;> (try rw [Bool.not_eq_true] at h) <;> (try simp only [go_sem, h7, hab, ca, cb, ↓z1, ↓z2, e2, *])) | (rw [guardO_f]; split <;> rename_i h <;> (try rw [Bool.not_eq_true] at h) <;> (try simp only [go_sem, h7, hab, ca, cb, ↓z1, ↓z2, e2, *])) | (rw [cw_bool]; split <;> rename_i h <;> (try rw [Bool.not_eq_true] at h) <;> (try simp only [go_sem, h7, hab, ca, cb, ↓z1, ↓z2, e2, *]))))
  · by_cases h8 : t.K = 8
    · have e2 : shownT t = ⟨#[123]⟩ ++ txt (joinL [44, 32] (fieldsT t.Labels t.Args)) ++ ⟨#[125]⟩ := by rw [e]; simp [h8]
      rw [e2, app_size, app_size, txt_size] at hz
      have hL : t.Labels.length = t.Args.length := by
        unfold headT at hh
        simp [h8] at hh; omega
      have c1 : ∀ (i : Nat) a x, t.Args[i]? = some a → (fieldsT t.Labels t.Args)[i]? = some x → ∀ S, cal (env ot oz) 110 ([] ++ [.int .i64 (i : Int), .agg (rTy a)] ++ [.at_ (rTy t)]) S = some (.str x, S) := by
        intro i a x ha hx S
        have hi : i < t.Labels.length := by rw [hL]; exact (List.getElem?_eq_some_iff.1 ha).1
        have hl : t.Labels[i]? = some t.Labels[i] := List.getElem?_eq_getElem hi
        rw [fieldsT_get _ _ i _ a hl ha] at hx
        injection hx with hx
        have hm := joinL_mem (b := [44, 32]) (mem_of_get (fieldsT_get _ _ i _ a hl ha))
        rw [app_size, app_size] at hm
        have am : a ∈ t.Args := mem_of_get ha
        have cs := ih a am (hA.2.1 a am) (hra a am) (by omega)
        generalize t.Labels[i] = lb at *
        have z1 := addS (a := lb) (b := ⟨#[58, 32]⟩) (by omega)
        have z2 := addS (a := lb ++ ⟨#[58, 32]⟩) (b := shownT a) (by rw [app_size]; omega)
        have hlt : (i : Int) < (t.Labels.length : Int) := by omega
        simp only [List.nil_append, List.cons_append]
        (rw [w_plain (fn := c110) rfl rfl (by simp only [go_sem, hl, hlt, cs, ↓z1, ↓z2, hx]) rfl (by decide)]; simp only [c110, c110_b, go_sem, hl, hlt, cs, ↓z1, ↓z2, hx]; repeat' (first | (rw [guardO_t]; split <;> rename_i h <;> (try rw [Bool.not_eq_true] at h) <;> (try simp only [go_sem, hl, hlt, cs, ↓z1, ↓z2, hx, *])) | (rw [guardO_f]; split <;> rename_i h <;> (try rw [Bool.not_eq_true] at h) <;> (try simp only [go_sem, hl, hlt, cs, ↓z1, ↓z2, hx, *])) | (rw [cw_bool]; split <;> rename_i h <;> (try rw [Bool.not_eq_true] at h) <;> (try simp only [go_sem, hl, hlt, cs, ↓z1, ↓z2, hx, *]))))
      have c := joined_eqTy (ot := ot) (oz := oz) t.Args (fieldsT t.Labels t.Args) hA.1 (fieldsT_len _ _) 110 [] [.at_ (rTy t)] (fun n d => by simp only [sealL, sealW, rTy_sl, Option.map_some, Option.bind_some]) (fun _ _ => rfl) (by omega) c1
      have z1 := addS (a := ⟨#[123]⟩) (b := txt (joinL [44, 32] (fieldsT t.Labels t.Args))) (by rw [txt_size]; omega)
      have z2 := addS (a := ⟨#[123]⟩ ++ txt (joinL [44, 32] (fieldsT t.Labels t.Args))) (b := ⟨#[125]⟩) (by rw [app_size, txt_size]; omega)
      (rw [w_plain (fn := c66) rfl rfl (by simp only [go_sem, h8, c, ↓z1, ↓z2, e2]) rfl (by decide)]; simp only [c66, c66_b, go_sem, h8, c, ↓z1, ↓z2, e2]; repeat' (first | (rw [guardO_t]; split <;> rename_i h <;> (try rw [Bool.not_eq_true] at h) <;> (try simp only [go_sem, h8, c, ↓z1, ↓z2, e2, *])) | (rw [guardO_f]; split <;> rename_i h <;> (try rw [Bool.not_eq_true] at h) <;> (try simp only [go_sem, h8, c, ↓z1, ↓z2, e2, *])) | (rw [cw_bool]; split <;> rename_i h <;> (try rw [Bool.not_eq_true] at h) <;> (try simp only [go_sem, h8, c, ↓z1, ↓z2, e2, *]))))
    · have it := fun S => cal_ans (itoa_ok (ot := ot) (oz := oz) t.N hA.2.2.2) (S := S)
      have nz : (numS t.N).size ≤ 21 := by
        unfold numS numL
        have a1 := digF_len 20 t.N.natAbs
        have a2 := digF_len 20 t.N.toNat
        split <;> simp [ByteArray.size] <;> omega
      have z1 := addS (a := ⟨#[35]⟩) (b := numS t.N) (by show 1 + _ ≤ _; omega)
      have hk : t.K = 1 ∨ t.K = 2 ∨ t.K = 3 ∨ t.K = 4 ∨ t.K = 5 ∨ t.K = 6 ∨ t.K = 9 := by
        unfold headT at hh
        by_cases h1 : 1 ≤ t.K ∧ t.K ≤ 5
        · omega
        · by_cases h6 : t.K = 6
          · omega
          · by_cases h9 : t.K = 9
            · omega
            · exfalso
              have n1 : (decide (1 ≤ t.K) && decide (t.K ≤ 5)) = false := by simp; omega
              simp [n1, h6, h9, h7, h8] at hh
      rcases hk with hk | hk | hk | hk | hk | hk | hk <;> simp [hk] at e <;> (rw [w_plain (fn := c66) rfl rfl (by simp only [go_sem, hk, it, ↓z1, e]) rfl (by decide)]; simp only [c66, c66_b, go_sem, hk, it, ↓z1, e]; repeat' (first | (rw [guardO_t]; split <;> rename_i h <;> (try rw [Bool.not_eq_true] at h) <;> (try simp only [go_sem, hk, it, ↓z1, e, *])) | (rw [guardO_f]; split <;> rename_i h <;> (try rw [Bool.not_eq_true] at h) <;> (try simp only [go_sem, hk, it, ↓z1, e, *])) | (rw [cw_bool]; split <;> rename_i h <;> (try rw [Bool.not_eq_true] at h) <;> (try simp only [go_sem, hk, it, ↓z1, e, *]))))
end
end Go.PE
