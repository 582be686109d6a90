/-
  The laws TyfmtShows and TyfmtLists, at the evaluator's level. Conditions: each law's own (what comes in is of bulk at most 1048576).
-/
import Derived.Test.YtedgebnmllinlaaDoorF5c
import Derived.Test.YtedgebnmllinlaaDoorMuch
namespace Go.PE
open Go Go.RowKit Go.Proofs
set_option linter.unusedVariables false
set_option linter.unusedSimpArgs false
set_option maxRecDepth 100000
/-- A type's text. -/
def showT (t : GTy) : ByteArray := if rightT t then shownT t else ⟨#[]⟩
/-! ### how long a text is -/
theorem bulk_ty (t : GTy) : bulkL (rTy t) = 2 + (t.Name.size + 1) + (bulkLL (t.Labels.map rStr) + 1) + (bulkLL (t.Args.map rTy) + 1) := by
  cases t; simp only [rTy_mk, bulkL, PV.bulk, GTy.Name, GTy.Labels, GTy.Args]; omega
theorem joinR_bulk (c : Nat) : ∀ (ls : List ByteArray) (as_ : List GTy), ls.length = as_.length → (∀ a ∈ as_, (shownT a).size ≤ c * bulkL (rTy a)) → 4 ≤ c → (joinR [44, 32] (fieldsT ls as_)).length ≤ c * (bulkLL (ls.map rStr) + bulkLL (as_.map rTy))
  | [], [], _, _, _ => by simp [fieldsT, joinR]
  | l :: ls, a :: as_, h, ha, hc => by
    have ih := joinR_bulk c ls as_ (by simpa using h) (fun x hx => ha x (by simp [hx])) hc
    have h1 := ha a (by simp)
    simp only [fieldsT, joinR, List.headD_cons, List.tail_cons, List.length_append, size_data, app_size, List.map_cons, bulkLL, rStr, bulkL, PV.bulk, List.length_cons, List.length_nil]
    have e : (⟨#[58, 32]⟩ : ByteArray).size = 2 := rfl
    rw [e]
    have h2 : c * (l.size + 1 + 0 + bulkLL (ls.map rStr) + (bulkL (rTy a) + bulkLL (as_.map rTy))) = c * l.size + c + c * bulkL (rTy a) + c * (bulkLL (ls.map rStr) + bulkLL (as_.map rTy)) := by
      simp only [Nat.mul_add, Nat.mul_one, Nat.mul_zero]; omega
    have h3 : l.size ≤ c * l.size := Nat.le_mul_of_pos_left _ (by omega)
    show _ ≤ c * (l.size + 1 + 0 + bulkLL (ls.map rStr) + (bulkL (rTy a) + bulkLL (as_.map rTy)))
    omega
theorem joinL_R (b : List UInt8) (ts : List ByteArray) : (joinL b ts).length ≤ (joinR b ts).length := by
  cases ts <;> simp [joinL, joinR]
theorem shown_bulk : ∀ (t : GTy), rightT t = true → (shownT t).size ≤ 10 * bulkL (rTy t) := by
  refine GTy.ind fun t ih hr => ?_
  have hra := right_args hr
  have hb := bulk_ty t
  rw [shownT_eq]
  rcases right_kinds hr with hk | hk | hk | hk | hk | hk | hk | hk | hk
  · simp [hk, ByteArray.size]; omega
  · simp [hk, ByteArray.size]; omega
  · simp [hk, ByteArray.size]; omega
  · simp [hk, ByteArray.size]; omega
  · simp [hk, ByteArray.size]; omega
  · simp [hk]; omega
  · have := numS_21 t.N
    simp only [hk]
    show (⟨#[35]⟩ ++ numS t.N : ByteArray).size ≤ _
    rw [app_size]
    have e : (⟨#[35]⟩ : ByteArray).size = 1 := rfl
    omega
  · obtain ⟨a, b, hab⟩ := right_two hr hk
    simp only [hk]
    show (funT t.Args).size ≤ _
    rw [hab] at hb
    simp only [List.map_cons, List.map_nil, bulkLL] at hb
    rw [hab, funT_two, app_size, app_size]
    have h1 := ih a (by rw [hab]; simp) (hra a (by rw [hab]; simp))
    have h2 := ih b (by rw [hab]; simp) (hra b (by rw [hab]; simp))
    have e : (⟨#[32, 45, 62, 32]⟩ : ByteArray).size = 4 := rfl
    have e1 : (⟨#[40]⟩ : ByteArray).size = 1 := rfl
    have e2 : (⟨#[41]⟩ : ByteArray).size = 1 := rfl
    have h3 : (takenT a).size ≤ (shownT a).size + 2 := by
      unfold takenT
      split
      · rw [app_size, app_size]; omega
      · omega
    omega
  · obtain ⟨hL, _⟩ := right_rec hr hk
    simp only [hk]
    show (⟨#[123]⟩ ++ txt (joinL [44, 32] (fieldsT t.Labels t.Args)) ++ ⟨#[125]⟩ : ByteArray).size ≤ _
    rw [app_size, app_size, txt_size]
    have h1 := joinR_bulk 10 t.Labels t.Args hL (fun a ha => ih a ha (hra a ha)) (by omega)
    have h2 := joinL_R [44, 32] (fieldsT t.Labels t.Args)
    have e1 : (⟨#[123]⟩ : ByteArray).size = 1 := rfl
    have e2 : (⟨#[125]⟩ : ByteArray).size = 1 := rfl
    omega
theorem showT_bulk (t : GTy) : (showT t).size ≤ 10 * bulkL (rTy t) := by
  unfold showT
  split
  · exact shown_bulk t (by assumption)
  · simp [ByteArray.size]
section
variable {ot : TypeId} {oz : Nat × Nat}
theorem tshow (t : GTy) (ok : OkTy t) (hb : bulkL (rTy t) ≤ 1048576) (S : St) : cal (env ot oz) 36 [.agg (rTy t)] S = some (.str (showT t), S) := by
  have r := right_eq (ot := ot) (oz := oz) t ok
  have e : showT t = if rightT t then shownT t else ⟨#[]⟩ := rfl
  cases q : rightT t with
  | true =>
    have z := shown_bulk t q
    have c := shown_eq (ot := ot) (oz := oz) t ok q (by omega)
    simp only [q, if_true] at e r
    (rw [w_plain (fn := c36) rfl rfl (by simp only [go_sem, reduceIte, Nat.reduceEqDiff, Nat.reduceAdd, Nat.reduceSub, Nat.reduceMul, Nat.reduceLeDiff, Nat.reduceLT, Int.reduceNeg, Int.reduceEq, Int.reduceLT, Int.reduceLE, Int.reduceNe, Int.reduceToNat, Int.reduceAdd, Int.reduceMul, Int.reduceSub, Int.reduceBEq, r, c, e]) rfl (by decide)]; simp only [c36, c36_b, go_sem, reduceIte, Nat.reduceEqDiff, Nat.reduceAdd, Nat.reduceSub, Nat.reduceMul, Nat.reduceLeDiff, Nat.reduceLT, Int.reduceNeg, Int.reduceEq, Int.reduceLT, Int.reduceLE, Int.reduceNe, Int.reduceToNat, Int.reduceAdd, Int.reduceMul, Int.reduceSub, Int.reduceBEq, r, c, e]; repeat' (first | (rw [guardO_t]; split <;> rename_i h <;> (try rw [Bool.not_eq_true] at h) <;> (try simp only [go_sem, reduceIte, Nat.reduceEqDiff, Nat.reduceAdd, Nat.reduceSub, Nat.reduceMul, Nat.reduceLeDiff, Nat.reduceLT, Int.reduceNeg, Int.reduceEq, Int.reduceLT, Int.reduceLE, Int.reduceNe, Int.reduceToNat, Int.reduceAdd, Int.reduceMul, Int.reduceSub, Int.reduceBEq, r, c, e, *])) | (rw [guardO_f]; split <;> rename_i h <;> (try rw [Bool.not_eq_true] at h) <;> (try simp only [go_sem, reduceIte, Nat.reduceEqDiff, Nat.reduceAdd, Nat.reduceSub, Nat.reduceMul, Nat.reduceLeDiff, Nat.reduceLT, Int.reduceNeg, Int.reduceEq, Int.reduceLT, Int.reduceLE, Int.reduceNe, Int.reduceToNat, Int.reduceAdd, Int.reduceMul, Int.reduceSub, Int.reduceBEq, r, c, e, *])) | (rw [cw_bool]; split <;> rename_i h <;> (try rw [Bool.not_eq_true] at h) <;> (try simp only [go_sem, reduceIte, Nat.reduceEqDiff, Nat.reduceAdd, Nat.reduceSub, Nat.reduceMul, Nat.reduceLeDiff, Nat.reduceLT, Int.reduceNeg, Int.reduceEq, Int.reduceLT, Int.reduceLE, Int.reduceNe, Int.reduceToNat, Int.reduceAdd, Int.reduceMul, Int.reduceSub, Int.reduceBEq, r, c, e, *]))))
  | false =>
    simp only [q, if_false, Bool.false_eq_true] at e r
    (rw [w_plain (fn := c36) rfl rfl (by simp only [go_sem, reduceIte, Nat.reduceEqDiff, Nat.reduceAdd, Nat.reduceSub, Nat.reduceMul, Nat.reduceLeDiff, Nat.reduceLT, Int.reduceNeg, Int.reduceEq, Int.reduceLT, Int.reduceLE, Int.reduceNe, Int.reduceToNat, Int.reduceAdd, Int.reduceMul, Int.reduceSub, Int.reduceBEq, r, e]) rfl (by decide)]; simp only [c36, c36_b, go_sem, reduceIte, Nat.reduceEqDiff, Nat.reduceAdd, Nat.reduceSub, Nat.reduceMul, Nat.reduceLeDiff, Nat.reduceLT, Int.reduceNeg, Int.reduceEq, Int.reduceLT, Int.reduceLE, Int.reduceNe, Int.reduceToNat, Int.reduceAdd, Int.reduceMul, Int.reduceSub, Int.reduceBEq, r, e]; repeat' (first | (rw [guardO_t]; split <;> rename_i h <;> (try rw [Bool.not_eq_true] at h) <;> (try simp only [go_sem, reduceIte, Nat.reduceEqDiff, Nat.reduceAdd, Nat.reduceSub, Nat.reduceMul, Nat.reduceLeDiff, Nat.reduceLT, Int.reduceNeg, Int.reduceEq, Int.reduceLT, Int.reduceLE, Int.reduceNe, Int.reduceToNat, Int.reduceAdd, Int.reduceMul, Int.reduceSub, Int.reduceBEq, r, e, *])) | (rw [guardO_f]; split <;> rename_i h <;> (try rw [Bool.not_eq_true] at h) <;> (try simp only [go_sem, reduceIte, Nat.reduceEqDiff, Nat.reduceAdd, Nat.reduceSub, Nat.reduceMul, Nat.reduceLeDiff, Nat.reduceLT, Int.reduceNeg, Int.reduceEq, Int.reduceLT, Int.reduceLE, Int.reduceNe, Int.reduceToNat, Int.reduceAdd, Int.reduceMul, Int.reduceSub, Int.reduceBEq, r, e, *])) | (rw [cw_bool]; split <;> rename_i h <;> (try rw [Bool.not_eq_true] at h) <;> (try simp only [go_sem, reduceIte, Nat.reduceEqDiff, Nat.reduceAdd, Nat.reduceSub, Nat.reduceMul, Nat.reduceLeDiff, Nat.reduceLT, Int.reduceNeg, Int.reduceEq, Int.reduceLT, Int.reduceLE, Int.reduceNe, Int.reduceToNat, Int.reduceAdd, Int.reduceMul, Int.reduceSub, Int.reduceBEq, r, e, *]))))
theorem rshow (t : GTy) (ok : OkTy t) (hb : bulkL (rTy t) ≤ 1048576) (S : St) : cal (env ot oz) 37 [.agg (rTy t)] S = some (.str (showT t), S) := by
  have r := fun S => cal_ans (right04_ok (ot := ot) (oz := oz) t ok) (S := S)
  have e : showT t = if rightT t then shownT t else ⟨#[]⟩ := rfl
  cases q : rightT t with
  | true =>
    have z := shown_bulk t q
    have c := show05 (ot := ot) (oz := oz) t ok q (by omega)
    simp only [q, if_true] at e r
    (rw [w_plain (fn := c37) rfl rfl (by simp only [go_sem, reduceIte, Nat.reduceEqDiff, Nat.reduceAdd, Nat.reduceSub, Nat.reduceMul, Nat.reduceLeDiff, Nat.reduceLT, Int.reduceNeg, Int.reduceEq, Int.reduceLT, Int.reduceLE, Int.reduceNe, Int.reduceToNat, Int.reduceAdd, Int.reduceMul, Int.reduceSub, Int.reduceBEq, r, c, e]) rfl (by decide)]; simp only [c37, c37_b, go_sem, reduceIte, Nat.reduceEqDiff, Nat.reduceAdd, Nat.reduceSub, Nat.reduceMul, Nat.reduceLeDiff, Nat.reduceLT, Int.reduceNeg, Int.reduceEq, Int.reduceLT, Int.reduceLE, Int.reduceNe, Int.reduceToNat, Int.reduceAdd, Int.reduceMul, Int.reduceSub, Int.reduceBEq, r, c, e]; repeat' (first | (rw [guardO_t]; split <;> rename_i h <;> (try rw [Bool.not_eq_true] at h) <;> (try simp only [go_sem, reduceIte, Nat.reduceEqDiff, Nat.reduceAdd, Nat.reduceSub, Nat.reduceMul, Nat.reduceLeDiff, Nat.reduceLT, Int.reduceNeg, Int.reduceEq, Int.reduceLT, Int.reduceLE, Int.reduceNe, Int.reduceToNat, Int.reduceAdd, Int.reduceMul, Int.reduceSub, Int.reduceBEq, r, c, e, *])) | (rw [guardO_f]; split <;> rename_i h <;> (try rw [Bool.not_eq_true] at h) <;> (try simp only [go_sem, reduceIte, Nat.reduceEqDiff, Nat.reduceAdd, Nat.reduceSub, Nat.reduceMul, Nat.reduceLeDiff, Nat.reduceLT, Int.reduceNeg, Int.reduceEq, Int.reduceLT, Int.reduceLE, Int.reduceNe, Int.reduceToNat, Int.reduceAdd, Int.reduceMul, Int.reduceSub, Int.reduceBEq, r, c, e, *])) | (rw [cw_bool]; split <;> rename_i h <;> (try rw [Bool.not_eq_true] at h) <;> (try simp only [go_sem, reduceIte, Nat.reduceEqDiff, Nat.reduceAdd, Nat.reduceSub, Nat.reduceMul, Nat.reduceLeDiff, Nat.reduceLT, Int.reduceNeg, Int.reduceEq, Int.reduceLT, Int.reduceLE, Int.reduceNe, Int.reduceToNat, Int.reduceAdd, Int.reduceMul, Int.reduceSub, Int.reduceBEq, r, c, e, *]))))
  | false =>
    simp only [q, if_false, Bool.false_eq_true] at e r
    (rw [w_plain (fn := c37) rfl rfl (by simp only [go_sem, reduceIte, Nat.reduceEqDiff, Nat.reduceAdd, Nat.reduceSub, Nat.reduceMul, Nat.reduceLeDiff, Nat.reduceLT, Int.reduceNeg, Int.reduceEq, Int.reduceLT, Int.reduceLE, Int.reduceNe, Int.reduceToNat, Int.reduceAdd, Int.reduceMul, Int.reduceSub, Int.reduceBEq, r, e]) rfl (by decide)]; simp only [c37, c37_b, go_sem, reduceIte, Nat.reduceEqDiff, Nat.reduceAdd, Nat.reduceSub, Nat.reduceMul, Nat.reduceLeDiff, Nat.reduceLT, Int.reduceNeg, Int.reduceEq, Int.reduceLT, Int.reduceLE, Int.reduceNe, Int.reduceToNat, Int.reduceAdd, Int.reduceMul, Int.reduceSub, Int.reduceBEq, r, e]; repeat' (first | (rw [guardO_t]; split <;> rename_i h <;> (try rw [Bool.not_eq_true] at h) <;> (try simp only [go_sem, reduceIte, Nat.reduceEqDiff, Nat.reduceAdd, Nat.reduceSub, Nat.reduceMul, Nat.reduceLeDiff, Nat.reduceLT, Int.reduceNeg, Int.reduceEq, Int.reduceLT, Int.reduceLE, Int.reduceNe, Int.reduceToNat, Int.reduceAdd, Int.reduceMul, Int.reduceSub, Int.reduceBEq, r, e, *])) | (rw [guardO_f]; split <;> rename_i h <;> (try rw [Bool.not_eq_true] at h) <;> (try simp only [go_sem, reduceIte, Nat.reduceEqDiff, Nat.reduceAdd, Nat.reduceSub, Nat.reduceMul, Nat.reduceLeDiff, Nat.reduceLT, Int.reduceNeg, Int.reduceEq, Int.reduceLT, Int.reduceLE, Int.reduceNe, Int.reduceToNat, Int.reduceAdd, Int.reduceMul, Int.reduceSub, Int.reduceBEq, r, e, *])) | (rw [cw_bool]; split <;> rename_i h <;> (try rw [Bool.not_eq_true] at h) <;> (try simp only [go_sem, reduceIte, Nat.reduceEqDiff, Nat.reduceAdd, Nat.reduceSub, Nat.reduceMul, Nat.reduceLeDiff, Nat.reduceLT, Int.reduceNeg, Int.reduceEq, Int.reduceLT, Int.reduceLE, Int.reduceNe, Int.reduceToNat, Int.reduceAdd, Int.reduceMul, Int.reduceSub, Int.reduceBEq, r, e, *]))))
theorem aw05 (S : St) : cal (env ot oz) 35 [] S = some (.bool true, S) := cal_closed (env_free ot oz) (n := 30) (by kernel_rfl) rfl rfl S
theorem tyfmtShows (t : GTy) (ok : OkTy t) (hb : bulkL (rTy t) ≤ 1048576) : Ev (env ot oz) 8 [.agg (rTy t)] .none (.bool true) .none := by
  refine cal_ev ?_
  have m := fun S => cal_ans (muchT_ok (ot := ot) (oz := oz) t ok) (S := S)
  have c1 := tshow (ot := ot) (oz := oz) t ok hb
  have c2 := rshow (ot := ot) (oz := oz) t ok hb
  have aw := aw05 (ot := ot) (oz := oz)
  (rw [w_plain (fn := c8) rfl rfl (by simp only [go_sem, reduceIte, Nat.reduceEqDiff, Nat.reduceAdd, Nat.reduceSub, Nat.reduceMul, Nat.reduceLeDiff, Nat.reduceLT, Int.reduceNeg, Int.reduceEq, Int.reduceLT, Int.reduceLE, Int.reduceNe, Int.reduceToNat, Int.reduceAdd, Int.reduceMul, Int.reduceSub, Int.reduceBEq, m, c1, c2, aw]) rfl (by decide)]; simp only [c8, c8_b, go_sem, reduceIte, Nat.reduceEqDiff, Nat.reduceAdd, Nat.reduceSub, Nat.reduceMul, Nat.reduceLeDiff, Nat.reduceLT, Int.reduceNeg, Int.reduceEq, Int.reduceLT, Int.reduceLE, Int.reduceNe, Int.reduceToNat, Int.reduceAdd, Int.reduceMul, Int.reduceSub, Int.reduceBEq, m, c1, c2, aw]; repeat' (first | (rw [guardO_t]; split <;> rename_i h <;> (try rw [Bool.not_eq_true] at h) <;> (try simp only [go_sem, reduceIte, Nat.reduceEqDiff, Nat.reduceAdd, Nat.reduceSub, Nat.reduceMul, Nat.reduceLeDiff, Nat.reduceLT, Int.reduceNeg, Int.reduceEq, Int.reduceLT, Int.reduceLE, Int.reduceNe, Int.reduceToNat, Int.reduceAdd, Int.reduceMul, Int.reduceSub, Int.reduceBEq, m, c1, c2, aw, *])) | (rw [guardO_f]; split <;> rename_i h <;> (try rw [Bool.not_eq_true] at h) <;> (try simp only [go_sem, reduceIte, Nat.reduceEqDiff, Nat.reduceAdd, Nat.reduceSub, Nat.reduceMul, Nat.reduceLeDiff, Nat.reduceLT, Int.reduceNeg, Int.reduceEq, Int.reduceLT, Int.reduceLE, Int.reduceNe, Int.reduceToNat, Int.reduceAdd, Int.reduceMul, Int.reduceSub, Int.reduceBEq, m, c1, c2, aw, *])) | (rw [cw_bool]; split <;> rename_i h <;> (try rw [Bool.not_eq_true] at h) <;> (try simp only [go_sem, reduceIte, Nat.reduceEqDiff, Nat.reduceAdd, Nat.reduceSub, Nat.reduceMul, Nat.reduceLeDiff, Nat.reduceLT, Int.reduceNeg, Int.reduceEq, Int.reduceLT, Int.reduceLE, Int.reduceNe, Int.reduceToNat, Int.reduceAdd, Int.reduceMul, Int.reduceSub, Int.reduceBEq, m, c1, c2, aw, *]))))

/-- Types' texts. -/
def listT (l : List GTy) : ByteArray := txt (joinL [44, 32] (l.map showT))
def bindT (sign : ByteArray) (b : GBind) : ByteArray := b.Name ++ sign ++ showT b.Typ
def bindsT (l : List GBind) (sign : ByteArray) : ByteArray := txt (joinL [44, 32] (l.map (bindT sign)))
theorem get_map {α β : Type} {f : α → β} {l : List α} {i : Nat} {a : α} {t : β} (h : l[i]? = some a) (k : (l.map f)[i]? = some t) : t = f a := by
  rw [List.getElem?_map, h] at k; exact (Option.some.inj k).symm
theorem tlist (l : List GTy) (hl : Short l.length) (ok : ∀ a ∈ l, OkTy a ∧ bulkL (rTy a) ≤ 1048576) (hB : (joinL [44, 32] (l.map showT)).length ≤ 70368744177664) (g : Tag) (S : St) : cal (env ot oz) 40 [.sl g (l.map rTy)] S = some (.str (listT l), S) := by
  refine cal_tag1 ?_ (plainLL_map fun x _ => rTy_plain x)
  have h1 : ∀ (i : Nat) a t, l[i]? = some a → (l.map showT)[i]? = some t → ∀ S, cal (env ot oz) 65 ([] ++ [.int .i64 (i : Int), .agg (rTy a)] ++ []) S = some (.str t, S) := by
    intro i a t ha ht S
    rw [get_map ha ht]
    have c := tshow (ot := ot) (oz := oz) a (ok a (mem_of_get ha)).1 (ok a (mem_of_get ha)).2
    simp only [List.nil_append, List.append_nil]
    (rw [w_plain (fn := c65) rfl rfl (by simp only [go_sem, reduceIte, Nat.reduceEqDiff, Nat.reduceAdd, Nat.reduceSub, Nat.reduceMul, Nat.reduceLeDiff, Nat.reduceLT, Int.reduceNeg, Int.reduceEq, Int.reduceLT, Int.reduceLE, Int.reduceNe, Int.reduceToNat, Int.reduceAdd, Int.reduceMul, Int.reduceSub, Int.reduceBEq, c]) rfl (by decide)]; simp only [c65, c65_b, go_sem, reduceIte, Nat.reduceEqDiff, Nat.reduceAdd, Nat.reduceSub, Nat.reduceMul, Nat.reduceLeDiff, Nat.reduceLT, Int.reduceNeg, Int.reduceEq, Int.reduceLT, Int.reduceLE, Int.reduceNe, Int.reduceToNat, Int.reduceAdd, Int.reduceMul, Int.reduceSub, Int.reduceBEq, c]; repeat' (first | (rw [guardO_t]; split <;> rename_i h <;> (try rw [Bool.not_eq_true] at h) <;> (try simp only [go_sem, reduceIte, Nat.reduceEqDiff, Nat.reduceAdd, Nat.reduceSub, Nat.reduceMul, Nat.reduceLeDiff, Nat.reduceLT, Int.reduceNeg, Int.reduceEq, Int.reduceLT, Int.reduceLE, Int.reduceNe, Int.reduceToNat, Int.reduceAdd, Int.reduceMul, Int.reduceSub, Int.reduceBEq, c, *])) | (rw [guardO_f]; split <;> rename_i h <;> (try rw [Bool.not_eq_true] at h) <;> (try simp only [go_sem, reduceIte, Nat.reduceEqDiff, Nat.reduceAdd, Nat.reduceSub, Nat.reduceMul, Nat.reduceLeDiff, Nat.reduceLT, Int.reduceNeg, Int.reduceEq, Int.reduceLT, Int.reduceLE, Int.reduceNe, Int.reduceToNat, Int.reduceAdd, Int.reduceMul, Int.reduceSub, Int.reduceBEq, c, *])) | (rw [cw_bool]; split <;> rename_i h <;> (try rw [Bool.not_eq_true] at h) <;> (try simp only [go_sem, reduceIte, Nat.reduceEqDiff, Nat.reduceAdd, Nat.reduceSub, Nat.reduceMul, Nat.reduceLeDiff, Nat.reduceLT, Int.reduceNeg, Int.reduceEq, Int.reduceLT, Int.reduceLE, Int.reduceNe, Int.reduceToNat, Int.reduceAdd, Int.reduceMul, Int.reduceSub, Int.reduceBEq, c, *]))))
  have c := joined_eqTy (ot := ot) (oz := oz) l (l.map showT) hl (List.length_map _) 65 [] [] (fun _ _ => rfl) (fun _ _ => rfl) hB h1
  have e : txt (joinL [44, 32] (l.map showT)) = listT l := rfl
  rw [e] at c
  (rw [w_plain (fn := c40) rfl rfl (by simp only [go_sem, reduceIte, Nat.reduceEqDiff, Nat.reduceAdd, Nat.reduceSub, Nat.reduceMul, Nat.reduceLeDiff, Nat.reduceLT, Int.reduceNeg, Int.reduceEq, Int.reduceLT, Int.reduceLE, Int.reduceNe, Int.reduceToNat, Int.reduceAdd, Int.reduceMul, Int.reduceSub, Int.reduceBEq, c]) rfl (by decide)]; simp only [c40, c40_b, go_sem, reduceIte, Nat.reduceEqDiff, Nat.reduceAdd, Nat.reduceSub, Nat.reduceMul, Nat.reduceLeDiff, Nat.reduceLT, Int.reduceNeg, Int.reduceEq, Int.reduceLT, Int.reduceLE, Int.reduceNe, Int.reduceToNat, Int.reduceAdd, Int.reduceMul, Int.reduceSub, Int.reduceBEq, c]; repeat' (first | (rw [guardO_t]; split <;> rename_i h <;> (try rw [Bool.not_eq_true] at h) <;> (try simp only [go_sem, reduceIte, Nat.reduceEqDiff, Nat.reduceAdd, Nat.reduceSub, Nat.reduceMul, Nat.reduceLeDiff, Nat.reduceLT, Int.reduceNeg, Int.reduceEq, Int.reduceLT, Int.reduceLE, Int.reduceNe, Int.reduceToNat, Int.reduceAdd, Int.reduceMul, Int.reduceSub, Int.reduceBEq, c, *])) | (rw [guardO_f]; split <;> rename_i h <;> (try rw [Bool.not_eq_true] at h) <;> (try simp only [go_sem, reduceIte, Nat.reduceEqDiff, Nat.reduceAdd, Nat.reduceSub, Nat.reduceMul, Nat.reduceLeDiff, Nat.reduceLT, Int.reduceNeg, Int.reduceEq, Int.reduceLT, Int.reduceLE, Int.reduceNe, Int.reduceToNat, Int.reduceAdd, Int.reduceMul, Int.reduceSub, Int.reduceBEq, c, *])) | (rw [cw_bool]; split <;> rename_i h <;> (try rw [Bool.not_eq_true] at h) <;> (try simp only [go_sem, reduceIte, Nat.reduceEqDiff, Nat.reduceAdd, Nat.reduceSub, Nat.reduceMul, Nat.reduceLeDiff, Nat.reduceLT, Int.reduceNeg, Int.reduceEq, Int.reduceLT, Int.reduceLE, Int.reduceNe, Int.reduceToNat, Int.reduceAdd, Int.reduceMul, Int.reduceSub, Int.reduceBEq, c, *]))))
theorem tbinds (l : List GBind) (sign : ByteArray) (hl : Short l.length) (ok : ∀ a ∈ l, OkBind a ∧ bulkL (rTy a.Typ) ≤ 1048576) (hB : (joinL [44, 32] (l.map (bindT sign))).length ≤ 70368744177664) (S : St) : cal (env ot oz) 42 [.sl .ro (l.map rBind), .str sign] S = some (.str (bindsT l sign), S) := by
  have h1 : ∀ (i : Nat) a t, l[i]? = some a → (l.map (bindT sign))[i]? = some t → ∀ S, cal (env ot oz) 67 ([] ++ [.int .i64 (i : Int), .agg (rBind a)] ++ [.at_ [.str sign]]) S = some (.str t, S) := by
    intro i a t ha ht S
    have hm := Nat.le_trans (joinL_mem (b := [44, 32]) (mem_of_get ht)) hB
    rw [get_map ha ht] at hm ⊢
    unfold bindT at hm ⊢
    rw [app_size, app_size] at hm
    have c := tshow (ot := ot) (oz := oz) a.Typ (ok a (mem_of_get ha)).1.Typ (ok a (mem_of_get ha)).2
    have z1 := addS (a := a.Name) (b := sign) (by omega)
    have z2 := addS (a := a.Name ++ sign) (b := showT a.Typ) (by rw [app_size]; omega)
    simp only [List.nil_append, List.cons_append]
    (rw [w_plain (fn := c67) rfl rfl (by simp only [go_sem, reduceIte, Nat.reduceEqDiff, Nat.reduceAdd, Nat.reduceSub, Nat.reduceMul, Nat.reduceLeDiff, Nat.reduceLT, Int.reduceNeg, Int.reduceEq, Int.reduceLT, Int.reduceLE, Int.reduceNe, Int.reduceToNat, Int.reduceAdd, Int.reduceMul, Int.reduceSub, Int.reduceBEq, c, ↓z1, ↓z2]) rfl (by decide)]; simp only [c67, c67_b, go_sem, reduceIte, Nat.reduceEqDiff, Nat.reduceAdd, Nat.reduceSub, Nat.reduceMul, Nat.reduceLeDiff, Nat.reduceLT, Int.reduceNeg, Int.reduceEq, Int.reduceLT, Int.reduceLE, Int.reduceNe, Int.reduceToNat, Int.reduceAdd, Int.reduceMul, Int.reduceSub, Int.reduceBEq, c, ↓z1, ↓z2]; repeat' (first | (rw [guardO_t]; split <;> rename_i h <;> (try rw [Bool.not_eq_true] at h) <;> (try simp only [go_sem, reduceIte, Nat.reduceEqDiff, Nat.reduceAdd, Nat.reduceSub, Nat.reduceMul, Nat.reduceLeDiff, Nat.reduceLT, Int.reduceNeg, Int.reduceEq, Int.reduceLT, Int.reduceLE, Int.reduceNe, Int.reduceToNat, Int.reduceAdd, Int.reduceMul, Int.reduceSub, Int.reduceBEq, c, ↓z1, ↓z2, *])) | (rw [guardO_f]; split <;> rename_i h <;> (try rw [Bool.not_eq_true] at h) <;> (try simp only [go_sem, reduceIte, Nat.reduceEqDiff, Nat.reduceAdd, Nat.reduceSub, Nat.reduceMul, Nat.reduceLeDiff, Nat.reduceLT, Int.reduceNeg, Int.reduceEq, Int.reduceLT, Int.reduceLE, Int.reduceNe, Int.reduceToNat, Int.reduceAdd, Int.reduceMul, Int.reduceSub, Int.reduceBEq, c, ↓z1, ↓z2, *])) | (rw [cw_bool]; split <;> rename_i h <;> (try rw [Bool.not_eq_true] at h) <;> (try simp only [go_sem, reduceIte, Nat.reduceEqDiff, Nat.reduceAdd, Nat.reduceSub, Nat.reduceMul, Nat.reduceLeDiff, Nat.reduceLT, Int.reduceNeg, Int.reduceEq, Int.reduceLT, Int.reduceLE, Int.reduceNe, Int.reduceToNat, Int.reduceAdd, Int.reduceMul, Int.reduceSub, Int.reduceBEq, c, ↓z1, ↓z2, *]))))
  have c := joined_eqBind (ot := ot) (oz := oz) l (l.map (bindT sign)) hl (List.length_map _) 67 [] [.at_ [.str sign]] (fun n d => by simp only [sealL, sealW, Option.map_some, Option.bind_some]) (fun _ _ => rfl) hB h1
  have e : txt (joinL [44, 32] (l.map (bindT sign))) = bindsT l sign := rfl
  rw [e] at c
  (rw [w_plain (fn := c42) rfl rfl (by simp only [go_sem, reduceIte, Nat.reduceEqDiff, Nat.reduceAdd, Nat.reduceSub, Nat.reduceMul, Nat.reduceLeDiff, Nat.reduceLT, Int.reduceNeg, Int.reduceEq, Int.reduceLT, Int.reduceLE, Int.reduceNe, Int.reduceToNat, Int.reduceAdd, Int.reduceMul, Int.reduceSub, Int.reduceBEq, c]) rfl (by decide)]; simp only [c42, c42_b, go_sem, reduceIte, Nat.reduceEqDiff, Nat.reduceAdd, Nat.reduceSub, Nat.reduceMul, Nat.reduceLeDiff, Nat.reduceLT, Int.reduceNeg, Int.reduceEq, Int.reduceLT, Int.reduceLE, Int.reduceNe, Int.reduceToNat, Int.reduceAdd, Int.reduceMul, Int.reduceSub, Int.reduceBEq, c]; repeat' (first | (rw [guardO_t]; split <;> rename_i h <;> (try rw [Bool.not_eq_true] at h) <;> (try simp only [go_sem, reduceIte, Nat.reduceEqDiff, Nat.reduceAdd, Nat.reduceSub, Nat.reduceMul, Nat.reduceLeDiff, Nat.reduceLT, Int.reduceNeg, Int.reduceEq, Int.reduceLT, Int.reduceLE, Int.reduceNe, Int.reduceToNat, Int.reduceAdd, Int.reduceMul, Int.reduceSub, Int.reduceBEq, c, *])) | (rw [guardO_f]; split <;> rename_i h <;> (try rw [Bool.not_eq_true] at h) <;> (try simp only [go_sem, reduceIte, Nat.reduceEqDiff, Nat.reduceAdd, Nat.reduceSub, Nat.reduceMul, Nat.reduceLeDiff, Nat.reduceLT, Int.reduceNeg, Int.reduceEq, Int.reduceLT, Int.reduceLE, Int.reduceNe, Int.reduceToNat, Int.reduceAdd, Int.reduceMul, Int.reduceSub, Int.reduceBEq, c, *])) | (rw [cw_bool]; split <;> rename_i h <;> (try rw [Bool.not_eq_true] at h) <;> (try simp only [go_sem, reduceIte, Nat.reduceEqDiff, Nat.reduceAdd, Nat.reduceSub, Nat.reduceMul, Nat.reduceLeDiff, Nat.reduceLT, Int.reduceNeg, Int.reduceEq, Int.reduceLT, Int.reduceLE, Int.reduceNe, Int.reduceToNat, Int.reduceAdd, Int.reduceMul, Int.reduceSub, Int.reduceBEq, c, *]))))
theorem rlist_l0 (l : List GTy) (hl : Short l.length) (B : Nat) (hB : B ≤ 70368744177664) (ok : ∀ a ∈ l, OkTy a ∧ bulkL (rTy a) ≤ 1048576) (S : St) (fin : Kont (PV × St)) (st : List Fw) : ∀ (rest : List GTy) (i : Nat) (bs : List UInt8), l.drop i = rest → bs.length + (joinI [44, 32] i (rest.map showT)).length ≤ B →
    run (env ot oz) fin st c41_l0 [(0, some (.sl .ro (l.map rTy))), (3, some (.str (txt bs))), (4, some (.int .i64 (i : Int)))] S =
      aft (env ot oz) fin st (.exit 0) [(0, some (.sl .ro (l.map rTy))), (3, some (.str (txt (bs ++ joinI [44, 32] i (rest.map showT))))), (4, some (.int .i64 ((i + rest.length : Nat) : Int))), (8, some (.bool false))] S
  | [], i, bs, h, hb => by
    have hlt := lt_no (drop_nil h)
    rw [List.map_nil, joinI_nil]
    (rw [c41_l0_w]; simp only [c41_l0_b, c41_l0_a, go_sem, reduceIte, Nat.reduceEqDiff, Nat.reduceAdd, Nat.reduceSub, Nat.reduceMul, Nat.reduceLeDiff, Nat.reduceLT, Int.reduceNeg, Int.reduceEq, Int.reduceLT, Int.reduceLE, Int.reduceNe, Int.reduceToNat, Int.reduceAdd, Int.reduceMul, Int.reduceSub, Int.reduceBEq, hlt])
  | a :: r, i, bs, h, hb => by
    obtain ⟨h1, h2, h3⟩ := drop_cons h
    unfold Short maxLen at hl
    have e : i + (a :: r).length = i + 1 + r.length := by simp only [List.length_cons]; omega
    have w := wrap_succ (i := i) (n := l.length) h3 (by omega)
    have hlt : (i : Int) < (l.length : Int) := by omega
    have ca := rshow (ot := ot) (oz := oz) a (ok a (mem_of_get h1)).1 (ok a (mem_of_get h1)).2
    have ih := rlist_l0 l (by unfold Short maxLen; omega) B hB ok S fin st r (i + 1)
    have sa := size_data (showT a)
    rw [List.map_cons] at hb ⊢
    rw [e]
    cases i with
    | zero =>
      rw [joinI_zero] at hb ⊢
      simp only [List.length_append, List.length_cons, List.length_nil] at hb
      have z1 := addB (a := bs) (s := showT a) (by omega)
      have ih := ih (bs ++ (showT a).data.toList) h2 (by simp only [List.length_append]; omega)
      simp only [List.append_assoc, Nat.zero_add, cast_1, Int.cast_ofNat_Int] at ih w hlt ⊢
      (rw [c41_l0_w]; simp only [c41_l0_b, c41_l0_a, go_sem, reduceIte, Nat.reduceEqDiff, Nat.reduceAdd, Nat.reduceSub, Nat.reduceMul, Nat.reduceLeDiff, Nat.reduceLT, Int.reduceNeg, Int.reduceEq, Int.reduceLT, Int.reduceLE, Int.reduceNe, Int.reduceToNat, Int.reduceAdd, Int.reduceMul, Int.reduceSub, Int.reduceBEq, hlt, h1, w, ca, ↓z1, ih])
    | succ i =>
      rw [joinI_succ] at hb ⊢
      simp only [List.length_append, List.length_cons, List.length_nil] at hb
      have hz : (0 : Int) < ((i + 1 : Nat) : Int) := by omega
      have z0 := addB (a := bs) (s := ⟨#[44, 32]⟩) (by show _ + 2 ≤ _; omega)
      have z1 := addB (a := bs ++ [44, 32]) (s := showT a) (by simp only [List.length_append, List.length_cons, List.length_nil]; omega)
      have ih := ih (bs ++ ([44, 32] ++ (showT a).data.toList)) h2 (by simp only [List.length_append, List.length_cons, List.length_nil]; omega)
      simp only [List.append_assoc, List.cons_append, List.nil_append] at ih z0 z1 ⊢
      (rw [c41_l0_w]; simp only [c41_l0_b, c41_l0_a, go_sem, reduceIte, Nat.reduceEqDiff, Nat.reduceAdd, Nat.reduceSub, Nat.reduceMul, Nat.reduceLeDiff, Nat.reduceLT, Int.reduceNeg, Int.reduceEq, Int.reduceLT, Int.reduceLE, Int.reduceNe, Int.reduceToNat, Int.reduceAdd, Int.reduceMul, Int.reduceSub, Int.reduceBEq, hlt, hz, h1, w, ca, ↓z0, ↓z1, ih])
theorem rlist (l : List GTy) (hl : Short l.length) (ok : ∀ a ∈ l, OkTy a ∧ bulkL (rTy a) ≤ 1048576) (hB : (joinL [44, 32] (l.map showT)).length ≤ 70368744177664) (g : Tag) (S : St) : cal (env ot oz) 41 [.sl g (l.map rTy)] S = some (.str (listT l), S) := by
  refine cal_tag1 ?_ (plainLL_map fun x _ => rTy_plain x)
  have f := fun fin st => rlist_l0 (ot := ot) (oz := oz) l hl 70368744177664 (Nat.le_refl _) ok S fin st l 0 [] rfl (by show 0 + (joinL [44, 32] (l.map showT)).length ≤ _; omega)
  have e : txt ([] ++ joinI [44, 32] 0 (l.map showT)) = listT l := rfl
  have e0 : txt [] = ⟨#[]⟩ := rfl
  simp only [e, e0, Int.cast_ofNat_Int] at f
  (rw [w_plain (fn := c41) rfl rfl (by simp only [go_sem, reduceIte, Nat.reduceEqDiff, Nat.reduceAdd, Nat.reduceSub, Nat.reduceMul, Nat.reduceLeDiff, Nat.reduceLT, Int.reduceNeg, Int.reduceEq, Int.reduceLT, Int.reduceLE, Int.reduceNe, Int.reduceToNat, Int.reduceAdd, Int.reduceMul, Int.reduceSub, Int.reduceBEq, f]) rfl (by decide)]; simp only [c41, c41_b, go_sem, reduceIte, Nat.reduceEqDiff, Nat.reduceAdd, Nat.reduceSub, Nat.reduceMul, Nat.reduceLeDiff, Nat.reduceLT, Int.reduceNeg, Int.reduceEq, Int.reduceLT, Int.reduceLE, Int.reduceNe, Int.reduceToNat, Int.reduceAdd, Int.reduceMul, Int.reduceSub, Int.reduceBEq, f]; repeat' (first | (rw [guardO_t]; split <;> rename_i h <;> (try rw [Bool.not_eq_true] at h) <;> (try simp only [go_sem, reduceIte, Nat.reduceEqDiff, Nat.reduceAdd, Nat.reduceSub, Nat.reduceMul, Nat.reduceLeDiff, Nat.reduceLT, Int.reduceNeg, Int.reduceEq, Int.reduceLT, Int.reduceLE, Int.reduceNe, Int.reduceToNat, Int.reduceAdd, Int.reduceMul, Int.reduceSub, Int.reduceBEq, f, *])) | (rw [guardO_f]; split <;> rename_i h <;> (try rw [Bool.not_eq_true] at h) <;> (try simp only [go_sem, reduceIte, Nat.reduceEqDiff, Nat.reduceAdd, Nat.reduceSub, Nat.reduceMul, Nat.reduceLeDiff, Nat.reduceLT, Int.reduceNeg, Int.reduceEq, Int.reduceLT, Int.reduceLE, Int.reduceNe, Int.reduceToNat, Int.reduceAdd, Int.reduceMul, Int.reduceSub, Int.reduceBEq, f, *])) | (rw [cw_bool]; split <;> rename_i h <;> (try rw [Bool.not_eq_true] at h) <;> (try simp only [go_sem, reduceIte, Nat.reduceEqDiff, Nat.reduceAdd, Nat.reduceSub, Nat.reduceMul, Nat.reduceLeDiff, Nat.reduceLT, Int.reduceNeg, Int.reduceEq, Int.reduceLT, Int.reduceLE, Int.reduceNe, Int.reduceToNat, Int.reduceAdd, Int.reduceMul, Int.reduceSub, Int.reduceBEq, f, *]))))
theorem rbinds_l0 (l : List GBind) (sign : ByteArray) (hl : Short l.length) (B : Nat) (hB : B ≤ 70368744177664) (ok : ∀ a ∈ l, OkBind a ∧ bulkL (rTy a.Typ) ≤ 1048576) (S : St) (fin : Kont (PV × St)) (st : List Fw) : ∀ (rest : List GBind) (i : Nat) (bs : List UInt8), l.drop i = rest → bs.length + (joinI [44, 32] i (rest.map (bindT sign))).length ≤ B →
    run (env ot oz) fin st c43_l0 [(0, some (.sl .ro (l.map rBind))), (1, some (.str sign)), (5, some (.str (txt bs))), (6, some (.int .i64 (i : Int)))] S =
      aft (env ot oz) fin st (.exit 0) [(0, some (.sl .ro (l.map rBind))), (1, some (.str sign)), (5, some (.str (txt (bs ++ joinI [44, 32] i (rest.map (bindT sign)))))), (6, some (.int .i64 ((i + rest.length : Nat) : Int))), (10, some (.bool false))] S
  | [], i, bs, h, hb => by
    have hlt := lt_no (drop_nil h)
    rw [List.map_nil, joinI_nil]
    (rw [c43_l0_w]; simp only [c43_l0_b, c43_l0_a, go_sem, reduceIte, Nat.reduceEqDiff, Nat.reduceAdd, Nat.reduceSub, Nat.reduceMul, Nat.reduceLeDiff, Nat.reduceLT, Int.reduceNeg, Int.reduceEq, Int.reduceLT, Int.reduceLE, Int.reduceNe, Int.reduceToNat, Int.reduceAdd, Int.reduceMul, Int.reduceSub, Int.reduceBEq, hlt])
  | a :: r, i, bs, h, hb => by
    obtain ⟨h1, h2, h3⟩ := drop_cons h
    unfold Short maxLen at hl
    have e : i + (a :: r).length = i + 1 + r.length := by simp only [List.length_cons]; omega
    have w := wrap_succ (i := i) (n := l.length) h3 (by omega)
    have hlt : (i : Int) < (l.length : Int) := by omega
    have ca := rshow (ot := ot) (oz := oz) a.Typ (ok a (mem_of_get h1)).1.Typ (ok a (mem_of_get h1)).2
    have ih := rbinds_l0 l sign (by unfold Short maxLen; omega) B hB ok S fin st r (i + 1)
    have s1 := size_data a.Name
    have s2 := size_data sign
    have s3 := size_data (showT a.Typ)
    have fl : (bindT sign a).data.toList = a.Name.data.toList ++ (sign.data.toList ++ (showT a.Typ).data.toList) := by simp [bindT, ByteArray.data_append]
    rw [List.map_cons] at hb ⊢
    rw [e]
    cases i with
    | zero =>
      rw [joinI_zero, fl] at hb ⊢
      simp only [List.length_append, List.length_cons, List.length_nil] at hb
      have z1 := addB (a := bs) (s := a.Name) (by omega)
      have z2 := addB (a := bs ++ a.Name.data.toList) (s := sign) (by rw [List.length_append]; omega)
      have z3 := addB (a := bs ++ a.Name.data.toList ++ sign.data.toList) (s := showT a.Typ) (by rw [List.length_append, List.length_append]; omega)
      have ih := ih (bs ++ (a.Name.data.toList ++ (sign.data.toList ++ (showT a.Typ).data.toList))) h2 (by simp only [List.length_append]; omega)
      simp only [List.append_assoc, Nat.zero_add, cast_1, Int.cast_ofNat_Int] at ih z1 z2 z3 w hlt ⊢
      (rw [c43_l0_w]; simp only [c43_l0_b, c43_l0_a, go_sem, reduceIte, Nat.reduceEqDiff, Nat.reduceAdd, Nat.reduceSub, Nat.reduceMul, Nat.reduceLeDiff, Nat.reduceLT, Int.reduceNeg, Int.reduceEq, Int.reduceLT, Int.reduceLE, Int.reduceNe, Int.reduceToNat, Int.reduceAdd, Int.reduceMul, Int.reduceSub, Int.reduceBEq, hlt, h1, w, ca, ↓z1, ↓z2, ↓z3, ih])
    | succ i =>
      rw [joinI_succ, fl] at hb ⊢
      simp only [List.length_append, List.length_cons, List.length_nil] at hb
      have hz : (0 : Int) < ((i + 1 : Nat) : Int) := by omega
      have z0 := addB (a := bs) (s := ⟨#[44, 32]⟩) (by show _ + 2 ≤ _; omega)
      have z1 := addB (a := bs ++ [44, 32]) (s := a.Name) (by simp only [List.length_append, List.length_cons, List.length_nil]; omega)
      have z2 := addB (a := bs ++ [44, 32] ++ a.Name.data.toList) (s := sign) (by simp only [List.length_append, List.length_cons, List.length_nil]; omega)
      have z3 := addB (a := bs ++ [44, 32] ++ a.Name.data.toList ++ sign.data.toList) (s := showT a.Typ) (by simp only [List.length_append, List.length_cons, List.length_nil]; omega)
      have ih := ih (bs ++ ([44, 32] ++ (a.Name.data.toList ++ (sign.data.toList ++ (showT a.Typ).data.toList)))) h2 (by simp only [List.length_append, List.length_cons, List.length_nil]; omega)
      simp only [List.append_assoc, List.cons_append, List.nil_append] at ih z0 z1 z2 z3 ⊢
      (rw [c43_l0_w]; simp only [c43_l0_b, c43_l0_a, go_sem, reduceIte, Nat.reduceEqDiff, Nat.reduceAdd, Nat.reduceSub, Nat.reduceMul, Nat.reduceLeDiff, Nat.reduceLT, Int.reduceNeg, Int.reduceEq, Int.reduceLT, Int.reduceLE, Int.reduceNe, Int.reduceToNat, Int.reduceAdd, Int.reduceMul, Int.reduceSub, Int.reduceBEq, hlt, hz, h1, w, ca, ↓z0, ↓z1, ↓z2, ↓z3, ih])
theorem rbinds (l : List GBind) (sign : ByteArray) (hl : Short l.length) (ok : ∀ a ∈ l, OkBind a ∧ bulkL (rTy a.Typ) ≤ 1048576) (hB : (joinL [44, 32] (l.map (bindT sign))).length ≤ 70368744177664) (S : St) : cal (env ot oz) 43 [.sl .ro (l.map rBind), .str sign] S = some (.str (bindsT l sign), S) := by
  have f := fun fin st => rbinds_l0 (ot := ot) (oz := oz) l sign hl 70368744177664 (Nat.le_refl _) ok S fin st l 0 [] rfl (by show 0 + (joinL [44, 32] (l.map (bindT sign))).length ≤ _; omega)
  have e : txt ([] ++ joinI [44, 32] 0 (l.map (bindT sign))) = bindsT l sign := rfl
  have e0 : txt [] = ⟨#[]⟩ := rfl
  simp only [e, e0, Int.cast_ofNat_Int] at f
  (rw [w_plain (fn := c43) rfl rfl (by simp only [go_sem, reduceIte, Nat.reduceEqDiff, Nat.reduceAdd, Nat.reduceSub, Nat.reduceMul, Nat.reduceLeDiff, Nat.reduceLT, Int.reduceNeg, Int.reduceEq, Int.reduceLT, Int.reduceLE, Int.reduceNe, Int.reduceToNat, Int.reduceAdd, Int.reduceMul, Int.reduceSub, Int.reduceBEq, f]) rfl (by decide)]; simp only [c43, c43_b, go_sem, reduceIte, Nat.reduceEqDiff, Nat.reduceAdd, Nat.reduceSub, Nat.reduceMul, Nat.reduceLeDiff, Nat.reduceLT, Int.reduceNeg, Int.reduceEq, Int.reduceLT, Int.reduceLE, Int.reduceNe, Int.reduceToNat, Int.reduceAdd, Int.reduceMul, Int.reduceSub, Int.reduceBEq, f]; repeat' (first | (rw [guardO_t]; split <;> rename_i h <;> (try rw [Bool.not_eq_true] at h) <;> (try simp only [go_sem, reduceIte, Nat.reduceEqDiff, Nat.reduceAdd, Nat.reduceSub, Nat.reduceMul, Nat.reduceLeDiff, Nat.reduceLT, Int.reduceNeg, Int.reduceEq, Int.reduceLT, Int.reduceLE, Int.reduceNe, Int.reduceToNat, Int.reduceAdd, Int.reduceMul, Int.reduceSub, Int.reduceBEq, f, *])) | (rw [guardO_f]; split <;> rename_i h <;> (try rw [Bool.not_eq_true] at h) <;> (try simp only [go_sem, reduceIte, Nat.reduceEqDiff, Nat.reduceAdd, Nat.reduceSub, Nat.reduceMul, Nat.reduceLeDiff, Nat.reduceLT, Int.reduceNeg, Int.reduceEq, Int.reduceLT, Int.reduceLE, Int.reduceNe, Int.reduceToNat, Int.reduceAdd, Int.reduceMul, Int.reduceSub, Int.reduceBEq, f, *])) | (rw [cw_bool]; split <;> rename_i h <;> (try rw [Bool.not_eq_true] at h) <;> (try simp only [go_sem, reduceIte, Nat.reduceEqDiff, Nat.reduceAdd, Nat.reduceSub, Nat.reduceMul, Nat.reduceLeDiff, Nat.reduceLT, Int.reduceNeg, Int.reduceEq, Int.reduceLT, Int.reduceLE, Int.reduceNe, Int.reduceToNat, Int.reduceAdd, Int.reduceMul, Int.reduceSub, Int.reduceBEq, f, *]))))

theorem joinR_sum (c : Nat) : ∀ (ts : List ByteArray), (∀ t ∈ ts, t.size ≤ c) → (joinR [44, 32] ts).length ≤ ts.length * (c + 2)
  | [], _ => by simp [joinR]
  | t :: r, h => by
    have ih := joinR_sum c r fun x hx => h x (by simp [hx])
    have h1 := h t (by simp)
    simp only [joinR, List.length_append, size_data, List.length_cons, List.length_nil]
    rw [Nat.succ_mul]; omega
theorem bulk_get {l : List GBind} {b : GBind} (h : b ∈ l) : bulkL (rBind b) ≤ bulkLL (l.map rBind) := by
  induction l with
  | nil => simp at h
  | cons x r ih =>
    simp only [List.map_cons, bulkLL]
    rcases List.mem_cons.1 h with rfl | h
    · omega
    · have := ih h; omega
theorem bulk_bind (b : GBind) : bulkL (rBind b) = b.Name.size + 1 + bulkL (rTy b.Typ) := by
  simp only [rBind_eq, List.cons_append, List.nil_append, bulkL, PV.bulk]
/-- The names that the guard lets in. -/
def fewB (b : GBind) : Bool := !(decide (100 < muchT b.Typ)) && !(decide (100 < (b.Name.size : Int)))
theorem lists_l0 (l : List GBind) (sign : ByteArray) (hl : l.length ≤ 20) (ok : ∀ a ∈ l, OkBind a) (R : EC) : ∀ (rest : List GBind) (i : Nat) (new : List GTy), l.drop i = rest → new.length = i →
    run (env ot oz) (endF .none [.tmp 4]) [.block 0, .seq R] c10_l0 [(0, some (.sl .ro (l.map rBind))), (1, some (.str sign)), (5, some (.sl (accG .null .none 70 (new.map rTy)) (new.map rTy))), (6, some (.int .i64 (i : Int)))] (accS .none 5 [] (new.map rTy)) =
      if rest.all fewB then run (env ot oz) (endF .none [.tmp 4]) [] R [(0, some (.sl .ro (l.map rBind))), (1, some (.str sign)), (5, some (.sl (accG .null .none 70 ((new ++ rest.map GBind.Typ).map rTy)) ((new ++ rest.map GBind.Typ).map rTy))), (6, some (.int .i64 ((i + rest.length : Nat) : Int))), (19, some (.bool false))] (accS .none 5 [] ((new ++ rest.map GBind.Typ).map rTy)) else some (.bool true, .none)
  | [], i, new, h, hn => by
    have hlt := lt_no (drop_nil h)
    have e : new ++ ([] : List GBind).map GBind.Typ = new := by simp
    rw [e]
    simp only [List.all_nil, if_true]
    generalize new.map rTy = rows at *
    (rw [c10_l0_w]; simp only [c10_l0_b, c10_l0_a, c10_r1, c10_r7, c10_r10, go_sem, reduceIte, Nat.reduceEqDiff, Nat.reduceAdd, Nat.reduceSub, Nat.reduceMul, Nat.reduceLeDiff, Nat.reduceLT, Int.reduceNeg, Int.reduceEq, Int.reduceLT, Int.reduceLE, Int.reduceNe, Int.reduceToNat, Int.reduceAdd, Int.reduceMul, Int.reduceSub, Int.reduceBEq, hlt])
  | a :: r, i, new, h, hn => by
    obtain ⟨h1, h2, h3⟩ := drop_cons h
    have e : i + (a :: r).length = i + 1 + r.length := by simp only [List.length_cons]; omega
    have w := wrap_succ (i := i) (n := l.length) h3 (by omega)
    have hlt : (i : Int) < (l.length : Int) := by omega
    have m := fun S => cal_ans (muchT_ok (ot := ot) (oz := oz) a.Typ (ok a (mem_of_get h1)).Typ) (S := S)
    have aw := aw05 (ot := ot) (oz := oz)
    have ih := lists_l0 l sign hl ok R r (i + 1) (new ++ [a.Typ]) h2 (by simp [hn])
    have e2 : new ++ (a :: r).map GBind.Typ = new ++ [a.Typ] ++ r.map GBind.Typ := by simp
    rw [e2, e]
    have e3 : (new ++ [a.Typ]).map rTy = new.map rTy ++ [rTy a.Typ] := by simp
    rw [e3] at ih
    have hk : (new.map rTy).length = i := by simp [hn]
    have ho : headOk 5 (new.map rTy) = true := rTy_ok new
    generalize new.map rTy = rows at *
    generalize (new ++ [a.Typ] ++ r.map GBind.Typ).map rTy = fin2 at *
    have ap := acc_app (.inl rfl) .none 70 5 80 [] rows [rTy a.Typ] (by simp) (by decide) (by simp; omega) (by simp; omega) ho (by simp [headOk, rTy_len])
    simp only [List.nil_append] at ap
    rw [List.all_cons]
    have ef : fewB a = (!(decide (100 < muchT a.Typ)) && !(decide (100 < (a.Name.size : Int)))) := rfl
    by_cases q1 : 100 < muchT a.Typ
    · have ef : fewB a = false := by rw [ef]; simp [q1]
      simp only [ef, Bool.false_and, Bool.false_eq_true, if_false]
      (rw [c10_l0_w]; simp only [c10_l0_b, c10_l0_a, c10_r1, c10_r7, c10_r10, go_sem, reduceIte, Nat.reduceEqDiff, Nat.reduceAdd, Nat.reduceSub, Nat.reduceMul, Nat.reduceLeDiff, Nat.reduceLT, Int.reduceNeg, Int.reduceEq, Int.reduceLT, Int.reduceLE, Int.reduceNe, Int.reduceToNat, Int.reduceAdd, Int.reduceMul, Int.reduceSub, Int.reduceBEq, hlt, h1, w, m, aw, q1])
    · by_cases q2 : 100 < (a.Name.size : Int)
      · have ef : fewB a = false := by rw [ef]; simp [q2] <;> omega
        simp only [ef, Bool.false_and, Bool.false_eq_true, if_false]
        (rw [c10_l0_w]; simp only [c10_l0_b, c10_l0_a, c10_r1, c10_r7, c10_r10, go_sem, reduceIte, Nat.reduceEqDiff, Nat.reduceAdd, Nat.reduceSub, Nat.reduceMul, Nat.reduceLeDiff, Nat.reduceLT, Int.reduceNeg, Int.reduceEq, Int.reduceLT, Int.reduceLE, Int.reduceNe, Int.reduceToNat, Int.reduceAdd, Int.reduceMul, Int.reduceSub, Int.reduceBEq, hlt, h1, w, m, aw, q1, q2])
      · have ef : fewB a = true := by rw [ef]; simp [q1] <;> omega
        simp only [ef, Bool.true_and]
        (rw [c10_l0_w]; simp only [c10_l0_b, c10_l0_a, c10_r1, c10_r7, c10_r10, go_sem, reduceIte, Nat.reduceEqDiff, Nat.reduceAdd, Nat.reduceSub, Nat.reduceMul, Nat.reduceLeDiff, Nat.reduceLT, Int.reduceNeg, Int.reduceEq, Int.reduceLT, Int.reduceLE, Int.reduceNe, Int.reduceToNat, Int.reduceAdd, Int.reduceMul, Int.reduceSub, Int.reduceBEq, hlt, h1, w, m, aw, q1, q2, ap, ih])
theorem tyfmtLists (l : List GBind) (sign : ByteArray) (ok : Short l.length ∧ ∀ a ∈ l, OkBind a) (oks : Short sign.size) (hb : PV.bulk (.sl .ro (l.map rBind)) ≤ 1048576) (hbs : sign.size + 1 ≤ 1048576) : Ev (env ot oz) 10 [.sl .ro (l.map rBind), .str sign] .none (.bool true) .none := by
  refine cal_ev ?_
  have aw := aw05 (ot := ot) (oz := oz)
  have hb' : ∀ b ∈ l, b.Name.size + 1 + bulkL (rTy b.Typ) ≤ 1048576 := fun b hm => by
    have := bulk_get hm
    rw [bulk_bind] at this
    simp only [PV.bulk] at hb; omega
  by_cases g1 : (20 : Int) < (l.length : Int)
  · (rw [w_plain (fn := c10) rfl rfl (by simp only [go_sem, reduceIte, Nat.reduceEqDiff, Nat.reduceAdd, Nat.reduceSub, Nat.reduceMul, Nat.reduceLeDiff, Nat.reduceLT, Int.reduceNeg, Int.reduceEq, Int.reduceLT, Int.reduceLE, Int.reduceNe, Int.reduceToNat, Int.reduceAdd, Int.reduceMul, Int.reduceSub, Int.reduceBEq, g1, aw]) rfl (by decide)]; simp only [c10, c10_b, c10_r1, c10_r7, c10_r10, go_sem, reduceIte, Nat.reduceEqDiff, Nat.reduceAdd, Nat.reduceSub, Nat.reduceMul, Nat.reduceLeDiff, Nat.reduceLT, Int.reduceNeg, Int.reduceEq, Int.reduceLT, Int.reduceLE, Int.reduceNe, Int.reduceToNat, Int.reduceAdd, Int.reduceMul, Int.reduceSub, Int.reduceBEq, g1, aw])
  · by_cases g2 : (100 : Int) < (sign.size : Int)
    · (rw [w_plain (fn := c10) rfl rfl (by simp only [go_sem, reduceIte, Nat.reduceEqDiff, Nat.reduceAdd, Nat.reduceSub, Nat.reduceMul, Nat.reduceLeDiff, Nat.reduceLT, Int.reduceNeg, Int.reduceEq, Int.reduceLT, Int.reduceLE, Int.reduceNe, Int.reduceToNat, Int.reduceAdd, Int.reduceMul, Int.reduceSub, Int.reduceBEq, g1, g2, aw]) rfl (by decide)]; simp only [c10, c10_b, c10_r1, c10_r7, c10_r10, go_sem, reduceIte, Nat.reduceEqDiff, Nat.reduceAdd, Nat.reduceSub, Nat.reduceMul, Nat.reduceLeDiff, Nat.reduceLT, Int.reduceNeg, Int.reduceEq, Int.reduceLT, Int.reduceLE, Int.reduceNe, Int.reduceToNat, Int.reduceAdd, Int.reduceMul, Int.reduceSub, Int.reduceBEq, g1, g2, aw])
    · have f := fun R => lists_l0 (ot := ot) (oz := oz) l sign (by omega) ok.2 R l 0 [] rfl rfl
      simp only [List.map_nil, accG_nil, accS_nil, List.nil_append, Int.cast_ofNat_Int] at f
      by_cases q : l.all fewB = true
      · have hB1 : (joinL [44, 32] ((l.map GBind.Typ).map showT)).length ≤ 70368744177664 := by
          have h1 := joinL_R [44, 32] ((l.map GBind.Typ).map showT)
          have h2 := joinR_sum 10485760 ((l.map GBind.Typ).map showT) (fun t ht => by
            simp only [List.map_map, List.mem_map] at ht
            obtain ⟨b, hb1, rfl⟩ := ht
            have := showT_bulk b.Typ
            have := hb' b hb1
            simp only [Function.comp]; omega)
          simp only [List.length_map] at h2
          have : l.length * (10485760 + 2) ≤ 20 * (10485760 + 2) := Nat.mul_le_mul_right _ (by omega)
          omega
        have hB2 : (joinL [44, 32] (l.map (bindT sign))).length ≤ 70368744177664 := by
          have h1 := joinL_R [44, 32] (l.map (bindT sign))
          have h2 := joinR_sum 20971520 (l.map (bindT sign)) (fun t ht => by
            simp only [List.mem_map] at ht
            obtain ⟨b, hb1, rfl⟩ := ht
            have := showT_bulk b.Typ
            have := hb' b hb1
            unfold bindT
            rw [app_size, app_size]; omega)
          simp only [List.length_map] at h2
          have : l.length * (20971520 + 2) ≤ 20 * (20971520 + 2) := Nat.mul_le_mul_right _ (by omega)
          omega
        have okT : ∀ a ∈ l.map GBind.Typ, OkTy a ∧ bulkL (rTy a) ≤ 1048576 := fun a ha => by
          obtain ⟨b, hb1, rfl⟩ := List.mem_map.1 ha
          exact ⟨(ok.2 b hb1).Typ, by have := hb' b hb1; omega⟩
        have sT : Short (l.map GBind.Typ).length := by rw [List.length_map]; exact ok.1
        have c1 := tlist (ot := ot) (oz := oz) (l.map GBind.Typ) sT okT hB1
        have c2 := rlist (ot := ot) (oz := oz) (l.map GBind.Typ) sT okT hB1
        have okB : ∀ a ∈ l, OkBind a ∧ bulkL (rTy a.Typ) ≤ 1048576 := fun a ha => ⟨ok.2 a ha, by have := hb' a ha; omega⟩
        have c3 := tbinds (ot := ot) (oz := oz) l sign ok.1 okB hB2
        have c4 := rbinds (ot := ot) (oz := oz) l sign ok.1 okB hB2
        simp only [q, if_true] at f
        generalize (l.map GBind.Typ).map rTy = rows at *
        (rw [w_plain (fn := c10) rfl rfl (by simp only [go_sem, reduceIte, Nat.reduceEqDiff, Nat.reduceAdd, Nat.reduceSub, Nat.reduceMul, Nat.reduceLeDiff, Nat.reduceLT, Int.reduceNeg, Int.reduceEq, Int.reduceLT, Int.reduceLE, Int.reduceNe, Int.reduceToNat, Int.reduceAdd, Int.reduceMul, Int.reduceSub, Int.reduceBEq, g1, g2, f, c1, c2, c3, c4, aw]) rfl (by decide)]; simp only [c10, c10_b, c10_r1, c10_r7, c10_r10, go_sem, reduceIte, Nat.reduceEqDiff, Nat.reduceAdd, Nat.reduceSub, Nat.reduceMul, Nat.reduceLeDiff, Nat.reduceLT, Int.reduceNeg, Int.reduceEq, Int.reduceLT, Int.reduceLE, Int.reduceNe, Int.reduceToNat, Int.reduceAdd, Int.reduceMul, Int.reduceSub, Int.reduceBEq, g1, g2, f, c1, c2, c3, c4, aw])
      · simp only [Bool.not_eq_true] at q
        simp only [q, if_false, Bool.false_eq_true] at f
        (rw [w_plain (fn := c10) rfl rfl (by simp only [go_sem, reduceIte, Nat.reduceEqDiff, Nat.reduceAdd, Nat.reduceSub, Nat.reduceMul, Nat.reduceLeDiff, Nat.reduceLT, Int.reduceNeg, Int.reduceEq, Int.reduceLT, Int.reduceLE, Int.reduceNe, Int.reduceToNat, Int.reduceAdd, Int.reduceMul, Int.reduceSub, Int.reduceBEq, g1, g2, f, aw]) rfl (by decide)]; simp only [c10, c10_b, c10_r1, c10_r7, c10_r10, go_sem, reduceIte, Nat.reduceEqDiff, Nat.reduceAdd, Nat.reduceSub, Nat.reduceMul, Nat.reduceLeDiff, Nat.reduceLT, Int.reduceNeg, Int.reduceEq, Int.reduceLT, Int.reduceLE, Int.reduceNe, Int.reduceToNat, Int.reduceAdd, Int.reduceMul, Int.reduceSub, Int.reduceBEq, g1, g2, f, aw])
end
end Go.PE
