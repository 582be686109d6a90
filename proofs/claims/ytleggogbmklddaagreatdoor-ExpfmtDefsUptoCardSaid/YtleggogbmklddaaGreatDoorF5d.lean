/-
  The laws TyfmtShows and TyfmtLists, at the evaluator's level. Conditions: each law's own (what comes in is of bulk at most 1048576).
-/
import Derived.Test.YtleggogbmklddaaGreatDoorF5c
import Derived.Test.YtleggogbmklddaaGreatDoorN01
namespace Go.PE
open Go Go.RowKit Go.Proofs
set_option linter.unusedVariables false
set_option linter.unusedSimpArgs false
set_option maxRecDepth 100000
def showT (t : GTy) : ByteArray := if rightT t then shownT t else ⟨#[]⟩
/-! ### how long a text is -/
theorem bulk_ty (t : GTy) : bulkL (rTy t) = 2 + (t.Name.size + 1) + (bulkLL (t.Labels.map rStr) + 1) + (bulkLL (t.Args.map rTy) + 1) := by
  cases t; simp only [rTy_mk, bulkL, PV.bulk, GTy.Name, GTy.Labels, GTy.Args]; omega
theorem joinR_bulk (c : Nat) : ∀ (ls : List ByteArray) (as_ : List GTy), ls.length = as_.length → (∀ a ∈ as_, (shownT a).size ≤ c * bulkL (rTy a)) → 4 ≤ c → (joinR [44, 32] (fieldsT ls as_)).length ≤ c * (bulkLL (ls.map rStr) + bulkLL (as_.map rTy))
  | [], [], _, _, _ => by simp [fieldsT, joinR]
  | l :: ls, a :: as_, h, ha, hc => by
    have ih := joinR_bulk c ls as_ (by simpa using h) (fun x hx => ha x (by simp [hx])) hc
    have h1 := ha a (by simp)
    simp only [fieldsT, joinR, List.headD_cons, List.tail_cons, List.length_append, size_data, app_size, List.map_cons, bulkLL, rStr, bulkL, PV.bulk, List.length_cons, List.length_nil]
    have e : (⟨#[58, 32]⟩ : ByteArray).size = 2 := rfl
    rw [e]
    have h2 : c * (l.size + 1 + 0 + bulkLL (ls.map rStr) + (bulkL (rTy a) + bulkLL (as_.map rTy))) = c * l.size + c + c * bulkL (rTy a) + c * (bulkLL (ls.map rStr) + bulkLL (as_.map rTy)) := by
      simp only [Nat.mul_add, Nat.mul_one, Nat.mul_zero]; omega
    have h3 : l.size ≤ c * l.size := Nat.le_mul_of_pos_left _ (by omega)
    show _ ≤ c * (l.size + 1 + 0 + bulkLL (ls.map rStr) + (bulkL (rTy a) + bulkLL (as_.map rTy)))
    omega
theorem joinL_R (b : List UInt8) (ts : List ByteArray) : (joinL b ts).length ≤ (joinR b ts).length := by
  cases ts <;> simp [joinL, joinR]
theorem shown_bulk : ∀ (t : GTy), rightT t = true → (shownT t).size ≤ 10 * bulkL (rTy t) := by
  refine GTy.ind fun t ih hr => ?_
  have hra := right_args hr
  have hb := bulk_ty t
  rw [shownT_eq]
  rcases right_kinds hr with hk | hk | hk | hk | hk | hk | hk | hk | hk
  · simp [hk, ByteArray.size]; omega
  · simp [hk, ByteArray.size]; omega
  · simp [hk, ByteArray.size]; omega
  · simp [hk, ByteArray.size]; omega
  · simp [hk, ByteArray.size]; omega
  · simp [hk]; omega
  · have := numS_21 t.N
    simp only [hk]
    show (⟨#[35]⟩ ++ numS t.N : ByteArray).size ≤ _
    rw [app_size]
    have e : (⟨#[35]⟩ : ByteArray).size = 1 := rfl
    omega
  · obtain ⟨a, b, hab⟩ := right_two hr hk
    simp only [hk]
    show (funT t.Args).size ≤ _
    rw [hab] at hb
    simp only [List.map_cons, List.map_nil, bulkLL] at hb
    rw [hab, funT_two, app_size, app_size]
    have h1 := ih a (by rw [hab]; simp) (hra a (by rw [hab]; simp))
    have h2 := ih b (by rw [hab]; simp) (hra b (by rw [hab]; simp))
    have e : (⟨#[32, 45, 62, 32]⟩ : ByteArray).size = 4 := rfl
    have e1 : (⟨#[40]⟩ : ByteArray).size = 1 := rfl
    have e2 : (⟨#[41]⟩ : ByteArray).size = 1 := rfl
    have h3 : (takenT a).size ≤ (shownT a).size + 2 := by
      unfold takenT
      split
      · rw [app_size, app_size]; omega
      · omega
    omega
  · obtain ⟨hL, _⟩ := right_rec hr hk
    simp only [hk]
    show (⟨#[123]⟩ ++ txt (joinL [44, 32] (fieldsT t.Labels t.Args)) ++ ⟨#[125]⟩ : ByteArray).size ≤ _
    rw [app_size, app_size, txt_size]
    have h1 := joinR_bulk 10 t.Labels t.Args hL (fun a ha => ih a ha (hra a ha)) (by omega)
    have h2 := joinL_R [44, 32] (fieldsT t.Labels t.Args)
    have e1 : (⟨#[123]⟩ : ByteArray).size = 1 := rfl
    have e2 : (⟨#[125]⟩ : ByteArray).size = 1 := rfl
    omega
theorem showT_bulk (t : GTy) : (showT t).size ≤ 10 * bulkL (rTy t) := by
  unfold showT
  split
  · exact shown_bulk t (by assumption)
  · simp [ByteArray.size]
section
variable {ot : TypeId} {oz : EP}
theorem tshow (t : GTy) (ok : OkTy t) (hb : bulkL (rTy t) ≤ 1048576) (S : St) : cal (env ot oz) 28 [.agg (rTy t)] S = some (.str (showT t), S) := by
  have r := right_eq (ot := ot) (oz := oz) t ok
  have e : showT t = if rightT t then shownT t else ⟨#[]⟩ := rfl
  cases q : rightT t with
  | true =>
    have z := shown_bulk t q
    have c := shown_eq (ot := ot) (oz := oz) t ok q (by omega)
    simp only [q, if_true] at e r
    (rw [w_plain (fn := c28) rfl rfl (by simp only [go_sem, r, c, e]) rfl (by decide)]; simp only [c28, c28_b, go_sem, r, c, e]; repeat' ((first | rw [guardO_t] | rw [guardO_f] | rw [cw_bool]); split <;> rename_i h <;> (try rw [Bool.not_eq_true] at h) <;> (try simp only [go_sem, r, c, e, *])))
  | false =>
    simp only [q, if_false, Bool.false_eq_true] at e r
    (rw [w_plain (fn := c28) rfl rfl (by simp only [go_sem, r, e]) rfl (by decide)]; simp only [c28, c28_b, go_sem, r, e]; repeat' ((first | rw [guardO_t] | rw [guardO_f] | rw [cw_bool]); split <;> rename_i h <;> (try rw [Bool.not_eq_true] at h) <;> (try simp only [go_sem, r, e, *])))
theorem rshow (t : GTy) (ok : OkTy t) (hb : bulkL (rTy t) ≤ 1048576) (S : St) : cal (env ot oz) 30 [.agg (rTy t)] S = some (.str (showT t), S) := by
  have r := fun S => cal_ans (right04_ok (ot := ot) (oz := oz) t ok) (S := S)
  have e : showT t = if rightT t then shownT t else ⟨#[]⟩ := rfl
  cases q : rightT t with
  | true =>
    have z := shown_bulk t q
    have c := show05 (ot := ot) (oz := oz) t ok q (by omega)
    simp only [q, if_true] at e r
    (rw [w_plain (fn := c30) rfl rfl (by simp only [go_sem, r, c, e]) rfl (by decide)]; simp only [c30, c30_b, go_sem, r, c, e]; repeat' ((first | rw [guardO_t] | rw [guardO_f] | rw [cw_bool]); split <;> rename_i h <;> (try rw [Bool.not_eq_true] at h) <;> (try simp only [go_sem, r, c, e, *])))
  | false =>
    simp only [q, if_false, Bool.false_eq_true] at e r
    (rw [w_plain (fn := c30) rfl rfl (by simp only [go_sem, r, e]) rfl (by decide)]; simp only [c30, c30_b, go_sem, r, e]; repeat' ((first | rw [guardO_t] | rw [guardO_f] | rw [cw_bool]); split <;> rename_i h <;> (try rw [Bool.not_eq_true] at h) <;> (try simp only [go_sem, r, e, *])))
def listT (l : List GTy) : ByteArray := txt (joinL [44, 32] (l.map showT))
def bindT (sign : ByteArray) (b : GBind) : ByteArray := b.Name ++ sign ++ showT b.Typ
def bindsT (l : List GBind) (sign : ByteArray) : ByteArray := txt (joinL [44, 32] (l.map (bindT sign)))
theorem get_map {α β : Type} {f : α → β} {l : List α} {i : Nat} {a : α} {t : β} (h : l[i]? = some a) (k : (l.map f)[i]? = some t) : t = f a := by
  rw [List.getElem?_map, h] at k; exact (Option.some.inj k).symm
theorem tlist (l : List GTy) (hl : Short l.length) (ok : ∀ a ∈ l, OkTy a ∧ bulkL (rTy a) ≤ 1048576) (hB : (joinL [44, 32] (l.map showT)).length ≤ 70368744177664) (g : Tag) (S : St) : cal (env ot oz) 91 [.sl g (l.map rTy)] S = some (.str (listT l), S) := by
  refine cal_tag1 ?_ (plainLL_map fun x _ => rTy_plain x)
  have h1 : ∀ (i : Nat) a t, l[i]? = some a → (l.map showT)[i]? = some t → ∀ S, cal (env ot oz) 118 ([] ++ [.int .i64 (i : Int), .agg (rTy a)] ++ []) S = some (.str t, S) := by
    intro i a t ha ht S
    rw [get_map ha ht]
    have c := tshow (ot := ot) (oz := oz) a (ok a (mem_of_get ha)).1 (ok a (mem_of_get ha)).2
    simp only [List.nil_append, List.append_nil]
    (rw [w_plain (fn := c118) rfl rfl (by simp only [go_sem, c]) rfl (by decide)]; simp only [c118, c118_b, go_sem, c]; repeat' ((first | rw [guardO_t] | rw [guardO_f] | rw [cw_bool]); split <;> rename_i h <;> (try rw [Bool.not_eq_true] at h) <;> (try simp only [go_sem, c, *])))
  have c := joined_eqTy (ot := ot) (oz := oz) l (l.map showT) hl (List.length_map _) 118 [] [] (fun _ _ => rfl) (fun _ _ => rfl) hB h1
  have e : txt (joinL [44, 32] (l.map showT)) = listT l := rfl
  rw [e] at c
  (rw [w_plain (fn := c91) rfl rfl (by simp only [go_sem, c]) rfl (by decide)]; simp only [c91, c91_b, go_sem, c]; repeat' ((first | rw [guardO_t] | rw [guardO_f] | rw [cw_bool]); split <;> rename_i h <;> (try rw [Bool.not_eq_true] at h) <;> (try simp only [go_sem, c, *])))
theorem tbinds (l : List GBind) (sign : ByteArray) (hl : Short l.length) (ok : ∀ a ∈ l, OkBind a ∧ bulkL (rTy a.Typ) ≤ 1048576) (hB : (joinL [44, 32] (l.map (bindT sign))).length ≤ 70368744177664) (S : St) : cal (env ot oz) 27 [.sl .ro (l.map rBind), .str sign] S = some (.str (bindsT l sign), S) := by
  have h1 : ∀ (i : Nat) a t, l[i]? = some a → (l.map (bindT sign))[i]? = some t → ∀ S, cal (env ot oz) 64 ([] ++ [.int .i64 (i : Int), .agg (rBind a)] ++ [.at_ [.str sign]]) S = some (.str t, S) := by
    intro i a t ha ht S
    have hm := Nat.le_trans (joinL_mem (b := [44, 32]) (mem_of_get ht)) hB
    rw [get_map ha ht] at hm ⊢
    unfold bindT at hm ⊢
    rw [app_size, app_size] at hm
    have c := tshow (ot := ot) (oz := oz) a.Typ (ok a (mem_of_get ha)).1.Typ (ok a (mem_of_get ha)).2
    have z1 := addS (a := a.Name) (b := sign) (by omega)
    have z2 := addS (a := a.Name ++ sign) (b := showT a.Typ) (by rw [app_size]; omega)
    simp only [List.nil_append, List.cons_append]
    (rw [w_plain (fn := c64) rfl rfl (by simp only [go_sem, c, ↓z1, ↓z2]) rfl (by decide)]; simp only [c64, c64_b, go_sem, c, ↓z1, ↓z2]; repeat' ((first | rw [guardO_t] | rw [guardO_f] | rw [cw_bool]); split <;> rename_i h <;> (try rw [Bool.not_eq_true] at h) <;> (try simp only [go_sem, c, ↓z1, ↓z2, *])))
  have c := joined_eqBind (ot := ot) (oz := oz) l (l.map (bindT sign)) hl (List.length_map _) 64 [] [.at_ [.str sign]] (fun n d => by simp only [sealL, sealW, Option.map_some, Option.bind_some]) (fun _ _ => rfl) hB h1
  have e : txt (joinL [44, 32] (l.map (bindT sign))) = bindsT l sign := rfl
  rw [e] at c
  (rw [w_plain (fn := c27) rfl rfl (by simp only [go_sem, c]) rfl (by decide)]; simp only [c27, c27_b, go_sem, c]; repeat' ((first | rw [guardO_t] | rw [guardO_f] | rw [cw_bool]); split <;> rename_i h <;> (try rw [Bool.not_eq_true] at h) <;> (try simp only [go_sem, c, *])))
theorem rlist_l0 (l : List GTy) (hl : Short l.length) (B : Nat) (hB : B ≤ 70368744177664) (ok : ∀ a ∈ l, OkTy a ∧ bulkL (rTy a) ≤ 1048576) (S : St) (fin : Kont (PV × St)) (st : List Fw) : ∀ (rest : List GTy) (i : Nat) (bs : List UInt8), l.drop i = rest → bs.length + (joinI [44, 32] i (rest.map showT)).length ≤ B →
    run (env ot oz) fin st c57_l0 [(0, some (.sl .ro (l.map rTy))), (3, some (.str (txt bs))), (4, some (.int .i64 (i : Int)))] S =
      aft (env ot oz) fin st (.exit 0) [(0, some (.sl .ro (l.map rTy))), (3, some (.str (txt (bs ++ joinI [44, 32] i (rest.map showT))))), (4, some (.int .i64 ((i + rest.length : Nat) : Int))), (8, some (.bool false))] S
  | [], i, bs, h, hb => by
    have hlt := lt_no (drop_nil h)
    rw [List.map_nil, joinI_nil]
    (rw [c57_l0_w]; simp only [c57_l0_b, c57_l0_a, go_sem, hlt])
  | a :: r, i, bs, h, hb => by
    obtain ⟨h1, h2, h3⟩ := drop_cons h
    unfold Short maxLen at hl
    have e : i + (a :: r).length = i + 1 + r.length := by simp only [List.length_cons]; omega
    have w := wrap_succ (i := i) (n := l.length) h3 (by omega)
    have hlt : (i : Int) < (l.length : Int) := by omega
    have ca := rshow (ot := ot) (oz := oz) a (ok a (mem_of_get h1)).1 (ok a (mem_of_get h1)).2
    have ih := rlist_l0 l (by unfold Short maxLen; omega) B hB ok S fin st r (i + 1)
    have sa := size_data (showT a)
    rw [List.map_cons] at hb ⊢
    rw [e]
    cases i with
    | zero =>
      rw [joinI_zero] at hb ⊢
      simp only [List.length_append, List.length_cons, List.length_nil] at hb
      have z1 := addB (a := bs) (s := showT a) (by omega)
      have ih := ih (bs ++ (showT a).data.toList) h2 (by simp only [List.length_append]; omega)
      simp only [List.append_assoc, Nat.zero_add, cast_1, Int.cast_ofNat_Int] at ih w hlt ⊢
      (rw [c57_l0_w]; simp only [c57_l0_b, c57_l0_a, go_sem, hlt, h1, w, ca, ↓z1, ih])
    | succ i =>
      rw [joinI_succ] at hb ⊢
      simp only [List.length_append, List.length_cons, List.length_nil] at hb
      have hz : (0 : Int) < ((i + 1 : Nat) : Int) := by omega
      have z0 := addB (a := bs) (s := ⟨#[44, 32]⟩) (by show _ + 2 ≤ _; omega)
      have z1 := addB (a := bs ++ [44, 32]) (s := showT a) (by simp only [List.length_append, List.length_cons, List.length_nil]; omega)
      have ih := ih (bs ++ ([44, 32] ++ (showT a).data.toList)) h2 (by simp only [List.length_append, List.length_cons, List.length_nil]; omega)
      simp only [List.append_assoc, List.cons_append, List.nil_append] at ih z0 z1 ⊢
      (rw [c57_l0_w]; simp only [c57_l0_b, c57_l0_a, go_sem, hlt, hz, h1, w, ca, ↓z0, ↓z1, ih])
theorem rlist (l : List GTy) (hl : Short l.length) (ok : ∀ a ∈ l, OkTy a ∧ bulkL (rTy a) ≤ 1048576) (hB : (joinL [44, 32] (l.map showT)).length ≤ 70368744177664) (g : Tag) (S : St) : cal (env ot oz) 57 [.sl g (l.map rTy)] S = some (.str (listT l), S) := by
  refine cal_tag1 ?_ (plainLL_map fun x _ => rTy_plain x)
  have f := fun fin st => rlist_l0 (ot := ot) (oz := oz) l hl 70368744177664 (Nat.le_refl _) ok S fin st l 0 [] rfl (by show 0 + (joinL [44, 32] (l.map showT)).length ≤ _; omega)
  have e : txt ([] ++ joinI [44, 32] 0 (l.map showT)) = listT l := rfl
  have e0 : txt [] = ⟨#[]⟩ := rfl
  simp only [e, e0, Int.cast_ofNat_Int] at f
  (rw [w_plain (fn := c57) rfl rfl (by simp only [go_sem, f]) rfl (by decide)]; simp only [c57, c57_b, go_sem, f]; repeat' ((first | rw [guardO_t] | rw [guardO_f] | rw [cw_bool]); split <;> rename_i h <;> (try rw [Bool.not_eq_true] at h) <;> (try simp only [go_sem, f, *])))
theorem rbinds_l0 (l : List GBind) (sign : ByteArray) (hl : Short l.length) (B : Nat) (hB : B ≤ 70368744177664) (ok : ∀ a ∈ l, OkBind a ∧ bulkL (rTy a.Typ) ≤ 1048576) (S : St) (fin : Kont (PV × St)) (st : List Fw) : ∀ (rest : List GBind) (i : Nat) (bs : List UInt8), l.drop i = rest → bs.length + (joinI [44, 32] i (rest.map (bindT sign))).length ≤ B →
    run (env ot oz) fin st c29_l0 [(0, some (.sl .ro (l.map rBind))), (1, some (.str sign)), (5, some (.str (txt bs))), (6, some (.int .i64 (i : Int)))] S =
      aft (env ot oz) fin st (.exit 0) [(0, some (.sl .ro (l.map rBind))), (1, some (.str sign)), (5, some (.str (txt (bs ++ joinI [44, 32] i (rest.map (bindT sign)))))), (6, some (.int .i64 ((i + rest.length : Nat) : Int))), (10, some (.bool false))] S
  | [], i, bs, h, hb => by
    have hlt := lt_no (drop_nil h)
    rw [List.map_nil, joinI_nil]
    (rw [c29_l0_w]; simp only [c29_l0_b, c29_l0_a, go_sem, hlt])
  | a :: r, i, bs, h, hb => by
    obtain ⟨h1, h2, h3⟩ := drop_cons h
    unfold Short maxLen at hl
    have e : i + (a :: r).length = i + 1 + r.length := by simp only [List.length_cons]; omega
    have w := wrap_succ (i := i) (n := l.length) h3 (by omega)
    have hlt : (i : Int) < (l.length : Int) := by omega
    have ca := rshow (ot := ot) (oz := oz) a.Typ (ok a (mem_of_get h1)).1.Typ (ok a (mem_of_get h1)).2
    have ih := rbinds_l0 l sign (by unfold Short maxLen; omega) B hB ok S fin st r (i + 1)
    have s1 := size_data a.Name
    have s2 := size_data sign
    have s3 := size_data (showT a.Typ)
    have fl : (bindT sign a).data.toList = a.Name.data.toList ++ (sign.data.toList ++ (showT a.Typ).data.toList) := by simp [bindT, ByteArray.data_append]
    rw [List.map_cons] at hb ⊢
    rw [e]
    cases i with
    | zero =>
      rw [joinI_zero, fl] at hb ⊢
      simp only [List.length_append, List.length_cons, List.length_nil] at hb
      have z1 := addB (a := bs) (s := a.Name) (by omega)
      have z2 := addB (a := bs ++ a.Name.data.toList) (s := sign) (by rw [List.length_append]; omega)
      have z3 := addB (a := bs ++ a.Name.data.toList ++ sign.data.toList) (s := showT a.Typ) (by rw [List.length_append, List.length_append]; omega)
      have ih := ih (bs ++ (a.Name.data.toList ++ (sign.data.toList ++ (showT a.Typ).data.toList))) h2 (by simp only [List.length_append]; omega)
      simp only [List.append_assoc, Nat.zero_add, cast_1, Int.cast_ofNat_Int] at ih z1 z2 z3 w hlt ⊢
      (rw [c29_l0_w]; simp only [c29_l0_b, c29_l0_a, go_sem, hlt, h1, w, ca, ↓z1, ↓z2, ↓z3, ih])
    | succ i =>
      rw [joinI_succ, fl] at hb ⊢
      simp only [List.length_append, List.length_cons, List.length_nil] at hb
      have hz : (0 : Int) < ((i + 1 : Nat) : Int) := by omega
      have z0 := addB (a := bs) (s := ⟨#[44, 32]⟩) (by show _ + 2 ≤ _; omega)
      have z1 := addB (a := bs ++ [44, 32]) (s := a.Name) (by simp only [List.length_append, List.length_cons, List.length_nil]; omega)
      have z2 := addB (a := bs ++ [44, 32] ++ a.Name.data.toList) (s := sign) (by simp only [List.length_append, List.length_cons, List.length_nil]; omega)
      have z3 := addB (a := bs ++ [44, 32] ++ a.Name.data.toList ++ sign.data.toList) (s := showT a.Typ) (by simp only [List.length_append, List.length_cons, List.length_nil]; omega)
      have ih := ih (bs ++ ([44, 32] ++ (a.Name.data.toList ++ (sign.data.toList ++ (showT a.Typ).data.toList)))) h2 (by simp only [List.length_append, List.length_cons, List.length_nil]; omega)
      simp only [List.append_assoc, List.cons_append, List.nil_append] at ih z0 z1 z2 z3 ⊢
      (rw [c29_l0_w]; simp only [c29_l0_b, c29_l0_a, go_sem, hlt, hz, h1, w, ca, ↓z0, ↓z1, ↓z2, ↓z3, ih])
theorem rbinds (l : List GBind) (sign : ByteArray) (hl : Short l.length) (ok : ∀ a ∈ l, OkBind a ∧ bulkL (rTy a.Typ) ≤ 1048576) (hB : (joinL [44, 32] (l.map (bindT sign))).length ≤ 70368744177664) (S : St) : cal (env ot oz) 29 [.sl .ro (l.map rBind), .str sign] S = some (.str (bindsT l sign), S) := by
  have f := fun fin st => rbinds_l0 (ot := ot) (oz := oz) l sign hl 70368744177664 (Nat.le_refl _) ok S fin st l 0 [] rfl (by show 0 + (joinL [44, 32] (l.map (bindT sign))).length ≤ _; omega)
  have e : txt ([] ++ joinI [44, 32] 0 (l.map (bindT sign))) = bindsT l sign := rfl
  have e0 : txt [] = ⟨#[]⟩ := rfl
  simp only [e, e0, Int.cast_ofNat_Int] at f
  (rw [w_plain (fn := c29) rfl rfl (by simp only [go_sem, f]) rfl (by decide)]; simp only [c29, c29_b, go_sem, f]; repeat' ((first | rw [guardO_t] | rw [guardO_f] | rw [cw_bool]); split <;> rename_i h <;> (try rw [Bool.not_eq_true] at h) <;> (try simp only [go_sem, f, *])))

theorem bulk_bind (b : GBind) : bulkL (rBind b) = b.Name.size + 1 + bulkL (rTy b.Typ) := by
  simp only [rBind_eq, List.cons_append, List.nil_append, bulkL, PV.bulk]
end
end Go.PE
