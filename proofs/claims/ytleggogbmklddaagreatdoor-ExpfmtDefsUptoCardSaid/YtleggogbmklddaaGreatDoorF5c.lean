/-
  Types as texts, by the program: shown. Conditions: each law's own (texts of at most 2^46 bytes).
-/
import Derived.Test.YtleggogbmklddaaGreatDoorF5
namespace Go.PE
open Go Go.RowKit Go.Proofs
set_option linter.unusedVariables false
set_option linter.unusedSimpArgs false
set_option maxRecDepth 100000

mutual
def shownT : GTy → ByteArray
  | .mk K N Name Labels Args => if K == 1 then ⟨#[73, 110, 116]⟩ else if K == 2 then ⟨#[66, 111, 111, 108]⟩ else if K == 3 then ⟨#[83, 116, 114, 105, 110, 103]⟩ else if K == 4 then ⟨#[84, 111, 112]⟩ else if K == 5 then ⟨#[63]⟩ else if K == 6 then Name
    else if K == 9 then ⟨#[35]⟩ ++ numS N else if K == 7 then funT Args else ⟨#[123]⟩ ++ txt (joinL [44, 32] (fieldsT Labels Args)) ++ ⟨#[125]⟩
def funT : List GTy → ByteArray
  | a :: r => (if a.K == 7 then ⟨#[40]⟩ ++ shownT a ++ ⟨#[41]⟩ else shownT a) ++ ⟨#[32, 45, 62, 32]⟩ ++ resT r
  | [] => ⟨#[]⟩
def resT : List GTy → ByteArray
  | b :: _ => shownT b
  | [] => ⟨#[]⟩
def fieldsT : List ByteArray → List GTy → List ByteArray
  | ls, a :: r => (ls.headD ⟨#[]⟩ ++ ⟨#[58, 32]⟩ ++ shownT a) :: fieldsT ls.tail r
  | _, [] => []
end
def takenT (t : GTy) : ByteArray := if t.K == 7 then ⟨#[40]⟩ ++ shownT t ++ ⟨#[41]⟩ else shownT t
theorem shownT_eq (t : GTy) : shownT t = if t.K == 1 then ⟨#[73, 110, 116]⟩ else if t.K == 2 then ⟨#[66, 111, 111, 108]⟩ else if t.K == 3 then ⟨#[83, 116, 114, 105, 110, 103]⟩ else if t.K == 4 then ⟨#[84, 111, 112]⟩ else if t.K == 5 then ⟨#[63]⟩ else if t.K == 6 then t.Name
    else if t.K == 9 then ⟨#[35]⟩ ++ numS t.N else if t.K == 7 then funT t.Args else ⟨#[123]⟩ ++ txt (joinL [44, 32] (fieldsT t.Labels t.Args)) ++ ⟨#[125]⟩ := by cases t; rw [shownT]; rfl
theorem funT_two (a b : GTy) : funT [a, b] = takenT a ++ ⟨#[32, 45, 62, 32]⟩ ++ shownT b := by simp only [funT, resT, takenT]
theorem fieldsT_len : ∀ (ls : List ByteArray) (as_ : List GTy), (fieldsT ls as_).length = as_.length
  | ls, [] => by simp [fieldsT]
  | ls, a :: r => by simp [fieldsT, fieldsT_len ls.tail r]
theorem fieldsT_get : ∀ (ls : List ByteArray) (as_ : List GTy) (i : Nat) (l : ByteArray) (a : GTy), ls[i]? = some l → as_[i]? = some a → (fieldsT ls as_)[i]? = some (l ++ ⟨#[58, 32]⟩ ++ shownT a)
  | [], as_, i, l, a, h, _ => by simp at h
  | _, [], i, l, a, _, h => by simp at h
  | x :: ls, y :: as_, 0, l, a, h, k => by simp at h k; subst h k; simp [fieldsT]
  | x :: ls, y :: as_, i + 1, l, a, h, k => by
    simp only [List.getElem?_cons_succ] at h k
    simp only [fieldsT, List.tail_cons, List.getElem?_cons_succ]
    exact fieldsT_get ls as_ i l a h k
theorem joinR_mem {b : List UInt8} {t : ByteArray} : ∀ {ts : List ByteArray}, t ∈ ts → t.size ≤ (joinR b ts).length
  | s :: r, h => by
    simp only [joinR, List.length_append, size_data]
    rcases List.mem_cons.1 h with rfl | h
    · omega
    · have := joinR_mem (b := b) h; omega
theorem joinL_mem {b : List UInt8} {t : ByteArray} {ts : List ByteArray} (h : t ∈ ts) : t.size ≤ (joinL b ts).length := by
  match ts, h with
  | s :: r, h =>
    simp only [joinL, List.length_append, size_data]
    rcases List.mem_cons.1 h with rfl | h
    · omega
    · have := joinR_mem (b := b) h; omega
section
variable {ot : TypeId} {oz : EP}
theorem taken_eq (t : GTy) (hz : (takenT t).size ≤ 70368744177664) (h : ∀ S, cal (env ot oz) 66 [.agg (rTy t)] S = some (.str (shownT t), S)) (S : St) : cal (env ot oz) 108 [.agg (rTy t)] S = some (.str (takenT t), S) := by
  by_cases h7 : t.K = 7
  · have e : takenT t = ⟨#[40]⟩ ++ shownT t ++ ⟨#[41]⟩ := by unfold takenT; rw [if_pos (by simp [h7])]
    rw [e, app_size, app_size] at hz
    have z1 := addS (a := ⟨#[40]⟩) (b := shownT t) (by omega)
    have z2 := addS (a := ⟨#[40]⟩ ++ shownT t) (b := ⟨#[41]⟩) (by rw [app_size]; omega)
    (rw [w_plain (fn := c108) rfl rfl (by simp only [go_sem, h, h7, ↓z1, ↓z2, e]) rfl (by decide)]; simp only [c108, c108_b, go_sem, h, h7, ↓z1, ↓z2, e]; repeat' ((first | rw [guardO_t] | rw [guardO_f] | rw [cw_bool]); split <;> rename_i h <;> (try rw [Bool.not_eq_true] at h) <;> (try simp only [go_sem, h, h7, ↓z1, ↓z2, e, *])))
  · have e : takenT t = shownT t := by unfold takenT; rw [if_neg (by simpa using h7)]
    have h7 : (t.K == 7) = false := by simpa using h7
    (rw [w_plain (fn := c108) rfl rfl (by simp only [go_sem, h, h7, e]) rfl (by decide)]; simp only [c108, c108_b, go_sem, h, h7, e]; repeat' ((first | rw [guardO_t] | rw [guardO_f] | rw [cw_bool]); split <;> rename_i h <;> (try rw [Bool.not_eq_true] at h) <;> (try simp only [go_sem, h, h7, e, *])))
theorem right_args {t : GTy} (h : rightT t = true) : ∀ a ∈ t.Args, rightT a = true := by
  rw [rightT_eq, Bool.and_eq_true, rightTs_any] at h
  intro a ha
  have := h.1
  simp only [Bool.not_eq_true', List.any_eq_false] at this
  simpa using this a ha
theorem shown_eq : ∀ (t : GTy), OkTy t → rightT t = true → (shownT t).size ≤ 70368744177664 → ∀ S, cal (env ot oz) 66 [.agg (rTy t)] S = some (.str (shownT t), S) := by
  refine GTy.ind fun t ih ok hr hz S => ?_
  have hA : Short t.Args.length ∧ (∀ x ∈ t.Args, OkTy x) ∧ Short t.Labels.length ∧ In64 t.N := by cases ok; exact ⟨by assumption, by assumption, (by assumption : _ ∧ _).1, by assumption⟩
  have hra := right_args hr
  have hh : headT t = true := by rw [rightT_eq, Bool.and_eq_true] at hr; exact hr.2
  have e := shownT_eq t
  by_cases h7 : t.K = 7
  · have h2 : t.Args.length = 2 := by
      unfold headT at hh
      simp [h7] at hh; omega
    obtain ⟨a, b, hab⟩ : ∃ a b, t.Args = [a, b] := by
      match hq : t.Args, h2 with
      | [a, b], _ => exact ⟨a, b, rfl⟩
    have e2 : shownT t = takenT a ++ ⟨#[32, 45, 62, 32]⟩ ++ shownT b := by rw [e, ← funT_two, ← hab]; simp [h7]
    rw [e2, app_size, app_size] at hz
    have ha : a ∈ t.Args := by rw [hab]; simp
    have hb : b ∈ t.Args := by rw [hab]; simp
    have sa : (shownT a).size ≤ (takenT a).size := by unfold takenT; split <;> simp [app_size] <;> omega
    have ca := taken_eq (ot := ot) (oz := oz) a (by omega) (ih a ha (hA.2.1 a ha) (hra a ha) (by omega))
    have cb := ih b hb (hA.2.1 b hb) (hra b hb) (by omega)
    have z1 := addS (a := takenT a) (b := ⟨#[32, 45, 62, 32]⟩) (by omega)
    have z2 := addS (a := takenT a ++ ⟨#[32, 45, 62, 32]⟩) (b := shownT b) (by rw [app_size]; omega)
    (rw [w_plain (fn := c66) rfl rfl (by simp only [go_sem, h7, hab, ca, cb, ↓z1, ↓z2, e2]) rfl (by decide)]; simp only [c66, c66_b, go_sem, h7, hab, ca, cb, ↓z1, ↓z2, e2]; repeat' ((first | rw [guardO_t] | rw [guardO_f] | rw [cw_bool]); split <;> rename_i h <;> (try rw [Bool.not_eq_true] at h) <;> (try simp only [go_sem, h7, hab, ca, cb, ↓z1, ↓z2, e2, *])))
  · by_cases h8 : t.K = 8
    · have e2 : shownT t = ⟨#[123]⟩ ++ txt (joinL [44, 32] (fieldsT t.Labels t.Args)) ++ ⟨#[125]⟩ := by rw [e]; simp [h8]
      rw [e2, app_size, app_size, txt_size] at hz
      have hL : t.Labels.length = t.Args.length := by
        unfold headT at hh
        simp [h8] at hh; omega
      have c1 : ∀ (i : Nat) a x, t.Args[i]? = some a → (fieldsT t.Labels t.Args)[i]? = some x → ∀ S, cal (env ot oz) 110 ([] ++ [.int .i64 (i : Int), .agg (rTy a)] ++ [.at_ (rTy t)]) S = some (.str x, S) := by
        intro i a x ha hx S
        have hi : i < t.Labels.length := by rw [hL]; exact (List.getElem?_eq_some_iff.1 ha).1
        have hl : t.Labels[i]? = some t.Labels[i] := List.getElem?_eq_getElem hi
        rw [fieldsT_get _ _ i _ a hl ha] at hx
        injection hx with hx
        have hm := joinL_mem (b := [44, 32]) (mem_of_get (fieldsT_get _ _ i _ a hl ha))
        rw [app_size, app_size] at hm
        have am : a ∈ t.Args := mem_of_get ha
        have cs := ih a am (hA.2.1 a am) (hra a am) (by omega)
        generalize t.Labels[i] = lb at *
        have z1 := addS (a := lb) (b := ⟨#[58, 32]⟩) (by omega)
        have z2 := addS (a := lb ++ ⟨#[58, 32]⟩) (b := shownT a) (by rw [app_size]; omega)
        have hlt : (i : Int) < (t.Labels.length : Int) := by omega
        simp only [List.nil_append, List.cons_append]
        (rw [w_plain (fn := c110) rfl rfl (by simp only [go_sem, hl, hlt, cs, ↓z1, ↓z2, hx]) rfl (by decide)]; simp only [c110, c110_b, go_sem, hl, hlt, cs, ↓z1, ↓z2, hx]; repeat' ((first | rw [guardO_t] | rw [guardO_f] | rw [cw_bool]); split <;> rename_i h <;> (try rw [Bool.not_eq_true] at h) <;> (try simp only [go_sem, hl, hlt, cs, ↓z1, ↓z2, hx, *])))
      have c := joined_eqTy (ot := ot) (oz := oz) t.Args (fieldsT t.Labels t.Args) hA.1 (fieldsT_len _ _) 110 [] [.at_ (rTy t)] (fun n d => by simp only [sealL, sealW, rTy_sl, Option.map_some, Option.bind_some]) (fun _ _ => rfl) (by omega) c1
      have z1 := addS (a := ⟨#[123]⟩) (b := txt (joinL [44, 32] (fieldsT t.Labels t.Args))) (by rw [txt_size]; omega)
      have z2 := addS (a := ⟨#[123]⟩ ++ txt (joinL [44, 32] (fieldsT t.Labels t.Args))) (b := ⟨#[125]⟩) (by rw [app_size, txt_size]; omega)
      (rw [w_plain (fn := c66) rfl rfl (by simp only [go_sem, h8, c, ↓z1, ↓z2, e2]) rfl (by decide)]; simp only [c66, c66_b, go_sem, h8, c, ↓z1, ↓z2, e2]; repeat' ((first | rw [guardO_t] | rw [guardO_f] | rw [cw_bool]); split <;> rename_i h <;> (try rw [Bool.not_eq_true] at h) <;> (try simp only [go_sem, h8, c, ↓z1, ↓z2, e2, *])))
    · have it := fun S => cal_ans (itoa_ok (ot := ot) (oz := oz) t.N hA.2.2.2) (S := S)
      have nz : (numS t.N).size ≤ 21 := by
        unfold numS numL
        have a1 := digF_len 20 t.N.natAbs
        have a2 := digF_len 20 t.N.toNat
        split <;> simp [ByteArray.size] <;> omega
      have z1 := addS (a := ⟨#[35]⟩) (b := numS t.N) (by show 1 + _ ≤ _; omega)
      have hk : t.K = 1 ∨ t.K = 2 ∨ t.K = 3 ∨ t.K = 4 ∨ t.K = 5 ∨ t.K = 6 ∨ t.K = 9 := by
        unfold headT at hh
        by_cases h1 : 1 ≤ t.K ∧ t.K ≤ 5
        · omega
        · by_cases h6 : t.K = 6
          · omega
          · by_cases h9 : t.K = 9
            · omega
            · exfalso
              have n1 : (decide (1 ≤ t.K) && decide (t.K ≤ 5)) = false := by simp; omega
              simp [n1, h6, h9, h7, h8] at hh
      rcases hk with hk | hk | hk | hk | hk | hk | hk <;> simp [hk] at e <;> (rw [w_plain (fn := c66) rfl rfl (by simp only [go_sem, hk, it, ↓z1, e]) rfl (by decide)]; simp only [c66, c66_b, go_sem, hk, it, ↓z1, e]; repeat' ((first | rw [guardO_t] | rw [guardO_f] | rw [cw_bool]); split <;> rename_i h <;> (try rw [Bool.not_eq_true] at h) <;> (try simp only [go_sem, hk, it, ↓z1, e, *])))
end
end Go.PE
namespace Go.PE
open Go Go.RowKit Go.Proofs
set_option linter.unusedVariables false
set_option linter.unusedSimpArgs false
set_option maxRecDepth 100000
def joinI (b : List UInt8) : Nat → List ByteArray → List UInt8
  | 0, ts => joinL b ts
  | _ + 1, ts => joinR b ts
theorem joinI_nil (b : List UInt8) (i : Nat) : joinI b i [] = [] := by cases i <;> rfl
theorem joinI_zero (b : List UInt8) (t : ByteArray) (r : List ByteArray) : joinI b 0 (t :: r) = t.data.toList ++ joinI b (0 + 1) r := rfl
theorem joinI_succ (b : List UInt8) (i : Nat) (t : ByteArray) (r : List ByteArray) : joinI b (i + 1) (t :: r) = b ++ (t.data.toList ++ joinI b (i + 1 + 1) r) := rfl
theorem drop_get {α : Type} {l : List α} {i : Nat} (h : i < l.length) : ∃ t, l[i]? = some t ∧ l.drop i = t :: l.drop (i + 1) :=
  ⟨l[i], List.getElem?_eq_getElem h, List.drop_eq_getElem_cons h⟩
section
variable {ot : TypeId} {oz : EP}
theorem digits05 : ∀ (f n : Nat), n < 10 ^ f → 0 < f → f ≤ 100 → n ≤ 9223372036854775807 → ∀ S, cal (env ot oz) 111 [.int .i64 (n : Int)] S = some (.str (txt (digF f n)), S)
  | f + 1, n, h, _, hf, hn, S => by
    by_cases h10 : n < 10
    · have lt : (n : Int) < 10 := by omega
      have w1 : IntKind.i64.wrap (48 + (n : Int)) = ((48 + n : Nat) : Int) := by rw [wrap64 (by omega) (by omega)]; omega
      have w2 : IntKind.u8.wrap (((48 + n : Nat) : Int)) = ((48 + n : Nat) : Int) := IntWalk.u8_in _ (by omega)
      have bo := byte_one (k := 48 + n) (by omega)
      have e : (⟨[UInt8.ofNat (48 + n)].toArray⟩ : ByteArray) = txt (digF (f + 1) n) := by rw [digF_one h10]; rfl
      generalize txt (digF (f + 1) n) = r at *
      generalize h48 : 48 + n = m at *
      (rw [w_plain (fn := c111) rfl rfl (by simp only [go_sem, lt, w1, w2, bo, e]) rfl (by decide)]; simp only [c111, c111_b, go_sem, lt, w1, w2, bo, e])
    · have ih := digits05 f (n / 10) (by rw [Nat.pow_succ] at h; omega) (by
        cases f with
        | zero => simp at h; omega
        | succ f => omega) (by omega) (by omega)
      have nlt : ¬ (n : Int) < 10 := by omega
      have w0 : IntKind.i64.wrap ((n : Int).tdiv 10) = ((n / 10 : Nat) : Int) := by
        rw [show (n : Int).tdiv 10 = ((n / 10 : Nat) : Int) from by rw [Int.tdiv_eq_ediv_of_nonneg (by omega)]; omega]
        exact wrap_nat (by omega)
      have w3 : (n : Int).tmod 10 = ((n % 10 : Nat) : Int) := by rw [Int.tmod_eq_emod_of_nonneg (by omega)]; omega
      have w1 : IntKind.i64.wrap (48 + ((n % 10 : Nat) : Int)) = ((48 + n % 10 : Nat) : Int) := by rw [wrap64 (by omega) (by omega)]; omega
      have w2 : IntKind.u8.wrap (((48 + n % 10 : Nat) : Int)) = ((48 + n % 10 : Nat) : Int) := IntWalk.u8_in _ (by omega)
      have bo := byte_one (k := 48 + n % 10) (by omega)
      have z := addB (a := digF f (n / 10)) (s := ⟨[UInt8.ofNat (48 + n % 10)].toArray⟩) (by have := digF_len f (n / 10); simp [ByteArray.size]; omega)
      have e : digF f (n / 10) ++ [UInt8.ofNat (48 + n % 10)] = digF (f + 1) n := (digF_more h10).symm
      simp only [e] at z
      generalize txt (digF (f + 1) n) = r at *
      generalize n % 10 = q at *
      generalize n / 10 = d at *
      (rw [w_plain (fn := c111) rfl rfl (by simp only [go_sem, nlt, w0, w1, w2, w3, bo, ih, ↓z]) rfl (by decide)]; simp only [c111, c111_b, go_sem, nlt, w0, w1, w2, w3, bo, ih, ↓z])
theorem show05_l0 (t : GTy) (hl : Short t.Labels.length) (hL : t.Labels.length = t.Args.length) (B : Nat) (hB : B ≤ 70368744177664) (hp : ∀ a ∈ t.Args, ∀ S, (shownT a).size ≤ 70368744177664 → cal (env ot oz) 68 [.agg (rTy a)] S = some (.str (shownT a), S)) (S : St) (fin : Kont (PV × St)) (st : List Fw) : ∀ (rest : List ByteArray) (i : Nat) (bs : List UInt8), t.Labels.drop i = rest → bs.length + (joinI [44, 32] i ((fieldsT t.Labels t.Args).drop i)).length ≤ B →
    run (env ot oz) fin st c68_l0 [(1, some (.at_ (rTy t))), (5, some (.str (txt bs))), (6, some (.int .i64 (i : Int)))] S =
      aft (env ot oz) fin st (.exit 0) [(1, some (.at_ (rTy t))), (5, some (.str (txt (bs ++ joinI [44, 32] i ((fieldsT t.Labels t.Args).drop i))))), (6, some (.int .i64 ((i + rest.length : Nat) : Int))), (59, some (.bool false))] S
  | [], i, bs, h, hb => by
    have hlt := lt_no (drop_nil h)
    have e : (fieldsT t.Labels t.Args).drop i = [] := List.drop_eq_nil_of_le (by rw [fieldsT_len, ← hL]; exact drop_nil h)
    rw [e, joinI_nil]
    (rw [c68_l0_w]; simp only [c68_l0_b, c68_l0_a, go_sem, hlt])
  | lb :: r, i, bs, h, hb => by
    obtain ⟨h1, h2, h3⟩ := drop_cons h
    unfold Short maxLen at hl
    have e : i + (lb :: r).length = i + 1 + r.length := by simp only [List.length_cons]; omega
    have w := wrap_succ (i := i) (n := t.Labels.length) h3 (by omega)
    have hlt : (i : Int) < (t.Labels.length : Int) := by omega
    have hlt2 : (i : Int) < (t.Args.length : Int) := by omega
    obtain ⟨a, ha, _⟩ := drop_get (l := t.Args) (i := i) (by omega)
    obtain ⟨x, hx, hd⟩ := drop_get (l := fieldsT t.Labels t.Args) (i := i) (by rw [fieldsT_len]; omega)
    have hx2 := fieldsT_get _ _ i _ a h1 ha
    rw [hx] at hx2; injection hx2 with hx2; subst hx2
    have ih := show05_l0 t (by unfold Short maxLen; omega) hL B hB hp S fin st r (i + 1)
    have sz := size_data lb
    have sa := size_data (shownT a)
    have fl : (lb ++ ⟨#[58, 32]⟩ ++ shownT a).data.toList = lb.data.toList ++ [58, 32] ++ (shownT a).data.toList := by simp [ByteArray.data_append]
    rw [hd] at hb ⊢
    rw [e]
    cases i with
    | zero =>
      rw [joinI_zero, fl] at hb ⊢
      simp only [List.length_append, List.length_cons, List.length_nil] at hb
      have ca := hp a (mem_of_get ha) S (by omega)
      have z1 := addB (a := bs) (s := lb) (by omega)
      have z2 := addB (a := bs ++ lb.data.toList) (s := ⟨#[58, 32]⟩) (by show _ + 2 ≤ _; rw [List.length_append]; omega)
      have z3 := addB (a := bs ++ lb.data.toList ++ [58, 32]) (s := shownT a) (by simp; omega)
      have ih := ih (bs ++ (lb.data.toList ++ [58, 32] ++ (shownT a).data.toList)) h2 (by simp only [List.length_append, List.length_cons, List.length_nil]; omega)
      simp only [List.append_assoc, List.cons_append, List.nil_append, Nat.zero_add, cast_1, Int.cast_ofNat_Int] at ih z1 z2 z3 w hlt hlt2 ⊢
      (rw [c68_l0_w]; simp only [c68_l0_b, c68_l0_a, go_sem, hlt, hlt2, h1, ha, w, ca, ↓z1, ↓z2, ↓z3, ih])
    | succ i =>
      rw [joinI_succ, fl] at hb ⊢
      simp only [List.length_append, List.length_cons, List.length_nil] at hb
      have ca := hp a (mem_of_get ha) S (by omega)
      have hz : (0 : Int) < ((i + 1 : Nat) : Int) := by omega
      have z0 := addB (a := bs) (s := ⟨#[44, 32]⟩) (by show _ + 2 ≤ _; omega)
      have z1 := addB (a := bs ++ [44, 32]) (s := lb) (by simp; omega)
      have z2 := addB (a := bs ++ [44, 32] ++ lb.data.toList) (s := ⟨#[58, 32]⟩) (by show _ + 2 ≤ _; simp; omega)
      have z3 := addB (a := bs ++ [44, 32] ++ lb.data.toList ++ [58, 32]) (s := shownT a) (by simp; omega)
      have ih := ih (bs ++ ([44, 32] ++ (lb.data.toList ++ [58, 32] ++ (shownT a).data.toList))) h2 (by simp only [List.length_append, List.length_cons, List.length_nil]; omega)
      simp only [List.append_assoc, List.cons_append, List.nil_append] at ih z0 z1 z2 z3 ⊢
      (rw [c68_l0_w]; simp only [c68_l0_b, c68_l0_a, go_sem, hlt, hlt2, hz, h1, ha, w, ca, ↓z0, ↓z1, ↓z2, ↓z3, ih])
theorem right_kinds {t : GTy} (h : rightT t = true) : t.K = 1 ∨ t.K = 2 ∨ t.K = 3 ∨ t.K = 4 ∨ t.K = 5 ∨ t.K = 6 ∨ t.K = 9 ∨ t.K = 7 ∨ t.K = 8 := by
  have hh : headT t = true := by rw [rightT_eq, Bool.and_eq_true] at h; exact h.2
  unfold headT at hh
  by_cases h1 : 1 ≤ t.K ∧ t.K ≤ 5
  · omega
  · by_cases h6 : t.K = 6
    · omega
    · by_cases h9 : t.K = 9
      · omega
      · by_cases h7 : t.K = 7
        · omega
        · by_cases h8 : t.K = 8
          · omega
          · exfalso
            have n1 : (decide (1 ≤ t.K) && decide (t.K ≤ 5)) = false := by simp; omega
            simp [n1, h6, h9, h7, h8] at hh
theorem right_two {t : GTy} (h : rightT t = true) (h7 : t.K = 7) : ∃ a b, t.Args = [a, b] := by
  have hh : headT t = true := by rw [rightT_eq, Bool.and_eq_true] at h; exact h.2
  have h2 : t.Args.length = 2 := by
    unfold headT at hh
    simp [h7] at hh; omega
  match hq : t.Args, h2 with
  | [a, b], _ => exact ⟨a, b, rfl⟩
theorem right_rec {t : GTy} (h : rightT t = true) (h8 : t.K = 8) : t.Labels.length = t.Args.length ∧ risingS t.Labels = true := by
  have hh : headT t = true := by rw [rightT_eq, Bool.and_eq_true] at h; exact h.2
  unfold headT at hh
  simp [h8] at hh
  exact ⟨by omega, hh.2.1⟩
theorem show05 : ∀ (t : GTy), OkTy t → rightT t = true → (shownT t).size ≤ 70368744177664 → ∀ S, cal (env ot oz) 68 [.agg (rTy t)] S = some (.str (shownT t), S) := by
  refine GTy.ind fun t ih ok hr hz S => ?_
  have hA : Short t.Args.length ∧ (∀ x ∈ t.Args, OkTy x) ∧ Short t.Labels.length ∧ In64 t.N := by cases ok; exact ⟨by assumption, by assumption, (by assumption : _ ∧ _).1, by assumption⟩
  have hra := right_args hr
  have e := shownT_eq t
  rcases right_kinds hr with hk | hk | hk | hk | hk | hk | hk | hk | hk
  · simp [hk] at e; (rw [w_plain (fn := c68) rfl rfl (by simp only [go_sem, hk, e]) rfl (by decide)]; simp only [c68, c68_b, go_sem, hk, e]; repeat' ((first | rw [guardO_t] | rw [guardO_f] | rw [cw_bool]); split <;> rename_i h <;> (try rw [Bool.not_eq_true] at h) <;> (try simp only [go_sem, hk, e, *])))
  · simp [hk] at e; (rw [w_plain (fn := c68) rfl rfl (by simp only [go_sem, hk, e]) rfl (by decide)]; simp only [c68, c68_b, go_sem, hk, e]; repeat' ((first | rw [guardO_t] | rw [guardO_f] | rw [cw_bool]); split <;> rename_i h <;> (try rw [Bool.not_eq_true] at h) <;> (try simp only [go_sem, hk, e, *])))
  · simp [hk] at e; (rw [w_plain (fn := c68) rfl rfl (by simp only [go_sem, hk, e]) rfl (by decide)]; simp only [c68, c68_b, go_sem, hk, e]; repeat' ((first | rw [guardO_t] | rw [guardO_f] | rw [cw_bool]); split <;> rename_i h <;> (try rw [Bool.not_eq_true] at h) <;> (try simp only [go_sem, hk, e, *])))
  · simp [hk] at e; (rw [w_plain (fn := c68) rfl rfl (by simp only [go_sem, hk, e]) rfl (by decide)]; simp only [c68, c68_b, go_sem, hk, e]; repeat' ((first | rw [guardO_t] | rw [guardO_f] | rw [cw_bool]); split <;> rename_i h <;> (try rw [Bool.not_eq_true] at h) <;> (try simp only [go_sem, hk, e, *])))
  · simp [hk] at e; (rw [w_plain (fn := c68) rfl rfl (by simp only [go_sem, hk, e]) rfl (by decide)]; simp only [c68, c68_b, go_sem, hk, e]; repeat' ((first | rw [guardO_t] | rw [guardO_f] | rw [cw_bool]); split <;> rename_i h <;> (try rw [Bool.not_eq_true] at h) <;> (try simp only [go_sem, hk, e, *])))
  · simp [hk] at e; (rw [w_plain (fn := c68) rfl rfl (by simp only [go_sem, hk, e]) rfl (by decide)]; simp only [c68, c68_b, go_sem, hk, e]; repeat' ((first | rw [guardO_t] | rw [guardO_f] | rw [cw_bool]); split <;> rename_i h <;> (try rw [Bool.not_eq_true] at h) <;> (try simp only [go_sem, hk, e, *])))
  · simp [hk] at e
    have hn : 0 ≤ t.N ∧ t.N ≤ 1073741824 := by
      have hh : headT t = true := by rw [rightT_eq, Bool.and_eq_true] at hr; exact hr.2
      unfold headT at hh
      simp [hk] at hh; omega
    obtain ⟨n, hn'⟩ := Int.eq_ofNat_of_zero_le hn.1
    have d := digits05 (ot := ot) (oz := oz) 20 n (by omega) (by omega) (by omega) (by omega)
    have nn : numS t.N = txt (digF 20 n) := by unfold numS numL; rw [if_neg (by omega), hn']; rfl
    have z1 := addS (a := ⟨#[35]⟩) (b := txt (digF 20 n)) (by have := digF_len 20 n; rw [txt_size]; show 1 + _ ≤ _; omega)
    rw [nn] at e
    (rw [w_plain (fn := c68) rfl rfl (by simp only [go_sem, hk, hn', d, ↓z1, e]) rfl (by decide)]; simp only [c68, c68_b, go_sem, hk, hn', d, ↓z1, e]; repeat' ((first | rw [guardO_t] | rw [guardO_f] | rw [cw_bool]); split <;> rename_i h <;> (try rw [Bool.not_eq_true] at h) <;> (try simp only [go_sem, hk, hn', d, ↓z1, e, *])))
  · obtain ⟨a, b, hab⟩ := right_two hr hk
    have e2 : shownT t = takenT a ++ ⟨#[32, 45, 62, 32]⟩ ++ shownT b := by rw [e, ← funT_two, ← hab]; simp [hk]
    rw [e2, app_size, app_size] at hz
    have ha : a ∈ t.Args := by rw [hab]; simp
    have hb : b ∈ t.Args := by rw [hab]; simp
    have sa : (shownT a).size ≤ (takenT a).size := by unfold takenT; split <;> simp [app_size] <;> omega
    have ca := ih a ha (hA.2.1 a ha) (hra a ha) (by omega)
    have cb := ih b hb (hA.2.1 b hb) (hra b hb) (by omega)
    by_cases h7 : a.K = 7
    · have e3 : takenT a = ⟨#[40]⟩ ++ shownT a ++ ⟨#[41]⟩ := by unfold takenT; rw [if_pos (by simp [h7])]
      rw [e3] at e2 hz
      rw [app_size, app_size] at hz
      have z1 := addS (a := ⟨#[40]⟩) (b := shownT a) (by omega)
      have z2 := addS (a := ⟨#[40]⟩ ++ shownT a) (b := ⟨#[41]⟩) (by rw [app_size]; omega)
      have z3 := addS (a := ⟨#[40]⟩ ++ shownT a ++ ⟨#[41]⟩) (b := ⟨#[32, 45, 62, 32]⟩) (by rw [app_size, app_size]; omega)
      have z4 := addS (a := ⟨#[40]⟩ ++ shownT a ++ ⟨#[41]⟩ ++ ⟨#[32, 45, 62, 32]⟩) (b := shownT b) (by rw [app_size, app_size, app_size]; omega)
      (rw [w_plain (fn := c68) rfl rfl (by simp only [go_sem, hk, hab, ca, cb, h7, ↓z1, ↓z2, ↓z3, ↓z4, e2]) rfl (by decide)]; simp only [c68, c68_b, go_sem, hk, hab, ca, cb, h7, ↓z1, ↓z2, ↓z3, ↓z4, e2]; repeat' ((first | rw [guardO_t] | rw [guardO_f] | rw [cw_bool]); split <;> rename_i h <;> (try rw [Bool.not_eq_true] at h) <;> (try simp only [go_sem, hk, hab, ca, cb, h7, ↓z1, ↓z2, ↓z3, ↓z4, e2, *])))
    · have h7 : (a.K == 7) = false := by simpa using h7
      have e3 : takenT a = shownT a := by unfold takenT; rw [h7]; rfl
      rw [e3] at e2 hz
      have z3 := addS (a := shownT a) (b := ⟨#[32, 45, 62, 32]⟩) (by omega)
      have z4 := addS (a := shownT a ++ ⟨#[32, 45, 62, 32]⟩) (b := shownT b) (by rw [app_size]; omega)
      (rw [w_plain (fn := c68) rfl rfl (by simp only [go_sem, hk, hab, ca, cb, h7, ↓z3, ↓z4, e2]) rfl (by decide)]; simp only [c68, c68_b, go_sem, hk, hab, ca, cb, h7, ↓z3, ↓z4, e2]; repeat' ((first | rw [guardO_t] | rw [guardO_f] | rw [cw_bool]); split <;> rename_i h <;> (try rw [Bool.not_eq_true] at h) <;> (try simp only [go_sem, hk, hab, ca, cb, h7, ↓z3, ↓z4, e2, *])))
  · obtain ⟨hL, _⟩ := right_rec hr hk
    have e2 : shownT t = ⟨#[123]⟩ ++ txt (joinL [44, 32] (fieldsT t.Labels t.Args)) ++ ⟨#[125]⟩ := by rw [e]; simp [hk]
    rw [e2, app_size, app_size, txt_size] at hz
    have hz : 1 + (joinL [44, 32] (fieldsT t.Labels t.Args)).length + 1 ≤ 70368744177664 := hz
    have f := fun fin st => show05_l0 (ot := ot) (oz := oz) t hA.2.2.1 hL 70368744177664 (by omega) (fun a ha S hs => ih a ha (hA.2.1 a ha) (hra a ha) hs S) S fin st t.Labels 0 [123] rfl (by show 1 + (joinL [44, 32] (fieldsT t.Labels t.Args)).length ≤ _; omega)
    have z1 := addB (a := [123] ++ joinI [44, 32] 0 ((fieldsT t.Labels t.Args).drop 0)) (s := ⟨#[125]⟩) (by show ([123] ++ joinL [44, 32] (fieldsT t.Labels t.Args)).length + 1 ≤ _; simp; omega)
    have e3 : txt ([123] ++ joinI [44, 32] 0 ((fieldsT t.Labels t.Args).drop 0) ++ [125]) = shownT t := by
      rw [e2]
      show txt ([123] ++ joinL [44, 32] (fieldsT t.Labels t.Args) ++ [125]) = txt [123] ++ _ ++ txt [125]
      rw [txt_append, txt_append]
    have e4 : (txt [123] : ByteArray) = ⟨#[123]⟩ := rfl
    simp only [e3] at z1
    generalize txt ([123] ++ joinI [44, 32] 0 ((fieldsT t.Labels t.Args).drop 0)) = x at *
    simp only [Int.cast_ofNat_Int, e4] at f
    (rw [w_plain (fn := c68) rfl rfl (by simp only [go_sem, hk, f, ↓z1]) rfl (by decide)]; simp only [c68, c68_b, go_sem, hk, f, ↓z1]; repeat' ((first | rw [guardO_t] | rw [guardO_f] | rw [cw_bool]); split <;> rename_i h <;> (try rw [Bool.not_eq_true] at h) <;> (try simp only [go_sem, hk, f, ↓z1, *])))
end
end Go.PE
