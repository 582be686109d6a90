/-
  Expressions as texts, by the document. Conditions: each law's own.
-/
import Derived.Test.YtleggogbmklddaaGreatDoorEX8
namespace Go.PE
open Go Go.RowKit Go.Proofs
set_option linter.unusedVariables false
set_option linter.unusedSimpArgs false
set_option maxRecDepth 100000
theorem lze : (ByteArray.mk #[]).size = 0 := rfl
theorem nil_ba (s : ByteArray) : (⟨#[]⟩ : ByteArray) ++ s = s := by
  rw [show (⟨#[]⟩ : ByteArray) = txt [] from rfl, ← txt_toList s, txt_append, List.nil_append]
theorem addE {s : ByteArray} (h : s.size ≤ 1000000000) : binP .add (.str ⟨#[]⟩) (.str s) = some (.str s) := by
  have := addS (a := ⟨#[]⟩) (b := s) (by rw [lze]; omega)
  rw [this, nil_ba]
theorem ba_assoc (a b c : ByteArray) : a ++ b ++ c = a ++ (b ++ c) := ByteArray.append_assoc
theorem joinR_snoc (b : List UInt8) (t : ByteArray) : ∀ l : List ByteArray, joinR b (l ++ [t]) = joinR b l ++ (b ++ t.data.toList)
  | [] => by simp [joinR]
  | a :: l => by simp only [List.cons_append, joinR, joinR_snoc b t l, List.append_assoc]
theorem comma_nil : commaS [] = ⟨#[]⟩ := rfl
theorem comma_one (t : ByteArray) : commaS [t] = t := by unfold commaS; simp only [joinL, joinR, List.append_nil]; exact txt_toList t
theorem comma_snoc (l : List ByteArray) (t : ByteArray) (h : l ≠ []) : commaS (l ++ [t]) = commaS l ++ ⟨#[44, 32]⟩ ++ t := by
  cases l with
  | nil => exact absurd rfl h
  | cons a l =>
    have e1 : txt [44, 32] = (⟨#[44, 32]⟩ : ByteArray) := rfl
    unfold commaS
    simp only [List.cons_append, joinL, joinR_snoc]
    have e2 : a.data.toList ++ (joinR [44, 32] l ++ (44 :: 32 :: ([] ++ t.data.toList))) = (a.data.toList ++ joinR [44, 32] l) ++ [44, 32] ++ t.data.toList := by simp
    rw [e2, ← txt_append, ← txt_append, txt_toList, e1]
theorem sum_take (ts : List ByteArray) : ∀ i, ((ts.take i).map fun t => t.size + 2).sum ≤ (ts.map fun t => t.size + 2).sum := by
  induction ts with
  | nil => intro i; simp
  | cons a l ih =>
    intro i
    cases i with
    | zero => simp
    | succ i => have := ih i; simp only [List.take_succ_cons, List.map_cons, List.sum_cons]; omega
theorem comma_take (ts : List ByteArray) (i : Nat) : (commaS (ts.take i)).size ≤ (ts.map fun t => t.size + 2).sum := Nat.le_trans (comma_size _) (sum_take ts i)
section
variable {ot : TypeId} {oz : EP}
theorem digits15 : ∀ (f n : Nat), n < 10 ^ f → 0 < f → f ≤ 100 → n ≤ 9223372036854775807 → ∀ S, cal (env ot oz) 51 [.int .i64 (n : Int)] S = some (.str (txt (digF f n)), S)
  | f + 1, n, h, _, hf, hn, S => by
    by_cases h10 : n < 10
    · have lt : (n : Int) < 10 := by omega
      have w1 : IntKind.i64.wrap (48 + (n : Int)) = ((48 + n : Nat) : Int) := by rw [wrap64 (by omega) (by omega)]; omega
      have w2 : IntKind.u8.wrap (((48 + n : Nat) : Int)) = ((48 + n : Nat) : Int) := IntWalk.u8_in _ (by omega)
      have bo := byte_one (k := 48 + n) (by omega)
      have e : (⟨[UInt8.ofNat (48 + n)].toArray⟩ : ByteArray) = txt (digF (f + 1) n) := by rw [digF_one h10]; rfl
      generalize txt (digF (f + 1) n) = r at *
      generalize h48 : 48 + n = m at *
      (rw [w_plain (fn := c51) rfl rfl (by simp only [go_sem, lt, w1, w2, bo, e]) rfl (by decide)]; simp only [c51, c51_b, go_sem, lt, w1, w2, bo, e])
    · have ih := digits15 f (n / 10) (by rw [Nat.pow_succ] at h; omega) (by
        cases f with
        | zero => simp at h; omega
        | succ f => omega) (by omega) (by omega)
      have nlt : ¬ (n : Int) < 10 := by omega
      have w0 : IntKind.i64.wrap ((n : Int).tdiv 10) = ((n / 10 : Nat) : Int) := by
        rw [show (n : Int).tdiv 10 = ((n / 10 : Nat) : Int) from by rw [Int.tdiv_eq_ediv_of_nonneg (by omega)]; omega]
        exact wrap_nat (by omega)
      have w3 : (n : Int).tmod 10 = ((n % 10 : Nat) : Int) := by rw [Int.tmod_eq_emod_of_nonneg (by omega)]; omega
      have w1 : IntKind.i64.wrap (48 + ((n % 10 : Nat) : Int)) = ((48 + n % 10 : Nat) : Int) := by rw [wrap64 (by omega) (by omega)]; omega
      have w2 : IntKind.u8.wrap (((48 + n % 10 : Nat) : Int)) = ((48 + n % 10 : Nat) : Int) := IntWalk.u8_in _ (by omega)
      have bo := byte_one (k := 48 + n % 10) (by omega)
      have z := addB (a := digF f (n / 10)) (s := ⟨[UInt8.ofNat (48 + n % 10)].toArray⟩) (by have := digF_len f (n / 10); simp [ByteArray.size]; omega)
      have e : digF f (n / 10) ++ [UInt8.ofNat (48 + n % 10)] = digF (f + 1) n := (digF_more h10).symm
      simp only [e] at z
      generalize txt (digF (f + 1) n) = r at *
      generalize n % 10 = q at *
      generalize n / 10 = d at *
      (rw [w_plain (fn := c51) rfl rfl (by simp only [go_sem, nlt, w0, w1, w2, w3, bo, ih, ↓z]) rfl (by decide)]; simp only [c51, c51_b, go_sem, nlt, w0, w1, w2, w3, bo, ih, ↓z])
theorem op15 (n : Int) (S : St) : cal (env ot oz) 11 [.int .i64 n] S = some (.str (opS n), S) := by
  by_cases h0 : n < 0
  · have e : opS n = ⟨#[]⟩ := by
      unfold opS
      have : ∀ k : Int, 0 ≤ k → (n == k) = false := fun k hk => beq_eq_false_iff_ne.2 (by omega)
      simp [this]
    have q : decide (n < 0) = true := decide_eq_true h0
    (rw [w_plain (fn := c11) rfl rfl (by simp only [go_sem, q, e]) rfl (by decide)]; simp only [c11, c11_b, c11_r2, go_sem, q, e]; repeat' ((first | rw [guardO_t] | rw [guardO_f] | rw [cw_bool]); split <;> rename_i h <;> (try rw [Bool.not_eq_true] at h) <;> (try simp only [go_sem, c11_r2, q, e, *])))
  · by_cases h8 : 8 ≤ n
    · have e : opS n = ⟨#[]⟩ := by
        unfold opS
        have : ∀ k : Int, k < 8 → (n == k) = false := fun k hk => beq_eq_false_iff_ne.2 (by omega)
        simp [this]
      have q : decide (n < 0) = false := decide_eq_false h0
      have q2 : decide (8 ≤ n) = true := decide_eq_true h8
      (rw [w_plain (fn := c11) rfl rfl (by simp only [go_sem, q, q2, e]) rfl (by decide)]; simp only [c11, c11_b, c11_r2, go_sem, q, q2, e]; repeat' ((first | rw [guardO_t] | rw [guardO_f] | rw [cw_bool]); split <;> rename_i h <;> (try rw [Bool.not_eq_true] at h) <;> (try simp only [go_sem, c11_r2, q, q2, e, *])))
    · obtain ⟨k, rfl⟩ : ∃ k : Nat, n = (k : Int) := ⟨n.toNat, by omega⟩
      have hk : k < 8 := by omega
      match k, hk with
      | 0, _ | 1, _ | 2, _ | 3, _ | 4, _ | 5, _ | 6, _ | 7, _ => simp only [Int.cast_ofNat_Int]; (rw [w_plain (fn := c11) rfl rfl (by simp only [go_sem]) rfl (by decide)]; simp only [c11, c11_b, c11_r2, go_sem]; repeat' ((first | rw [guardO_t] | rw [guardO_f] | rw [cw_bool]); split <;> rename_i h <;> (try rw [Bool.not_eq_true] at h) <;> (try simp only [go_sem, c11_r2, *]))) <;> (try simp_all [opS]) <;> (try omega)
theorem tightO15 (n : Int) (S : St) : cal (env ot oz) 98 [.int .i64 n] S = some (.int .i64 (tightO n), S) := by
  (rw [w_plain (fn := c98) rfl rfl (by simp only [go_sem]) rfl (by decide)]; simp only [c98, c98_b, c98_r1, c98_r3, go_sem]; repeat' ((first | rw [guardO_t] | rw [guardO_f] | rw [cw_bool]); split <;> rename_i h <;> (try rw [Bool.not_eq_true] at h) <;> (try simp only [go_sem, c98_r1, c98_r3, *]))) <;> (try simp_all [tightO]) <;> (try omega)
theorem tight15 (e : GExp) (S : St) : cal (env ot oz) 97 [.agg (rExp e)] S = some (.int .i64 (tightE e), S) := by
  have c := tightO15 (ot := ot) (oz := oz) e.N
  (rw [w_plain (fn := c97) rfl rfl (by simp only [go_sem, c]) rfl (by decide)]; simp only [c97, c97_b, c97_r1, c97_r5, go_sem, c]; repeat' ((first | rw [guardO_t] | rw [guardO_f] | rw [cw_bool]); split <;> rename_i h <;> (try rw [Bool.not_eq_true] at h) <;> (try simp only [go_sem, c97_r1, c97_r5, c, *]))) <;> (try simp_all [tightE]) <;> (try omega)
theorem at15 (e : GExp) (n : Int) (hs : Sm (showE e)) (h : ∀ S, cal (env ot oz) 24 [.agg (rExp e)] S = some (.str (showE e), S)) (S : St) : cal (env ot oz) 54 [.agg (rExp e), .int .i64 n] S = some (.str (atS e (showE e) n), S) := by
  have t := tight15 (ot := ot) (oz := oz) e
  unfold Sm at hs
  have z1 := addS (a := ⟨#[40]⟩) (b := showE e) (by have L := lits; (try simp only [app_size]); omega)
  have z2 := addS (a := ⟨#[40]⟩ ++ showE e) (b := ⟨#[41]⟩) (by have L := lits; (try simp only [app_size]); omega)
  unfold atS
  cases q : decide (tightE e < n) <;> (rw [w_plain (fn := c54) rfl rfl (by simp only [go_sem, t, h, q, ↓z1, ↓z2]) rfl (by decide)]; simp only [c54, c54_b, go_sem, t, h, q, ↓z1, ↓z2]; repeat' ((first | rw [guardO_t] | rw [guardO_f] | rw [cw_bool]); split <;> rename_i h <;> (try rw [Bool.not_eq_true] at h) <;> (try simp only [go_sem, t, h, q, ↓z1, ↓z2, *])))
theorem bound15 (e : GExp) (hs : Sm (boundS e)) (ok : ∀ t ∈ e.Types, OkTy t ∧ bulkL (rTy t) ≤ 1048576) (S : St) : cal (env ot oz) 53 [.agg (rExp e)] S = some (.str (boundS e), S) := by
  unfold Sm boundS at hs
  unfold boundS
  match q : e.Types with
  | [] => (rw [w_plain (fn := c53) rfl rfl (by simp only [go_sem, q]) rfl (by decide)]; simp only [c53, c53_b, go_sem, q]; repeat' ((first | rw [guardO_t] | rw [guardO_f] | rw [cw_bool]); split <;> rename_i h <;> (try rw [Bool.not_eq_true] at h) <;> (try simp only [go_sem, q, *])))
  | t :: l =>
    have o := ok t (by simp [q])
    have c := rshow (ot := ot) (oz := oz) t o.1 o.2
    rw [q] at hs
    simp only [app_size] at hs
    have z1 := addS (a := e.Name) (b := ⟨#[58, 32]⟩) (by have L := lits; (try simp only [app_size]); omega)
    have z2 := addS (a := e.Name ++ ⟨#[58, 32]⟩) (b := showT t) (by have L := lits; (try simp only [app_size]); omega)
    have hl : (((l.length + 1 : Nat) : Int) == 0) = false := beq_eq_false_iff_ne.2 (by omega)
    have hl2 : (0 : Int) < ((l.length + 1 : Nat) : Int) := by omega
    (rw [w_plain (fn := c53) rfl rfl (by simp only [go_sem, q, c, hl, hl2, ↓z1, ↓z2]) rfl (by decide)]; simp only [c53, c53_b, go_sem, q, c, hl, hl2, ↓z1, ↓z2]; repeat' ((first | rw [guardO_t] | rw [guardO_f] | rw [cw_bool]); split <;> rename_i h <;> (try rw [Bool.not_eq_true] at h) <;> (try simp only [go_sem, q, c, hl, hl2, ↓z1, ↓z2, *])))
theorem list15 (e : GExp) (hK : (e.K == 9) = false) (hl : e.Kids.length ≤ 1000) (hs : ((e.Kids.map showE).map fun t => t.size + 2).sum ≤ 1000000000) (hp : ∀ k ∈ e.Kids, Sm (showE k) ∧ ∀ S, cal (env ot oz) 24 [.agg (rExp k)] S = some (.str (showE k), S)) (S : St) :
    cal (env ot oz) 56 [.agg (rExp e)] S = some (.str (commaS (e.Kids.map showE)), S) := by
  have hl' : Short e.Kids.length := by unfold Short maxLen; omega
  have f0 := fun fin st => loopF0 (E := (env ot oz)) (S := S) (c := c56_l0) e.Kids hl' (fun i (_ : Unit) => [(1, some (.at_ (rExp e))), (3, some (.str (commaS ((e.Kids.map showE).take i)))), (4, some (.int .i64 (i : Int)))]) (fun _ _ => ()) () fin st
    (fun i b k h1 h2 h3 h4 => by
      obtain ⟨sk, ck⟩ := hp k h2
      unfold Sm at sk
      have htk : (e.Kids.map showE).take (i + 1) = (e.Kids.map showE).take i ++ [showE k] := by rw [List.take_add_one, List.getElem?_map, h1]; rfl
      have st_ := comma_take (e.Kids.map showE) i
      rw [htk]
      cases i with
      | zero =>
        have z0 : decide ((0 : Int) < ((0 : Nat) : Int)) = false := rfl
        have e1 : commaS (([] : List ByteArray) ++ [showE k]) = showE k := by rw [List.nil_append, comma_one]
        have z1 := addE (s := showE k) (by omega)
        simp only [List.take_zero, e1, comma_nil, Int.cast_ofNat_Int] at *
        (rw [c56_l0_w]; simp only [c56_l0_b, c56_l0_a, go_sem, h1, h3, h4, ck, hK, z0, ↓z1]; repeat' ((first | rw [guardO_t] | rw [guardO_f] | rw [cw_bool]); split <;> rename_i h <;> (try rw [Bool.not_eq_true] at h) <;> (try simp only [go_sem, c56_l0_a, h1, h3, h4, ck, hK, z0, ↓z1, *])))
      | succ i =>
        have z0 : decide ((0 : Int) < ((i + 1 : Nat) : Int)) = true := decide_eq_true (by omega)
        rw [comma_snoc _ _ (by intro h; have := congrArg List.length h; simp only [List.length_take, List.length_map, List.length_nil] at this; omega)]
        generalize commaS ((e.Kids.map showE).take (i + 1)) = cs at *
        have z1 := addS (a := cs) (b := ⟨#[44, 32]⟩) (by have L := lits; (try simp only [app_size]); omega)
        have z2 := addS (a := cs ++ ⟨#[44, 32]⟩) (b := showE k) (by have L := lits; (try simp only [app_size]); omega)
        (rw [c56_l0_w]; simp only [c56_l0_b, c56_l0_a, go_sem, h1, h3, h4, ck, hK, z0, ↓z1, ↓z2]; repeat' ((first | rw [guardO_t] | rw [guardO_f] | rw [cw_bool]); split <;> rename_i h <;> (try rw [Bool.not_eq_true] at h) <;> (try simp only [go_sem, c56_l0_a, h1, h3, h4, ck, hK, z0, ↓z1, ↓z2, *]))))
  have ex : ∀ fin st, run (env ot oz) fin st c56_l0 [(1, some (.at_ (rExp e))), (3, some (.str (commaS (e.Kids.map showE)))), (4, some (.int .i64 (e.Kids.length : Int)))] S = aft (env ot oz) fin st (.exit 0) [(1, some (.at_ (rExp e))), (3, some (.str (commaS (e.Kids.map showE)))), (4, some (.int .i64 (e.Kids.length : Int))), (9, some (.bool false))] S := fun fin st => by
    (rw [c56_l0_w]; simp only [c56_l0_b, c56_l0_a, go_sem]; repeat' ((first | rw [guardO_t] | rw [guardO_f] | rw [cw_bool]); split <;> rename_i h <;> (try rw [Bool.not_eq_true] at h) <;> (try simp only [go_sem, c56_l0_a, *])))
  have et : (e.Kids.map showE).take e.Kids.length = e.Kids.map showE := List.take_of_length_le (by simp)
  simp only [et] at f0
  have f0 := fun fin st => (f0 fin st).trans (ex fin st)
  have e0 : commaS ((e.Kids.map showE).take 0) = ⟨#[]⟩ := rfl
  simp only [e0, Int.cast_ofNat_Int] at f0
  (rw [w_plain (fn := c56) rfl rfl (by simp only [go_sem, f0]) rfl (by decide)]; simp only [c56, c56_b, go_sem, f0]; repeat' ((first | rw [guardO_t] | rw [guardO_f] | rw [cw_bool]); split <;> rename_i h <;> (try rw [Bool.not_eq_true] at h) <;> (try simp only [go_sem, f0, *])))
theorem fields_len : ∀ (ls ss : List ByteArray), ls.length = ss.length → (fieldsE ls ss).length = ss.length := fun ls => by
  induction ls with
  | nil => intro ss h; cases ss; rfl; simp at h
  | cons l ls ih => intro ss h; cases ss with
    | nil => simp at h
    | cons s ss => simp only [fieldsE, List.length_cons]; rw [ih ss (by simpa using h)]
theorem fields_get : ∀ (ls ss : List ByteArray) (i : Nat) (l s : ByteArray), ls[i]? = some l → ss[i]? = some s → (fieldsE ls ss)[i]? = some (l ++ ⟨#[32, 61, 32]⟩ ++ s) := fun ls => by
  induction ls with
  | nil => intro ss i l s h; simp at h
  | cons l' ls ih =>
    intro ss i l s h1 h2
    cases ss with
    | nil => simp at h2
    | cons s' ss =>
      cases i with
      | zero => simp at h1 h2; subst h1 h2; rfl
      | succ i => simp only [List.getElem?_cons_succ] at h1 h2; simp only [fieldsE, List.getElem?_cons_succ]; exact ih ss i l s h1 h2
theorem list15r (e : GExp) (hK : (e.K == 9) = true) (hl : e.Kids.length ≤ 1000) (hll : e.Kids.length = e.Labels.length) (hs : ((fieldsE e.Labels (e.Kids.map showE)).map fun t => t.size + 2).sum ≤ 1000000000) (hb : ∀ l ∈ e.Labels, l.size ≤ 1048576) (hp : ∀ k ∈ e.Kids, Sm (showE k) ∧ ∀ S, cal (env ot oz) 24 [.agg (rExp k)] S = some (.str (showE k), S)) (S : St) :
    cal (env ot oz) 56 [.agg (rExp e)] S = some (.str (commaS (fieldsE e.Labels (e.Kids.map showE))), S) := by
  have hl' : Short e.Kids.length := by unfold Short maxLen; omega
  have hfl := fields_len e.Labels (e.Kids.map showE) (by simp; omega)
  rw [List.length_map] at hfl
  have hfg := fields_get e.Labels (e.Kids.map showE)
  generalize hts : fieldsE e.Labels (e.Kids.map showE) = ts at *
  have f0 := fun fin st => loopF0 (E := (env ot oz)) (S := S) (c := c56_l0) e.Kids hl' (fun i (_ : Unit) => [(1, some (.at_ (rExp e))), (3, some (.str (commaS (ts.take i)))), (4, some (.int .i64 (i : Int)))]) (fun _ _ => ()) () fin st
    (fun i b k h1 h2 h3 h4 => by
      obtain ⟨sk, ck⟩ := hp k h2
      unfold Sm at sk
      have hlt := getElem?_lt h1
      obtain ⟨l, hl1⟩ : ∃ l, e.Labels[i]? = some l := ⟨_, List.getElem?_eq_getElem (by omega)⟩
      have hsl := hb l (mem_of_get hl1)
      have hg := hfg i l (showE k) hl1 (by rw [List.getElem?_map, h1]; rfl)
      have htk : ts.take (i + 1) = ts.take i ++ [l ++ ⟨#[32, 61, 32]⟩ ++ showE k] := by rw [List.take_add_one, hg]; rfl
      have st_ := comma_take ts i
      have hi2 : (i : Int) < (e.Labels.length : Int) := by omega
      rw [htk]
      cases i with
      | zero =>
        have z0 : decide ((0 : Int) < ((0 : Nat) : Int)) = false := rfl
        have e1 : commaS (([] : List ByteArray) ++ [l ++ ⟨#[32, 61, 32]⟩ ++ showE k]) = l ++ ⟨#[32, 61, 32]⟩ ++ showE k := by rw [List.nil_append, comma_one]
        simp only [List.take_zero, e1, comma_nil, Int.cast_ofNat_Int] at *
        have z1 := addE (s := l) (by omega)
        have z2 := addS (a := l) (b := ⟨#[32, 61, 32]⟩) (by have L := lits; (try simp only [app_size]); omega)
        have z3 := addS (a := l ++ ⟨#[32, 61, 32]⟩) (b := showE k) (by have L := lits; (try simp only [app_size]); omega)
        (rw [c56_l0_w]; simp only [c56_l0_b, c56_l0_a, go_sem, h1, h3, h4, hl1, hi2, ck, hK, z0, ↓z1, ↓z2, ↓z3]; repeat' ((first | rw [guardO_t] | rw [guardO_f] | rw [cw_bool]); split <;> rename_i h <;> (try rw [Bool.not_eq_true] at h) <;> (try simp only [go_sem, c56_l0_a, h1, h3, h4, hl1, hi2, ck, hK, z0, ↓z1, ↓z2, ↓z3, *])))
      | succ i =>
        have z0 : decide ((0 : Int) < ((i + 1 : Nat) : Int)) = true := decide_eq_true (by omega)
        rw [comma_snoc _ _ (by intro h; have := congrArg List.length h; simp only [List.length_take, List.length_nil] at this; omega)]
        have ea : ∀ c : ByteArray, c ++ ⟨#[44, 32]⟩ ++ (l ++ ⟨#[32, 61, 32]⟩ ++ showE k) = c ++ ⟨#[44, 32]⟩ ++ l ++ ⟨#[32, 61, 32]⟩ ++ showE k := fun c => by simp only [ba_assoc]
        rw [ea]
        generalize commaS (ts.take (i + 1)) = cs at *
        have z1 := addS (a := cs) (b := ⟨#[44, 32]⟩) (by have L := lits; (try simp only [app_size]); omega)
        have z2 := addS (a := cs ++ ⟨#[44, 32]⟩) (b := l) (by have L := lits; (try simp only [app_size]); omega)
        have z3 := addS (a := cs ++ ⟨#[44, 32]⟩ ++ l) (b := ⟨#[32, 61, 32]⟩) (by have L := lits; (try simp only [app_size]); omega)
        have z4 := addS (a := cs ++ ⟨#[44, 32]⟩ ++ l ++ ⟨#[32, 61, 32]⟩) (b := showE k) (by have L := lits; (try simp only [app_size]); omega)
        (rw [c56_l0_w]; simp only [c56_l0_b, c56_l0_a, go_sem, h1, h3, h4, hl1, hi2, ck, hK, z0, ↓z1, ↓z2, ↓z3, ↓z4]; repeat' ((first | rw [guardO_t] | rw [guardO_f] | rw [cw_bool]); split <;> rename_i h <;> (try rw [Bool.not_eq_true] at h) <;> (try simp only [go_sem, c56_l0_a, h1, h3, h4, hl1, hi2, ck, hK, z0, ↓z1, ↓z2, ↓z3, ↓z4, *]))))
  have ex : ∀ fin st, run (env ot oz) fin st c56_l0 [(1, some (.at_ (rExp e))), (3, some (.str (commaS ts))), (4, some (.int .i64 (e.Kids.length : Int)))] S = aft (env ot oz) fin st (.exit 0) [(1, some (.at_ (rExp e))), (3, some (.str (commaS ts))), (4, some (.int .i64 (e.Kids.length : Int))), (9, some (.bool false))] S := fun fin st => by
    (rw [c56_l0_w]; simp only [c56_l0_b, c56_l0_a, go_sem]; repeat' ((first | rw [guardO_t] | rw [guardO_f] | rw [cw_bool]); split <;> rename_i h <;> (try rw [Bool.not_eq_true] at h) <;> (try simp only [go_sem, c56_l0_a, *])))
  have et : ts.take e.Kids.length = ts := List.take_of_length_le (by omega)
  simp only [et] at f0
  have f0 := fun fin st => (f0 fin st).trans (ex fin st)
  have e0 : commaS (ts.take 0) = ⟨#[]⟩ := rfl
  simp only [e0, Int.cast_ofNat_Int] at f0
  (rw [w_plain (fn := c56) rfl rfl (by simp only [go_sem, f0]) rfl (by decide)]; simp only [c56, c56_b, go_sem, f0]; repeat' ((first | rw [guardO_t] | rw [guardO_f] | rw [cw_bool]); split <;> rename_i h <;> (try rw [Bool.not_eq_true] at h) <;> (try simp only [go_sem, f0, *])))
end
end Go.PE
