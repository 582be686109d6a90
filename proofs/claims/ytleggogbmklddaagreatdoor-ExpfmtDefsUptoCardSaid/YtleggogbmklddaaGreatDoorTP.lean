/-
  Types that are right, by the document. Conditions: each law's own.
-/
import Derived.Test.YtleggogbmklddaaGreatDoorN01
import Derived.Test.YtleggogbmklddaaGreatDoorNP
namespace Go.PE
open Go Go.RowKit Go.Proofs
set_option linter.unusedVariables false
set_option linter.unusedSimpArgs false
set_option maxRecDepth 100000
section
variable {ot : TypeId} {oz : EP}

def badT (t : GTy) : Bool := (t.K != 6 && !(strEq t.Name ⟨#[]⟩)) || (t.K != 9 && t.N != 0) || (t.K != 8 && decide (0 < t.Labels.length))
def headT (t : GTy) : Bool :=
  !(badT t) && (if decide (1 ≤ t.K) && decide (t.K ≤ 5) then (t.Args.length : Int) == 0 else if t.K == 6 then varS t.Name && (t.Args.length : Int) == 0 else if t.K == 9 then (decide (0 ≤ t.N) && decide (t.N ≤ 1073741824)) && (t.Args.length : Int) == 0
    else if t.K == 7 then (t.Args.length : Int) == 2 else (t.K == 8 && risingS t.Labels) && (t.Labels.length : Int) == (t.Args.length : Int))
mutual
def rightT : GTy → Bool
  | .mk K N Name Labels Args => rightTs Args && headT (.mk K N Name Labels Args)
def rightTs : List GTy → Bool
  | [] => true
  | a :: r => rightT a && rightTs r
end
theorem rightT_eq (t : GTy) : rightT t = (rightTs t.Args && headT t) := by cases t; rw [rightT]; rfl

theorem right04_r6 (t : GTy) {ts : Tmps} (h : PE.look ts 1 = some (.at_ (rTy t))) (n : Nat) (S : St) (fin : Kont (PV × St)) (st : List Fr) : stepR (env ot oz) fin st (some [1, 46]) (evOps (env ot oz).G (lvl (env ot oz) n).call c67_r6 ts S) = kont (env ot oz) fin st .normal [(1, some (.at_ (rTy t))), (46, some (.bool (badT t)))] S := by
  unfold badT
  cases h1 : (t.K != 6) <;> cases h2 : strEq t.Name ⟨#[]⟩ <;> cases h3 : (t.K != 9) <;> cases h4 : (t.N != 0) <;> cases h5 : (t.K != 8) <;> simp only [c67_r6, go_sem, h, h1, h2, h3, h4, h5]
theorem right04_r8 (t : GTy) {ts : Tmps} (h : PE.look ts 1 = some (.at_ (rTy t))) (n : Nat) (S : St) (fin : Kont (PV × St)) (st : List Fr) : stepR (env ot oz) fin st (some [1, 54]) (evOps (env ot oz).G (lvl (env ot oz) n).call c67_r8 ts S) = kont (env ot oz) fin st .normal [(1, some (.at_ (rTy t))), (54, some (.bool (decide (1 ≤ t.K) && decide (t.K ≤ 5))))] S := by
  by_cases h1 : 1 ≤ t.K <;> simp only [c67_r8, go_sem, h, h1]
theorem right04_l0 (t : GTy) (ht : Short t.Args.length) (N : Nat) (S : St) (fin : Kont (PV × St)) (st : List Fr) : ∀ (rest : List GTy) (i : Nat), t.Args.drop i = rest → (∀ a ∈ rest, ∀ m, N ≤ m → ∀ S, (lvl (env ot oz) m).call 67 [.agg (rTy a)] S = some (.bool (rightT a), S)) → ∀ n, rest.length + N + 2 ≤ n →
    (lvl (env ot oz) n).ev c67_l0 [(1, some (.at_ (rTy t))), (3, some (.int .i64 (i : Int)))] S (kont (env ot oz) fin st) =
      if rightTs rest then kont (env ot oz) fin st (.exit 0) [(1, some (.at_ (rTy t))), (3, some (.int .i64 ((i + rest.length : Nat) : Int))), (8, some (.bool false))] S else kont (env ot oz) fin st .ret [(2, some (.bool false))] S
  | [], i, h, hc, n, hn => by
    obtain ⟨k, rfl⟩ : ∃ k, n = k + 1 := ⟨n - 1, by omega⟩
    have hlt := lt_no (drop_nil h)
    (rw [c67_l0_step]; simp only [c67_l0_b, c67_r6, c67_r8, c67_r11, c67_r13, c67_r16, go_sem, hlt, rightTs])
  | a :: r, i, h, hc, n, hn => by
    obtain ⟨k, rfl⟩ : ∃ k, n = k + 1 := ⟨n - 1, by omega⟩
    obtain ⟨h1, h2, h3⟩ := drop_cons h
    unfold Short maxLen at ht
    simp only [List.length_cons] at hn
    have e : i + (a :: r).length = i + 1 + r.length := by simp only [List.length_cons]; omega
    have w := wrap_succ (i := i) (n := t.Args.length) h3 (by omega)
    have hlt : (i : Int) < (t.Args.length : Int) := by omega
    have ih := right04_l0 t (by unfold Short maxLen; omega) N S fin st r (i + 1) h2 (fun x hx => hc x (List.mem_cons_of_mem _ hx)) k (by omega)
    have ca := hc a (by simp) k (by omega)
    rw [e]
    cases q : rightT a <;> (rw [c67_l0_step]; simp only [c67_l0_b, c67_r6, c67_r8, c67_r11, c67_r13, c67_r16, go_sem, hlt, h1, q, w, ih, ca, rightTs])
theorem right04_ok : ∀ (t : GTy), OkTy t → Ans (env ot oz) 67 [.agg (rTy t)] (.bool (rightT t)) := by
  refine GTy.ind fun t ih ok => ?_
  have hA : Short t.Args.length ∧ (∀ x ∈ t.Args, OkTy x) ∧ Short t.Labels.length := by cases ok; exact ⟨by assumption, by assumption, (by assumption : _ ∧ _).1⟩
  obtain ⟨A, hA1⟩ := all_le (p := fun n (a : GTy) => ∀ S, (lvl (env ot oz) n).call 67 [.agg (rTy a)] S = some (.bool (rightT a), S)) (fun n m k hm h S => call_mono hm (h S)) (l := t.Args) (fun a ha => ih a ha (hA.2.1 a ha))
  obtain ⟨B, b⟩ := (var01_ok (ot := ot) (oz := oz) t.Name).le
  obtain ⟨C, c⟩ := (rising01_ok (ot := ot) (oz := oz) t.Labels hA.2.2 .ro).le
  refine ⟨t.Args.length + A + B + C + 4, fun S => ?_⟩
  have f0 := fun fin st => right04_l0 (ot := ot) (oz := oz) t hA.1 A S fin st t.Args 0 rfl (fun a ha m hm S => call_mono hm (hA1 a ha S)) (t.Args.length + A + B + C + 3) (by omega)
  have b := b (t.Args.length + A + B + C + 2) (by omega)
  have c := c (t.Args.length + A + B + C + 2) (by omega)
  have e : rightT t = (rightTs t.Args && headT t) := rightT_eq t
  have r6 := fun ts h => right04_r6 (ot := ot) (oz := oz) t (ts := ts) h
  have r8 := fun ts h => right04_r8 (ot := ot) (oz := oz) t (ts := ts) h
  simp only [Int.cast_ofNat_Int] at f0
  cases q0 : rightTs t.Args with
  | false =>
    simp only [q0, if_false, Bool.false_eq_true, Bool.false_and] at f0 e
    (rw [call_plain (fn := c67) rfl rfl (by simp only [go_sem, f0, e]) rfl (by decide)]; simp only [c67, c67_b, c67_r11, c67_r13, c67_r16, go_sem, f0, e])
  | true =>
    simp only [q0, if_true, Bool.true_and] at f0 e
    rw [e]; unfold headT; clear e
    cases q1 : badT t with
    | true => (rw [call_plain (fn := c67) rfl rfl (by simp only [go_sem, f0, r6, q1]) rfl (by decide)]; simp only [c67, c67_b, c67_r11, c67_r13, c67_r16, go_sem, f0, r6, q1])
    | false =>
      cases q2 : (decide (1 ≤ t.K) && decide (t.K ≤ 5)) with
      | true => (rw [call_plain (fn := c67) rfl rfl (by simp only [go_sem, f0, r6, r8, q1, q2]) rfl (by decide)]; simp only [c67, c67_b, c67_r11, c67_r13, c67_r16, go_sem, f0, r6, r8, q1, q2])
      | false =>
        cases q3 : (t.K == 6) with
        | true => cases q4 : varS t.Name <;> (rw [call_plain (fn := c67) rfl rfl (by simp only [go_sem, f0, r6, r8, q1, q2, q3, q4, b]) rfl (by decide)]; simp only [c67, c67_b, c67_r11, c67_r13, c67_r16, go_sem, f0, r6, r8, q1, q2, q3, q4, b])
        | false =>
          cases q5 : (t.K == 9) with
          | true => by_cases q6 : 0 ≤ t.N <;> cases q7 : decide (t.N ≤ 1073741824) <;> (rw [call_plain (fn := c67) rfl rfl (by simp only [go_sem, f0, r6, r8, q1, q2, q3, q5, q6, q7]) rfl (by decide)]; simp only [c67, c67_b, c67_r11, c67_r13, c67_r16, go_sem, f0, r6, r8, q1, q2, q3, q5, q6, q7])
          | false =>
            cases q8 : (t.K == 7) with
            | true => (rw [call_plain (fn := c67) rfl rfl (by simp only [go_sem, f0, r6, r8, q1, q2, q3, q5, q8]) rfl (by decide)]; simp only [c67, c67_b, c67_r11, c67_r13, c67_r16, go_sem, f0, r6, r8, q1, q2, q3, q5, q8])
            | false => cases q9 : (t.K == 8) <;> cases q10 : risingS t.Labels <;> (rw [call_plain (fn := c67) rfl rfl (by simp only [go_sem, f0, r6, r8, q1, q2, q3, q5, q8, q9, q10, c]) rfl (by decide)]; simp only [c67, c67_b, c67_r11, c67_r13, c67_r16, go_sem, f0, r6, r8, q1, q2, q3, q5, q8, q9, q10, c])
end
end Go.PE
namespace Go.PE
open Go Go.RowKit Go.Proofs
set_option linter.unusedVariables false
set_option linter.unusedSimpArgs false
set_option maxRecDepth 100000
section
variable {ot : TypeId} {oz : EP}
theorem indexF_l0Ty (l : List GTy) (p : GTy → Bool) (hl : Short l.length) (f : FuncId) (first caps : List PV) (S : St) (hp : ∀ a ∈ l, cal (env ot oz) f (first ++ [.agg (rTy a)] ++ caps) S = some (.bool (p a), S)) (fin : Kont (PV × St)) (st : List Fw) : ∀ (rest : List GTy) (i : Nat), l.drop i = rest →
    run (env ot oz) fin st c114_l0 [(0, some (.sl .ro (l.map rTy))), (1, some (.fn f first caps)), (7, some (.int .i64 (l.length : Int))), (8, some (.int .i64 (i : Int)))] S =
      if rest.any p then aft (env ot oz) fin st .ret [(4, some (.int .i64 ((i + rest.findIdx p : Nat) : Int)))] S else aft (env ot oz) fin st (.exit 0) [(0, some (.sl .ro (l.map rTy))), (1, some (.fn f first caps)), (7, some (.int .i64 (l.length : Int))), (8, some (.int .i64 ((i + rest.length : Nat) : Int))), (9, some (.bool false))] S
  | [], i, h => by
    have hlt := lt_no (drop_nil h)
    (rw [c114_l0_w]; simp only [c114_l0_b, c114_l0_a, go_sem, hlt, List.any_nil])
  | a :: r, i, h => by
    obtain ⟨h1, h2, h3⟩ := drop_cons h
    unfold Short maxLen at hl
    have e : i + (a :: r).length = i + 1 + r.length := by simp only [List.length_cons]; omega
    have w := wrap_succ (i := i) (n := l.length) h3 (by omega)
    have hlt : (i : Int) < (l.length : Int) := by omega
    have ih := indexF_l0Ty l p (by unfold Short maxLen; omega) f first caps S hp fin st r (i + 1) h2
    have ca := hp a (mem_of_get h1)
    simp only [List.append_assoc, List.cons_append, List.nil_append, rStr_eq] at ca
    rw [e]
    cases q : p a with
    | true =>
      have e2 : (a :: r).findIdx p = 0 := by simp [List.findIdx_cons, q]
      rw [e2]
      (rw [c114_l0_w]; simp only [c114_l0_b, c114_l0_a, go_sem, hlt, h1, w, ca, q, List.any_cons])
    | false =>
      have e2 : i + (a :: r).findIdx p = i + 1 + r.findIdx p := by simp [List.findIdx_cons, q]; omega
      rw [e2]
      (rw [c114_l0_w]; simp only [c114_l0_b, c114_l0_a, go_sem, hlt, h1, w, ca, q, ih, List.any_cons])
theorem indexFTy (l : List GTy) (p : GTy → Bool) (hl : Short l.length) (f : FuncId) (first caps : List PV) (S : St) (hf : ∀ n d, sealL n d first = some first) (hc : ∀ n d, sealL n d caps = some caps) (hp : ∀ a ∈ l, cal (env ot oz) f (first ++ [.agg (rTy a)] ++ caps) S = some (.bool (p a), S)) :
    cal (env ot oz) 114 [.sl .ro (l.map rTy), .fn f first caps] S = some (.int .i64 (if l.any p then (l.findIdx p : Int) else -1), S) := by
  have h := fun fin st => indexF_l0Ty (ot := ot) (oz := oz) l p hl f first caps S hp fin st l 0 rfl
  simp only [Int.cast_ofNat_Int, Nat.zero_add] at h
  cases q : l.any p <;> simp only [q, if_true, if_false, Bool.false_eq_true] at h <;> (rw [w_plain (fn := c114) rfl rfl (by simp only [go_sem, hf, hc, h, q]) rfl (by decide)]; simp only [c114, c114_b, go_sem, hf, hc, h, q])
theorem indexF_l0Exp (l : List GExp) (p : GExp → Bool) (hl : Short l.length) (f : FuncId) (first caps : List PV) (S : St) (hp : ∀ a ∈ l, cal (env ot oz) f (first ++ [.agg (rExp a)] ++ caps) S = some (.bool (p a), S)) (fin : Kont (PV × St)) (st : List Fw) : ∀ (rest : List GExp) (i : Nat), l.drop i = rest →
    run (env ot oz) fin st c116_l0 [(0, some (.sl .ro (l.map rExp))), (1, some (.fn f first caps)), (7, some (.int .i64 (l.length : Int))), (8, some (.int .i64 (i : Int)))] S =
      if rest.any p then aft (env ot oz) fin st .ret [(4, some (.int .i64 ((i + rest.findIdx p : Nat) : Int)))] S else aft (env ot oz) fin st (.exit 0) [(0, some (.sl .ro (l.map rExp))), (1, some (.fn f first caps)), (7, some (.int .i64 (l.length : Int))), (8, some (.int .i64 ((i + rest.length : Nat) : Int))), (9, some (.bool false))] S
  | [], i, h => by
    have hlt := lt_no (drop_nil h)
    (rw [c116_l0_w]; simp only [c116_l0_b, c116_l0_a, go_sem, hlt, List.any_nil])
  | a :: r, i, h => by
    obtain ⟨h1, h2, h3⟩ := drop_cons h
    unfold Short maxLen at hl
    have e : i + (a :: r).length = i + 1 + r.length := by simp only [List.length_cons]; omega
    have w := wrap_succ (i := i) (n := l.length) h3 (by omega)
    have hlt : (i : Int) < (l.length : Int) := by omega
    have ih := indexF_l0Exp l p (by unfold Short maxLen; omega) f first caps S hp fin st r (i + 1) h2
    have ca := hp a (mem_of_get h1)
    simp only [List.append_assoc, List.cons_append, List.nil_append, rStr_eq] at ca
    rw [e]
    cases q : p a with
    | true =>
      have e2 : (a :: r).findIdx p = 0 := by simp [List.findIdx_cons, q]
      rw [e2]
      (rw [c116_l0_w]; simp only [c116_l0_b, c116_l0_a, go_sem, hlt, h1, w, ca, q, List.any_cons])
    | false =>
      have e2 : i + (a :: r).findIdx p = i + 1 + r.findIdx p := by simp [List.findIdx_cons, q]; omega
      rw [e2]
      (rw [c116_l0_w]; simp only [c116_l0_b, c116_l0_a, go_sem, hlt, h1, w, ca, q, ih, List.any_cons])
theorem indexFExp (l : List GExp) (p : GExp → Bool) (hl : Short l.length) (f : FuncId) (first caps : List PV) (S : St) (hf : ∀ n d, sealL n d first = some first) (hc : ∀ n d, sealL n d caps = some caps) (hp : ∀ a ∈ l, cal (env ot oz) f (first ++ [.agg (rExp a)] ++ caps) S = some (.bool (p a), S)) :
    cal (env ot oz) 116 [.sl .ro (l.map rExp), .fn f first caps] S = some (.int .i64 (if l.any p then (l.findIdx p : Int) else -1), S) := by
  have h := fun fin st => indexF_l0Exp (ot := ot) (oz := oz) l p hl f first caps S hp fin st l 0 rfl
  simp only [Int.cast_ofNat_Int, Nat.zero_add] at h
  cases q : l.any p <;> simp only [q, if_true, if_false, Bool.false_eq_true] at h <;> (rw [w_plain (fn := c116) rfl rfl (by simp only [go_sem, hf, hc, h, q]) rfl (by decide)]; simp only [c116, c116_b, go_sem, hf, hc, h, q])
theorem containsFTy (l : List GTy) (p : GTy → Bool) (hl : Short l.length) (f : FuncId) (first caps : List PV) (S : St) (hf : ∀ n d, sealL n d first = some first) (hc : ∀ n d, sealL n d caps = some caps) (hp : ∀ a ∈ l, cal (env ot oz) f (first ++ [.agg (rTy a)] ++ caps) S = some (.bool (p a), S)) :
    cal (env ot oz) 84 [.sl .ro (l.map rTy), .fn f first caps] S = some (.bool (l.any p), S) := by
  have h := indexFTy (ot := ot) (oz := oz) l p hl f first caps S hf hc hp
  cases q : l.any p <;> simp only [q, if_true, if_false, Bool.false_eq_true] at h <;> (rw [w_plain (fn := c84) rfl rfl (by simp only [go_sem, hf, hc, h, q]) rfl (by decide)]; simp only [c84, c84_b, go_sem, hf, hc, h, q])
theorem containsFExp (l : List GExp) (p : GExp → Bool) (hl : Short l.length) (f : FuncId) (first caps : List PV) (S : St) (hf : ∀ n d, sealL n d first = some first) (hc : ∀ n d, sealL n d caps = some caps) (hp : ∀ a ∈ l, cal (env ot oz) f (first ++ [.agg (rExp a)] ++ caps) S = some (.bool (p a), S)) :
    cal (env ot oz) 87 [.sl .ro (l.map rExp), .fn f first caps] S = some (.bool (l.any p), S) := by
  have h := indexFExp (ot := ot) (oz := oz) l p hl f first caps S hf hc hp
  cases q : l.any p <;> simp only [q, if_true, if_false, Bool.false_eq_true] at h <;> (rw [w_plain (fn := c87) rfl rfl (by simp only [go_sem, hf, hc, h, q]) rfl (by decide)]; simp only [c87, c87_b, go_sem, hf, hc, h, q])
end
end Go.PE
namespace Go.PE
open Go Go.RowKit Go.Proofs
set_option linter.unusedVariables false
set_option linter.unusedSimpArgs false
set_option maxRecDepth 100000
section
variable {ot : TypeId} {oz : EP}
theorem len0 {α : Type} (l : List α) : ((l.length : Int) == 0) = !decide (0 < l.length) := by
  cases l <;> simp <;> omega
theorem bare_eq (t : GTy) (S : St) : cal (env ot oz) 106 [.agg (rTy t)] S = some (.bool (!(badT t)), S) := by
  (rw [w_plain (fn := c106) rfl rfl (by simp only [go_sem]) rfl (by decide)]; simp only [c106, c106_b, c106_r1, go_sem]; repeat' ((first | rw [guardO_t] | rw [guardO_f] | rw [cw_bool]); split <;> rename_i h <;> (try rw [Bool.not_eq_true] at h) <;> (try simp only [go_sem, c106_r1, *]))) <;> (try simp_all [badT, len0]) <;> (try omega)
theorem rightTs_any : ∀ l : List GTy, rightTs l = !(l.any fun a => !(rightT a))
  | [] => rfl
  | a :: r => by rw [rightTs, rightTs_any r, List.any_cons]; cases rightT a <;> simp
theorem right_eq : ∀ (t : GTy), OkTy t → ∀ S, cal (env ot oz) 65 [.agg (rTy t)] S = some (.bool (rightT t), S) := by
  refine GTy.ind fun t ih ok S => ?_
  have hA : Short t.Args.length ∧ (∀ x ∈ t.Args, OkTy x) ∧ Short t.Labels.length := by cases ok; exact ⟨by assumption, by assumption, (by assumption : _ ∧ _).1⟩
  have b := bare_eq (ot := ot) (oz := oz) t
  have h1 : ∀ a ∈ t.Args, cal (env ot oz) 107 [.agg (rTy a)] S = some (.bool (!(rightT a)), S) := fun a ha => by
    have c := ih a ha (hA.2.1 a ha)
    (rw [w_plain (fn := c107) rfl rfl (by simp only [go_sem, c]) rfl (by decide)]; simp only [c107, c107_b, go_sem, c]; repeat' ((first | rw [guardO_t] | rw [guardO_f] | rw [cw_bool]); split <;> rename_i h <;> (try rw [Bool.not_eq_true] at h) <;> (try simp only [go_sem, c, *])))
  have c := containsFTy (ot := ot) (oz := oz) t.Args (fun a => !(rightT a)) hA.1 107 [] [] S (fun _ _ => rfl) (fun _ _ => rfl) h1
  have v := nvar (ot := ot) (oz := oz) t.Name
  have rs := nrising (ot := ot) (oz := oz) t.Labels hA.2.2
  have e : rightT t = (rightTs t.Args && headT t) := rightT_eq t
  rw [rightTs_any] at e
  (rw [w_plain (fn := c65) rfl rfl (by simp only [go_sem, b, c, v, rs]) rfl (by decide)]; simp only [c65, c65_b, c65_r1, c65_r11, c65_r13, c65_r17, go_sem, b, c, v, rs]; repeat' ((first | rw [guardO_t] | rw [guardO_f] | rw [cw_bool]); split <;> rename_i h <;> (try rw [Bool.not_eq_true] at h) <;> (try simp only [go_sem, c65_r1, c65_r11, c65_r13, c65_r17, b, c, v, rs, *]))) <;> (try simp_all [e, headT]) <;> (try omega)
end
end Go.PE
