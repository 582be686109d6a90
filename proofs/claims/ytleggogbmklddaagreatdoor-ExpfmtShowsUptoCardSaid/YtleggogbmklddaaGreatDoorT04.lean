/-
  Types that are right, by the document. Conditions: each law's own.
-/
import Derived.Test.YtleggogbmklddaaGreatDoorN01
namespace Go.PE
open Go Go.RowKit Go.Proofs
set_option linter.unusedVariables false
set_option linter.unusedSimpArgs false
set_option maxRecDepth 100000
section
variable {ot : TypeId} {oz : EP}

def badT (t : GTy) : Bool := (t.K != 6 && !(strEq t.Name ⟨#[]⟩)) || (t.K != 9 && t.N != 0) || (t.K != 8 && decide (0 < t.Labels.length))
/-- A type's own fields are as its kind asks. -/
def headT (t : GTy) : Bool :=
  !(badT t) && (if decide (1 ≤ t.K) && decide (t.K ≤ 5) then (t.Args.length : Int) == 0 else if t.K == 6 then varS t.Name && (t.Args.length : Int) == 0 else if t.K == 9 then (decide (0 ≤ t.N) && decide (t.N ≤ 1073741824)) && (t.Args.length : Int) == 0
    else if t.K == 7 then (t.Args.length : Int) == 2 else (t.K == 8 && risingS t.Labels) && (t.Labels.length : Int) == (t.Args.length : Int))
mutual
def rightT : GTy → Bool
  | .mk K N Name Labels Args => rightTs Args && headT (.mk K N Name Labels Args)
def rightTs : List GTy → Bool
  | [] => true
  | a :: r => rightT a && rightTs r
end
theorem rightT_eq (t : GTy) : rightT t = (rightTs t.Args && headT t) := by cases t; rw [rightT]; rfl

theorem right04_r6 (t : GTy) {ts : Tmps} (h : PE.look ts 1 = some (.at_ (rTy t))) (n : Nat) (S : St) (fin : Kont (PV × St)) (st : List Fr) : stepR (env ot oz) fin st (some [1, 46]) (evOps (env ot oz).G (lvl (env ot oz) n).call c67_r6 ts S) = kont (env ot oz) fin st .normal [(1, some (.at_ (rTy t))), (46, some (.bool (badT t)))] S := by
  unfold badT
  cases h1 : (t.K != 6) <;> cases h2 : strEq t.Name ⟨#[]⟩ <;> cases h3 : (t.K != 9) <;> cases h4 : (t.N != 0) <;> cases h5 : (t.K != 8) <;> simp only [c67_r6, go_sem, h, h1, h2, h3, h4, h5]
theorem right04_r8 (t : GTy) {ts : Tmps} (h : PE.look ts 1 = some (.at_ (rTy t))) (n : Nat) (S : St) (fin : Kont (PV × St)) (st : List Fr) : stepR (env ot oz) fin st (some [1, 54]) (evOps (env ot oz).G (lvl (env ot oz) n).call c67_r8 ts S) = kont (env ot oz) fin st .normal [(1, some (.at_ (rTy t))), (54, some (.bool (decide (1 ≤ t.K) && decide (t.K ≤ 5))))] S := by
  by_cases h1 : 1 ≤ t.K <;> simp only [c67_r8, go_sem, h, h1]
theorem right04_l0 (t : GTy) (ht : Short t.Args.length) (N : Nat) (S : St) (fin : Kont (PV × St)) (st : List Fr) : ∀ (rest : List GTy) (i : Nat), t.Args.drop i = rest → (∀ a ∈ rest, ∀ m, N ≤ m → ∀ S, (lvl (env ot oz) m).call 67 [.agg (rTy a)] S = some (.bool (rightT a), S)) → ∀ n, rest.length + N + 2 ≤ n →
    (lvl (env ot oz) n).ev c67_l0 [(1, some (.at_ (rTy t))), (3, some (.int .i64 (i : Int)))] S (kont (env ot oz) fin st) =
      if rightTs rest then kont (env ot oz) fin st (.exit 0) [(1, some (.at_ (rTy t))), (3, some (.int .i64 ((i + rest.length : Nat) : Int))), (8, some (.bool false))] S else kont (env ot oz) fin st .ret [(2, some (.bool false))] S
  | [], i, h, hc, n, hn => by
    obtain ⟨k, rfl⟩ : ∃ k, n = k + 1 := ⟨n - 1, by omega⟩
    have hlt := lt_no (drop_nil h)
    (rw [c67_l0_step]; simp only [c67_l0_b, c67_r6, c67_r8, c67_r11, c67_r13, c67_r16, go_sem, hlt, rightTs])
  | a :: r, i, h, hc, n, hn => by
    obtain ⟨k, rfl⟩ : ∃ k, n = k + 1 := ⟨n - 1, by omega⟩
    obtain ⟨h1, h2, h3⟩ := drop_cons h
    unfold Short maxLen at ht
    simp only [List.length_cons] at hn
    have e : i + (a :: r).length = i + 1 + r.length := by simp only [List.length_cons]; omega
    have w := wrap_succ (i := i) (n := t.Args.length) h3 (by omega)
    have hlt : (i : Int) < (t.Args.length : Int) := by omega
    have ih := right04_l0 t (by unfold Short maxLen; omega) N S fin st r (i + 1) h2 (fun x hx => hc x (List.mem_cons_of_mem _ hx)) k (by omega)
    have ca := hc a (by simp) k (by omega)
    rw [e]
    cases q : rightT a <;> (rw [c67_l0_step]; simp only [c67_l0_b, c67_r6, c67_r8, c67_r11, c67_r13, c67_r16, go_sem, hlt, h1, q, w, ih, ca, rightTs])
theorem right04_ok : ∀ (t : GTy), OkTy t → Ans (env ot oz) 67 [.agg (rTy t)] (.bool (rightT t)) := by
  refine GTy.ind fun t ih ok => ?_
  have hA : Short t.Args.length ∧ (∀ x ∈ t.Args, OkTy x) ∧ Short t.Labels.length := by cases ok; exact ⟨by assumption, by assumption, (by assumption : _ ∧ _).1⟩
  obtain ⟨A, hA1⟩ := all_le (p := fun n (a : GTy) => ∀ S, (lvl (env ot oz) n).call 67 [.agg (rTy a)] S = some (.bool (rightT a), S)) (fun n m k hm h S => call_mono hm (h S)) (l := t.Args) (fun a ha => ih a ha (hA.2.1 a ha))
  obtain ⟨B, b⟩ := (var01_ok (ot := ot) (oz := oz) t.Name).le
  obtain ⟨C, c⟩ := (rising01_ok (ot := ot) (oz := oz) t.Labels hA.2.2 .ro).le
  refine ⟨t.Args.length + A + B + C + 4, fun S => ?_⟩
  have f0 := fun fin st => right04_l0 (ot := ot) (oz := oz) t hA.1 A S fin st t.Args 0 rfl (fun a ha m hm S => call_mono hm (hA1 a ha S)) (t.Args.length + A + B + C + 3) (by omega)
  have b := b (t.Args.length + A + B + C + 2) (by omega)
  have c := c (t.Args.length + A + B + C + 2) (by omega)
  have e : rightT t = (rightTs t.Args && headT t) := rightT_eq t
  have r6 := fun ts h => right04_r6 (ot := ot) (oz := oz) t (ts := ts) h
  have r8 := fun ts h => right04_r8 (ot := ot) (oz := oz) t (ts := ts) h
  simp only [Int.cast_ofNat_Int] at f0
  cases q0 : rightTs t.Args with
  | false =>
    simp only [q0, if_false, Bool.false_eq_true, Bool.false_and] at f0 e
    (rw [call_plain (fn := c67) rfl rfl (by simp only [go_sem, f0, e]) rfl (by decide)]; simp only [c67, c67_b, c67_r11, c67_r13, c67_r16, go_sem, f0, e])
  | true =>
    simp only [q0, if_true, Bool.true_and] at f0 e
    rw [e]; unfold headT; clear e
    cases q1 : badT t with
    | true => (rw [call_plain (fn := c67) rfl rfl (by simp only [go_sem, f0, r6, q1]) rfl (by decide)]; simp only [c67, c67_b, c67_r11, c67_r13, c67_r16, go_sem, f0, r6, q1])
    | false =>
      cases q2 : (decide (1 ≤ t.K) && decide (t.K ≤ 5)) with
      | true => (rw [call_plain (fn := c67) rfl rfl (by simp only [go_sem, f0, r6, r8, q1, q2]) rfl (by decide)]; simp only [c67, c67_b, c67_r11, c67_r13, c67_r16, go_sem, f0, r6, r8, q1, q2])
      | false =>
        cases q3 : (t.K == 6) with
        | true => cases q4 : varS t.Name <;> (rw [call_plain (fn := c67) rfl rfl (by simp only [go_sem, f0, r6, r8, q1, q2, q3, q4, b]) rfl (by decide)]; simp only [c67, c67_b, c67_r11, c67_r13, c67_r16, go_sem, f0, r6, r8, q1, q2, q3, q4, b])
        | false =>
          cases q5 : (t.K == 9) with
          | true => by_cases q6 : 0 ≤ t.N <;> cases q7 : decide (t.N ≤ 1073741824) <;> (rw [call_plain (fn := c67) rfl rfl (by simp only [go_sem, f0, r6, r8, q1, q2, q3, q5, q6, q7]) rfl (by decide)]; simp only [c67, c67_b, c67_r11, c67_r13, c67_r16, go_sem, f0, r6, r8, q1, q2, q3, q5, q6, q7])
          | false =>
            cases q8 : (t.K == 7) with
            | true => (rw [call_plain (fn := c67) rfl rfl (by simp only [go_sem, f0, r6, r8, q1, q2, q3, q5, q8]) rfl (by decide)]; simp only [c67, c67_b, c67_r11, c67_r13, c67_r16, go_sem, f0, r6, r8, q1, q2, q3, q5, q8])
            | false => cases q9 : (t.K == 8) <;> cases q10 : risingS t.Labels <;> (rw [call_plain (fn := c67) rfl rfl (by simp only [go_sem, f0, r6, r8, q1, q2, q3, q5, q8, q9, q10, c]) rfl (by decide)]; simp only [c67, c67_b, c67_r11, c67_r13, c67_r16, go_sem, f0, r6, r8, q1, q2, q3, q5, q8, q9, q10, c])
end
end Go.PE
