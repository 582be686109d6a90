/-
  What is seen, as text; how a run ends. Conditions: each law's own.
-/
import Derived.Test.YtedgebnmllinlaaDoorOb3
namespace Go.PE
open Go Go.RowKit Go.Proofs
set_option linter.unusedVariables false
set_option linter.unusedSimpArgs false
set_option maxRecDepth 100000
section
variable {ot : TypeId} {oz : Nat × Nat}

def showO (o : GObs) : ByteArray :=
  if o.K == 1 then numS o.N else if o.K == 2 then boolS (o.N == 1) else if o.K == 3 then quoteS o.S else if o.K == 4 then ⟨#[102, 117, 110, 99, 116, 105, 111, 110]⟩ else if o.K == 5 then ⟨#[114, 101, 99, 111, 114, 100]⟩ else ⟨#[]⟩
theorem show_ok (o : GObs) (hN : In64 o.N) (hS : o.S.size ≤ 1000) : Ans (env ot oz) 27 [.agg (rObs o)] (.str (showO o)) := by
  obtain ⟨A, a⟩ := (itoa_ok (ot := ot) (oz := oz) o.N hN).le
  obtain ⟨B, b⟩ := (fmtBool_ok (ot := ot) (oz := oz) (o.N == 1)).le
  obtain ⟨C, c⟩ := (quote_ok (ot := ot) (oz := oz) o.S (by omega)).le
  refine ⟨A + B + C + 2, fun S => ?_⟩
  have a := a (A + B + C) (by omega)
  have b := b (A + B + C) (by omega)
  have c := c (A + B + C) (by omega)
  cases h1 : (o.K == 1) with
  | true => (rw [call_plain (fn := c27) rfl rfl (by simp only [go_sem, reduceIte, Nat.reduceEqDiff, Nat.reduceAdd, Nat.reduceSub, Nat.reduceMul, Nat.reduceLeDiff, Nat.reduceLT, Int.reduceNeg, Int.reduceEq, Int.reduceLT, Int.reduceLE, Int.reduceNe, Int.reduceToNat, Int.reduceAdd, Int.reduceMul, Int.reduceSub, Int.reduceBEq, h1, a, showO]) rfl (by decide)]; simp only [c27, c27_b, go_sem, reduceIte, Nat.reduceEqDiff, Nat.reduceAdd, Nat.reduceSub, Nat.reduceMul, Nat.reduceLeDiff, Nat.reduceLT, Int.reduceNeg, Int.reduceEq, Int.reduceLT, Int.reduceLE, Int.reduceNe, Int.reduceToNat, Int.reduceAdd, Int.reduceMul, Int.reduceSub, Int.reduceBEq, h1, a, showO])
  | false => cases h2 : (o.K == 2) with
    | true => (rw [call_plain (fn := c27) rfl rfl (by simp only [go_sem, reduceIte, Nat.reduceEqDiff, Nat.reduceAdd, Nat.reduceSub, Nat.reduceMul, Nat.reduceLeDiff, Nat.reduceLT, Int.reduceNeg, Int.reduceEq, Int.reduceLT, Int.reduceLE, Int.reduceNe, Int.reduceToNat, Int.reduceAdd, Int.reduceMul, Int.reduceSub, Int.reduceBEq, h1, h2, b, showO]) rfl (by decide)]; simp only [c27, c27_b, go_sem, reduceIte, Nat.reduceEqDiff, Nat.reduceAdd, Nat.reduceSub, Nat.reduceMul, Nat.reduceLeDiff, Nat.reduceLT, Int.reduceNeg, Int.reduceEq, Int.reduceLT, Int.reduceLE, Int.reduceNe, Int.reduceToNat, Int.reduceAdd, Int.reduceMul, Int.reduceSub, Int.reduceBEq, h1, h2, b, showO])
    | false => cases h3 : (o.K == 3) with
      | true => (rw [call_plain (fn := c27) rfl rfl (by simp only [go_sem, reduceIte, Nat.reduceEqDiff, Nat.reduceAdd, Nat.reduceSub, Nat.reduceMul, Nat.reduceLeDiff, Nat.reduceLT, Int.reduceNeg, Int.reduceEq, Int.reduceLT, Int.reduceLE, Int.reduceNe, Int.reduceToNat, Int.reduceAdd, Int.reduceMul, Int.reduceSub, Int.reduceBEq, h1, h2, h3, c, showO]) rfl (by decide)]; simp only [c27, c27_b, go_sem, reduceIte, Nat.reduceEqDiff, Nat.reduceAdd, Nat.reduceSub, Nat.reduceMul, Nat.reduceLeDiff, Nat.reduceLT, Int.reduceNeg, Int.reduceEq, Int.reduceLT, Int.reduceLE, Int.reduceNe, Int.reduceToNat, Int.reduceAdd, Int.reduceMul, Int.reduceSub, Int.reduceBEq, h1, h2, h3, c, showO])
      | false => cases h4 : (o.K == 4) <;> cases h5 : (o.K == 5) <;> (rw [call_plain (fn := c27) rfl rfl (by simp only [go_sem, reduceIte, Nat.reduceEqDiff, Nat.reduceAdd, Nat.reduceSub, Nat.reduceMul, Nat.reduceLeDiff, Nat.reduceLT, Int.reduceNeg, Int.reduceEq, Int.reduceLT, Int.reduceLE, Int.reduceNe, Int.reduceToNat, Int.reduceAdd, Int.reduceMul, Int.reduceSub, Int.reduceBEq, h1, h2, h3, h4, h5, showO]) rfl (by decide)]; simp only [c27, c27_b, go_sem, reduceIte, Nat.reduceEqDiff, Nat.reduceAdd, Nat.reduceSub, Nat.reduceMul, Nat.reduceLeDiff, Nat.reduceLT, Int.reduceNeg, Int.reduceEq, Int.reduceLT, Int.reduceLE, Int.reduceNe, Int.reduceToNat, Int.reduceAdd, Int.reduceMul, Int.reduceSub, Int.reduceBEq, h1, h2, h3, h4, h5, showO])
theorem show2_ok (o : GObs) (hN : In64 o.N) (hS : o.S.size ≤ 1000) : Ans (env ot oz) 28 [.agg (rObs o)] (.str (showO o)) := by
  obtain ⟨A, a⟩ := (number_ok (ot := ot) (oz := oz) o.N hN).le
  obtain ⟨C, c⟩ := (quote2_ok (ot := ot) (oz := oz) o.S (by omega)).le
  refine ⟨A + C + 2, fun S => ?_⟩
  have a := a (A + C) (by omega)
  have c := c (A + C) (by omega)
  cases h1 : (o.K == 1) with
  | true => (rw [call_plain (fn := c28) rfl rfl (by simp only [go_sem, reduceIte, Nat.reduceEqDiff, Nat.reduceAdd, Nat.reduceSub, Nat.reduceMul, Nat.reduceLeDiff, Nat.reduceLT, Int.reduceNeg, Int.reduceEq, Int.reduceLT, Int.reduceLE, Int.reduceNe, Int.reduceToNat, Int.reduceAdd, Int.reduceMul, Int.reduceSub, Int.reduceBEq, h1, a, showO]) rfl (by decide)]; simp only [c28, c28_b, c28_r3, go_sem, reduceIte, Nat.reduceEqDiff, Nat.reduceAdd, Nat.reduceSub, Nat.reduceMul, Nat.reduceLeDiff, Nat.reduceLT, Int.reduceNeg, Int.reduceEq, Int.reduceLT, Int.reduceLE, Int.reduceNe, Int.reduceToNat, Int.reduceAdd, Int.reduceMul, Int.reduceSub, Int.reduceBEq, h1, a, showO])
  | false => cases h2 : (o.K == 2) with
    | true => cases hb : (o.N == 1) <;> (rw [call_plain (fn := c28) rfl rfl (by simp only [go_sem, reduceIte, Nat.reduceEqDiff, Nat.reduceAdd, Nat.reduceSub, Nat.reduceMul, Nat.reduceLeDiff, Nat.reduceLT, Int.reduceNeg, Int.reduceEq, Int.reduceLT, Int.reduceLE, Int.reduceNe, Int.reduceToNat, Int.reduceAdd, Int.reduceMul, Int.reduceSub, Int.reduceBEq, h1, h2, hb, showO, boolS]) rfl (by decide)]; simp only [c28, c28_b, c28_r3, go_sem, reduceIte, Nat.reduceEqDiff, Nat.reduceAdd, Nat.reduceSub, Nat.reduceMul, Nat.reduceLeDiff, Nat.reduceLT, Int.reduceNeg, Int.reduceEq, Int.reduceLT, Int.reduceLE, Int.reduceNe, Int.reduceToNat, Int.reduceAdd, Int.reduceMul, Int.reduceSub, Int.reduceBEq, h1, h2, hb, showO, boolS])
    | false => cases h3 : (o.K == 3) with
      | true => (rw [call_plain (fn := c28) rfl rfl (by simp only [go_sem, reduceIte, Nat.reduceEqDiff, Nat.reduceAdd, Nat.reduceSub, Nat.reduceMul, Nat.reduceLeDiff, Nat.reduceLT, Int.reduceNeg, Int.reduceEq, Int.reduceLT, Int.reduceLE, Int.reduceNe, Int.reduceToNat, Int.reduceAdd, Int.reduceMul, Int.reduceSub, Int.reduceBEq, h1, h2, h3, c, showO]) rfl (by decide)]; simp only [c28, c28_b, c28_r3, go_sem, reduceIte, Nat.reduceEqDiff, Nat.reduceAdd, Nat.reduceSub, Nat.reduceMul, Nat.reduceLeDiff, Nat.reduceLT, Int.reduceNeg, Int.reduceEq, Int.reduceLT, Int.reduceLE, Int.reduceNe, Int.reduceToNat, Int.reduceAdd, Int.reduceMul, Int.reduceSub, Int.reduceBEq, h1, h2, h3, c, showO])
      | false => cases h4 : (o.K == 4) <;> cases h5 : (o.K == 5) <;> (rw [call_plain (fn := c28) rfl rfl (by simp only [go_sem, reduceIte, Nat.reduceEqDiff, Nat.reduceAdd, Nat.reduceSub, Nat.reduceMul, Nat.reduceLeDiff, Nat.reduceLT, Int.reduceNeg, Int.reduceEq, Int.reduceLT, Int.reduceLE, Int.reduceNe, Int.reduceToNat, Int.reduceAdd, Int.reduceMul, Int.reduceSub, Int.reduceBEq, h1, h2, h3, h4, h5, showO]) rfl (by decide)]; simp only [c28, c28_b, c28_r3, go_sem, reduceIte, Nat.reduceEqDiff, Nat.reduceAdd, Nat.reduceSub, Nat.reduceMul, Nat.reduceLeDiff, Nat.reduceLT, Int.reduceNeg, Int.reduceEq, Int.reduceLT, Int.reduceLE, Int.reduceNe, Int.reduceToNat, Int.reduceAdd, Int.reduceMul, Int.reduceSub, Int.reduceBEq, h1, h2, h3, h4, h5, showO])

def endO (r : GOut) : ByteArray :=
  if r.K == 1 then showO r.Obs else if r.K == 2 then ⟨#[98, 108, 97, 109, 101, 32]⟩ ++ r.At.Def ++ ⟨#[58]⟩ ++ numS r.At.Node else if r.K == 3 then ⟨#[116, 114, 97, 112]⟩ else if r.K == 4 then ⟨#[102, 117, 101, 108]⟩ else if r.K == 5 then ⟨#[119, 114, 111, 110, 103]⟩ else ⟨#[]⟩
theorem numS_size (n : Int) : (numS n).size ≤ 21 := by
  unfold numS numL
  split <;> simp [ByteArray.size]
  · have := digF_len 20 n.natAbs; omega
  · have := digF_len 20 n.toNat; omega
theorem lit6 : (⟨#[98, 108, 97, 109, 101, 32]⟩ : ByteArray).size = 6 := rfl
theorem lit1 (b : UInt8) : (⟨#[b]⟩ : ByteArray).size = 1 := rfl
theorem app_size (a b : ByteArray) : (a ++ b).size = a.size + b.size := by simp [ByteArray.size_append]
theorem end_ok (r : GOut) (hN : In64 r.Obs.N) (hS : r.Obs.S.size ≤ 1000) (hD : r.At.Def.size ≤ 1000) (hA : In64 r.At.Node) : Ans (env ot oz) 54 [.agg (rOut r)] (.str (endO r)) := by
  obtain ⟨A, a⟩ := (show_ok (ot := ot) (oz := oz) r.Obs hN hS).le
  obtain ⟨B, b⟩ := (itoa_ok (ot := ot) (oz := oz) r.At.Node hA).le
  refine ⟨A + B + 2, fun S => ?_⟩
  have a := a (A + B) (by omega)
  have b := b (A + B) (by omega)
  have nb := numS_size r.At.Node
  have z1 := addS (a := ⟨#[98, 108, 97, 109, 101, 32]⟩) (b := r.At.Def) (by rw [lit6]; omega)
  have z2 := addS (a := ⟨#[98, 108, 97, 109, 101, 32]⟩ ++ r.At.Def) (b := ⟨#[58]⟩) (by rw [app_size, lit6, lit1]; omega)
  have z3 := addS (a := ⟨#[98, 108, 97, 109, 101, 32]⟩ ++ r.At.Def ++ ⟨#[58]⟩) (b := numS r.At.Node) (by rw [app_size, app_size, lit6, lit1]; omega)
  simp only [rObs_eq] at a
  cases h1 : (r.K == 1) with
  | true => (rw [call_plain (fn := c54) rfl rfl (by simp only [go_sem, reduceIte, Nat.reduceEqDiff, Nat.reduceAdd, Nat.reduceSub, Nat.reduceMul, Nat.reduceLeDiff, Nat.reduceLT, Int.reduceNeg, Int.reduceEq, Int.reduceLT, Int.reduceLE, Int.reduceNe, Int.reduceToNat, Int.reduceAdd, Int.reduceMul, Int.reduceSub, Int.reduceBEq, h1, a, endO]) rfl (by decide)]; simp only [c54, c54_b, go_sem, reduceIte, Nat.reduceEqDiff, Nat.reduceAdd, Nat.reduceSub, Nat.reduceMul, Nat.reduceLeDiff, Nat.reduceLT, Int.reduceNeg, Int.reduceEq, Int.reduceLT, Int.reduceLE, Int.reduceNe, Int.reduceToNat, Int.reduceAdd, Int.reduceMul, Int.reduceSub, Int.reduceBEq, h1, a, endO])
  | false => cases h2 : (r.K == 2) with
    | true => (rw [call_plain (fn := c54) rfl rfl (by simp only [go_sem, reduceIte, Nat.reduceEqDiff, Nat.reduceAdd, Nat.reduceSub, Nat.reduceMul, Nat.reduceLeDiff, Nat.reduceLT, Int.reduceNeg, Int.reduceEq, Int.reduceLT, Int.reduceLE, Int.reduceNe, Int.reduceToNat, Int.reduceAdd, Int.reduceMul, Int.reduceSub, Int.reduceBEq, h1, h2, b, ↓z1, ↓z2, ↓z3, endO]) rfl (by decide)]; simp only [c54, c54_b, go_sem, reduceIte, Nat.reduceEqDiff, Nat.reduceAdd, Nat.reduceSub, Nat.reduceMul, Nat.reduceLeDiff, Nat.reduceLT, Int.reduceNeg, Int.reduceEq, Int.reduceLT, Int.reduceLE, Int.reduceNe, Int.reduceToNat, Int.reduceAdd, Int.reduceMul, Int.reduceSub, Int.reduceBEq, h1, h2, b, ↓z1, ↓z2, ↓z3, endO])
    | false => cases h3 : (r.K == 3) <;> cases h4 : (r.K == 4) <;> cases h5 : (r.K == 5) <;> (rw [call_plain (fn := c54) rfl rfl (by simp only [go_sem, reduceIte, Nat.reduceEqDiff, Nat.reduceAdd, Nat.reduceSub, Nat.reduceMul, Nat.reduceLeDiff, Nat.reduceLT, Int.reduceNeg, Int.reduceEq, Int.reduceLT, Int.reduceLE, Int.reduceNe, Int.reduceToNat, Int.reduceAdd, Int.reduceMul, Int.reduceSub, Int.reduceBEq, h1, h2, h3, h4, h5, endO]) rfl (by decide)]; simp only [c54, c54_b, go_sem, reduceIte, Nat.reduceEqDiff, Nat.reduceAdd, Nat.reduceSub, Nat.reduceMul, Nat.reduceLeDiff, Nat.reduceLT, Int.reduceNeg, Int.reduceEq, Int.reduceLT, Int.reduceLE, Int.reduceNe, Int.reduceToNat, Int.reduceAdd, Int.reduceMul, Int.reduceSub, Int.reduceBEq, h1, h2, h3, h4, h5, endO])

def tellO (r : GOut) : ByteArray := if strEq (endO r) ⟨#[]⟩ then ⟨#[]⟩ else endO r ++ ⟨#[32]⟩ ++ numS r.Steps
theorem quoteS_size (s : ByteArray) : (quoteS s).size ≤ 4 * s.size + 2 := by
  have hd := size_data s
  have hq : (s.data.toList.flatMap qc).length ≤ 4 * s.data.toList.length := by
    generalize s.data.toList = l
    induction l with
    | nil => simp
    | cons c l ih =>
      have : (qc c).length ≤ 4 := by unfold qc; split <;> (try split) <;> (try split) <;> simp
      simp only [List.flatMap_cons, List.length_append, List.length_cons]; omega
  unfold quoteS; rw [txt_size]; simp only [List.length_append, List.length_cons, List.length_nil]; omega
theorem showO_size (o : GObs) (hS : o.S.size ≤ 1000) : (showO o).size ≤ 5000 := by
  have h1 := numS_size o.N
  have h2 := quoteS_size o.S
  unfold showO boolS
  repeat' split
  all_goals first | omega | (simp [ByteArray.size]; done) | (simp only [ByteArray.size] at *; simp; done)
theorem endO_size (r : GOut) (hS : r.Obs.S.size ≤ 1000) (hD : r.At.Def.size ≤ 1000) : (endO r).size ≤ 5000 := by
  have h1 := numS_size r.At.Node
  have h2 := showO_size r.Obs hS
  unfold endO
  repeat' split
  all_goals first | omega | (simp [ByteArray.size]; done) | (rw [app_size, app_size, app_size, lit6, lit1]; omega)

theorem tell_ok (r : GOut) (hN : In64 r.Obs.N) (hS : r.Obs.S.size ≤ 1000) (hD : r.At.Def.size ≤ 1000) (hA : In64 r.At.Node) (hT : In64 r.Steps) : Ans (env ot oz) 31 [.agg (rOut r)] (.str (tellO r)) := by
  obtain ⟨A, a⟩ := (end_ok (ot := ot) (oz := oz) r hN hS hD hA).le
  obtain ⟨B, b⟩ := (itoa_ok (ot := ot) (oz := oz) r.Steps hT).le
  refine ⟨A + B + 2, fun S => ?_⟩
  have a := a (A + B) (by omega)
  have b := b (A + B) (by omega)
  have nb := numS_size r.Steps
  have eb := endO_size r hS hD
  simp only [rOut_eq] at a
  have e : tellO r = if strEq (endO r) ⟨#[]⟩ then ⟨#[]⟩ else endO r ++ ⟨#[32]⟩ ++ numS r.Steps := rfl
  have z2 := addS (a := endO r) (b := ⟨#[32]⟩) (by rw [lit1]; omega)
  have z3 := addS (a := endO r ++ ⟨#[32]⟩) (b := numS r.Steps) (by rw [app_size, lit1]; omega)
  generalize endO r = t at *
  cases h : (strEq t ⟨#[]⟩) <;> (rw [call_plain (fn := c31) rfl rfl (by simp only [go_sem, reduceIte, Nat.reduceEqDiff, Nat.reduceAdd, Nat.reduceSub, Nat.reduceMul, Nat.reduceLeDiff, Nat.reduceLT, Int.reduceNeg, Int.reduceEq, Int.reduceLT, Int.reduceLE, Int.reduceNe, Int.reduceToNat, Int.reduceAdd, Int.reduceMul, Int.reduceSub, Int.reduceBEq, a, b, h, ↓z2, ↓z3, e]) rfl (by decide)]; simp only [c31, c31_b, go_sem, reduceIte, Nat.reduceEqDiff, Nat.reduceAdd, Nat.reduceSub, Nat.reduceMul, Nat.reduceLeDiff, Nat.reduceLT, Int.reduceNeg, Int.reduceEq, Int.reduceLT, Int.reduceLE, Int.reduceNe, Int.reduceToNat, Int.reduceAdd, Int.reduceMul, Int.reduceSub, Int.reduceBEq, a, b, h, ↓z2, ↓z3, e])
theorem tell2_ok (r : GOut) (hN : In64 r.Obs.N) (hS : r.Obs.S.size ≤ 1000) (hD : r.At.Def.size ≤ 1000) (hA : In64 r.At.Node) (hT : In64 r.Steps) : Ans (env ot oz) 32 [.agg (rOut r)] (.str (tellO r)) := by
  obtain ⟨A, a⟩ := (show2_ok (ot := ot) (oz := oz) r.Obs hN hS).le
  obtain ⟨B, b⟩ := (number_ok (ot := ot) (oz := oz) r.At.Node hA).le
  obtain ⟨C, c⟩ := (number_ok (ot := ot) (oz := oz) r.Steps hT).le
  refine ⟨A + B + C + 2, fun S => ?_⟩
  have a := a (A + B + C) (by omega)
  have b := b (A + B + C) (by omega)
  have c := c (A + B + C) (by omega)
  have nb := numS_size r.At.Node
  have nc := numS_size r.Steps
  simp only [rObs_eq] at a
  have e : tellO r = if strEq (endO r) ⟨#[]⟩ then ⟨#[]⟩ else endO r ++ ⟨#[32]⟩ ++ numS r.Steps := rfl
  have z1 := addS (a := ⟨#[98, 108, 97, 109, 101, 32]⟩) (b := r.At.Def) (by rw [lit6]; omega)
  have z2 := addS (a := ⟨#[98, 108, 97, 109, 101, 32]⟩ ++ r.At.Def) (b := ⟨#[58]⟩) (by rw [app_size, lit6, lit1]; omega)
  have z3 := addS (a := ⟨#[98, 108, 97, 109, 101, 32]⟩ ++ r.At.Def ++ ⟨#[58]⟩) (b := numS r.At.Node) (by rw [app_size, app_size, lit6, lit1]; omega)
  have en : ∀ t : ByteArray, t.size ≤ 5000 → binP .add (.str t) (.str ⟨#[32]⟩) = some (.str (t ++ ⟨#[32]⟩)) ∧ binP .add (.str (t ++ ⟨#[32]⟩)) (.str (numS r.Steps)) = some (.str (t ++ ⟨#[32]⟩ ++ numS r.Steps)) := by
    intro t ht; exact ⟨addS (by rw [lit1]; omega), addS (by rw [app_size, lit1]; omega)⟩
  have eb := endO_size r hS hD
  obtain ⟨y1, y2⟩ := en (endO r) eb
  cases h1 : (r.K == 1) with
  | true =>
    have eo : endO r = showO r.Obs := by simp only [endO, h1, if_true]
    rw [eo] at e y1 y2
    generalize showO r.Obs = t at *
    cases h : (strEq t ⟨#[]⟩) <;> (rw [call_plain (fn := c32) rfl rfl (by simp only [go_sem, reduceIte, Nat.reduceEqDiff, Nat.reduceAdd, Nat.reduceSub, Nat.reduceMul, Nat.reduceLeDiff, Nat.reduceLT, Int.reduceNeg, Int.reduceEq, Int.reduceLT, Int.reduceLE, Int.reduceNe, Int.reduceToNat, Int.reduceAdd, Int.reduceMul, Int.reduceSub, Int.reduceBEq, a, c, h1, h, ↓y1, ↓y2, e]) rfl (by decide)]; simp only [c32, c32_b, go_sem, reduceIte, Nat.reduceEqDiff, Nat.reduceAdd, Nat.reduceSub, Nat.reduceMul, Nat.reduceLeDiff, Nat.reduceLT, Int.reduceNeg, Int.reduceEq, Int.reduceLT, Int.reduceLE, Int.reduceNe, Int.reduceToNat, Int.reduceAdd, Int.reduceMul, Int.reduceSub, Int.reduceBEq, a, c, h1, h, ↓y1, ↓y2, e])
  | false => cases h2 : (r.K == 2) with
    | true =>
      have eo : endO r = ⟨#[98, 108, 97, 109, 101, 32]⟩ ++ r.At.Def ++ ⟨#[58]⟩ ++ numS r.At.Node := by simp only [endO, h1, h2, if_true, if_false, Bool.false_eq_true]
      rw [eo] at e y1 y2
      generalize he : (⟨#[98, 108, 97, 109, 101, 32]⟩ ++ r.At.Def ++ ⟨#[58]⟩ ++ numS r.At.Node : ByteArray) = t at *
      cases h : (strEq t ⟨#[]⟩) <;> (rw [call_plain (fn := c32) rfl rfl (by simp only [go_sem, reduceIte, Nat.reduceEqDiff, Nat.reduceAdd, Nat.reduceSub, Nat.reduceMul, Nat.reduceLeDiff, Nat.reduceLT, Int.reduceNeg, Int.reduceEq, Int.reduceLT, Int.reduceLE, Int.reduceNe, Int.reduceToNat, Int.reduceAdd, Int.reduceMul, Int.reduceSub, Int.reduceBEq, b, c, h1, h2, h, ↓z1, ↓z2, ↓z3, ↓y1, ↓y2, e, he]) rfl (by decide)]; simp only [c32, c32_b, go_sem, reduceIte, Nat.reduceEqDiff, Nat.reduceAdd, Nat.reduceSub, Nat.reduceMul, Nat.reduceLeDiff, Nat.reduceLT, Int.reduceNeg, Int.reduceEq, Int.reduceLT, Int.reduceLE, Int.reduceNe, Int.reduceToNat, Int.reduceAdd, Int.reduceMul, Int.reduceSub, Int.reduceBEq, b, c, h1, h2, h, ↓z1, ↓z2, ↓z3, ↓y1, ↓y2, e, he])
    | false =>
      have eo : endO r = if r.K == 3 then ⟨#[116, 114, 97, 112]⟩ else if r.K == 4 then ⟨#[102, 117, 101, 108]⟩ else if r.K == 5 then ⟨#[119, 114, 111, 110, 103]⟩ else ⟨#[]⟩ := by simp only [endO, h1, h2, if_false, Bool.false_eq_true]
      have k1 : strEq ⟨#[116, 114, 97, 112]⟩ ⟨#[]⟩ = false := rfl
      have k2 : strEq ⟨#[102, 117, 101, 108]⟩ ⟨#[]⟩ = false := rfl
      have k3 : strEq ⟨#[119, 114, 111, 110, 103]⟩ ⟨#[]⟩ = false := rfl
      cases h3 : (r.K == 3) <;> cases h4 : (r.K == 4) <;> cases h5 : (r.K == 5) <;> simp only [h3, h4, h5, if_true, if_false, Bool.false_eq_true] at eo <;> rw [eo] at e y1 y2 <;> (rw [call_plain (fn := c32) rfl rfl (by simp only [go_sem, reduceIte, Nat.reduceEqDiff, Nat.reduceAdd, Nat.reduceSub, Nat.reduceMul, Nat.reduceLeDiff, Nat.reduceLT, Int.reduceNeg, Int.reduceEq, Int.reduceLT, Int.reduceLE, Int.reduceNe, Int.reduceToNat, Int.reduceAdd, Int.reduceMul, Int.reduceSub, Int.reduceBEq, c, h1, h2, h3, h4, h5, k1, k2, k3, ↓y1, ↓y2, e]) rfl (by decide)]; simp only [c32, c32_b, go_sem, reduceIte, Nat.reduceEqDiff, Nat.reduceAdd, Nat.reduceSub, Nat.reduceMul, Nat.reduceLeDiff, Nat.reduceLT, Int.reduceNeg, Int.reduceEq, Int.reduceLT, Int.reduceLE, Int.reduceNe, Int.reduceToNat, Int.reduceAdd, Int.reduceMul, Int.reduceSub, Int.reduceBEq, c, h1, h2, h3, h4, h5, k1, k2, k3, ↓y1, ↓y2, e])
end
end Go.PE
