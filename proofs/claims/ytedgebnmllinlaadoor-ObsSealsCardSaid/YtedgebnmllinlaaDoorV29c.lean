/-
  Seals are not seen (ObsSeals), at the evaluator's level. Conditions: each law's own.
-/
import Derived.Test.YtedgebnmllinlaaDoorV29b
import Derived.Test.YtedgebnmllinlaaDoorPR
namespace Go.PE
open Go Go.RowKit Go.Proofs
set_option linter.unusedVariables false
set_option linter.unusedSimpArgs false
set_option maxRecDepth 100000
section
variable {ot : TypeId} {oz : Nat × Nat}
/-- Cells that stand for a value once they are handed on. -/
def LikeV (cs : List PV) (v : GVal) : Prop := cs.length = 10 ∧ ∀ n d, sealL n d cs = some (rVal v)
theorem likeV_self (v : GVal) : LikeV (rVal v) v := ⟨rVal_len v, fun n d => rVal_sl n d v⟩
def wrapV (n : Int) (v : GVal) : GVal := .mk 8 n 0 false ⟨#[]⟩ ⟨⟨#[]⟩, 0⟩ [] [] [v]
theorem likeV_wrap {cs : List PV} {v : GVal} (h : LikeV cs v) (n : Int) : LikeV [.int .i64 8, .int .i64 n, .int .i64 0, .bool false, .str ⟨#[]⟩, .str ⟨#[]⟩, .int .i64 0, .sl .null [], .sl .null [], .sl .exact [cs]] (wrapV n v) := by
  refine ⟨rfl, fun m d => ?_⟩
  simp only [sealL, sealW, sealLL, h.2, Option.bind_some, Option.map_some, wrapV, rVal_mk, List.map_cons, List.map_nil]
def wrapsV : List UInt8 → GVal → GVal
  | [], v => v
  | b :: r, v => wrapsV r (wrapV (b.toNat : Int) v)
theorem strip_wrap (n : Int) (v : GVal) : stripS (wrapV n v) = stripS v := stripS_kid (ks := []) (by simp [wrapV, GVal.K]) (by simp [wrapV, GVal.Kids])
theorem strip_wraps : ∀ (l : List UInt8) (v : GVal), stripS (wrapsV l v) = stripS v
  | [], v => rfl
  | b :: r, v => by rw [wrapsV, strip_wraps r, strip_wrap]


theorem aw33 (S : St) : cal (env ot oz) 24 [] S = some (.bool true, S) := cal_closed (env_free ot oz) (n := 30) (by kernel_rfl) rfl rfl S
theorem seals_l0 (v : GVal) (l : List UInt8) (hl : l.length ≤ 100) : ∀ (rest : List UInt8) (i : Nat) (cs : List PV) (w : GVal), l.drop i = rest → LikeV cs w → ∃ cs', LikeV cs' (wrapsV rest w) ∧ ∀ (fin : Kont (PV × St)) (st : List Fw),
    run (env ot oz) fin st c7_l0 [(1, some (.sl .ro (l.map rByte))), (2, some (.at_ (rVal v))), (5, some (.ref 0 0)), (6, some (.int .i64 (i : Int)))] ⟨[.cells 55 cs], []⟩ =
      aft (env ot oz) fin st (.exit 0) [(1, some (.sl .ro (l.map rByte))), (2, some (.at_ (rVal v))), (5, some (.ref 0 0)), (6, some (.int .i64 ((i + rest.length : Nat) : Int))), (21, some (.bool false))] ⟨[.cells 55 cs'], []⟩
  | [], i, cs, w, h, hw => by
    refine ⟨cs, hw, fun fin st => ?_⟩
    have hlt := lt_no (drop_nil h)
    (rw [c7_l0_w]; simp only [c7_l0_b, c7_l0_a, c7_r1, c7_r9, go_sem, reduceIte, Nat.reduceEqDiff, Nat.reduceAdd, Nat.reduceSub, Nat.reduceMul, Nat.reduceLeDiff, Nat.reduceLT, Int.reduceNeg, Int.reduceEq, Int.reduceLT, Int.reduceLE, Int.reduceNe, Int.reduceToNat, Int.reduceAdd, Int.reduceMul, Int.reduceSub, Int.reduceBEq, hlt])
  | b :: r, i, cs, w, h, hw => by
    obtain ⟨h1, h2, h3⟩ := drop_cons h
    obtain ⟨cs', hw', ih⟩ := seals_l0 v l hl r (i + 1) _ _ h2 (likeV_wrap hw (b.toNat : Int))
    refine ⟨cs', hw', fun fin st => ?_⟩
    have e : i + (b :: r).length = i + 1 + r.length := by simp only [List.length_cons]; omega
    have wr := wrap_succ (i := i) (n := l.length) h3 (by omega)
    have hlt : (i : Int) < (l.length : Int) := by omega
    have wb : IntKind.i64.wrap (b.toNat : Int) = (b.toNat : Int) := wrap_nat (by have := b.toNat_lt; omega)
    have t10 : cs.take 10 = cs := List.take_of_length_le (by rw [hw.1]; exact Nat.le_refl _)
    have sr : ∀ z : List PV, z.length = 10 → setRow z 0 cs = cs := fun z hz => setRow_all (by rw [hz, hw.1])
    have l10 := hw.1
    have sx := setRow_all (cs := cs) (ps := [.int .i64 8, .int .i64 (b.toNat : Int), .int .i64 0, .bool false, .str ⟨#[]⟩, .str ⟨#[]⟩, .int .i64 0, .sl .null [], .sl .null [], .sl .exact [cs]]) (by rw [hw.1]; rfl)
    simp only [setRow, Nat.zero_add, Nat.reduceAdd] at sx
    rw [e]
    (rw [c7_l0_w]; simp only [c7_l0_b, c7_l0_a, c7_r1, c7_r9, go_sem, reduceIte, Nat.reduceEqDiff, Nat.reduceAdd, Nat.reduceSub, Nat.reduceMul, Nat.reduceLeDiff, Nat.reduceLT, Int.reduceNeg, Int.reduceEq, Int.reduceLT, Int.reduceLE, Int.reduceNe, Int.reduceToNat, Int.reduceAdd, Int.reduceMul, Int.reduceSub, Int.reduceBEq, hlt, h1, wr, wb, t10, sr, l10, sx, ih])
theorem obsSeals (v : GVal) (l : List UInt8) (hv : OkVal v) (hl : Short l.length) : Ev (env ot oz) 7 [.agg (rVal v), .sl .ro (l.map rByte)] .none (.bool true) .none := by
  refine cal_ev ?_
  have a := fun S => cal_ans (muchV_ok (ot := ot) (oz := oz) v hv) (S := S)
  have aw := aw33 (ot := ot) (oz := oz)
  by_cases g1 : 300 < muchV v
  · (rw [w_plain (fn := c7) rfl rfl (by simp only [go_sem, reduceIte, Nat.reduceEqDiff, Nat.reduceAdd, Nat.reduceSub, Nat.reduceMul, Nat.reduceLeDiff, Nat.reduceLT, Int.reduceNeg, Int.reduceEq, Int.reduceLT, Int.reduceLE, Int.reduceNe, Int.reduceToNat, Int.reduceAdd, Int.reduceMul, Int.reduceSub, Int.reduceBEq, a, g1, aw]) rfl (by decide)]; simp only [c7, c7_b, c7_r1, c7_r9, go_sem, reduceIte, Nat.reduceEqDiff, Nat.reduceAdd, Nat.reduceSub, Nat.reduceMul, Nat.reduceLeDiff, Nat.reduceLT, Int.reduceNeg, Int.reduceEq, Int.reduceLT, Int.reduceLE, Int.reduceNe, Int.reduceToNat, Int.reduceAdd, Int.reduceMul, Int.reduceSub, Int.reduceBEq, a, g1, aw])
  · by_cases g2 : (20 : Int) < (l.length : Int)
    · (rw [w_plain (fn := c7) rfl rfl (by simp only [go_sem, reduceIte, Nat.reduceEqDiff, Nat.reduceAdd, Nat.reduceSub, Nat.reduceMul, Nat.reduceLeDiff, Nat.reduceLT, Int.reduceNeg, Int.reduceEq, Int.reduceLT, Int.reduceLE, Int.reduceNe, Int.reduceToNat, Int.reduceAdd, Int.reduceMul, Int.reduceSub, Int.reduceBEq, a, g1, g2, aw]) rfl (by decide)]; simp only [c7, c7_b, c7_r1, c7_r9, go_sem, reduceIte, Nat.reduceEqDiff, Nat.reduceAdd, Nat.reduceSub, Nat.reduceMul, Nat.reduceLeDiff, Nat.reduceLT, Int.reduceNeg, Int.reduceEq, Int.reduceLT, Int.reduceLE, Int.reduceNe, Int.reduceToNat, Int.reduceAdd, Int.reduceMul, Int.reduceSub, Int.reduceBEq, a, g1, g2, aw])
    · obtain ⟨cs', hw, f⟩ := seals_l0 (ot := ot) (oz := oz) v l (by omega) l 0 (rVal v) v rfl (likeV_self v)
      have h1 := fun S => cal_ans (obs_ok (ot := ot) (oz := oz) v) (S := S)
      have h3 := fun S => cal_ans (right29_ok (ot := ot) (oz := oz) v hv) (S := S)
      have h4 := fun S => cal_ans (kind_ok (ot := ot) (oz := oz) (obsS v)) (S := S)
      have es : obsS (wrapsV l v) = obsS v := by unfold obsS; rw [strip_wraps]
      have h5 : ∀ S, cal (env ot oz) 25 [.agg cs'] S = some (.agg (rObs (obsS v)), S) := fun S => by
        have := cal_ans (obs_ok (ot := ot) (oz := oz) (wrapsV l v)) (S := S)
        rw [cal_ask (args := [.agg cs']) (args' := [.agg (rVal (wrapsV l v))]) (by simp only [askD, sealL, sealW, hw.2, Option.map_some, Option.bind_some]) (by simp only [askD, sealL, sealW, rVal_sl, Option.map_some, Option.bind_some]) rfl, this, es]
      have t10 : cs'.take 10 = cs' := List.take_of_length_le (by rw [hw.1]; exact Nat.le_refl _)
      have l10 := hw.1
      have rs := right_seen v
      have z10 : setRow [.int .i64 0, .int .i64 0, .int .i64 0, .bool false, .str ⟨#[]⟩, .str ⟨#[]⟩, .int .i64 0, .sl .null [], .sl .null [], .sl .null []] 0 (rVal v) = rVal v := rVal_set v rfl
      simp only [Int.cast_ofNat_Int] at f
      simp only [rObs_eq] at h1 h4 h5
      generalize rightV v = rv at *
      cases rv with
      | true =>
        have rs := rs rfl
        (rw [w_plain (fn := c7) rfl rfl (by simp only [go_sem, reduceIte, Nat.reduceEqDiff, Nat.reduceAdd, Nat.reduceSub, Nat.reduceMul, Nat.reduceLeDiff, Nat.reduceLT, Int.reduceNeg, Int.reduceEq, Int.reduceLT, Int.reduceLE, Int.reduceNe, Int.reduceToNat, Int.reduceAdd, Int.reduceMul, Int.reduceSub, Int.reduceBEq, a, g1, g2, aw, f, h1, h3, h4, h5, t10, l10, rs, z10]) rfl (by decide)]; simp only [c7, c7_b, c7_r1, c7_r9, go_sem, reduceIte, Nat.reduceEqDiff, Nat.reduceAdd, Nat.reduceSub, Nat.reduceMul, Nat.reduceLeDiff, Nat.reduceLT, Int.reduceNeg, Int.reduceEq, Int.reduceLT, Int.reduceLE, Int.reduceNe, Int.reduceToNat, Int.reduceAdd, Int.reduceMul, Int.reduceSub, Int.reduceBEq, a, g1, g2, aw, f, h1, h3, h4, h5, t10, l10, rs, z10])
      | false =>
        (rw [w_plain (fn := c7) rfl rfl (by simp only [go_sem, reduceIte, Nat.reduceEqDiff, Nat.reduceAdd, Nat.reduceSub, Nat.reduceMul, Nat.reduceLeDiff, Nat.reduceLT, Int.reduceNeg, Int.reduceEq, Int.reduceLT, Int.reduceLE, Int.reduceNe, Int.reduceToNat, Int.reduceAdd, Int.reduceMul, Int.reduceSub, Int.reduceBEq, a, g1, g2, aw, f, h1, h3, h4, h5, t10, l10, z10]) rfl (by decide)]; simp only [c7, c7_b, c7_r1, c7_r9, go_sem, reduceIte, Nat.reduceEqDiff, Nat.reduceAdd, Nat.reduceSub, Nat.reduceMul, Nat.reduceLeDiff, Nat.reduceLT, Int.reduceNeg, Int.reduceEq, Int.reduceLT, Int.reduceLE, Int.reduceNe, Int.reduceToNat, Int.reduceAdd, Int.reduceMul, Int.reduceSub, Int.reduceBEq, a, g1, g2, aw, f, h1, h3, h4, h5, t10, l10, z10])
end
end Go.PE
