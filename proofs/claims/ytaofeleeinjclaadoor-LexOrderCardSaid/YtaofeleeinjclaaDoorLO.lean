/-
  The reader, on any text: a word. Conditions: each law's own.
-/
import Derived.Test.YtaofeleeinjclaaDoorLG
import Derived.Test.YtaofeleeinjclaaDoorNP
namespace Go.PE
open Go Go.RowKit Go.Proofs
set_option linter.unusedVariables false
set_option linter.unusedSimpArgs false
set_option maxRecDepth 100000
section
variable {ot : TypeId} {oz : EP}
def wordC (c : UInt8) : Bool := letC c || digC c
def wordF (w : List UInt8) (i : Nat) : Tok :=
  if 8 < w.length then .bad 6 i else if kindS (txt w) == 0 then .bad 2 i else .ok ⟨if kindS (txt w) == 2 || kindS (txt w) == 4 then 4 else 3, 0, txt w, i⟩ (i + w.length)
/-- A word. -/
theorem word_w {S T : St} {q : ByteArray} (hq : q.size ≤ 100000) {i : Nat} {ts : List GToken} (h : Rd S q T i ts .nilifc) (hts : ts.length ≤ 1000000) (hi : i ≤ q.size) (w : List UInt8) (hw : (q.data.toList.drop i).takeWhile wordC = w) (hne : w ≠ []) :
    Gives ot oz S q T ts 44 (wordF w i) := by
  have hR := h
  have F6 := rd_fail (ot := ot) (oz := oz) h 6 i (by decide)
  have F2 := rd_fail (ot := ot) (oz := oz) h 2 i (by decide)
  have FP := fun k => rd_put (ot := ot) (oz := oz) h hts ⟨k, 0, txt w, 0⟩ i (i + w.length)
  obtain ⟨out, more, ow, rfl, ho⟩ := h
  have wh := while_w (ot := ot) (oz := oz) q hq wordC 66 (word1_w (ot := ot) (oz := oz)) ⟨S.obs ++ rdr q (i : Int) out .nilifc :: more, S.own ++ ow⟩ S.obs.length i out .nilifc rd_get
  have hn : whileN wordC (q.data.toList.drop i) = w.length := by unfold whileN; rw [hw]
  have hle := while_le wordC q i hi
  rw [hn] at wh hle
  have ex := ext_take q i w.length hle
  rw [← hn, while_take, hw, hn] at ex
  have b1 : (0 : Int) ≤ ((i + w.length : Nat) : Int) ∧ ((i + w.length : Nat) : Int) ≤ (q.size : Int) := by omega
  have b2 : (0 : Int) ≤ (i : Int) ∧ (i : Int) ≤ ((i + w.length : Nat) : Int) := by omega
  have sz : ((txt w).size : Int) = (w.length : Int) := by rw [txt_size]
  have hp : 0 < w.length := List.length_pos_iff.2 hne
  have kd := nkind (ot := ot) (oz := oz) (txt w)
  generalize hT : (⟨S.obs ++ rdr q (i : Int) out .nilifc :: more, S.own ++ ow⟩ : St) = T at *
  have g : T.obs[S.obs.length]? = some (rdr q (i : Int) out .nilifc) := by rw [← hT]; exact rd_get
  unfold wordF
  split
  · rename_i hc
    obtain ⟨T', hf, hr⟩ := F6
    have l1 : decide ((8 : Int) < (w.length : Int)) = true := decide_eq_true (by omega)
    have cl := rd_close hR hr (.inr (by simp)) (.bool false)
    refine ⟨T', i, ?_, hr⟩
    (rw [w_plain (fn := c44) rfl rfl (by simp only [go_sem, reduceIte, Nat.reduceEqDiff, Nat.reduceAdd, Nat.reduceSub, Nat.reduceMul, Nat.reduceLeDiff, Nat.reduceLT, Int.reduceNeg, Int.reduceEq, Int.reduceLT, Int.reduceLE, Int.reduceNe, Int.reduceToNat, Int.reduceAdd, Int.reduceMul, Int.reduceSub, Int.reduceBEq, g, wh, b1, b2, ex, sz, l1, hf, cl, Int.toNat_natCast]) rfl (by decide)]; simp only [c44, c44_b, go_sem, reduceIte, Nat.reduceEqDiff, Nat.reduceAdd, Nat.reduceSub, Nat.reduceMul, Nat.reduceLeDiff, Nat.reduceLT, Int.reduceNeg, Int.reduceEq, Int.reduceLT, Int.reduceLE, Int.reduceNe, Int.reduceToNat, Int.reduceAdd, Int.reduceMul, Int.reduceSub, Int.reduceBEq, g, wh, b1, b2, ex, sz, l1, hf, cl, Int.toNat_natCast]; repeat' (first | (rw [guardO_t]; split <;> rename_i h <;> (try rw [Bool.not_eq_true] at h) <;> (try simp only [go_sem, reduceIte, Nat.reduceEqDiff, Nat.reduceAdd, Nat.reduceSub, Nat.reduceMul, Nat.reduceLeDiff, Nat.reduceLT, Int.reduceNeg, Int.reduceEq, Int.reduceLT, Int.reduceLE, Int.reduceNe, Int.reduceToNat, Int.reduceAdd, Int.reduceMul, Int.reduceSub, Int.reduceBEq, g, wh, b1, b2, ex, sz, l1, hf, cl, Int.toNat_natCast, *])) | (rw [guardO_f]; split <;> rename_i h <;> (try rw [Bool.not_eq_true] at h) <;> (try simp only [go_sem, reduceIte, Nat.reduceEqDiff, Nat.reduceAdd, Nat.reduceSub, Nat.reduceMul, Nat.reduceLeDiff, Nat.reduceLT, Int.reduceNeg, Int.reduceEq, Int.reduceLT, Int.reduceLE, Int.reduceNe, Int.reduceToNat, Int.reduceAdd, Int.reduceMul, Int.reduceSub, Int.reduceBEq, g, wh, b1, b2, ex, sz, l1, hf, cl, Int.toNat_natCast, *])) | (rw [cw_bool]; split <;> rename_i h <;> (try rw [Bool.not_eq_true] at h) <;> (try simp only [go_sem, reduceIte, Nat.reduceEqDiff, Nat.reduceAdd, Nat.reduceSub, Nat.reduceMul, Nat.reduceLeDiff, Nat.reduceLT, Int.reduceNeg, Int.reduceEq, Int.reduceLT, Int.reduceLE, Int.reduceNe, Int.reduceToNat, Int.reduceAdd, Int.reduceMul, Int.reduceSub, Int.reduceBEq, g, wh, b1, b2, ex, sz, l1, hf, cl, Int.toNat_natCast, *]))))
  · rename_i hc
    have l1 : decide ((8 : Int) < (w.length : Int)) = false := decide_eq_false (by omega)
    generalize kindS (txt w) = k at *
    cases k0 : (k == 0) with
    | true =>
      obtain ⟨T', hf, hr⟩ := F2
      have cl := rd_close hR hr (.inr (by simp)) (.bool false)
      refine ⟨T', i, ?_, hr⟩
      (rw [w_plain (fn := c44) rfl rfl (by simp only [go_sem, reduceIte, Nat.reduceEqDiff, Nat.reduceAdd, Nat.reduceSub, Nat.reduceMul, Nat.reduceLeDiff, Nat.reduceLT, Int.reduceNeg, Int.reduceEq, Int.reduceLT, Int.reduceLE, Int.reduceNe, Int.reduceToNat, Int.reduceAdd, Int.reduceMul, Int.reduceSub, Int.reduceBEq, g, wh, b1, b2, ex, sz, l1, kd, k0, hf, cl, Int.toNat_natCast]) rfl (by decide)]; simp only [c44, c44_b, go_sem, reduceIte, Nat.reduceEqDiff, Nat.reduceAdd, Nat.reduceSub, Nat.reduceMul, Nat.reduceLeDiff, Nat.reduceLT, Int.reduceNeg, Int.reduceEq, Int.reduceLT, Int.reduceLE, Int.reduceNe, Int.reduceToNat, Int.reduceAdd, Int.reduceMul, Int.reduceSub, Int.reduceBEq, g, wh, b1, b2, ex, sz, l1, kd, k0, hf, cl, Int.toNat_natCast]; repeat' (first | (rw [guardO_t]; split <;> rename_i h <;> (try rw [Bool.not_eq_true] at h) <;> (try simp only [go_sem, reduceIte, Nat.reduceEqDiff, Nat.reduceAdd, Nat.reduceSub, Nat.reduceMul, Nat.reduceLeDiff, Nat.reduceLT, Int.reduceNeg, Int.reduceEq, Int.reduceLT, Int.reduceLE, Int.reduceNe, Int.reduceToNat, Int.reduceAdd, Int.reduceMul, Int.reduceSub, Int.reduceBEq, g, wh, b1, b2, ex, sz, l1, kd, k0, hf, cl, Int.toNat_natCast, *])) | (rw [guardO_f]; split <;> rename_i h <;> (try rw [Bool.not_eq_true] at h) <;> (try simp only [go_sem, reduceIte, Nat.reduceEqDiff, Nat.reduceAdd, Nat.reduceSub, Nat.reduceMul, Nat.reduceLeDiff, Nat.reduceLT, Int.reduceNeg, Int.reduceEq, Int.reduceLT, Int.reduceLE, Int.reduceNe, Int.reduceToNat, Int.reduceAdd, Int.reduceMul, Int.reduceSub, Int.reduceBEq, g, wh, b1, b2, ex, sz, l1, kd, k0, hf, cl, Int.toNat_natCast, *])) | (rw [cw_bool]; split <;> rename_i h <;> (try rw [Bool.not_eq_true] at h) <;> (try simp only [go_sem, reduceIte, Nat.reduceEqDiff, Nat.reduceAdd, Nat.reduceSub, Nat.reduceMul, Nat.reduceLeDiff, Nat.reduceLT, Int.reduceNeg, Int.reduceEq, Int.reduceLT, Int.reduceLE, Int.reduceNe, Int.reduceToNat, Int.reduceAdd, Int.reduceMul, Int.reduceSub, Int.reduceBEq, g, wh, b1, b2, ex, sz, l1, kd, k0, hf, cl, Int.toNat_natCast, *]))))
    | false =>
      cases k2 : (k == 2) with
      | true =>
        obtain ⟨T', hf, hr⟩ := FP 4
        have cl := rd_close hR hr (.inl (by omega)) (.bool true)
        refine ⟨T', ?_, hr⟩
        simp only [rToken_eq] at hf
        (rw [w_plain (fn := c44) rfl rfl (by simp only [go_sem, reduceIte, Nat.reduceEqDiff, Nat.reduceAdd, Nat.reduceSub, Nat.reduceMul, Nat.reduceLeDiff, Nat.reduceLT, Int.reduceNeg, Int.reduceEq, Int.reduceLT, Int.reduceLE, Int.reduceNe, Int.reduceToNat, Int.reduceAdd, Int.reduceMul, Int.reduceSub, Int.reduceBEq, g, wh, b1, b2, ex, sz, l1, kd, k0, k2, hf, cl, Int.toNat_natCast]) rfl (by decide)]; simp only [c44, c44_b, go_sem, reduceIte, Nat.reduceEqDiff, Nat.reduceAdd, Nat.reduceSub, Nat.reduceMul, Nat.reduceLeDiff, Nat.reduceLT, Int.reduceNeg, Int.reduceEq, Int.reduceLT, Int.reduceLE, Int.reduceNe, Int.reduceToNat, Int.reduceAdd, Int.reduceMul, Int.reduceSub, Int.reduceBEq, g, wh, b1, b2, ex, sz, l1, kd, k0, k2, hf, cl, Int.toNat_natCast]; repeat' (first | (rw [guardO_t]; split <;> rename_i h <;> (try rw [Bool.not_eq_true] at h) <;> (try simp only [go_sem, reduceIte, Nat.reduceEqDiff, Nat.reduceAdd, Nat.reduceSub, Nat.reduceMul, Nat.reduceLeDiff, Nat.reduceLT, Int.reduceNeg, Int.reduceEq, Int.reduceLT, Int.reduceLE, Int.reduceNe, Int.reduceToNat, Int.reduceAdd, Int.reduceMul, Int.reduceSub, Int.reduceBEq, g, wh, b1, b2, ex, sz, l1, kd, k0, k2, hf, cl, Int.toNat_natCast, *])) | (rw [guardO_f]; split <;> rename_i h <;> (try rw [Bool.not_eq_true] at h) <;> (try simp only [go_sem, reduceIte, Nat.reduceEqDiff, Nat.reduceAdd, Nat.reduceSub, Nat.reduceMul, Nat.reduceLeDiff, Nat.reduceLT, Int.reduceNeg, Int.reduceEq, Int.reduceLT, Int.reduceLE, Int.reduceNe, Int.reduceToNat, Int.reduceAdd, Int.reduceMul, Int.reduceSub, Int.reduceBEq, g, wh, b1, b2, ex, sz, l1, kd, k0, k2, hf, cl, Int.toNat_natCast, *])) | (rw [cw_bool]; split <;> rename_i h <;> (try rw [Bool.not_eq_true] at h) <;> (try simp only [go_sem, reduceIte, Nat.reduceEqDiff, Nat.reduceAdd, Nat.reduceSub, Nat.reduceMul, Nat.reduceLeDiff, Nat.reduceLT, Int.reduceNeg, Int.reduceEq, Int.reduceLT, Int.reduceLE, Int.reduceNe, Int.reduceToNat, Int.reduceAdd, Int.reduceMul, Int.reduceSub, Int.reduceBEq, g, wh, b1, b2, ex, sz, l1, kd, k0, k2, hf, cl, Int.toNat_natCast, *]))))
      | false =>
        cases k4 : (k == 4) with
        | true =>
          obtain ⟨T', hf, hr⟩ := FP 4
          have cl := rd_close hR hr (.inl (by omega)) (.bool true)
          refine ⟨T', ?_, hr⟩
          simp only [rToken_eq] at hf
          (rw [w_plain (fn := c44) rfl rfl (by simp only [go_sem, reduceIte, Nat.reduceEqDiff, Nat.reduceAdd, Nat.reduceSub, Nat.reduceMul, Nat.reduceLeDiff, Nat.reduceLT, Int.reduceNeg, Int.reduceEq, Int.reduceLT, Int.reduceLE, Int.reduceNe, Int.reduceToNat, Int.reduceAdd, Int.reduceMul, Int.reduceSub, Int.reduceBEq, g, wh, b1, b2, ex, sz, l1, kd, k0, k2, k4, hf, cl, Int.toNat_natCast]) rfl (by decide)]; simp only [c44, c44_b, go_sem, reduceIte, Nat.reduceEqDiff, Nat.reduceAdd, Nat.reduceSub, Nat.reduceMul, Nat.reduceLeDiff, Nat.reduceLT, Int.reduceNeg, Int.reduceEq, Int.reduceLT, Int.reduceLE, Int.reduceNe, Int.reduceToNat, Int.reduceAdd, Int.reduceMul, Int.reduceSub, Int.reduceBEq, g, wh, b1, b2, ex, sz, l1, kd, k0, k2, k4, hf, cl, Int.toNat_natCast]; repeat' (first | (rw [guardO_t]; split <;> rename_i h <;> (try rw [Bool.not_eq_true] at h) <;> (try simp only [go_sem, reduceIte, Nat.reduceEqDiff, Nat.reduceAdd, Nat.reduceSub, Nat.reduceMul, Nat.reduceLeDiff, Nat.reduceLT, Int.reduceNeg, Int.reduceEq, Int.reduceLT, Int.reduceLE, Int.reduceNe, Int.reduceToNat, Int.reduceAdd, Int.reduceMul, Int.reduceSub, Int.reduceBEq, g, wh, b1, b2, ex, sz, l1, kd, k0, k2, k4, hf, cl, Int.toNat_natCast, *])) | (rw [guardO_f]; split <;> rename_i h <;> (try rw [Bool.not_eq_true] at h) <;> (try simp only [go_sem, reduceIte, Nat.reduceEqDiff, Nat.reduceAdd, Nat.reduceSub, Nat.reduceMul, Nat.reduceLeDiff, Nat.reduceLT, Int.reduceNeg, Int.reduceEq, Int.reduceLT, Int.reduceLE, Int.reduceNe, Int.reduceToNat, Int.reduceAdd, Int.reduceMul, Int.reduceSub, Int.reduceBEq, g, wh, b1, b2, ex, sz, l1, kd, k0, k2, k4, hf, cl, Int.toNat_natCast, *])) | (rw [cw_bool]; split <;> rename_i h <;> (try rw [Bool.not_eq_true] at h) <;> (try simp only [go_sem, reduceIte, Nat.reduceEqDiff, Nat.reduceAdd, Nat.reduceSub, Nat.reduceMul, Nat.reduceLeDiff, Nat.reduceLT, Int.reduceNeg, Int.reduceEq, Int.reduceLT, Int.reduceLE, Int.reduceNe, Int.reduceToNat, Int.reduceAdd, Int.reduceMul, Int.reduceSub, Int.reduceBEq, g, wh, b1, b2, ex, sz, l1, kd, k0, k2, k4, hf, cl, Int.toNat_natCast, *]))))
        | false =>
          obtain ⟨T', hf, hr⟩ := FP 3
          have cl := rd_close hR hr (.inl (by omega)) (.bool true)
          refine ⟨T', ?_, hr⟩
          simp only [rToken_eq] at hf
          (rw [w_plain (fn := c44) rfl rfl (by simp only [go_sem, reduceIte, Nat.reduceEqDiff, Nat.reduceAdd, Nat.reduceSub, Nat.reduceMul, Nat.reduceLeDiff, Nat.reduceLT, Int.reduceNeg, Int.reduceEq, Int.reduceLT, Int.reduceLE, Int.reduceNe, Int.reduceToNat, Int.reduceAdd, Int.reduceMul, Int.reduceSub, Int.reduceBEq, g, wh, b1, b2, ex, sz, l1, kd, k0, k2, k4, hf, cl, Int.toNat_natCast]) rfl (by decide)]; simp only [c44, c44_b, go_sem, reduceIte, Nat.reduceEqDiff, Nat.reduceAdd, Nat.reduceSub, Nat.reduceMul, Nat.reduceLeDiff, Nat.reduceLT, Int.reduceNeg, Int.reduceEq, Int.reduceLT, Int.reduceLE, Int.reduceNe, Int.reduceToNat, Int.reduceAdd, Int.reduceMul, Int.reduceSub, Int.reduceBEq, g, wh, b1, b2, ex, sz, l1, kd, k0, k2, k4, hf, cl, Int.toNat_natCast]; repeat' (first | (rw [guardO_t]; split <;> rename_i h <;> (try rw [Bool.not_eq_true] at h) <;> (try simp only [go_sem, reduceIte, Nat.reduceEqDiff, Nat.reduceAdd, Nat.reduceSub, Nat.reduceMul, Nat.reduceLeDiff, Nat.reduceLT, Int.reduceNeg, Int.reduceEq, Int.reduceLT, Int.reduceLE, Int.reduceNe, Int.reduceToNat, Int.reduceAdd, Int.reduceMul, Int.reduceSub, Int.reduceBEq, g, wh, b1, b2, ex, sz, l1, kd, k0, k2, k4, hf, cl, Int.toNat_natCast, *])) | (rw [guardO_f]; split <;> rename_i h <;> (try rw [Bool.not_eq_true] at h) <;> (try simp only [go_sem, reduceIte, Nat.reduceEqDiff, Nat.reduceAdd, Nat.reduceSub, Nat.reduceMul, Nat.reduceLeDiff, Nat.reduceLT, Int.reduceNeg, Int.reduceEq, Int.reduceLT, Int.reduceLE, Int.reduceNe, Int.reduceToNat, Int.reduceAdd, Int.reduceMul, Int.reduceSub, Int.reduceBEq, g, wh, b1, b2, ex, sz, l1, kd, k0, k2, k4, hf, cl, Int.toNat_natCast, *])) | (rw [cw_bool]; split <;> rename_i h <;> (try rw [Bool.not_eq_true] at h) <;> (try simp only [go_sem, reduceIte, Nat.reduceEqDiff, Nat.reduceAdd, Nat.reduceSub, Nat.reduceMul, Nat.reduceLeDiff, Nat.reduceLT, Int.reduceNeg, Int.reduceEq, Int.reduceLT, Int.reduceLE, Int.reduceNe, Int.reduceToNat, Int.reduceAdd, Int.reduceMul, Int.reduceSub, Int.reduceBEq, g, wh, b1, b2, ex, sz, l1, kd, k0, k2, k4, hf, cl, Int.toNat_natCast, *]))))
end
end Go.PE
