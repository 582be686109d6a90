/-
  The reader, on any text: a word. Conditions: each law's own.
-/
import Derived.Test.YtaofeleeinjclaaGreatDoorLG
import Derived.Test.YtaofeleeinjclaaGreatDoorNP
namespace Go.PE
open Go Go.RowKit Go.Proofs
set_option linter.unusedVariables false
set_option linter.unusedSimpArgs false
set_option maxRecDepth 100000
section
variable {ot : TypeId} {oz : EP}
def wordC (c : UInt8) : Bool := letC c || digC c
def wordF (w : List UInt8) (i : Nat) : Tok :=
  if 8 < w.length then .bad 6 i else if kindS (txt w) == 0 then .bad 2 i else .ok ⟨if kindS (txt w) == 2 || kindS (txt w) == 4 then 4 else 3, 0, txt w, i⟩ (i + w.length)
/-- A word. -/
theorem word_w {S T : St} {q : ByteArray} (hq : q.size ≤ 100000) {i : Nat} {ts : List GToken} (h : Rd S q T i ts .nilifc) (hts : ts.length ≤ 1000000) (hi : i ≤ q.size) (w : List UInt8) (hw : (q.data.toList.drop i).takeWhile wordC = w) (hne : w ≠ []) :
    Gives ot oz S q T ts 59 (wordF w i) := by
  have hR := h
  have F6 := rd_fail (ot := ot) (oz := oz) h 6 i (by decide)
  have F2 := rd_fail (ot := ot) (oz := oz) h 2 i (by decide)
  have FP := fun k => rd_put (ot := ot) (oz := oz) h hts ⟨k, 0, txt w, 0⟩ i (i + w.length)
  obtain ⟨out, more, ow, rfl, ho⟩ := h
  have wh := while_w (ot := ot) (oz := oz) q hq wordC 97 (word1_w (ot := ot) (oz := oz)) ⟨S.obs ++ rdr q (i : Int) out .nilifc :: more, S.own ++ ow⟩ S.obs.length i out .nilifc rd_get
  have hn : whileN wordC (q.data.toList.drop i) = w.length := by unfold whileN; rw [hw]
  have hle := while_le wordC q i hi
  rw [hn] at wh hle
  have ex := ext_take q i w.length hle
  rw [← hn, while_take, hw, hn] at ex
  have b1 : (0 : Int) ≤ ((i + w.length : Nat) : Int) ∧ ((i + w.length : Nat) : Int) ≤ (q.size : Int) := by omega
  have b2 : (0 : Int) ≤ (i : Int) ∧ (i : Int) ≤ ((i + w.length : Nat) : Int) := by omega
  have sz : ((txt w).size : Int) = (w.length : Int) := by rw [txt_size]
  have hp : 0 < w.length := List.length_pos_iff.2 hne
  have kd := nkind (ot := ot) (oz := oz) (txt w)
  generalize hT : (⟨S.obs ++ rdr q (i : Int) out .nilifc :: more, S.own ++ ow⟩ : St) = T at *
  have g : T.obs[S.obs.length]? = some (rdr q (i : Int) out .nilifc) := by rw [← hT]; exact rd_get
  unfold wordF
  split
  · rename_i hc
    obtain ⟨T', hf, hr⟩ := F6
    have l1 : decide ((8 : Int) < (w.length : Int)) = true := decide_eq_true (by omega)
    have cl := rd_close hR hr (.inr (by simp)) (.bool false)
    refine ⟨T', i, ?_, hr⟩
    (rw [w_plain (fn := c59) rfl rfl (by simp only [go_sem, g, wh, b1, b2, ex, sz, l1, hf, cl, Int.toNat_natCast]) rfl (by decide)]; simp only [c59, c59_b, go_sem, g, wh, b1, b2, ex, sz, l1, hf, cl, Int.toNat_natCast]; repeat' (first | (rw [guardO_t]; split <;> rename_i h <;> (try rw [Bool.not_eq_true] at h) <;> (try simp only [go_sem, g, wh, b1, b2, ex, sz, l1, hf, cl, Int.toNat_natCast, *])) | (rw [guardO_f]; split <;> rename_i h <;> (try rw [Bool.not_eq_true] at h) <;> (try simp only [go_sem, g, wh, b1, b2, ex, sz, l1, hf, cl, Int.toNat_natCast, *])) | (rw [cw_bool]; split <;> rename_i h <;> (try rw [Bool.not_eq_true] at h) <;> (try simp only [go_sem, g, wh, b1, b2, ex, sz, l1, hf, cl, Int.toNat_natCast, *]))))
  · rename_i hc
    have l1 : decide ((8 : Int) < (w.length : Int)) = false := decide_eq_false (by omega)
    generalize kindS (txt w) = k at *
    cases k0 : (k == 0) with
    | true =>
      obtain ⟨T', hf, hr⟩ := F2
      have cl := rd_close hR hr (.inr (by simp)) (.bool false)
      refine ⟨T', i, ?_, hr⟩
      (rw [w_plain (fn := c59) rfl rfl (by simp only [go_sem, g, wh, b1, b2, ex, sz, l1, kd, k0, hf, cl, Int.toNat_natCast]) rfl (by decide)]; simp only [c59, c59_b, go_sem, g, wh, b1, b2, ex, sz, l1, kd, k0, hf, cl, Int.toNat_natCast]; repeat' (first | (rw [guardO_t]; split <;> rename_i h <;> (try rw [Bool.not_eq_true] at h) <;> (try simp only [go_sem, g, wh, b1, b2, ex, sz, l1, kd, k0, hf, cl, Int.toNat_natCast, *])) | (rw [guardO_f]; split <;> rename_i h <;> (try rw [Bool.not_eq_true] at h) <;> (try simp only [go_sem, g, wh, b1, b2, ex, sz, l1, kd, k0, hf, cl, Int.toNat_natCast, *])) | (rw [cw_bool]; split <;> rename_i h <;> (try rw [Bool.not_eq_true] at h) <;> (try simp only [go_sem, g, wh, b1, b2, ex, sz, l1, kd, k0, hf, cl, Int.toNat_natCast, *]))))
    | false =>
      cases k2 : (k == 2) with
      | true =>
        obtain ⟨T', hf, hr⟩ := FP 4
        have cl := rd_close hR hr (.inl (by omega)) (.bool true)
        refine ⟨T', ?_, hr⟩
        simp only [rToken_eq] at hf
        (rw [w_plain (fn := c59) rfl rfl (by simp only [go_sem, g, wh, b1, b2, ex, sz, l1, kd, k0, k2, hf, cl, Int.toNat_natCast]) rfl (by decide)]; simp only [c59, c59_b, go_sem, g, wh, b1, b2, ex, sz, l1, kd, k0, k2, hf, cl, Int.toNat_natCast]; repeat' (first | (rw [guardO_t]; split <;> rename_i h <;> (try rw [Bool.not_eq_true] at h) <;> (try simp only [go_sem, g, wh, b1, b2, ex, sz, l1, kd, k0, k2, hf, cl, Int.toNat_natCast, *])) | (rw [guardO_f]; split <;> rename_i h <;> (try rw [Bool.not_eq_true] at h) <;> (try simp only [go_sem, g, wh, b1, b2, ex, sz, l1, kd, k0, k2, hf, cl, Int.toNat_natCast, *])) | (rw [cw_bool]; split <;> rename_i h <;> (try rw [Bool.not_eq_true] at h) <;> (try simp only [go_sem, g, wh, b1, b2, ex, sz, l1, kd, k0, k2, hf, cl, Int.toNat_natCast, *]))))
      | false =>
        cases k4 : (k == 4) with
        | true =>
          obtain ⟨T', hf, hr⟩ := FP 4
          have cl := rd_close hR hr (.inl (by omega)) (.bool true)
          refine ⟨T', ?_, hr⟩
          simp only [rToken_eq] at hf
          (rw [w_plain (fn := c59) rfl rfl (by simp only [go_sem, g, wh, b1, b2, ex, sz, l1, kd, k0, k2, k4, hf, cl, Int.toNat_natCast]) rfl (by decide)]; simp only [c59, c59_b, go_sem, g, wh, b1, b2, ex, sz, l1, kd, k0, k2, k4, hf, cl, Int.toNat_natCast]; repeat' (first | (rw [guardO_t]; split <;> rename_i h <;> (try rw [Bool.not_eq_true] at h) <;> (try simp only [go_sem, g, wh, b1, b2, ex, sz, l1, kd, k0, k2, k4, hf, cl, Int.toNat_natCast, *])) | (rw [guardO_f]; split <;> rename_i h <;> (try rw [Bool.not_eq_true] at h) <;> (try simp only [go_sem, g, wh, b1, b2, ex, sz, l1, kd, k0, k2, k4, hf, cl, Int.toNat_natCast, *])) | (rw [cw_bool]; split <;> rename_i h <;> (try rw [Bool.not_eq_true] at h) <;> (try simp only [go_sem, g, wh, b1, b2, ex, sz, l1, kd, k0, k2, k4, hf, cl, Int.toNat_natCast, *]))))
        | false =>
          obtain ⟨T', hf, hr⟩ := FP 3
          have cl := rd_close hR hr (.inl (by omega)) (.bool true)
          refine ⟨T', ?_, hr⟩
          simp only [rToken_eq] at hf
          (rw [w_plain (fn := c59) rfl rfl (by simp only [go_sem, g, wh, b1, b2, ex, sz, l1, kd, k0, k2, k4, hf, cl, Int.toNat_natCast]) rfl (by decide)]; simp only [c59, c59_b, go_sem, g, wh, b1, b2, ex, sz, l1, kd, k0, k2, k4, hf, cl, Int.toNat_natCast]; repeat' (first | (rw [guardO_t]; split <;> rename_i h <;> (try rw [Bool.not_eq_true] at h) <;> (try simp only [go_sem, g, wh, b1, b2, ex, sz, l1, kd, k0, k2, k4, hf, cl, Int.toNat_natCast, *])) | (rw [guardO_f]; split <;> rename_i h <;> (try rw [Bool.not_eq_true] at h) <;> (try simp only [go_sem, g, wh, b1, b2, ex, sz, l1, kd, k0, k2, k4, hf, cl, Int.toNat_natCast, *])) | (rw [cw_bool]; split <;> rename_i h <;> (try rw [Bool.not_eq_true] at h) <;> (try simp only [go_sem, g, wh, b1, b2, ex, sz, l1, kd, k0, k2, k4, hf, cl, Int.toNat_natCast, *]))))
end
end Go.PE
namespace Go.PE
open Go Go.RowKit Go.Proofs
set_option linter.unusedVariables false
set_option linter.unusedSimpArgs false
set_option maxRecDepth 100000
section
variable {ot : TypeId} {oz : EP}
/-- A sign of two bytes. -/
def pairB (s : ByteArray) : Bool := strEq s ⟨#[61, 62]⟩ || strEq s ⟨#[45, 62]⟩ || strEq s ⟨#[60, 58]⟩ || strEq s ⟨#[43, 43]⟩ || strEq s ⟨#[61, 61]⟩
def oneB (c : UInt8) : Bool := decide (0 ≤ Lib.indexByte [40, 41, 123, 125, 91, 93, 44, 58, 46, 61, 63, 43, 45, 42, 47, 60] c)
def signF (c : UInt8) (r : List UInt8) (i : Nat) : Tok :=
  if 1 ≤ r.length ∧ pairB (txt ((c :: r).take 2)) = true then .ok ⟨5, 0, txt ((c :: r).take 2), i⟩ (i + 2) else if oneB c then .ok ⟨5, 0, txt [c], i⟩ (i + 1) else .bad 3 i
/-- A sign. -/
theorem sign_w {S T : St} {q : ByteArray} (hq : q.size ≤ 100000) {i : Nat} {ts : List GToken} (h : Rd S q T i ts .nilifc) (hts : ts.length ≤ 1000000) (c : UInt8) (r : List UInt8) (hw : q.data.toList.drop i = c :: r) :
    Gives ot oz S q T ts 61 (signF c r i) := by
  have hR := h
  have F3 := rd_fail (ot := ot) (oz := oz) h 3 i (by decide)
  have FP2 := rd_put (ot := ot) (oz := oz) h hts ⟨5, 0, txt ((c :: r).take 2), 0⟩ i (i + 2)
  have FP1 := rd_put (ot := ot) (oz := oz) h hts ⟨5, 0, txt [c], 0⟩ i (i + 1)
  obtain ⟨out, more, ow, rfl, ho⟩ := h
  have hi : i < q.size := by rw [← size_data]; exact (drop_cons hw).2.2
  have ex := ext_txt q i
  rw [hw] at ex
  have b1 : (0 : Int) ≤ (i : Int) ∧ (i : Int) ≤ (q.size : Int) := by omega
  have sz : ((txt (c :: r)).size : Int) = ((r.length + 1 : Nat) : Int) := by rw [txt_size]; rfl
  have h0 : (txt (c :: r)).data.toList[0]? = some c := by rw [txt_data]; rfl
  have b3 : (0 : Int) < ((r.length + 1 : Nat) : Int) := by omega
  have b4 : (1 : Int) ≤ ((r.length + 1 : Nat) : Int) := by omega
  have x1 : (txt (c :: r)).extract 0 1 = txt [c] := by
    have := ext_take (txt (c :: r)) 0 1 (by rw [txt_size]; simp)
    rw [txt_data] at this; exact this
  have ib := ibyte (ot := ot) (oz := oz) ⟨#[40, 41, 123, 125, 91, 93, 44, 58, 46, 61, 63, 43, 45, 42, 47, 60]⟩ c
  have w2 : IntKind.i64.wrap ((i : Int) + 2) = ((i + 2 : Nat) : Int) := by rw [wrap64 (by omega) (by omega)]; omega
  have w1 : IntKind.i64.wrap ((i : Int) + 1) = ((i + 1 : Nat) : Int) := by rw [wrap64 (by omega) (by omega)]; omega
  have eo : oneB c = decide (0 ≤ Lib.indexByte [40, 41, 123, 125, 91, 93, 44, 58, 46, 61, 63, 43, 45, 42, 47, 60] c) := rfl
  generalize hT : (⟨S.obs ++ rdr q (i : Int) out .nilifc :: more, S.own ++ ow⟩ : St) = T at *
  have g : T.obs[S.obs.length]? = some (rdr q (i : Int) out .nilifc) := by rw [← hT]; exact rd_get
  unfold signF
  simp only [rToken_eq] at FP2 FP1
  by_cases hl : 1 ≤ r.length
  · have b2 : (2 : Int) ≤ ((r.length + 1 : Nat) : Int) := by omega
    have l2 : decide ((2 : Int) ≤ ((r.length + 1 : Nat) : Int)) = true := decide_eq_true b2
    have x2 : (txt (c :: r)).extract 0 2 = txt ((c :: r).take 2) := by
      have := ext_take (txt (c :: r)) 0 2 (by rw [txt_size]; simp; omega)
      rw [txt_data] at this; exact this
    generalize txt ((c :: r).take 2) = p at *
    have ep : pairB p = (strEq p ⟨#[61, 62]⟩ || strEq p ⟨#[45, 62]⟩ || strEq p ⟨#[60, 58]⟩ || strEq p ⟨#[43, 43]⟩ || strEq p ⟨#[61, 61]⟩) := rfl
    cases hp : pairB p with
    | true =>
      rw [if_pos ⟨hl, rfl⟩]
      obtain ⟨T', hf, hr⟩ := FP2
      have cl := rd_close hR hr (.inl (by omega)) (.bool true)
      refine ⟨T', ?_, hr⟩
      rw [hp] at ep
      cases a1 : strEq p ⟨#[61, 62]⟩ with
      | true => (rw [w_plain (fn := c61) rfl rfl (by simp only [go_sem, g, b1, b2, ex, sz, l2, x2, a1, w2, hf, cl, Int.toNat_natCast]) rfl (by decide)]; simp only [c61, c61_b, c61_r4, go_sem, g, b1, b2, ex, sz, l2, x2, a1, w2, hf, cl, Int.toNat_natCast]; repeat' (first | (rw [guardO_t]; split <;> rename_i h <;> (try rw [Bool.not_eq_true] at h) <;> (try simp only [go_sem, c61_r4, g, b1, b2, ex, sz, l2, x2, a1, w2, hf, cl, Int.toNat_natCast, *])) | (rw [guardO_f]; split <;> rename_i h <;> (try rw [Bool.not_eq_true] at h) <;> (try simp only [go_sem, c61_r4, g, b1, b2, ex, sz, l2, x2, a1, w2, hf, cl, Int.toNat_natCast, *])) | (rw [cw_bool]; split <;> rename_i h <;> (try rw [Bool.not_eq_true] at h) <;> (try simp only [go_sem, c61_r4, g, b1, b2, ex, sz, l2, x2, a1, w2, hf, cl, Int.toNat_natCast, *]))))
      | false =>
      cases a2 : strEq p ⟨#[45, 62]⟩ with
      | true => (rw [w_plain (fn := c61) rfl rfl (by simp only [go_sem, g, b1, b2, ex, sz, l2, x2, a1, a2, w2, hf, cl, Int.toNat_natCast]) rfl (by decide)]; simp only [c61, c61_b, c61_r4, go_sem, g, b1, b2, ex, sz, l2, x2, a1, a2, w2, hf, cl, Int.toNat_natCast]; repeat' (first | (rw [guardO_t]; split <;> rename_i h <;> (try rw [Bool.not_eq_true] at h) <;> (try simp only [go_sem, c61_r4, g, b1, b2, ex, sz, l2, x2, a1, a2, w2, hf, cl, Int.toNat_natCast, *])) | (rw [guardO_f]; split <;> rename_i h <;> (try rw [Bool.not_eq_true] at h) <;> (try simp only [go_sem, c61_r4, g, b1, b2, ex, sz, l2, x2, a1, a2, w2, hf, cl, Int.toNat_natCast, *])) | (rw [cw_bool]; split <;> rename_i h <;> (try rw [Bool.not_eq_true] at h) <;> (try simp only [go_sem, c61_r4, g, b1, b2, ex, sz, l2, x2, a1, a2, w2, hf, cl, Int.toNat_natCast, *]))))
      | false =>
      cases a3 : strEq p ⟨#[60, 58]⟩ with
      | true => (rw [w_plain (fn := c61) rfl rfl (by simp only [go_sem, g, b1, b2, ex, sz, l2, x2, a1, a2, a3, w2, hf, cl, Int.toNat_natCast]) rfl (by decide)]; simp only [c61, c61_b, c61_r4, go_sem, g, b1, b2, ex, sz, l2, x2, a1, a2, a3, w2, hf, cl, Int.toNat_natCast]; repeat' (first | (rw [guardO_t]; split <;> rename_i h <;> (try rw [Bool.not_eq_true] at h) <;> (try simp only [go_sem, c61_r4, g, b1, b2, ex, sz, l2, x2, a1, a2, a3, w2, hf, cl, Int.toNat_natCast, *])) | (rw [guardO_f]; split <;> rename_i h <;> (try rw [Bool.not_eq_true] at h) <;> (try simp only [go_sem, c61_r4, g, b1, b2, ex, sz, l2, x2, a1, a2, a3, w2, hf, cl, Int.toNat_natCast, *])) | (rw [cw_bool]; split <;> rename_i h <;> (try rw [Bool.not_eq_true] at h) <;> (try simp only [go_sem, c61_r4, g, b1, b2, ex, sz, l2, x2, a1, a2, a3, w2, hf, cl, Int.toNat_natCast, *]))))
      | false =>
      cases a4 : strEq p ⟨#[43, 43]⟩ with
      | true => (rw [w_plain (fn := c61) rfl rfl (by simp only [go_sem, g, b1, b2, ex, sz, l2, x2, a1, a2, a3, a4, w2, hf, cl, Int.toNat_natCast]) rfl (by decide)]; simp only [c61, c61_b, c61_r4, go_sem, g, b1, b2, ex, sz, l2, x2, a1, a2, a3, a4, w2, hf, cl, Int.toNat_natCast]; repeat' (first | (rw [guardO_t]; split <;> rename_i h <;> (try rw [Bool.not_eq_true] at h) <;> (try simp only [go_sem, c61_r4, g, b1, b2, ex, sz, l2, x2, a1, a2, a3, a4, w2, hf, cl, Int.toNat_natCast, *])) | (rw [guardO_f]; split <;> rename_i h <;> (try rw [Bool.not_eq_true] at h) <;> (try simp only [go_sem, c61_r4, g, b1, b2, ex, sz, l2, x2, a1, a2, a3, a4, w2, hf, cl, Int.toNat_natCast, *])) | (rw [cw_bool]; split <;> rename_i h <;> (try rw [Bool.not_eq_true] at h) <;> (try simp only [go_sem, c61_r4, g, b1, b2, ex, sz, l2, x2, a1, a2, a3, a4, w2, hf, cl, Int.toNat_natCast, *]))))
      | false =>
      have a5 : strEq p ⟨#[61, 61]⟩ = true := by simpa [a1, a2, a3, a4] using ep.symm
      (rw [w_plain (fn := c61) rfl rfl (by simp only [go_sem, g, b1, b2, ex, sz, l2, x2, a1, a2, a3, a4, a5, w2, hf, cl, Int.toNat_natCast]) rfl (by decide)]; simp only [c61, c61_b, c61_r4, go_sem, g, b1, b2, ex, sz, l2, x2, a1, a2, a3, a4, a5, w2, hf, cl, Int.toNat_natCast]; repeat' (first | (rw [guardO_t]; split <;> rename_i h <;> (try rw [Bool.not_eq_true] at h) <;> (try simp only [go_sem, c61_r4, g, b1, b2, ex, sz, l2, x2, a1, a2, a3, a4, a5, w2, hf, cl, Int.toNat_natCast, *])) | (rw [guardO_f]; split <;> rename_i h <;> (try rw [Bool.not_eq_true] at h) <;> (try simp only [go_sem, c61_r4, g, b1, b2, ex, sz, l2, x2, a1, a2, a3, a4, a5, w2, hf, cl, Int.toNat_natCast, *])) | (rw [cw_bool]; split <;> rename_i h <;> (try rw [Bool.not_eq_true] at h) <;> (try simp only [go_sem, c61_r4, g, b1, b2, ex, sz, l2, x2, a1, a2, a3, a4, a5, w2, hf, cl, Int.toNat_natCast, *]))))
    | false =>
      rw [if_neg (by simp)]
      rw [hp] at ep
      have ep := ep.symm
      simp only [Bool.or_eq_false_iff] at ep
      obtain ⟨⟨⟨⟨a1, a2⟩, a3⟩, a4⟩, a5⟩ := ep
      cases ho1 : oneB c with
      | true =>
        rw [ho1] at eo
        have eo := eo.symm
        obtain ⟨T', hf, hr⟩ := FP1
        have cl := rd_close hR hr (.inl (by omega)) (.bool true)
        refine ⟨T', ?_, hr⟩
        (rw [w_plain (fn := c61) rfl rfl (by simp only [go_sem, g, b1, b2, b3, b4, h0, ex, sz, l2, x1, x2, a1, a2, a3, a4, a5, ib, eo, w1, hf, cl, Int.toNat_natCast]) rfl (by decide)]; simp only [c61, c61_b, c61_r4, go_sem, g, b1, b2, b3, b4, h0, ex, sz, l2, x1, x2, a1, a2, a3, a4, a5, ib, eo, w1, hf, cl, Int.toNat_natCast]; repeat' (first | (rw [guardO_t]; split <;> rename_i h <;> (try rw [Bool.not_eq_true] at h) <;> (try simp only [go_sem, c61_r4, g, b1, b2, b3, b4, h0, ex, sz, l2, x1, x2, a1, a2, a3, a4, a5, ib, eo, w1, hf, cl, Int.toNat_natCast, *])) | (rw [guardO_f]; split <;> rename_i h <;> (try rw [Bool.not_eq_true] at h) <;> (try simp only [go_sem, c61_r4, g, b1, b2, b3, b4, h0, ex, sz, l2, x1, x2, a1, a2, a3, a4, a5, ib, eo, w1, hf, cl, Int.toNat_natCast, *])) | (rw [cw_bool]; split <;> rename_i h <;> (try rw [Bool.not_eq_true] at h) <;> (try simp only [go_sem, c61_r4, g, b1, b2, b3, b4, h0, ex, sz, l2, x1, x2, a1, a2, a3, a4, a5, ib, eo, w1, hf, cl, Int.toNat_natCast, *]))))
      | false =>
        rw [ho1] at eo
        have eo := eo.symm
        obtain ⟨T', hf, hr⟩ := F3
        have cl := rd_close hR hr (.inr (by simp)) (.bool false)
        refine ⟨T', i, ?_, hr⟩
        (rw [w_plain (fn := c61) rfl rfl (by simp only [go_sem, g, b1, b2, b3, h0, ex, sz, l2, x2, a1, a2, a3, a4, a5, ib, eo, hf, cl, Int.toNat_natCast]) rfl (by decide)]; simp only [c61, c61_b, c61_r4, go_sem, g, b1, b2, b3, h0, ex, sz, l2, x2, a1, a2, a3, a4, a5, ib, eo, hf, cl, Int.toNat_natCast]; repeat' (first | (rw [guardO_t]; split <;> rename_i h <;> (try rw [Bool.not_eq_true] at h) <;> (try simp only [go_sem, c61_r4, g, b1, b2, b3, h0, ex, sz, l2, x2, a1, a2, a3, a4, a5, ib, eo, hf, cl, Int.toNat_natCast, *])) | (rw [guardO_f]; split <;> rename_i h <;> (try rw [Bool.not_eq_true] at h) <;> (try simp only [go_sem, c61_r4, g, b1, b2, b3, h0, ex, sz, l2, x2, a1, a2, a3, a4, a5, ib, eo, hf, cl, Int.toNat_natCast, *])) | (rw [cw_bool]; split <;> rename_i h <;> (try rw [Bool.not_eq_true] at h) <;> (try simp only [go_sem, c61_r4, g, b1, b2, b3, h0, ex, sz, l2, x2, a1, a2, a3, a4, a5, ib, eo, hf, cl, Int.toNat_natCast, *]))))
  · rw [if_neg (fun hh => hl hh.1)]
    have l2 : decide ((2 : Int) ≤ ((r.length + 1 : Nat) : Int)) = false := decide_eq_false (by omega)
    cases ho1 : oneB c with
    | true =>
      rw [ho1] at eo
      have eo := eo.symm
      obtain ⟨T', hf, hr⟩ := FP1
      have cl := rd_close hR hr (.inl (by omega)) (.bool true)
      refine ⟨T', ?_, hr⟩
      (rw [w_plain (fn := c61) rfl rfl (by simp only [go_sem, g, b1, b3, b4, h0, ex, sz, l2, x1, ib, eo, w1, hf, cl, Int.toNat_natCast]) rfl (by decide)]; simp only [c61, c61_b, c61_r4, go_sem, g, b1, b3, b4, h0, ex, sz, l2, x1, ib, eo, w1, hf, cl, Int.toNat_natCast]; repeat' (first | (rw [guardO_t]; split <;> rename_i h <;> (try rw [Bool.not_eq_true] at h) <;> (try simp only [go_sem, c61_r4, g, b1, b3, b4, h0, ex, sz, l2, x1, ib, eo, w1, hf, cl, Int.toNat_natCast, *])) | (rw [guardO_f]; split <;> rename_i h <;> (try rw [Bool.not_eq_true] at h) <;> (try simp only [go_sem, c61_r4, g, b1, b3, b4, h0, ex, sz, l2, x1, ib, eo, w1, hf, cl, Int.toNat_natCast, *])) | (rw [cw_bool]; split <;> rename_i h <;> (try rw [Bool.not_eq_true] at h) <;> (try simp only [go_sem, c61_r4, g, b1, b3, b4, h0, ex, sz, l2, x1, ib, eo, w1, hf, cl, Int.toNat_natCast, *]))))
    | false =>
      rw [ho1] at eo
      have eo := eo.symm
      obtain ⟨T', hf, hr⟩ := F3
      have cl := rd_close hR hr (.inr (by simp)) (.bool false)
      refine ⟨T', i, ?_, hr⟩
      (rw [w_plain (fn := c61) rfl rfl (by simp only [go_sem, g, b1, b3, h0, ex, sz, l2, ib, eo, hf, cl, Int.toNat_natCast]) rfl (by decide)]; simp only [c61, c61_b, c61_r4, go_sem, g, b1, b3, h0, ex, sz, l2, ib, eo, hf, cl, Int.toNat_natCast]; repeat' (first | (rw [guardO_t]; split <;> rename_i h <;> (try rw [Bool.not_eq_true] at h) <;> (try simp only [go_sem, c61_r4, g, b1, b3, h0, ex, sz, l2, ib, eo, hf, cl, Int.toNat_natCast, *])) | (rw [guardO_f]; split <;> rename_i h <;> (try rw [Bool.not_eq_true] at h) <;> (try simp only [go_sem, c61_r4, g, b1, b3, h0, ex, sz, l2, ib, eo, hf, cl, Int.toNat_natCast, *])) | (rw [cw_bool]; split <;> rename_i h <;> (try rw [Bool.not_eq_true] at h) <;> (try simp only [go_sem, c61_r4, g, b1, b3, h0, ex, sz, l2, ib, eo, hf, cl, Int.toNat_natCast, *]))))
end
end Go.PE
namespace Go.PE
open Go Go.RowKit Go.Proofs
set_option linter.unusedVariables false
set_option linter.unusedSimpArgs false
set_option maxRecDepth 100000
section
variable {ot : TypeId} {oz : EP}
def blankB (c : UInt8) : Bool := decide (0 ≤ Lib.indexByte [32, 9, 10, 13] c)
/-- How many bytes part tokens, from here on. -/
def skipF : Nat → List UInt8 → Nat
  | 0, _ => 0
  | _, [] => 0
  | n + 1, c :: r => if blankB c then 1 + skipF n r else if ((c.toNat : Int) == 59) = true then whileN (fun c => (c.toNat : Int) != 10) (c :: r) + skipF n ((c :: r).drop (whileN (fun c => (c.toNat : Int) != 10) (c :: r))) else 0
/-- A reader, at a place. -/
def TT (S : St) (q : ByteArray) (out err : PV) (more : List Ob) (ow : List Nat) (i : Nat) : St := ⟨S.obs ++ rdr q (i : Int) out err :: more, ow⟩
theorem tt_get {S : St} {q : ByteArray} {out err : PV} {more : List Ob} {ow : List Nat} {i : Nat} : (TT S q out err more ow i).obs[S.obs.length]? = some (rdr q (i : Int) out err) := rd_get
theorem tt_set {S : St} {q : ByteArray} {out err : PV} {more : List Ob} {ow : List Nat} {i j : Nat} : (⟨(TT S q out err more ow i).obs.set S.obs.length (rdr q (j : Int) out err), (TT S q out err more ow i).own⟩ : St) = TT S q out err more ow j := by
  unfold TT; simp only [rd_set]
theorem pass_gl (q : ByteArray) (hq : q.size ≤ 100000) (S : St) (out err : PV) (more : List Ob) (ow : List Nat) : ∀ (n : Nat) (rest : List UInt8) (i : Nat), q.data.toList.drop i = rest → rest.length < n →
    ∃ fr, ∀ fin st, run (env ot oz) fin st c55_l0 [(0, some (.ref S.obs.length 0))] (TT S q out err more ow i) = aft (env ot oz) fin st (.exit 0) fr (TT S q out err more ow (i + skipF n rest))
  | 0, _, _, _, hn => by omega
  | n + 1, [], i, hi, hn => by
    have g := tt_get (S := S) (q := q) (out := out) (err := err) (more := more) (ow := ow) (i := i)
    have lt := lt_no (drop_nil hi)
    rw [size_data] at lt
    refine ⟨[(0, some (.ref S.obs.length 0)), (11, some (.bool false))], fun fin st => ?_⟩
    simp only [skipF, Nat.add_zero]
    generalize TT S q out err more ow i = T at *
    (rw [c55_l0_w]; simp only [c55_l0_b, c55_l0_a, go_sem, g, lt]; repeat' (first | (rw [guardO_t]; split <;> rename_i h <;> (try rw [Bool.not_eq_true] at h) <;> (try simp only [go_sem, c55_l0_a, g, lt, *])) | (rw [guardO_f]; split <;> rename_i h <;> (try rw [Bool.not_eq_true] at h) <;> (try simp only [go_sem, c55_l0_a, g, lt, *])) | (rw [cw_bool]; split <;> rename_i h <;> (try rw [Bool.not_eq_true] at h) <;> (try simp only [go_sem, c55_l0_a, g, lt, *]))))
  | n + 1, c :: r, i, hi, hn => by
    have g := tt_get (S := S) (q := q) (out := out) (err := err) (more := more) (ow := ow) (i := i)
    obtain ⟨h1, h2, h3⟩ := drop_cons hi
    rw [size_data] at h3
    have lt := lt_yes h3
    have hb : (0 : Int) ≤ (i : Int) ∧ (i : Int) < (q.size : Int) := by omega
    have ib := ibyte (ot := ot) (oz := oz) ⟨#[32, 9, 10, 13]⟩ c
    have eb : blankB c = decide (0 ≤ Lib.indexByte [32, 9, 10, 13] c) := rfl
    have w1 : IntKind.i64.wrap ((i : Int) + 1) = ((i + 1 : Nat) : Int) := by rw [wrap64 (by omega) (by omega)]; omega
    have ts1 := tt_set (S := S) (q := q) (out := out) (err := err) (more := more) (ow := ow) (i := i) (j := i + 1)
    cases h : blankB c with
    | true =>
      rw [h] at eb
      have eb := eb.symm
      obtain ⟨fr, ih⟩ := pass_gl q hq S out err more ow n r (i + 1) h2 (by simp at hn; omega)
      refine ⟨fr, fun fin st => ?_⟩
      have e : i + skipF (n + 1) (c :: r) = i + 1 + skipF n r := by simp only [skipF, h, if_true]; omega
      rw [e]
      have ih := ih fin st
      generalize TT S q out err more ow i = T at *
      (rw [c55_l0_w]; simp only [c55_l0_b, c55_l0_a, go_sem, g, lt, hb, h1, ib, eb, w1, ts1, ih, Int.toNat_natCast]; repeat' (first | (rw [guardO_t]; split <;> rename_i h <;> (try rw [Bool.not_eq_true] at h) <;> (try simp only [go_sem, c55_l0_a, g, lt, hb, h1, ib, eb, w1, ts1, ih, Int.toNat_natCast, *])) | (rw [guardO_f]; split <;> rename_i h <;> (try rw [Bool.not_eq_true] at h) <;> (try simp only [go_sem, c55_l0_a, g, lt, hb, h1, ib, eb, w1, ts1, ih, Int.toNat_natCast, *])) | (rw [cw_bool]; split <;> rename_i h <;> (try rw [Bool.not_eq_true] at h) <;> (try simp only [go_sem, c55_l0_a, g, lt, hb, h1, ib, eb, w1, ts1, ih, Int.toNat_natCast, *]))))
    | false =>
      rw [h] at eb
      have eb := eb.symm
      cases h5 : ((c.toNat : Int) == 59) with
      | true =>
        have m0 : 1 ≤ whileN (fun c => (c.toNat : Int) != 10) (c :: r) := by
          have : (c.toNat : Int) = 59 := by simpa using h5
          have : ((c.toNat : Int) != 10) = true := by rw [this]; decide
          simp [whileN, this]
        have wh := while_w (ot := ot) (oz := oz) q hq (fun c => (c.toNat : Int) != 10) 93 (line_w (ot := ot) (oz := oz)) (TT S q out err more ow i) S.obs.length i out err tt_get
        rw [hi] at wh
        have e : i + skipF (n + 1) (c :: r) = i + whileN (fun c => (c.toNat : Int) != 10) (c :: r) + skipF n ((c :: r).drop (whileN (fun c => (c.toNat : Int) != 10) (c :: r))) := by simp only [skipF, h, h5, if_true, Bool.false_eq_true, if_false]; omega
        rw [e]
        generalize whileN (fun c => (c.toNat : Int) != 10) (c :: r) = m at *
        obtain ⟨fr, ih⟩ := pass_gl q hq S out err more ow n ((c :: r).drop m) (i + m) (by rw [← hi, List.drop_drop]) (by simp only [List.length_drop, List.length_cons] at hn ⊢; omega)
        have ts2 := tt_set (S := S) (q := q) (out := out) (err := err) (more := more) (ow := ow) (i := i) (j := i + m)
        refine ⟨fr, fun fin st => ?_⟩
        have ih := ih fin st
        generalize TT S q out err more ow i = T at *
        (rw [c55_l0_w]; simp only [c55_l0_b, c55_l0_a, go_sem, g, lt, hb, h1, ib, eb, h5, wh, ts2, ih, Int.toNat_natCast]; repeat' (first | (rw [guardO_t]; split <;> rename_i h <;> (try rw [Bool.not_eq_true] at h) <;> (try simp only [go_sem, c55_l0_a, g, lt, hb, h1, ib, eb, h5, wh, ts2, ih, Int.toNat_natCast, *])) | (rw [guardO_f]; split <;> rename_i h <;> (try rw [Bool.not_eq_true] at h) <;> (try simp only [go_sem, c55_l0_a, g, lt, hb, h1, ib, eb, h5, wh, ts2, ih, Int.toNat_natCast, *])) | (rw [cw_bool]; split <;> rename_i h <;> (try rw [Bool.not_eq_true] at h) <;> (try simp only [go_sem, c55_l0_a, g, lt, hb, h1, ib, eb, h5, wh, ts2, ih, Int.toNat_natCast, *]))))
      | false =>
        have e : i + skipF (n + 1) (c :: r) = i := by simp only [skipF, h, h5, Bool.false_eq_true, if_false, Nat.add_zero]
        rw [e]
        refine ⟨[(0, some (.ref S.obs.length 0)), (31, some (.bool false))], fun fin st => ?_⟩
        generalize TT S q out err more ow i = T at *
        (rw [c55_l0_w]; simp only [c55_l0_b, c55_l0_a, go_sem, g, lt, hb, h1, ib, eb, h5, Int.toNat_natCast]; repeat' (first | (rw [guardO_t]; split <;> rename_i h <;> (try rw [Bool.not_eq_true] at h) <;> (try simp only [go_sem, c55_l0_a, g, lt, hb, h1, ib, eb, h5, Int.toNat_natCast, *])) | (rw [guardO_f]; split <;> rename_i h <;> (try rw [Bool.not_eq_true] at h) <;> (try simp only [go_sem, c55_l0_a, g, lt, hb, h1, ib, eb, h5, Int.toNat_natCast, *])) | (rw [cw_bool]; split <;> rename_i h <;> (try rw [Bool.not_eq_true] at h) <;> (try simp only [go_sem, c55_l0_a, g, lt, hb, h1, ib, eb, h5, Int.toNat_natCast, *]))))
end
end Go.PE
namespace Go.PE
open Go Go.RowKit Go.Proofs
set_option linter.unusedVariables false
set_option linter.unusedSimpArgs false
set_option maxRecDepth 100000
section
variable {ot : TypeId} {oz : EP}
def hexV (c : UInt8) : Int := Lib.indexByte [48, 49, 50, 51, 52, 53, 54, 55, 56, 57, 97, 98, 99, 100, 101, 102] c
theorem hexV_in (c : UInt8) : hexV c = -1 ∨ ∃ k : Nat, k < 16 ∧ hexV c = (k : Int) := by
  have h : ∀ n, n < 256 → hexV (UInt8.ofNat n) = -1 ∨ ∃ k : Nat, k < 16 ∧ hexV (UInt8.ofNat n) = (k : Int) := by
    have d : ∀ n, n < 256 → (hexV (UInt8.ofNat n) = -1 ∨ (0 ≤ hexV (UInt8.ofNat n) ∧ hexV (UInt8.ofNat n) < 16)) := by decide +kernel
    intro n hn
    rcases d n hn with e | ⟨e1, e2⟩
    · exact .inl e
    · exact .inr ⟨(hexV (UInt8.ofNat n)).toNat, by omega, by omega⟩
  have := h c.toNat c.toNat_lt
  have e : UInt8.ofNat c.toNat = c := by simp
  rw [e] at this
  exact this
def valL (l : List UInt8) (i : Nat) : Int := match l[i]? with | none => -1 | some c => hexV c
theorem valL_in (l : List UInt8) (i : Nat) : valL l i = -1 ∨ ∃ k : Nat, k < 16 ∧ valL l i = (k : Int) := by
  unfold valL
  split
  · exact .inl rfl
  · exact hexV_in _
theorem esc_vg (l : List UInt8) (i : Nat) (S : St) : cal (env ot oz) 123 [.int .i64 (i : Int), .at_ [.str (txt l)]] S = some (.int .i64 (valL l i), S) := by
  have sz : ((txt l).size : Int) = (l.length : Int) := by rw [txt_size]
  cases h : l[i]? with
  | none =>
    have hl := List.getElem?_eq_none_iff.1 h
    have h1 : decide ((l.length : Int) ≤ (i : Int)) = true := decide_eq_true (by omega)
    have e : valL l i = -1 := by unfold valL; rw [h]
    (rw [w_plain (fn := c123) rfl rfl (by simp only [go_sem, sz, h1, e]) rfl (by decide)]; simp only [c123, c123_b, go_sem, sz, h1, e]; repeat' (first | (rw [guardO_t]; split <;> rename_i h <;> (try rw [Bool.not_eq_true] at h) <;> (try simp only [go_sem, sz, h1, e, *])) | (rw [guardO_f]; split <;> rename_i h <;> (try rw [Bool.not_eq_true] at h) <;> (try simp only [go_sem, sz, h1, e, *])) | (rw [cw_bool]; split <;> rename_i h <;> (try rw [Bool.not_eq_true] at h) <;> (try simp only [go_sem, sz, h1, e, *]))))
  | some c =>
    have hl := getElem?_lt h
    have h1 : decide ((l.length : Int) ≤ (i : Int)) = false := decide_eq_false (by omega)
    have h2 : (0 : Int) ≤ (i : Int) ∧ (i : Int) < (l.length : Int) := by omega
    have h3 : (txt l).data.toList[i]? = some c := by rw [txt_data]; exact h
    have e : valL l i = hexV c := by unfold valL; rw [h]
    have b := ibyte (ot := ot) (oz := oz) ⟨#[48, 49, 50, 51, 52, 53, 54, 55, 56, 57, 97, 98, 99, 100, 101, 102]⟩ c
    have eb : Lib.indexByte [48, 49, 50, 51, 52, 53, 54, 55, 56, 57, 97, 98, 99, 100, 101, 102] c = valL l i := by rw [e]; rfl
    (rw [w_plain (fn := c123) rfl rfl (by simp only [go_sem, sz, h1, h2, h3, b, eb, Int.toNat_natCast]) rfl (by decide)]; simp only [c123, c123_b, go_sem, sz, h1, h2, h3, b, eb, Int.toNat_natCast]; repeat' (first | (rw [guardO_t]; split <;> rename_i h <;> (try rw [Bool.not_eq_true] at h) <;> (try simp only [go_sem, sz, h1, h2, h3, b, eb, Int.toNat_natCast, *])) | (rw [guardO_f]; split <;> rename_i h <;> (try rw [Bool.not_eq_true] at h) <;> (try simp only [go_sem, sz, h1, h2, h3, b, eb, Int.toNat_natCast, *])) | (rw [cw_bool]; split <;> rename_i h <;> (try rw [Bool.not_eq_true] at h) <;> (try simp only [go_sem, sz, h1, h2, h3, b, eb, Int.toNat_natCast, *]))))
/-- What a backslash tells: a byte, and how many bytes that takes. -/
def escG : List UInt8 → Nat × Nat
  | _ :: c :: r => if ((c.toNat : Int) == 34 || (c.toNat : Int) == 92) = true then (c.toNat, 2) else if ((c.toNat : Int) == 110) = true then (10, 2) else
      if ((c.toNat : Int) == 120) = true ∧ 0 ≤ valL r 0 ∧ 0 ≤ valL r 1 then ((valL r 0 * 16 + valL r 1).toNat, 4) else (0, 0)
  | _ => (0, 0)
theorem esc_g (l : List UInt8) (hl : l.length ≤ 100000) (S : St) : cal (env ot oz) 99 [.str (txt l)] S = some (.tup [.int .u8 ((escG l).1 : Int), .int .i64 ((escG l).2 : Int)], S) := by
  have sz : ((txt l).size : Int) = (l.length : Int) := by rw [txt_size]
  match l, hl, sz with
  | [], hl, sz => (rw [w_plain (fn := c99) rfl rfl (by simp only [go_sem, sz, escG]) rfl (by decide)]; simp only [c99, c99_b, c99_r5, c99_r9, go_sem, sz, escG]; repeat' (first | (rw [guardO_t]; split <;> rename_i h <;> (try rw [Bool.not_eq_true] at h) <;> (try simp only [go_sem, c99_r5, c99_r9, sz, escG, *])) | (rw [guardO_f]; split <;> rename_i h <;> (try rw [Bool.not_eq_true] at h) <;> (try simp only [go_sem, c99_r5, c99_r9, sz, escG, *])) | (rw [cw_bool]; split <;> rename_i h <;> (try rw [Bool.not_eq_true] at h) <;> (try simp only [go_sem, c99_r5, c99_r9, sz, escG, *]))))
  | [a], hl, sz => (rw [w_plain (fn := c99) rfl rfl (by simp only [go_sem, sz, escG]) rfl (by decide)]; simp only [c99, c99_b, c99_r5, c99_r9, go_sem, sz, escG]; repeat' (first | (rw [guardO_t]; split <;> rename_i h <;> (try rw [Bool.not_eq_true] at h) <;> (try simp only [go_sem, c99_r5, c99_r9, sz, escG, *])) | (rw [guardO_f]; split <;> rename_i h <;> (try rw [Bool.not_eq_true] at h) <;> (try simp only [go_sem, c99_r5, c99_r9, sz, escG, *])) | (rw [cw_bool]; split <;> rename_i h <;> (try rw [Bool.not_eq_true] at h) <;> (try simp only [go_sem, c99_r5, c99_r9, sz, escG, *]))))
  | a :: c :: r, hl, sz =>
    have sz : ((txt (a :: c :: r)).size : Int) = ((r.length + 2 : Nat) : Int) := by rw [txt_size]; rfl
    have h1 : decide (((r.length + 2 : Nat) : Int) < 2) = false := decide_eq_false (by omega)
    have h2 : (1 : Int) < ((r.length + 2 : Nat) : Int) := by omega
    have h3 : (txt (a :: c :: r)).data.toList[1]? = some c := by rw [txt_data]; rfl
    have v1 := esc_vg (ot := ot) (oz := oz) (a :: c :: r) 2
    have v2 := esc_vg (ot := ot) (oz := oz) (a :: c :: r) 3
    have e1 : valL (a :: c :: r) 2 = valL r 0 := rfl
    have e2 : valL (a :: c :: r) 3 = valL r 1 := rfl
    rw [e1] at v1; rw [e2] at v2
    simp only [Int.cast_ofNat_Int] at v1 v2
    have r1 : valL r 0 = -1 ∨ ∃ k : Nat, k < 16 ∧ valL r 0 = (k : Int) := valL_in r 0
    have r2 : valL r 1 = -1 ∨ ∃ k : Nat, k < 16 ∧ valL r 1 = (k : Int) := valL_in r 1
    have eg : escG (a :: c :: r) = if ((c.toNat : Int) == 34 || (c.toNat : Int) == 92) = true then (c.toNat, 2) else if ((c.toNat : Int) == 110) = true then (10, 2) else
      if ((c.toNat : Int) == 120) = true ∧ 0 ≤ valL r 0 ∧ 0 ≤ valL r 1 then ((valL r 0 * 16 + valL r 1).toNat, 4) else (0, 0) := rfl
    generalize escG (a :: c :: r) = eG at *
    generalize valL r 0 = x at *
    generalize valL r 1 = y at *
    cases q1 : ((c.toNat : Int) == 34) with
    | true => simp only [q1, Bool.true_or, if_true] at eg; subst eg; (rw [w_plain (fn := c99) rfl rfl (by simp only [go_sem, sz, h1, h2, h3, q1]) rfl (by decide)]; simp only [c99, c99_b, c99_r5, c99_r9, go_sem, sz, h1, h2, h3, q1]; repeat' (first | (rw [guardO_t]; split <;> rename_i h <;> (try rw [Bool.not_eq_true] at h) <;> (try simp only [go_sem, c99_r5, c99_r9, sz, h1, h2, h3, q1, *])) | (rw [guardO_f]; split <;> rename_i h <;> (try rw [Bool.not_eq_true] at h) <;> (try simp only [go_sem, c99_r5, c99_r9, sz, h1, h2, h3, q1, *])) | (rw [cw_bool]; split <;> rename_i h <;> (try rw [Bool.not_eq_true] at h) <;> (try simp only [go_sem, c99_r5, c99_r9, sz, h1, h2, h3, q1, *]))))
    | false =>
    cases q2 : ((c.toNat : Int) == 92) with
    | true => simp only [q1, q2, Bool.or_true, if_true] at eg; subst eg; (rw [w_plain (fn := c99) rfl rfl (by simp only [go_sem, sz, h1, h2, h3, q1, q2]) rfl (by decide)]; simp only [c99, c99_b, c99_r5, c99_r9, go_sem, sz, h1, h2, h3, q1, q2]; repeat' (first | (rw [guardO_t]; split <;> rename_i h <;> (try rw [Bool.not_eq_true] at h) <;> (try simp only [go_sem, c99_r5, c99_r9, sz, h1, h2, h3, q1, q2, *])) | (rw [guardO_f]; split <;> rename_i h <;> (try rw [Bool.not_eq_true] at h) <;> (try simp only [go_sem, c99_r5, c99_r9, sz, h1, h2, h3, q1, q2, *])) | (rw [cw_bool]; split <;> rename_i h <;> (try rw [Bool.not_eq_true] at h) <;> (try simp only [go_sem, c99_r5, c99_r9, sz, h1, h2, h3, q1, q2, *]))))
    | false =>
    cases q3 : ((c.toNat : Int) == 110) with
    | true => simp only [q1, q2, q3, Bool.or_self, Bool.false_eq_true, if_false, if_true] at eg; subst eg; (rw [w_plain (fn := c99) rfl rfl (by simp only [go_sem, sz, h1, h2, h3, q1, q2, q3]) rfl (by decide)]; simp only [c99, c99_b, c99_r5, c99_r9, go_sem, sz, h1, h2, h3, q1, q2, q3]; repeat' (first | (rw [guardO_t]; split <;> rename_i h <;> (try rw [Bool.not_eq_true] at h) <;> (try simp only [go_sem, c99_r5, c99_r9, sz, h1, h2, h3, q1, q2, q3, *])) | (rw [guardO_f]; split <;> rename_i h <;> (try rw [Bool.not_eq_true] at h) <;> (try simp only [go_sem, c99_r5, c99_r9, sz, h1, h2, h3, q1, q2, q3, *])) | (rw [cw_bool]; split <;> rename_i h <;> (try rw [Bool.not_eq_true] at h) <;> (try simp only [go_sem, c99_r5, c99_r9, sz, h1, h2, h3, q1, q2, q3, *]))))
    | false =>
    cases q4 : ((c.toNat : Int) == 120) with
    | false => simp only [q1, q2, q3, q4, Bool.or_self, Bool.false_eq_true, if_false, false_and] at eg; subst eg; (rw [w_plain (fn := c99) rfl rfl (by simp only [go_sem, sz, h1, h2, h3, q1, q2, q3, q4]) rfl (by decide)]; simp only [c99, c99_b, c99_r5, c99_r9, go_sem, sz, h1, h2, h3, q1, q2, q3, q4]; repeat' (first | (rw [guardO_t]; split <;> rename_i h <;> (try rw [Bool.not_eq_true] at h) <;> (try simp only [go_sem, c99_r5, c99_r9, sz, h1, h2, h3, q1, q2, q3, q4, *])) | (rw [guardO_f]; split <;> rename_i h <;> (try rw [Bool.not_eq_true] at h) <;> (try simp only [go_sem, c99_r5, c99_r9, sz, h1, h2, h3, q1, q2, q3, q4, *])) | (rw [cw_bool]; split <;> rename_i h <;> (try rw [Bool.not_eq_true] at h) <;> (try simp only [go_sem, c99_r5, c99_r9, sz, h1, h2, h3, q1, q2, q3, q4, *]))))
    | true =>
    rcases r1 with rfl | ⟨k1, hk1, rfl⟩
    · have eg : eG = (0, 0) := by rw [eg]; simp [q1, q2, q3, q4]
      subst eg
      have d1 : decide ((0 : Int) ≤ -1) = false := by decide
      (rw [w_plain (fn := c99) rfl rfl (by simp only [go_sem, sz, h1, h2, h3, q1, q2, q3, q4, v1, d1]) rfl (by decide)]; simp only [c99, c99_b, c99_r5, c99_r9, go_sem, sz, h1, h2, h3, q1, q2, q3, q4, v1, d1]; repeat' (first | (rw [guardO_t]; split <;> rename_i h <;> (try rw [Bool.not_eq_true] at h) <;> (try simp only [go_sem, c99_r5, c99_r9, sz, h1, h2, h3, q1, q2, q3, q4, v1, d1, *])) | (rw [guardO_f]; split <;> rename_i h <;> (try rw [Bool.not_eq_true] at h) <;> (try simp only [go_sem, c99_r5, c99_r9, sz, h1, h2, h3, q1, q2, q3, q4, v1, d1, *])) | (rw [cw_bool]; split <;> rename_i h <;> (try rw [Bool.not_eq_true] at h) <;> (try simp only [go_sem, c99_r5, c99_r9, sz, h1, h2, h3, q1, q2, q3, q4, v1, d1, *]))))
    · have d1 : decide ((0 : Int) ≤ (k1 : Int)) = true := decide_eq_true (by omega)
      rcases r2 with rfl | ⟨k2, hk2, rfl⟩
      · have eg : eG = (0, 0) := by rw [eg]; simp [q1, q2, q3, q4]
        subst eg
        have d2 : decide ((0 : Int) ≤ -1) = false := by decide
        (rw [w_plain (fn := c99) rfl rfl (by simp only [go_sem, sz, h1, h2, h3, q1, q2, q3, q4, v1, d1, v2, d2]) rfl (by decide)]; simp only [c99, c99_b, c99_r5, c99_r9, go_sem, sz, h1, h2, h3, q1, q2, q3, q4, v1, d1, v2, d2]; repeat' (first | (rw [guardO_t]; split <;> rename_i h <;> (try rw [Bool.not_eq_true] at h) <;> (try simp only [go_sem, c99_r5, c99_r9, sz, h1, h2, h3, q1, q2, q3, q4, v1, d1, v2, d2, *])) | (rw [guardO_f]; split <;> rename_i h <;> (try rw [Bool.not_eq_true] at h) <;> (try simp only [go_sem, c99_r5, c99_r9, sz, h1, h2, h3, q1, q2, q3, q4, v1, d1, v2, d2, *])) | (rw [cw_bool]; split <;> rename_i h <;> (try rw [Bool.not_eq_true] at h) <;> (try simp only [go_sem, c99_r5, c99_r9, sz, h1, h2, h3, q1, q2, q3, q4, v1, d1, v2, d2, *]))))
      · have d2 : decide ((0 : Int) ≤ (k2 : Int)) = true := decide_eq_true (by omega)
        have eg : eG = (k1 * 16 + k2, 4) := by
          rw [eg, if_neg (by simp [q1, q2]), if_neg (by simp [q3]), if_pos ⟨q4, by omega, by omega⟩]
          congr 1
        subst eg
        have f1 : (k1 * 16 + k2) / 16 = k1 := by omega
        have f2 : (k1 * 16 + k2) % 16 = k2 := by omega
        have s1 := shl4 (k1 * 16 + k2) (by omega)
        have s2 := or16 (k1 * 16 + k2) (by omega)
        rw [f1] at s1 s2
        rw [f2] at s2
        have w : IntKind.u8.wrap ((k1 * 16 + k2 : Nat) : Int) = ((k1 * 16 + k2 : Nat) : Int) := IntWalk.u8_in _ ⟨by omega, by omega⟩
        (rw [w_plain (fn := c99) rfl rfl (by simp only [go_sem, sz, h1, h2, h3, q1, q2, q3, q4, v1, d1, v2, d2, ↓s1, ↓s2, w]) rfl (by decide)]; simp only [c99, c99_b, c99_r5, c99_r9, go_sem, sz, h1, h2, h3, q1, q2, q3, q4, v1, d1, v2, d2, ↓s1, ↓s2, w]; repeat' (first | (rw [guardO_t]; split <;> rename_i h <;> (try rw [Bool.not_eq_true] at h) <;> (try simp only [go_sem, c99_r5, c99_r9, sz, h1, h2, h3, q1, q2, q3, q4, v1, d1, v2, d2, ↓s1, ↓s2, w, *])) | (rw [guardO_f]; split <;> rename_i h <;> (try rw [Bool.not_eq_true] at h) <;> (try simp only [go_sem, c99_r5, c99_r9, sz, h1, h2, h3, q1, q2, q3, q4, v1, d1, v2, d2, ↓s1, ↓s2, w, *])) | (rw [cw_bool]; split <;> rename_i h <;> (try rw [Bool.not_eq_true] at h) <;> (try simp only [go_sem, c99_r5, c99_r9, sz, h1, h2, h3, q1, q2, q3, q4, v1, d1, v2, d2, ↓s1, ↓s2, w, *]))))
end
end Go.PE
