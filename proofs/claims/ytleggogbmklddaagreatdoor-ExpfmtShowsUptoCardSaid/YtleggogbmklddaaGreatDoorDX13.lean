/-
  How much definitions have: some number. Conditions: each law's own.
-/
import Derived.Test.YtleggogbmklddaaGreatDoorMuch
import Derived.Test.YtleggogbmklddaaGreatDoorEX1
namespace Go.PE
open Go Go.RowKit Go.Proofs
set_option linter.unusedVariables false
set_option linter.unusedSimpArgs false
set_option maxRecDepth 100000
section
variable {ot : TypeId} {oz : EP}
theorem muchE_n : ∀ (e : GExp), OkExp e → ∃ n : Int, ∀ S, cal (env ot oz) 6 [.agg (rExp e)] S = some (.int .i64 n, S) := by
  refine GExp.ind fun e ih oe => ?_
  have hk : Short e.Kids.length ∧ ∀ x ∈ e.Kids, OkExp x := by cases oe; exact ⟨by assumption, by assumption⟩
  have ht : Short e.Types.length ∧ ∀ x ∈ e.Types, OkTy x := by cases oe; assumption
  have hl : Short e.Labels.length := by cases oe; exact (by assumption : _ ∧ _).1
  obtain ⟨i1, n1, f1⟩ := loopT (E := (env ot oz)) (c := c6_l0) e.Labels hl (fun i (n : Int) => [(1, some (.at_ (rExp e))), (3, some (.int .i64 n)), (4, some (.int .i64 (i : Int)))])
    (fun i n S fin st => aft (env ot oz) fin st (.exit 0) [(1, some (.at_ (rExp e))), (3, some (.int .i64 n)), (4, some (.int .i64 (i : Int))), (24, some (.bool false))] S)
    (fun i n s h1 h2 h3 h4 => by
      by_cases q : (i : Int) < 1000
      · refine .inl ⟨w64 (n + w64 ((s.size : Int).tdiv 8)), fun S fin st => ?_⟩
        (rw [c6_l0_w]; simp only [c6_l0_b, c6_l0_a, c6_r3, c6_r7, c6_r11, go_sem, h1, h3, h4, q]; repeat' (first | (rw [guardO_t]; split <;> rename_i h <;> (try rw [Bool.not_eq_true] at h) <;> (try simp only [go_sem, c6_r3, c6_r7, c6_r11, c6_l0_a, h1, h3, h4, q, *])) | (rw [guardO_f]; split <;> rename_i h <;> (try rw [Bool.not_eq_true] at h) <;> (try simp only [go_sem, c6_r3, c6_r7, c6_r11, c6_l0_a, h1, h3, h4, q, *])) | (rw [cw_bool]; split <;> rename_i h <;> (try rw [Bool.not_eq_true] at h) <;> (try simp only [go_sem, c6_r3, c6_r7, c6_r11, c6_l0_a, h1, h3, h4, q, *]))))
      · refine .inr ⟨i, n, fun S fin st => ?_⟩
        (rw [c6_l0_w]; simp only [c6_l0_b, c6_l0_a, c6_r3, c6_r7, c6_r11, go_sem, h1, h3, h4, q]; repeat' (first | (rw [guardO_t]; split <;> rename_i h <;> (try rw [Bool.not_eq_true] at h) <;> (try simp only [go_sem, c6_r3, c6_r7, c6_r11, c6_l0_a, h1, h3, h4, q, *])) | (rw [guardO_f]; split <;> rename_i h <;> (try rw [Bool.not_eq_true] at h) <;> (try simp only [go_sem, c6_r3, c6_r7, c6_r11, c6_l0_a, h1, h3, h4, q, *])) | (rw [cw_bool]; split <;> rename_i h <;> (try rw [Bool.not_eq_true] at h) <;> (try simp only [go_sem, c6_r3, c6_r7, c6_r11, c6_l0_a, h1, h3, h4, q, *])))))
    (fun n => ⟨e.Labels.length, n, fun S fin st => by (rw [c6_l0_w]; simp only [c6_l0_b, c6_l0_a, c6_r3, c6_r7, c6_r11, go_sem]; repeat' (first | (rw [guardO_t]; split <;> rename_i h <;> (try rw [Bool.not_eq_true] at h) <;> (try simp only [go_sem, c6_r3, c6_r7, c6_r11, c6_l0_a, *])) | (rw [guardO_f]; split <;> rename_i h <;> (try rw [Bool.not_eq_true] at h) <;> (try simp only [go_sem, c6_r3, c6_r7, c6_r11, c6_l0_a, *])) | (rw [cw_bool]; split <;> rename_i h <;> (try rw [Bool.not_eq_true] at h) <;> (try simp only [go_sem, c6_r3, c6_r7, c6_r11, c6_l0_a, *]))))⟩) (w64 (w64 (1 + w64 ((e.Name.size : Int).tdiv 8)) + (e.Labels.length : Int)))
  obtain ⟨i2, n2, f2⟩ := loopT (E := (env ot oz)) (c := c6_l1) e.Types ht.1 (fun i (n : Int) => [(1, some (.at_ (rExp e))), (3, some (.int .i64 n)), (5, some (.int .i64 (i : Int)))])
    (fun i n S fin st => aft (env ot oz) fin st (.exit 2) [(1, some (.at_ (rExp e))), (3, some (.int .i64 n)), (5, some (.int .i64 (i : Int))), (44, some (.bool false))] S)
    (fun i n t h1 h2 h3 h4 => by
      have m := fun S => cal_ans (muchT_ok (ot := ot) (oz := oz) t (ht.2 t h2)) (S := S)
      by_cases q : n < 3000
      · refine .inl ⟨w64 (n + muchT t), fun S fin st => ?_⟩
        (rw [c6_l1_w]; simp only [c6_l1_b, c6_l1_a, c6_r3, c6_r7, c6_r11, go_sem, h1, h3, h4, q, m]; repeat' (first | (rw [guardO_t]; split <;> rename_i h <;> (try rw [Bool.not_eq_true] at h) <;> (try simp only [go_sem, c6_r3, c6_r7, c6_r11, c6_l1_a, h1, h3, h4, q, m, *])) | (rw [guardO_f]; split <;> rename_i h <;> (try rw [Bool.not_eq_true] at h) <;> (try simp only [go_sem, c6_r3, c6_r7, c6_r11, c6_l1_a, h1, h3, h4, q, m, *])) | (rw [cw_bool]; split <;> rename_i h <;> (try rw [Bool.not_eq_true] at h) <;> (try simp only [go_sem, c6_r3, c6_r7, c6_r11, c6_l1_a, h1, h3, h4, q, m, *]))))
      · refine .inr ⟨i, n, fun S fin st => ?_⟩
        (rw [c6_l1_w]; simp only [c6_l1_b, c6_l1_a, c6_r3, c6_r7, c6_r11, go_sem, h1, h3, h4, q]; repeat' (first | (rw [guardO_t]; split <;> rename_i h <;> (try rw [Bool.not_eq_true] at h) <;> (try simp only [go_sem, c6_r3, c6_r7, c6_r11, c6_l1_a, h1, h3, h4, q, *])) | (rw [guardO_f]; split <;> rename_i h <;> (try rw [Bool.not_eq_true] at h) <;> (try simp only [go_sem, c6_r3, c6_r7, c6_r11, c6_l1_a, h1, h3, h4, q, *])) | (rw [cw_bool]; split <;> rename_i h <;> (try rw [Bool.not_eq_true] at h) <;> (try simp only [go_sem, c6_r3, c6_r7, c6_r11, c6_l1_a, h1, h3, h4, q, *])))))
    (fun n => ⟨e.Types.length, n, fun S fin st => by (rw [c6_l1_w]; simp only [c6_l1_b, c6_l1_a, c6_r3, c6_r7, c6_r11, go_sem]; repeat' (first | (rw [guardO_t]; split <;> rename_i h <;> (try rw [Bool.not_eq_true] at h) <;> (try simp only [go_sem, c6_r3, c6_r7, c6_r11, c6_l1_a, *])) | (rw [guardO_f]; split <;> rename_i h <;> (try rw [Bool.not_eq_true] at h) <;> (try simp only [go_sem, c6_r3, c6_r7, c6_r11, c6_l1_a, *])) | (rw [cw_bool]; split <;> rename_i h <;> (try rw [Bool.not_eq_true] at h) <;> (try simp only [go_sem, c6_r3, c6_r7, c6_r11, c6_l1_a, *]))))⟩) n1
  obtain ⟨i3, n3, f3⟩ := loopT (E := (env ot oz)) (c := c6_l2) e.Kids hk.1 (fun i (n : Int) => [(1, some (.at_ (rExp e))), (3, some (.int .i64 n)), (6, some (.int .i64 (i : Int)))])
    (fun i n S fin st => aft (env ot oz) fin st (.exit 4) [(1, some (.at_ (rExp e))), (3, some (.int .i64 n)), (6, some (.int .i64 (i : Int))), (63, some (.bool false))] S)
    (fun i n k h1 h2 h3 h4 => by
      obtain ⟨v, m⟩ := ih k h2 (hk.2 k h2)
      by_cases q : n < 3000
      · refine .inl ⟨w64 (n + v), fun S fin st => ?_⟩
        (rw [c6_l2_w]; simp only [c6_l2_b, c6_l2_a, c6_r3, c6_r7, c6_r11, go_sem, h1, h3, h4, q, m]; repeat' (first | (rw [guardO_t]; split <;> rename_i h <;> (try rw [Bool.not_eq_true] at h) <;> (try simp only [go_sem, c6_r3, c6_r7, c6_r11, c6_l2_a, h1, h3, h4, q, m, *])) | (rw [guardO_f]; split <;> rename_i h <;> (try rw [Bool.not_eq_true] at h) <;> (try simp only [go_sem, c6_r3, c6_r7, c6_r11, c6_l2_a, h1, h3, h4, q, m, *])) | (rw [cw_bool]; split <;> rename_i h <;> (try rw [Bool.not_eq_true] at h) <;> (try simp only [go_sem, c6_r3, c6_r7, c6_r11, c6_l2_a, h1, h3, h4, q, m, *]))))
      · refine .inr ⟨i, n, fun S fin st => ?_⟩
        (rw [c6_l2_w]; simp only [c6_l2_b, c6_l2_a, c6_r3, c6_r7, c6_r11, go_sem, h1, h3, h4, q]; repeat' (first | (rw [guardO_t]; split <;> rename_i h <;> (try rw [Bool.not_eq_true] at h) <;> (try simp only [go_sem, c6_r3, c6_r7, c6_r11, c6_l2_a, h1, h3, h4, q, *])) | (rw [guardO_f]; split <;> rename_i h <;> (try rw [Bool.not_eq_true] at h) <;> (try simp only [go_sem, c6_r3, c6_r7, c6_r11, c6_l2_a, h1, h3, h4, q, *])) | (rw [cw_bool]; split <;> rename_i h <;> (try rw [Bool.not_eq_true] at h) <;> (try simp only [go_sem, c6_r3, c6_r7, c6_r11, c6_l2_a, h1, h3, h4, q, *])))))
    (fun n => ⟨e.Kids.length, n, fun S fin st => by (rw [c6_l2_w]; simp only [c6_l2_b, c6_l2_a, c6_r3, c6_r7, c6_r11, go_sem]; repeat' (first | (rw [guardO_t]; split <;> rename_i h <;> (try rw [Bool.not_eq_true] at h) <;> (try simp only [go_sem, c6_r3, c6_r7, c6_r11, c6_l2_a, *])) | (rw [guardO_f]; split <;> rename_i h <;> (try rw [Bool.not_eq_true] at h) <;> (try simp only [go_sem, c6_r3, c6_r7, c6_r11, c6_l2_a, *])) | (rw [cw_bool]; split <;> rename_i h <;> (try rw [Bool.not_eq_true] at h) <;> (try simp only [go_sem, c6_r3, c6_r7, c6_r11, c6_l2_a, *]))))⟩) n2
  simp only [Int.cast_ofNat_Int] at f1 f2 f3
  refine ⟨n3, fun S => ?_⟩
  (rw [w_plain (fn := c6) rfl rfl (by simp only [go_sem, f1, f2, f3]) rfl (by decide)]; simp only [c6, c6_b, c6_r3, c6_r7, c6_r11, go_sem, f1, f2, f3]; repeat' (first | (rw [guardO_t]; split <;> rename_i h <;> (try rw [Bool.not_eq_true] at h) <;> (try simp only [go_sem, c6_r3, c6_r7, c6_r11, f1, f2, f3, *])) | (rw [guardO_f]; split <;> rename_i h <;> (try rw [Bool.not_eq_true] at h) <;> (try simp only [go_sem, c6_r3, c6_r7, c6_r11, f1, f2, f3, *])) | (rw [cw_bool]; split <;> rename_i h <;> (try rw [Bool.not_eq_true] at h) <;> (try simp only [go_sem, c6_r3, c6_r7, c6_r11, f1, f2, f3, *]))))
end
end Go.PE
