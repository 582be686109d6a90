/-
  Expressions and definitions that are right, by the document: the whole. Conditions: each law's own (numbers of nodes that do not wrap).
-/
import Derived.Test.YtleggogbmklddaaGreatDoorEX1
namespace Go.PE
open Go Go.RowKit Go.Proofs
set_option linter.unusedVariables false
set_option linter.unusedSimpArgs false
set_option maxRecDepth 100000
/-- A list of texts that grows (names). -/
def nG (S : St) (out : List ByteArray) : Tag := accG .null S 9 (out.map rStr)
def nS (S : St) (out : List ByteArray) : St := accS S 1 [] (out.map rStr)
theorem nG_nil (S : St) : nG S [] = .null := rfl
theorem nStr_app (S : St) (out : List ByteArray) (s : ByteArray) (h : out.length + 1 ≤ 8000000000000) : appP (nS S out) 9 1 16 (nG S out) (out.map rStr) [[.str s]] = some (.sl (nG S (out ++ [s])) ((out ++ [s]).map rStr), nS S (out ++ [s])) := by
  have := acc_app (g0 := .null) (.inl rfl) S 9 1 16 [] (out.map rStr) [[.str s]] (by simp) (by omega) (by simp; omega) (by simp; omega) (by simp only [List.nil_append]; exact rStr_ok _) (by simp [headOk])
  simp only [List.nil_append] at this
  unfold nS nG
  rw [this, List.map_append]; rfl
section
variable {ot : TypeId} {oz : EP}
theorem types14 (l : List GTy) (hl : Short l.length) (ok : ∀ t ∈ l, OkTy t) (g : Tag) (S : St) : cal (env ot oz) 70 [.sl g (l.map rTy)] S = some (.bool (typesOk l), S) := by
  refine cal_tag1 ?_ (fun n d => rTy_sll n d l)
  have f0 := fun fin st => loopA (E := (env ot oz)) (S := S) (c := c70_l0) l hl (fun i => [(0, some (.sl .ro (l.map rTy))), (3, some (.int .i64 (i : Int)))]) (fun t => !(rightT t && !(hasT 9 t))) fin st
    (aft (env ot oz) fin st .ret [(2, some (.bool false))] S) (aft (env ot oz) fin st (.exit 0) [(0, some (.sl .ro (l.map rTy))), (3, some (.int .i64 (l.length : Int))), (7, some (.bool false))] S)
    (fun i a h1 h2 h3 h4 h5 => by
      have r := fun S => cal_ans (right04_ok (ot := ot) (oz := oz) a (ok a h2)) (S := S)
      have c := has04 (ot := ot) (oz := oz) 9 a (ok a h2)
      simp only [Bool.not_eq_false', Bool.and_eq_true, Bool.not_eq_true'] at h5
      obtain ⟨h5, h6⟩ := h5
      (rw [c70_l0_w]; simp only [c70_l0_b, c70_l0_a, c70_r4, go_sem, h1, h3, h4, h5, h6, r, c]; repeat' (first | (rw [guardO_t]; split <;> rename_i h <;> (try rw [Bool.not_eq_true] at h) <;> (try simp only [go_sem, c70_r4, c70_l0_a, h1, h3, h4, h5, h6, r, c, *])) | (rw [guardO_f]; split <;> rename_i h <;> (try rw [Bool.not_eq_true] at h) <;> (try simp only [go_sem, c70_r4, c70_l0_a, h1, h3, h4, h5, h6, r, c, *])) | (rw [cw_bool]; split <;> rename_i h <;> (try rw [Bool.not_eq_true] at h) <;> (try simp only [go_sem, c70_r4, c70_l0_a, h1, h3, h4, h5, h6, r, c, *])))))
    (fun i a h1 h2 h3 h4 h5 => by
      have r := fun S => cal_ans (right04_ok (ot := ot) (oz := oz) a (ok a h2)) (S := S)
      have c := has04 (ot := ot) (oz := oz) 9 a (ok a h2)
      cases q1 : rightT a with
      | false => (rw [c70_l0_w]; simp only [c70_l0_b, c70_l0_a, c70_r4, go_sem, h1, h3, h4, q1, r]; repeat' (first | (rw [guardO_t]; split <;> rename_i h <;> (try rw [Bool.not_eq_true] at h) <;> (try simp only [go_sem, c70_r4, c70_l0_a, h1, h3, h4, q1, r, *])) | (rw [guardO_f]; split <;> rename_i h <;> (try rw [Bool.not_eq_true] at h) <;> (try simp only [go_sem, c70_r4, c70_l0_a, h1, h3, h4, q1, r, *])) | (rw [cw_bool]; split <;> rename_i h <;> (try rw [Bool.not_eq_true] at h) <;> (try simp only [go_sem, c70_r4, c70_l0_a, h1, h3, h4, q1, r, *]))))
      | true =>
        rw [q1] at h5
        simp only [Bool.true_and, Bool.not_not] at h5
        (rw [c70_l0_w]; simp only [c70_l0_b, c70_l0_a, c70_r4, go_sem, h1, h3, h4, h5, q1, r, c]; repeat' (first | (rw [guardO_t]; split <;> rename_i h <;> (try rw [Bool.not_eq_true] at h) <;> (try simp only [go_sem, c70_r4, c70_l0_a, h1, h3, h4, h5, q1, r, c, *])) | (rw [guardO_f]; split <;> rename_i h <;> (try rw [Bool.not_eq_true] at h) <;> (try simp only [go_sem, c70_r4, c70_l0_a, h1, h3, h4, h5, q1, r, c, *])) | (rw [cw_bool]; split <;> rename_i h <;> (try rw [Bool.not_eq_true] at h) <;> (try simp only [go_sem, c70_r4, c70_l0_a, h1, h3, h4, h5, q1, r, c, *])))))
    (by (rw [c70_l0_w]; simp only [c70_l0_b, c70_l0_a, c70_r4, go_sem]; repeat' (first | (rw [guardO_t]; split <;> rename_i h <;> (try rw [Bool.not_eq_true] at h) <;> (try simp only [go_sem, c70_r4, c70_l0_a, *])) | (rw [guardO_f]; split <;> rename_i h <;> (try rw [Bool.not_eq_true] at h) <;> (try simp only [go_sem, c70_r4, c70_l0_a, *])) | (rw [cw_bool]; split <;> rename_i h <;> (try rw [Bool.not_eq_true] at h) <;> (try simp only [go_sem, c70_r4, c70_l0_a, *])))))
  simp only [Int.cast_ofNat_Int] at f0
  have e : (l.any fun t => !(rightT t && !(hasT 9 t))) = !(typesOk l) := by unfold typesOk; rw [List.not_all_eq_any_not]
  rw [e] at f0
  cases q : typesOk l <;> simp only [q, if_true, if_false, Bool.false_eq_true, Bool.not_true, Bool.not_false] at f0 <;> (rw [w_plain (fn := c70) rfl rfl (by simp only [go_sem, f0]) rfl (by decide)]; simp only [c70, c70_b, c70_r4, go_sem, f0]; repeat' (first | (rw [guardO_t]; split <;> rename_i h <;> (try rw [Bool.not_eq_true] at h) <;> (try simp only [go_sem, c70_r4, f0, *])) | (rw [guardO_f]; split <;> rename_i h <;> (try rw [Bool.not_eq_true] at h) <;> (try simp only [go_sem, c70_r4, f0, *])) | (rw [cw_bool]; split <;> rename_i h <;> (try rw [Bool.not_eq_true] at h) <;> (try simp only [go_sem, c70_r4, f0, *]))))
theorem shape14_1 (e : GExp) (hK : e.K = 1) (S : St) : cal (env ot oz) 82 [.agg (rExp e)] S = some (.tup [.int .i64 0, .int .i64 0, .int .i64 0, .int .i64 0], S) := by
  (rw [w_plain (fn := c82) rfl rfl (by simp only [go_sem, hK]) rfl (by decide)]; simp only [c82, c82_b, go_sem, hK]; repeat' (first | (rw [guardO_t]; split <;> rename_i h <;> (try rw [Bool.not_eq_true] at h) <;> (try simp only [go_sem, hK, *])) | (rw [guardO_f]; split <;> rename_i h <;> (try rw [Bool.not_eq_true] at h) <;> (try simp only [go_sem, hK, *])) | (rw [cw_bool]; split <;> rename_i h <;> (try rw [Bool.not_eq_true] at h) <;> (try simp only [go_sem, hK, *]))))
theorem shape14_2 (e : GExp) (hK : e.K = 2) (S : St) : cal (env ot oz) 82 [.agg (rExp e)] S = some (.tup [.int .i64 0, .int .i64 0, .int .i64 0, .int .i64 0], S) := by
  (rw [w_plain (fn := c82) rfl rfl (by simp only [go_sem, hK]) rfl (by decide)]; simp only [c82, c82_b, go_sem, hK]; repeat' (first | (rw [guardO_t]; split <;> rename_i h <;> (try rw [Bool.not_eq_true] at h) <;> (try simp only [go_sem, hK, *])) | (rw [guardO_f]; split <;> rename_i h <;> (try rw [Bool.not_eq_true] at h) <;> (try simp only [go_sem, hK, *])) | (rw [cw_bool]; split <;> rename_i h <;> (try rw [Bool.not_eq_true] at h) <;> (try simp only [go_sem, hK, *]))))
theorem shape14_3 (e : GExp) (hK : e.K = 3) (S : St) : cal (env ot oz) 82 [.agg (rExp e)] S = some (.tup [.int .i64 0, .int .i64 0, .int .i64 0, .int .i64 0], S) := by
  (rw [w_plain (fn := c82) rfl rfl (by simp only [go_sem, hK]) rfl (by decide)]; simp only [c82, c82_b, go_sem, hK]; repeat' (first | (rw [guardO_t]; split <;> rename_i h <;> (try rw [Bool.not_eq_true] at h) <;> (try simp only [go_sem, hK, *])) | (rw [guardO_f]; split <;> rename_i h <;> (try rw [Bool.not_eq_true] at h) <;> (try simp only [go_sem, hK, *])) | (rw [cw_bool]; split <;> rename_i h <;> (try rw [Bool.not_eq_true] at h) <;> (try simp only [go_sem, hK, *]))))
theorem shape14_4 (e : GExp) (hK : e.K = 4) (S : St) : cal (env ot oz) 82 [.agg (rExp e)] S = some (.tup [.int .i64 0, .int .i64 0, .int .i64 0, .int .i64 0], S) := by
  (rw [w_plain (fn := c82) rfl rfl (by simp only [go_sem, hK]) rfl (by decide)]; simp only [c82, c82_b, go_sem, hK]; repeat' (first | (rw [guardO_t]; split <;> rename_i h <;> (try rw [Bool.not_eq_true] at h) <;> (try simp only [go_sem, hK, *])) | (rw [guardO_f]; split <;> rename_i h <;> (try rw [Bool.not_eq_true] at h) <;> (try simp only [go_sem, hK, *])) | (rw [cw_bool]; split <;> rename_i h <;> (try rw [Bool.not_eq_true] at h) <;> (try simp only [go_sem, hK, *]))))
theorem shape14_5 (e : GExp) (hK : e.K = 5) (S : St) : cal (env ot oz) 82 [.agg (rExp e)] S = some (.tup [.int .i64 0, .int .i64 1, .int .i64 2, .int .i64 2], S) := by
  (rw [w_plain (fn := c82) rfl rfl (by simp only [go_sem, hK]) rfl (by decide)]; simp only [c82, c82_b, go_sem, hK]; repeat' (first | (rw [guardO_t]; split <;> rename_i h <;> (try rw [Bool.not_eq_true] at h) <;> (try simp only [go_sem, hK, *])) | (rw [guardO_f]; split <;> rename_i h <;> (try rw [Bool.not_eq_true] at h) <;> (try simp only [go_sem, hK, *])) | (rw [cw_bool]; split <;> rename_i h <;> (try rw [Bool.not_eq_true] at h) <;> (try simp only [go_sem, hK, *]))))
theorem shape14_6 (e : GExp) (hK : e.K = 6) (S : St) : cal (env ot oz) 82 [.agg (rExp e)] S = some (.tup [.int .i64 0, .int .i64 0, .int .i64 3, .int .i64 3], S) := by
  (rw [w_plain (fn := c82) rfl rfl (by simp only [go_sem, hK]) rfl (by decide)]; simp only [c82, c82_b, go_sem, hK]; repeat' (first | (rw [guardO_t]; split <;> rename_i h <;> (try rw [Bool.not_eq_true] at h) <;> (try simp only [go_sem, hK, *])) | (rw [guardO_f]; split <;> rename_i h <;> (try rw [Bool.not_eq_true] at h) <;> (try simp only [go_sem, hK, *])) | (rw [cw_bool]; split <;> rename_i h <;> (try rw [Bool.not_eq_true] at h) <;> (try simp only [go_sem, hK, *]))))
theorem shape14_7 (e : GExp) (hK : e.K = 7) (S : St) : cal (env ot oz) 82 [.agg (rExp e)] S = some (.tup [.int .i64 0, .int .i64 1, .int .i64 1, .int .i64 1], S) := by
  (rw [w_plain (fn := c82) rfl rfl (by simp only [go_sem, hK]) rfl (by decide)]; simp only [c82, c82_b, go_sem, hK]; repeat' (first | (rw [guardO_t]; split <;> rename_i h <;> (try rw [Bool.not_eq_true] at h) <;> (try simp only [go_sem, hK, *])) | (rw [guardO_f]; split <;> rename_i h <;> (try rw [Bool.not_eq_true] at h) <;> (try simp only [go_sem, hK, *])) | (rw [cw_bool]; split <;> rename_i h <;> (try rw [Bool.not_eq_true] at h) <;> (try simp only [go_sem, hK, *]))))
theorem shape14_8 (e : GExp) (hK : e.K = 8) (S : St) : cal (env ot oz) 82 [.agg (rExp e)] S = some (.tup [.int .i64 0, .int .i64 0, .int .i64 2, .int .i64 2], S) := by
  (rw [w_plain (fn := c82) rfl rfl (by simp only [go_sem, hK]) rfl (by decide)]; simp only [c82, c82_b, go_sem, hK]; repeat' (first | (rw [guardO_t]; split <;> rename_i h <;> (try rw [Bool.not_eq_true] at h) <;> (try simp only [go_sem, hK, *])) | (rw [guardO_f]; split <;> rename_i h <;> (try rw [Bool.not_eq_true] at h) <;> (try simp only [go_sem, hK, *])) | (rw [cw_bool]; split <;> rename_i h <;> (try rw [Bool.not_eq_true] at h) <;> (try simp only [go_sem, hK, *]))))
theorem shape14_9 (e : GExp) (hK : e.K = 9) (S : St) : cal (env ot oz) 82 [.agg (rExp e)] S = some (.tup [.int .i64 0, .int .i64 0, .int .i64 (e.Labels.length : Int), .int .i64 (e.Labels.length : Int)], S) := by
  (rw [w_plain (fn := c82) rfl rfl (by simp only [go_sem, hK]) rfl (by decide)]; simp only [c82, c82_b, go_sem, hK]; repeat' (first | (rw [guardO_t]; split <;> rename_i h <;> (try rw [Bool.not_eq_true] at h) <;> (try simp only [go_sem, hK, *])) | (rw [guardO_f]; split <;> rename_i h <;> (try rw [Bool.not_eq_true] at h) <;> (try simp only [go_sem, hK, *])) | (rw [cw_bool]; split <;> rename_i h <;> (try rw [Bool.not_eq_true] at h) <;> (try simp only [go_sem, hK, *]))))
theorem shape14_10 (e : GExp) (hK : e.K = 10) (S : St) : cal (env ot oz) 82 [.agg (rExp e)] S = some (.tup [.int .i64 0, .int .i64 0, .int .i64 1, .int .i64 1], S) := by
  (rw [w_plain (fn := c82) rfl rfl (by simp only [go_sem, hK]) rfl (by decide)]; simp only [c82, c82_b, go_sem, hK]; repeat' (first | (rw [guardO_t]; split <;> rename_i h <;> (try rw [Bool.not_eq_true] at h) <;> (try simp only [go_sem, hK, *])) | (rw [guardO_f]; split <;> rename_i h <;> (try rw [Bool.not_eq_true] at h) <;> (try simp only [go_sem, hK, *])) | (rw [cw_bool]; split <;> rename_i h <;> (try rw [Bool.not_eq_true] at h) <;> (try simp only [go_sem, hK, *]))))
theorem shape14_11 (e : GExp) (hK : e.K = 11) (S : St) : cal (env ot oz) 82 [.agg (rExp e)] S = some (.tup [.int .i64 0, .int .i64 0, .int .i64 2, .int .i64 2], S) := by
  (rw [w_plain (fn := c82) rfl rfl (by simp only [go_sem, hK]) rfl (by decide)]; simp only [c82, c82_b, go_sem, hK]; repeat' (first | (rw [guardO_t]; split <;> rename_i h <;> (try rw [Bool.not_eq_true] at h) <;> (try simp only [go_sem, hK, *])) | (rw [guardO_f]; split <;> rename_i h <;> (try rw [Bool.not_eq_true] at h) <;> (try simp only [go_sem, hK, *])) | (rw [cw_bool]; split <;> rename_i h <;> (try rw [Bool.not_eq_true] at h) <;> (try simp only [go_sem, hK, *]))))
theorem shape14_12 (e : GExp) (hK : e.K = 12) (S : St) : cal (env ot oz) 82 [.agg (rExp e)] S = some (.tup [.int .i64 1, .int .i64 1, .int .i64 1, .int .i64 1], S) := by
  (rw [w_plain (fn := c82) rfl rfl (by simp only [go_sem, hK]) rfl (by decide)]; simp only [c82, c82_b, go_sem, hK]; repeat' (first | (rw [guardO_t]; split <;> rename_i h <;> (try rw [Bool.not_eq_true] at h) <;> (try simp only [go_sem, hK, *])) | (rw [guardO_f]; split <;> rename_i h <;> (try rw [Bool.not_eq_true] at h) <;> (try simp only [go_sem, hK, *])) | (rw [cw_bool]; split <;> rename_i h <;> (try rw [Bool.not_eq_true] at h) <;> (try simp only [go_sem, hK, *]))))
theorem shape14_13 (e : GExp) (hK : e.K = 13) (S : St) : cal (env ot oz) 82 [.agg (rExp e)] S = some (.tup [.int .i64 (if e.Has then 1 else 0), .int .i64 (if e.Has then 3 else 0), .int .i64 0, .int .i64 4], S) := by
  cases q : e.Has <;> (rw [w_plain (fn := c82) rfl rfl (by simp only [go_sem, hK, q]) rfl (by decide)]; simp only [c82, c82_b, go_sem, hK, q]; repeat' (first | (rw [guardO_t]; split <;> rename_i h <;> (try rw [Bool.not_eq_true] at h) <;> (try simp only [go_sem, hK, q, *])) | (rw [guardO_f]; split <;> rename_i h <;> (try rw [Bool.not_eq_true] at h) <;> (try simp only [go_sem, hK, q, *])) | (rw [cw_bool]; split <;> rename_i h <;> (try rw [Bool.not_eq_true] at h) <;> (try simp only [go_sem, hK, q, *]))))
set_option maxHeartbeats 4000000 in
theorem own14_1 (e : GExp) (ok : OkExp e) (hK : e.K = 1) (S : St) : cal (env ot oz) 34 [.agg (rExp e)] S = some (.bool (ownE e), S) := by
  obtain ⟨⟨a1, a2⟩, ⟨b1, b2⟩, c1⟩ := okExp_a ok
  have fi := fun S => cal_ans (fine01_ok (ot := ot) (oz := oz) e.Name) (S := S)
  have ri := fun S => cal_ans (rising01_ok (ot := ot) (oz := oz) e.Labels c1 .ro) (S := S)
  have ty := types14 (ot := ot) (oz := oz) e.Types b1 b2 .ro
  have sh := shape14_1 (ot := ot) (oz := oz) e hK
  have e0 : ownE e = (strEq e.Name ⟨#[]⟩ && (!(decide (e.N < 0)) && (!e.Has && (l0E e && shpE e 0 0 0 0)))) := by unfold ownE; simp only [hK, Int.reduceEq, if_true, if_false]
  simp only [l0E, labE, shpE] at e0
  have tz : (0 : Int) ≤ (e.Types.length : Int) := by omega
  have kz : (0 : Int) ≤ (e.Kids.length : Int) := by omega
  have n2 : ((1 : Int) != 2) = true := rfl
  have n3 : ((1 : Int) != 3) = true := rfl
  have n9 : ((1 : Int) != 9) = true := rfl
  have n11 : ((1 : Int) != 11) = true := rfl
  have n13 : ((1 : Int) != 13) = true := rfl
  have n1 : ((1 : Int) != 1) = false := rfl
  rw [e0]; clear e0
  (rw [w_plain (fn := c34) rfl rfl (by simp only [go_sem, hK, fi, ri, ty, sh, tz, kz, n1, n2, n3, n9, n11, n13]) rfl (by decide)]; simp only [c34, c34_b, c34_r1, c34_r3, c34_r4, c34_r6, c34_r8, c34_r10, c34_r13, go_sem, hK, fi, ri, ty, sh, tz, kz, n1, n2, n3, n9, n11, n13]; repeat' (first | (rw [guardO_t]; split <;> rename_i h <;> (try rw [Bool.not_eq_true] at h) <;> (try simp only [go_sem, c34_r1, c34_r3, c34_r4, c34_r6, c34_r8, c34_r10, c34_r13, hK, fi, ri, ty, sh, tz, kz, n1, n2, n3, n9, n11, n13, *])) | (rw [guardO_f]; split <;> rename_i h <;> (try rw [Bool.not_eq_true] at h) <;> (try simp only [go_sem, c34_r1, c34_r3, c34_r4, c34_r6, c34_r8, c34_r10, c34_r13, hK, fi, ri, ty, sh, tz, kz, n1, n2, n3, n9, n11, n13, *])) | (rw [cw_bool]; split <;> rename_i h <;> (try rw [Bool.not_eq_true] at h) <;> (try simp only [go_sem, c34_r1, c34_r3, c34_r4, c34_r6, c34_r8, c34_r10, c34_r13, hK, fi, ri, ty, sh, tz, kz, n1, n2, n3, n9, n11, n13, *])))) <;> (try simp_all [Bool.not_eq_true]) <;> (try omega)
set_option maxHeartbeats 4000000 in
theorem own14_2 (e : GExp) (ok : OkExp e) (hK : e.K = 2) (S : St) : cal (env ot oz) 34 [.agg (rExp e)] S = some (.bool (ownE e), S) := by
  obtain ⟨⟨a1, a2⟩, ⟨b1, b2⟩, c1⟩ := okExp_a ok
  have fi := fun S => cal_ans (fine01_ok (ot := ot) (oz := oz) e.Name) (S := S)
  have ri := fun S => cal_ans (rising01_ok (ot := ot) (oz := oz) e.Labels c1 .ro) (S := S)
  have ty := types14 (ot := ot) (oz := oz) e.Types b1 b2 .ro
  have sh := shape14_2 (ot := ot) (oz := oz) e hK
  have e0 : ownE e = (strEq e.Name ⟨#[]⟩ && (!((e.N != 0) && (e.N != 1)) && (!e.Has && (l0E e && shpE e 0 0 0 0)))) := by unfold ownE; simp only [hK, Int.reduceEq, if_true, if_false]
  simp only [l0E, labE, shpE] at e0
  have tz : (0 : Int) ≤ (e.Types.length : Int) := by omega
  have kz : (0 : Int) ≤ (e.Kids.length : Int) := by omega
  have n1 : ((2 : Int) != 1) = true := rfl
  have n3 : ((2 : Int) != 3) = true := rfl
  have n9 : ((2 : Int) != 9) = true := rfl
  have n11 : ((2 : Int) != 11) = true := rfl
  have n13 : ((2 : Int) != 13) = true := rfl
  have n2 : ((2 : Int) != 2) = false := rfl
  rw [e0]; clear e0
  (rw [w_plain (fn := c34) rfl rfl (by simp only [go_sem, hK, fi, ri, ty, sh, tz, kz, n1, n2, n3, n9, n11, n13]) rfl (by decide)]; simp only [c34, c34_b, c34_r1, c34_r3, c34_r4, c34_r6, c34_r8, c34_r10, c34_r13, go_sem, hK, fi, ri, ty, sh, tz, kz, n1, n2, n3, n9, n11, n13]; repeat' (first | (rw [guardO_t]; split <;> rename_i h <;> (try rw [Bool.not_eq_true] at h) <;> (try simp only [go_sem, c34_r1, c34_r3, c34_r4, c34_r6, c34_r8, c34_r10, c34_r13, hK, fi, ri, ty, sh, tz, kz, n1, n2, n3, n9, n11, n13, *])) | (rw [guardO_f]; split <;> rename_i h <;> (try rw [Bool.not_eq_true] at h) <;> (try simp only [go_sem, c34_r1, c34_r3, c34_r4, c34_r6, c34_r8, c34_r10, c34_r13, hK, fi, ri, ty, sh, tz, kz, n1, n2, n3, n9, n11, n13, *])) | (rw [cw_bool]; split <;> rename_i h <;> (try rw [Bool.not_eq_true] at h) <;> (try simp only [go_sem, c34_r1, c34_r3, c34_r4, c34_r6, c34_r8, c34_r10, c34_r13, hK, fi, ri, ty, sh, tz, kz, n1, n2, n3, n9, n11, n13, *])))) <;> (try simp_all [Bool.not_eq_true]) <;> (try omega)
set_option maxHeartbeats 4000000 in
theorem own14_3 (e : GExp) (ok : OkExp e) (hK : e.K = 3) (S : St) : cal (env ot oz) 34 [.agg (rExp e)] S = some (.bool (ownE e), S) := by
  obtain ⟨⟨a1, a2⟩, ⟨b1, b2⟩, c1⟩ := okExp_a ok
  have fi := fun S => cal_ans (fine01_ok (ot := ot) (oz := oz) e.Name) (S := S)
  have ri := fun S => cal_ans (rising01_ok (ot := ot) (oz := oz) e.Labels c1 .ro) (S := S)
  have ty := types14 (ot := ot) (oz := oz) e.Types b1 b2 .ro
  have sh := shape14_3 (ot := ot) (oz := oz) e hK
  have e0 : ownE e = (!(decide ((40 : Int) < (e.Name.size : Int))) && (!(e.N != 0) && (!e.Has && (l0E e && shpE e 0 0 0 0)))) := by unfold ownE; simp only [hK, Int.reduceEq, if_true, if_false]
  simp only [l0E, labE, shpE] at e0
  have tz : (0 : Int) ≤ (e.Types.length : Int) := by omega
  have kz : (0 : Int) ≤ (e.Kids.length : Int) := by omega
  have n1 : ((3 : Int) != 1) = true := rfl
  have n2 : ((3 : Int) != 2) = true := rfl
  have n9 : ((3 : Int) != 9) = true := rfl
  have n11 : ((3 : Int) != 11) = true := rfl
  have n13 : ((3 : Int) != 13) = true := rfl
  have n3 : ((3 : Int) != 3) = false := rfl
  rw [e0]; clear e0
  (rw [w_plain (fn := c34) rfl rfl (by simp only [go_sem, hK, fi, ri, ty, sh, tz, kz, n1, n2, n3, n9, n11, n13]) rfl (by decide)]; simp only [c34, c34_b, c34_r1, c34_r3, c34_r4, c34_r6, c34_r8, c34_r10, c34_r13, go_sem, hK, fi, ri, ty, sh, tz, kz, n1, n2, n3, n9, n11, n13]; repeat' (first | (rw [guardO_t]; split <;> rename_i h <;> (try rw [Bool.not_eq_true] at h) <;> (try simp only [go_sem, c34_r1, c34_r3, c34_r4, c34_r6, c34_r8, c34_r10, c34_r13, hK, fi, ri, ty, sh, tz, kz, n1, n2, n3, n9, n11, n13, *])) | (rw [guardO_f]; split <;> rename_i h <;> (try rw [Bool.not_eq_true] at h) <;> (try simp only [go_sem, c34_r1, c34_r3, c34_r4, c34_r6, c34_r8, c34_r10, c34_r13, hK, fi, ri, ty, sh, tz, kz, n1, n2, n3, n9, n11, n13, *])) | (rw [cw_bool]; split <;> rename_i h <;> (try rw [Bool.not_eq_true] at h) <;> (try simp only [go_sem, c34_r1, c34_r3, c34_r4, c34_r6, c34_r8, c34_r10, c34_r13, hK, fi, ri, ty, sh, tz, kz, n1, n2, n3, n9, n11, n13, *])))) <;> (try simp_all [Bool.not_eq_true]) <;> (try omega)
set_option maxHeartbeats 4000000 in
theorem own14_4 (e : GExp) (ok : OkExp e) (hK : e.K = 4) (S : St) : cal (env ot oz) 34 [.agg (rExp e)] S = some (.bool (ownE e), S) := by
  obtain ⟨⟨a1, a2⟩, ⟨b1, b2⟩, c1⟩ := okExp_a ok
  have fi := fun S => cal_ans (fine01_ok (ot := ot) (oz := oz) e.Name) (S := S)
  have ri := fun S => cal_ans (rising01_ok (ot := ot) (oz := oz) e.Labels c1 .ro) (S := S)
  have ty := types14 (ot := ot) (oz := oz) e.Types b1 b2 .ro
  have sh := shape14_4 (ot := ot) (oz := oz) e hK
  have e0 : ownE e = (fineS e.Name && (!(e.N != 0) && (!e.Has && (l0E e && shpE e 0 0 0 0)))) := by unfold ownE; simp only [hK, Int.reduceEq, if_true, if_false]
  simp only [l0E, labE, shpE] at e0
  have tz : (0 : Int) ≤ (e.Types.length : Int) := by omega
  have kz : (0 : Int) ≤ (e.Kids.length : Int) := by omega
  have n1 : ((4 : Int) != 1) = true := rfl
  have n2 : ((4 : Int) != 2) = true := rfl
  have n3 : ((4 : Int) != 3) = true := rfl
  have n9 : ((4 : Int) != 9) = true := rfl
  have n11 : ((4 : Int) != 11) = true := rfl
  have n13 : ((4 : Int) != 13) = true := rfl
  rw [e0]; clear e0
  (rw [w_plain (fn := c34) rfl rfl (by simp only [go_sem, hK, fi, ri, ty, sh, tz, kz, n1, n2, n3, n9, n11, n13]) rfl (by decide)]; simp only [c34, c34_b, c34_r1, c34_r3, c34_r4, c34_r6, c34_r8, c34_r10, c34_r13, go_sem, hK, fi, ri, ty, sh, tz, kz, n1, n2, n3, n9, n11, n13]; repeat' (first | (rw [guardO_t]; split <;> rename_i h <;> (try rw [Bool.not_eq_true] at h) <;> (try simp only [go_sem, c34_r1, c34_r3, c34_r4, c34_r6, c34_r8, c34_r10, c34_r13, hK, fi, ri, ty, sh, tz, kz, n1, n2, n3, n9, n11, n13, *])) | (rw [guardO_f]; split <;> rename_i h <;> (try rw [Bool.not_eq_true] at h) <;> (try simp only [go_sem, c34_r1, c34_r3, c34_r4, c34_r6, c34_r8, c34_r10, c34_r13, hK, fi, ri, ty, sh, tz, kz, n1, n2, n3, n9, n11, n13, *])) | (rw [cw_bool]; split <;> rename_i h <;> (try rw [Bool.not_eq_true] at h) <;> (try simp only [go_sem, c34_r1, c34_r3, c34_r4, c34_r6, c34_r8, c34_r10, c34_r13, hK, fi, ri, ty, sh, tz, kz, n1, n2, n3, n9, n11, n13, *])))) <;> (try simp_all [Bool.not_eq_true]) <;> (try omega)
set_option maxHeartbeats 4000000 in
theorem own14_5 (e : GExp) (ok : OkExp e) (hK : e.K = 5) (S : St) : cal (env ot oz) 34 [.agg (rExp e)] S = some (.bool (ownE e), S) := by
  obtain ⟨⟨a1, a2⟩, ⟨b1, b2⟩, c1⟩ := okExp_a ok
  have fi := fun S => cal_ans (fine01_ok (ot := ot) (oz := oz) e.Name) (S := S)
  have ri := fun S => cal_ans (rising01_ok (ot := ot) (oz := oz) e.Labels c1 .ro) (S := S)
  have ty := types14 (ot := ot) (oz := oz) e.Types b1 b2 .ro
  have sh := shape14_5 (ot := ot) (oz := oz) e hK
  have e0 : ownE e = (fineS e.Name && (!(e.N != 0) && (!e.Has && (l0E e && shpE e 0 1 2 2)))) := by unfold ownE; simp only [hK, Int.reduceEq, if_true, if_false]
  simp only [l0E, labE, shpE] at e0
  have tz : (0 : Int) ≤ (e.Types.length : Int) := by omega
  have kz : (0 : Int) ≤ (e.Kids.length : Int) := by omega
  have n1 : ((5 : Int) != 1) = true := rfl
  have n2 : ((5 : Int) != 2) = true := rfl
  have n3 : ((5 : Int) != 3) = true := rfl
  have n9 : ((5 : Int) != 9) = true := rfl
  have n11 : ((5 : Int) != 11) = true := rfl
  have n13 : ((5 : Int) != 13) = true := rfl
  rw [e0]; clear e0
  (rw [w_plain (fn := c34) rfl rfl (by simp only [go_sem, hK, fi, ri, ty, sh, tz, kz, n1, n2, n3, n9, n11, n13]) rfl (by decide)]; simp only [c34, c34_b, c34_r1, c34_r3, c34_r4, c34_r6, c34_r8, c34_r10, c34_r13, go_sem, hK, fi, ri, ty, sh, tz, kz, n1, n2, n3, n9, n11, n13]; repeat' (first | (rw [guardO_t]; split <;> rename_i h <;> (try rw [Bool.not_eq_true] at h) <;> (try simp only [go_sem, c34_r1, c34_r3, c34_r4, c34_r6, c34_r8, c34_r10, c34_r13, hK, fi, ri, ty, sh, tz, kz, n1, n2, n3, n9, n11, n13, *])) | (rw [guardO_f]; split <;> rename_i h <;> (try rw [Bool.not_eq_true] at h) <;> (try simp only [go_sem, c34_r1, c34_r3, c34_r4, c34_r6, c34_r8, c34_r10, c34_r13, hK, fi, ri, ty, sh, tz, kz, n1, n2, n3, n9, n11, n13, *])) | (rw [cw_bool]; split <;> rename_i h <;> (try rw [Bool.not_eq_true] at h) <;> (try simp only [go_sem, c34_r1, c34_r3, c34_r4, c34_r6, c34_r8, c34_r10, c34_r13, hK, fi, ri, ty, sh, tz, kz, n1, n2, n3, n9, n11, n13, *])))) <;> (try simp_all [Bool.not_eq_true]) <;> (try omega)
set_option maxHeartbeats 4000000 in
theorem own14_6 (e : GExp) (ok : OkExp e) (hK : e.K = 6) (S : St) : cal (env ot oz) 34 [.agg (rExp e)] S = some (.bool (ownE e), S) := by
  obtain ⟨⟨a1, a2⟩, ⟨b1, b2⟩, c1⟩ := okExp_a ok
  have fi := fun S => cal_ans (fine01_ok (ot := ot) (oz := oz) e.Name) (S := S)
  have ri := fun S => cal_ans (rising01_ok (ot := ot) (oz := oz) e.Labels c1 .ro) (S := S)
  have ty := types14 (ot := ot) (oz := oz) e.Types b1 b2 .ro
  have sh := shape14_6 (ot := ot) (oz := oz) e hK
  have e0 : ownE e = (strEq e.Name ⟨#[]⟩ && (!(e.N != 0) && (!e.Has && (l0E e && shpE e 0 0 3 3)))) := by unfold ownE; simp only [hK, Int.reduceEq, if_true, if_false]
  simp only [l0E, labE, shpE] at e0
  have tz : (0 : Int) ≤ (e.Types.length : Int) := by omega
  have kz : (0 : Int) ≤ (e.Kids.length : Int) := by omega
  have n1 : ((6 : Int) != 1) = true := rfl
  have n2 : ((6 : Int) != 2) = true := rfl
  have n3 : ((6 : Int) != 3) = true := rfl
  have n9 : ((6 : Int) != 9) = true := rfl
  have n11 : ((6 : Int) != 11) = true := rfl
  have n13 : ((6 : Int) != 13) = true := rfl
  rw [e0]; clear e0
  (rw [w_plain (fn := c34) rfl rfl (by simp only [go_sem, hK, fi, ri, ty, sh, tz, kz, n1, n2, n3, n9, n11, n13]) rfl (by decide)]; simp only [c34, c34_b, c34_r1, c34_r3, c34_r4, c34_r6, c34_r8, c34_r10, c34_r13, go_sem, hK, fi, ri, ty, sh, tz, kz, n1, n2, n3, n9, n11, n13]; repeat' (first | (rw [guardO_t]; split <;> rename_i h <;> (try rw [Bool.not_eq_true] at h) <;> (try simp only [go_sem, c34_r1, c34_r3, c34_r4, c34_r6, c34_r8, c34_r10, c34_r13, hK, fi, ri, ty, sh, tz, kz, n1, n2, n3, n9, n11, n13, *])) | (rw [guardO_f]; split <;> rename_i h <;> (try rw [Bool.not_eq_true] at h) <;> (try simp only [go_sem, c34_r1, c34_r3, c34_r4, c34_r6, c34_r8, c34_r10, c34_r13, hK, fi, ri, ty, sh, tz, kz, n1, n2, n3, n9, n11, n13, *])) | (rw [cw_bool]; split <;> rename_i h <;> (try rw [Bool.not_eq_true] at h) <;> (try simp only [go_sem, c34_r1, c34_r3, c34_r4, c34_r6, c34_r8, c34_r10, c34_r13, hK, fi, ri, ty, sh, tz, kz, n1, n2, n3, n9, n11, n13, *])))) <;> (try simp_all [Bool.not_eq_true]) <;> (try omega)
set_option maxHeartbeats 4000000 in
theorem own14_7 (e : GExp) (ok : OkExp e) (hK : e.K = 7) (S : St) : cal (env ot oz) 34 [.agg (rExp e)] S = some (.bool (ownE e), S) := by
  obtain ⟨⟨a1, a2⟩, ⟨b1, b2⟩, c1⟩ := okExp_a ok
  have fi := fun S => cal_ans (fine01_ok (ot := ot) (oz := oz) e.Name) (S := S)
  have ri := fun S => cal_ans (rising01_ok (ot := ot) (oz := oz) e.Labels c1 .ro) (S := S)
  have ty := types14 (ot := ot) (oz := oz) e.Types b1 b2 .ro
  have sh := shape14_7 (ot := ot) (oz := oz) e hK
  have e0 : ownE e = (fineS e.Name && (!(e.N != 0) && (!e.Has && (l0E e && shpE e 0 1 1 1)))) := by unfold ownE; simp only [hK, Int.reduceEq, if_true, if_false]
  simp only [l0E, labE, shpE] at e0
  have tz : (0 : Int) ≤ (e.Types.length : Int) := by omega
  have kz : (0 : Int) ≤ (e.Kids.length : Int) := by omega
  have n1 : ((7 : Int) != 1) = true := rfl
  have n2 : ((7 : Int) != 2) = true := rfl
  have n3 : ((7 : Int) != 3) = true := rfl
  have n9 : ((7 : Int) != 9) = true := rfl
  have n11 : ((7 : Int) != 11) = true := rfl
  have n13 : ((7 : Int) != 13) = true := rfl
  rw [e0]; clear e0
  (rw [w_plain (fn := c34) rfl rfl (by simp only [go_sem, hK, fi, ri, ty, sh, tz, kz, n1, n2, n3, n9, n11, n13]) rfl (by decide)]; simp only [c34, c34_b, c34_r1, c34_r3, c34_r4, c34_r6, c34_r8, c34_r10, c34_r13, go_sem, hK, fi, ri, ty, sh, tz, kz, n1, n2, n3, n9, n11, n13]; repeat' (first | (rw [guardO_t]; split <;> rename_i h <;> (try rw [Bool.not_eq_true] at h) <;> (try simp only [go_sem, c34_r1, c34_r3, c34_r4, c34_r6, c34_r8, c34_r10, c34_r13, hK, fi, ri, ty, sh, tz, kz, n1, n2, n3, n9, n11, n13, *])) | (rw [guardO_f]; split <;> rename_i h <;> (try rw [Bool.not_eq_true] at h) <;> (try simp only [go_sem, c34_r1, c34_r3, c34_r4, c34_r6, c34_r8, c34_r10, c34_r13, hK, fi, ri, ty, sh, tz, kz, n1, n2, n3, n9, n11, n13, *])) | (rw [cw_bool]; split <;> rename_i h <;> (try rw [Bool.not_eq_true] at h) <;> (try simp only [go_sem, c34_r1, c34_r3, c34_r4, c34_r6, c34_r8, c34_r10, c34_r13, hK, fi, ri, ty, sh, tz, kz, n1, n2, n3, n9, n11, n13, *])))) <;> (try simp_all [Bool.not_eq_true]) <;> (try omega)
set_option maxHeartbeats 4000000 in
theorem own14_8 (e : GExp) (ok : OkExp e) (hK : e.K = 8) (S : St) : cal (env ot oz) 34 [.agg (rExp e)] S = some (.bool (ownE e), S) := by
  obtain ⟨⟨a1, a2⟩, ⟨b1, b2⟩, c1⟩ := okExp_a ok
  have fi := fun S => cal_ans (fine01_ok (ot := ot) (oz := oz) e.Name) (S := S)
  have ri := fun S => cal_ans (rising01_ok (ot := ot) (oz := oz) e.Labels c1 .ro) (S := S)
  have ty := types14 (ot := ot) (oz := oz) e.Types b1 b2 .ro
  have sh := shape14_8 (ot := ot) (oz := oz) e hK
  have e0 : ownE e = (strEq e.Name ⟨#[]⟩ && (!(e.N != 0) && (!e.Has && (l0E e && shpE e 0 0 2 2)))) := by unfold ownE; simp only [hK, Int.reduceEq, if_true, if_false]
  simp only [l0E, labE, shpE] at e0
  have tz : (0 : Int) ≤ (e.Types.length : Int) := by omega
  have kz : (0 : Int) ≤ (e.Kids.length : Int) := by omega
  have n1 : ((8 : Int) != 1) = true := rfl
  have n2 : ((8 : Int) != 2) = true := rfl
  have n3 : ((8 : Int) != 3) = true := rfl
  have n9 : ((8 : Int) != 9) = true := rfl
  have n11 : ((8 : Int) != 11) = true := rfl
  have n13 : ((8 : Int) != 13) = true := rfl
  rw [e0]; clear e0
  (rw [w_plain (fn := c34) rfl rfl (by simp only [go_sem, hK, fi, ri, ty, sh, tz, kz, n1, n2, n3, n9, n11, n13]) rfl (by decide)]; simp only [c34, c34_b, c34_r1, c34_r3, c34_r4, c34_r6, c34_r8, c34_r10, c34_r13, go_sem, hK, fi, ri, ty, sh, tz, kz, n1, n2, n3, n9, n11, n13]; repeat' (first | (rw [guardO_t]; split <;> rename_i h <;> (try rw [Bool.not_eq_true] at h) <;> (try simp only [go_sem, c34_r1, c34_r3, c34_r4, c34_r6, c34_r8, c34_r10, c34_r13, hK, fi, ri, ty, sh, tz, kz, n1, n2, n3, n9, n11, n13, *])) | (rw [guardO_f]; split <;> rename_i h <;> (try rw [Bool.not_eq_true] at h) <;> (try simp only [go_sem, c34_r1, c34_r3, c34_r4, c34_r6, c34_r8, c34_r10, c34_r13, hK, fi, ri, ty, sh, tz, kz, n1, n2, n3, n9, n11, n13, *])) | (rw [cw_bool]; split <;> rename_i h <;> (try rw [Bool.not_eq_true] at h) <;> (try simp only [go_sem, c34_r1, c34_r3, c34_r4, c34_r6, c34_r8, c34_r10, c34_r13, hK, fi, ri, ty, sh, tz, kz, n1, n2, n3, n9, n11, n13, *])))) <;> (try simp_all [Bool.not_eq_true]) <;> (try omega)
set_option maxHeartbeats 4000000 in
theorem own14_9 (e : GExp) (ok : OkExp e) (hK : e.K = 9) (S : St) : cal (env ot oz) 34 [.agg (rExp e)] S = some (.bool (ownE e), S) := by
  obtain ⟨⟨a1, a2⟩, ⟨b1, b2⟩, c1⟩ := okExp_a ok
  have fi := fun S => cal_ans (fine01_ok (ot := ot) (oz := oz) e.Name) (S := S)
  have ri := fun S => cal_ans (rising01_ok (ot := ot) (oz := oz) e.Labels c1 .ro) (S := S)
  have ty := types14 (ot := ot) (oz := oz) e.Types b1 b2 .ro
  have sh := shape14_9 (ot := ot) (oz := oz) e hK
  have e0 : ownE e = (strEq e.Name ⟨#[]⟩ && (!(e.N != 0) && (!e.Has && (labE e && shpE e 0 0 (e.Labels.length : Int) (e.Labels.length : Int))))) := by unfold ownE; simp only [hK, Int.reduceEq, if_true, if_false]
  simp only [l0E, labE, shpE] at e0
  have tz : (0 : Int) ≤ (e.Types.length : Int) := by omega
  have kz : (0 : Int) ≤ (e.Kids.length : Int) := by omega
  have n1 : ((9 : Int) != 1) = true := rfl
  have n2 : ((9 : Int) != 2) = true := rfl
  have n3 : ((9 : Int) != 3) = true := rfl
  have n11 : ((9 : Int) != 11) = true := rfl
  have n13 : ((9 : Int) != 13) = true := rfl
  have n9 : ((9 : Int) != 9) = false := rfl
  rw [e0]; clear e0
  (rw [w_plain (fn := c34) rfl rfl (by simp only [go_sem, hK, fi, ri, ty, sh, tz, kz, n1, n2, n3, n9, n11, n13]) rfl (by decide)]; simp only [c34, c34_b, c34_r1, c34_r3, c34_r4, c34_r6, c34_r8, c34_r10, c34_r13, go_sem, hK, fi, ri, ty, sh, tz, kz, n1, n2, n3, n9, n11, n13]; repeat' (first | (rw [guardO_t]; split <;> rename_i h <;> (try rw [Bool.not_eq_true] at h) <;> (try simp only [go_sem, c34_r1, c34_r3, c34_r4, c34_r6, c34_r8, c34_r10, c34_r13, hK, fi, ri, ty, sh, tz, kz, n1, n2, n3, n9, n11, n13, *])) | (rw [guardO_f]; split <;> rename_i h <;> (try rw [Bool.not_eq_true] at h) <;> (try simp only [go_sem, c34_r1, c34_r3, c34_r4, c34_r6, c34_r8, c34_r10, c34_r13, hK, fi, ri, ty, sh, tz, kz, n1, n2, n3, n9, n11, n13, *])) | (rw [cw_bool]; split <;> rename_i h <;> (try rw [Bool.not_eq_true] at h) <;> (try simp only [go_sem, c34_r1, c34_r3, c34_r4, c34_r6, c34_r8, c34_r10, c34_r13, hK, fi, ri, ty, sh, tz, kz, n1, n2, n3, n9, n11, n13, *])))) <;> (try simp_all [Bool.not_eq_true]) <;> (try omega)
set_option maxHeartbeats 4000000 in
theorem own14_10 (e : GExp) (ok : OkExp e) (hK : e.K = 10) (S : St) : cal (env ot oz) 34 [.agg (rExp e)] S = some (.bool (ownE e), S) := by
  obtain ⟨⟨a1, a2⟩, ⟨b1, b2⟩, c1⟩ := okExp_a ok
  have fi := fun S => cal_ans (fine01_ok (ot := ot) (oz := oz) e.Name) (S := S)
  have ri := fun S => cal_ans (rising01_ok (ot := ot) (oz := oz) e.Labels c1 .ro) (S := S)
  have ty := types14 (ot := ot) (oz := oz) e.Types b1 b2 .ro
  have sh := shape14_10 (ot := ot) (oz := oz) e hK
  have e0 : ownE e = (fineS e.Name && (!(e.N != 0) && (!e.Has && (l0E e && shpE e 0 0 1 1)))) := by unfold ownE; simp only [hK, Int.reduceEq, if_true, if_false]
  simp only [l0E, labE, shpE] at e0
  have tz : (0 : Int) ≤ (e.Types.length : Int) := by omega
  have kz : (0 : Int) ≤ (e.Kids.length : Int) := by omega
  have n1 : ((10 : Int) != 1) = true := rfl
  have n2 : ((10 : Int) != 2) = true := rfl
  have n3 : ((10 : Int) != 3) = true := rfl
  have n9 : ((10 : Int) != 9) = true := rfl
  have n11 : ((10 : Int) != 11) = true := rfl
  have n13 : ((10 : Int) != 13) = true := rfl
  rw [e0]; clear e0
  (rw [w_plain (fn := c34) rfl rfl (by simp only [go_sem, hK, fi, ri, ty, sh, tz, kz, n1, n2, n3, n9, n11, n13]) rfl (by decide)]; simp only [c34, c34_b, c34_r1, c34_r3, c34_r4, c34_r6, c34_r8, c34_r10, c34_r13, go_sem, hK, fi, ri, ty, sh, tz, kz, n1, n2, n3, n9, n11, n13]; repeat' (first | (rw [guardO_t]; split <;> rename_i h <;> (try rw [Bool.not_eq_true] at h) <;> (try simp only [go_sem, c34_r1, c34_r3, c34_r4, c34_r6, c34_r8, c34_r10, c34_r13, hK, fi, ri, ty, sh, tz, kz, n1, n2, n3, n9, n11, n13, *])) | (rw [guardO_f]; split <;> rename_i h <;> (try rw [Bool.not_eq_true] at h) <;> (try simp only [go_sem, c34_r1, c34_r3, c34_r4, c34_r6, c34_r8, c34_r10, c34_r13, hK, fi, ri, ty, sh, tz, kz, n1, n2, n3, n9, n11, n13, *])) | (rw [cw_bool]; split <;> rename_i h <;> (try rw [Bool.not_eq_true] at h) <;> (try simp only [go_sem, c34_r1, c34_r3, c34_r4, c34_r6, c34_r8, c34_r10, c34_r13, hK, fi, ri, ty, sh, tz, kz, n1, n2, n3, n9, n11, n13, *])))) <;> (try simp_all [Bool.not_eq_true]) <;> (try omega)
set_option maxHeartbeats 4000000 in
theorem own14_11 (e : GExp) (ok : OkExp e) (hK : e.K = 11) (S : St) : cal (env ot oz) 34 [.agg (rExp e)] S = some (.bool (ownE e), S) := by
  obtain ⟨⟨a1, a2⟩, ⟨b1, b2⟩, c1⟩ := okExp_a ok
  have fi := fun S => cal_ans (fine01_ok (ot := ot) (oz := oz) e.Name) (S := S)
  have ri := fun S => cal_ans (rising01_ok (ot := ot) (oz := oz) e.Labels c1 .ro) (S := S)
  have ty := types14 (ot := ot) (oz := oz) e.Types b1 b2 .ro
  have sh := shape14_11 (ot := ot) (oz := oz) e hK
  have e0 : ownE e = (strEq e.Name ⟨#[]⟩ && (!(decide (e.N < 1) || decide (7 < e.N)) && (!e.Has && (l0E e && shpE e 0 0 2 2)))) := by unfold ownE; simp only [hK, Int.reduceEq, if_true, if_false]
  simp only [l0E, labE, shpE] at e0
  have tz : (0 : Int) ≤ (e.Types.length : Int) := by omega
  have kz : (0 : Int) ≤ (e.Kids.length : Int) := by omega
  have n1 : ((11 : Int) != 1) = true := rfl
  have n2 : ((11 : Int) != 2) = true := rfl
  have n3 : ((11 : Int) != 3) = true := rfl
  have n9 : ((11 : Int) != 9) = true := rfl
  have n13 : ((11 : Int) != 13) = true := rfl
  have n11 : ((11 : Int) != 11) = false := rfl
  rw [e0]; clear e0
  (rw [w_plain (fn := c34) rfl rfl (by simp only [go_sem, hK, fi, ri, ty, sh, tz, kz, n1, n2, n3, n9, n11, n13]) rfl (by decide)]; simp only [c34, c34_b, c34_r1, c34_r3, c34_r4, c34_r6, c34_r8, c34_r10, c34_r13, go_sem, hK, fi, ri, ty, sh, tz, kz, n1, n2, n3, n9, n11, n13]; repeat' (first | (rw [guardO_t]; split <;> rename_i h <;> (try rw [Bool.not_eq_true] at h) <;> (try simp only [go_sem, c34_r1, c34_r3, c34_r4, c34_r6, c34_r8, c34_r10, c34_r13, hK, fi, ri, ty, sh, tz, kz, n1, n2, n3, n9, n11, n13, *])) | (rw [guardO_f]; split <;> rename_i h <;> (try rw [Bool.not_eq_true] at h) <;> (try simp only [go_sem, c34_r1, c34_r3, c34_r4, c34_r6, c34_r8, c34_r10, c34_r13, hK, fi, ri, ty, sh, tz, kz, n1, n2, n3, n9, n11, n13, *])) | (rw [cw_bool]; split <;> rename_i h <;> (try rw [Bool.not_eq_true] at h) <;> (try simp only [go_sem, c34_r1, c34_r3, c34_r4, c34_r6, c34_r8, c34_r10, c34_r13, hK, fi, ri, ty, sh, tz, kz, n1, n2, n3, n9, n11, n13, *])))) <;> (try simp_all [Bool.not_eq_true]) <;> (try omega)
set_option maxHeartbeats 4000000 in
theorem own14_12 (e : GExp) (ok : OkExp e) (hK : e.K = 12) (S : St) : cal (env ot oz) 34 [.agg (rExp e)] S = some (.bool (ownE e), S) := by
  obtain ⟨⟨a1, a2⟩, ⟨b1, b2⟩, c1⟩ := okExp_a ok
  have fi := fun S => cal_ans (fine01_ok (ot := ot) (oz := oz) e.Name) (S := S)
  have ri := fun S => cal_ans (rising01_ok (ot := ot) (oz := oz) e.Labels c1 .ro) (S := S)
  have ty := types14 (ot := ot) (oz := oz) e.Types b1 b2 .ro
  have sh := shape14_12 (ot := ot) (oz := oz) e hK
  have e0 : ownE e = (strEq e.Name ⟨#[]⟩ && (!(e.N != 0) && (!e.Has && (l0E e && shpE e 1 1 1 1)))) := by unfold ownE; simp only [hK, Int.reduceEq, if_true, if_false]
  simp only [l0E, labE, shpE] at e0
  have tz : (0 : Int) ≤ (e.Types.length : Int) := by omega
  have kz : (0 : Int) ≤ (e.Kids.length : Int) := by omega
  have n1 : ((12 : Int) != 1) = true := rfl
  have n2 : ((12 : Int) != 2) = true := rfl
  have n3 : ((12 : Int) != 3) = true := rfl
  have n9 : ((12 : Int) != 9) = true := rfl
  have n11 : ((12 : Int) != 11) = true := rfl
  have n13 : ((12 : Int) != 13) = true := rfl
  rw [e0]; clear e0
  (rw [w_plain (fn := c34) rfl rfl (by simp only [go_sem, hK, fi, ri, ty, sh, tz, kz, n1, n2, n3, n9, n11, n13]) rfl (by decide)]; simp only [c34, c34_b, c34_r1, c34_r3, c34_r4, c34_r6, c34_r8, c34_r10, c34_r13, go_sem, hK, fi, ri, ty, sh, tz, kz, n1, n2, n3, n9, n11, n13]; repeat' (first | (rw [guardO_t]; split <;> rename_i h <;> (try rw [Bool.not_eq_true] at h) <;> (try simp only [go_sem, c34_r1, c34_r3, c34_r4, c34_r6, c34_r8, c34_r10, c34_r13, hK, fi, ri, ty, sh, tz, kz, n1, n2, n3, n9, n11, n13, *])) | (rw [guardO_f]; split <;> rename_i h <;> (try rw [Bool.not_eq_true] at h) <;> (try simp only [go_sem, c34_r1, c34_r3, c34_r4, c34_r6, c34_r8, c34_r10, c34_r13, hK, fi, ri, ty, sh, tz, kz, n1, n2, n3, n9, n11, n13, *])) | (rw [cw_bool]; split <;> rename_i h <;> (try rw [Bool.not_eq_true] at h) <;> (try simp only [go_sem, c34_r1, c34_r3, c34_r4, c34_r6, c34_r8, c34_r10, c34_r13, hK, fi, ri, ty, sh, tz, kz, n1, n2, n3, n9, n11, n13, *])))) <;> (try simp_all [Bool.not_eq_true]) <;> (try omega)
set_option maxHeartbeats 4000000 in
theorem own14_13 (e : GExp) (ok : OkExp e) (hK : e.K = 13) (S : St) : cal (env ot oz) 34 [.agg (rExp e)] S = some (.bool (ownE e), S) := by
  obtain ⟨⟨a1, a2⟩, ⟨b1, b2⟩, c1⟩ := okExp_a ok
  have fi := fun S => cal_ans (fine01_ok (ot := ot) (oz := oz) e.Name) (S := S)
  have ri := fun S => cal_ans (rising01_ok (ot := ot) (oz := oz) e.Labels c1 .ro) (S := S)
  have ty := types14 (ot := ot) (oz := oz) e.Types b1 b2 .ro
  have sh := shape14_13 (ot := ot) (oz := oz) e hK
  have e0 : ownE e = (fineS e.Name && (!(e.N != 0) && (l0E e && shpE e (if e.Has then 1 else 0) (if e.Has then 3 else 0) 0 4))) := by unfold ownE; simp only [hK, Int.reduceEq, if_true, if_false]
  simp only [l0E, labE, shpE] at e0
  have tz : (0 : Int) ≤ (e.Types.length : Int) := by omega
  have kz : (0 : Int) ≤ (e.Kids.length : Int) := by omega
  have n1 : ((13 : Int) != 1) = true := rfl
  have n2 : ((13 : Int) != 2) = true := rfl
  have n3 : ((13 : Int) != 3) = true := rfl
  have n9 : ((13 : Int) != 9) = true := rfl
  have n11 : ((13 : Int) != 11) = true := rfl
  have n13 : ((13 : Int) != 13) = false := rfl
  rw [e0]; clear e0
  (rw [w_plain (fn := c34) rfl rfl (by simp only [go_sem, hK, fi, ri, ty, sh, tz, kz, n1, n2, n3, n9, n11, n13]) rfl (by decide)]; simp only [c34, c34_b, c34_r1, c34_r3, c34_r4, c34_r6, c34_r8, c34_r10, c34_r13, go_sem, hK, fi, ri, ty, sh, tz, kz, n1, n2, n3, n9, n11, n13]; repeat' (first | (rw [guardO_t]; split <;> rename_i h <;> (try rw [Bool.not_eq_true] at h) <;> (try simp only [go_sem, c34_r1, c34_r3, c34_r4, c34_r6, c34_r8, c34_r10, c34_r13, hK, fi, ri, ty, sh, tz, kz, n1, n2, n3, n9, n11, n13, *])) | (rw [guardO_f]; split <;> rename_i h <;> (try rw [Bool.not_eq_true] at h) <;> (try simp only [go_sem, c34_r1, c34_r3, c34_r4, c34_r6, c34_r8, c34_r10, c34_r13, hK, fi, ri, ty, sh, tz, kz, n1, n2, n3, n9, n11, n13, *])) | (rw [cw_bool]; split <;> rename_i h <;> (try rw [Bool.not_eq_true] at h) <;> (try simp only [go_sem, c34_r1, c34_r3, c34_r4, c34_r6, c34_r8, c34_r10, c34_r13, hK, fi, ri, ty, sh, tz, kz, n1, n2, n3, n9, n11, n13, *])))) <;> (try simp_all [Bool.not_eq_true]) <;> (try omega)
theorem own14 (e : GExp) (ok : OkExp e) (S : St) : cal (env ot oz) 34 [.agg (rExp e)] S = some (.bool (ownE e), S) := by
  by_cases h1 : e.K = 1
  · exact own14_1 e ok h1 S
  by_cases h2 : e.K = 2
  · exact own14_2 e ok h2 S
  by_cases h3 : e.K = 3
  · exact own14_3 e ok h3 S
  by_cases h4 : e.K = 4
  · exact own14_4 e ok h4 S
  by_cases h5 : e.K = 5
  · exact own14_5 e ok h5 S
  by_cases h6 : e.K = 6
  · exact own14_6 e ok h6 S
  by_cases h7 : e.K = 7
  · exact own14_7 e ok h7 S
  by_cases h8 : e.K = 8
  · exact own14_8 e ok h8 S
  by_cases h9 : e.K = 9
  · exact own14_9 e ok h9 S
  by_cases h10 : e.K = 10
  · exact own14_10 e ok h10 S
  by_cases h11 : e.K = 11
  · exact own14_11 e ok h11 S
  by_cases h12 : e.K = 12
  · exact own14_12 e ok h12 S
  by_cases h13 : e.K = 13
  · exact own14_13 e ok h13 S
  have e0 : ownE e = false := by unfold ownE; simp only [h1, h2, h3, h4, h5, h6, h7, h8, h9, h10, h11, h12, h13, if_false]
  rw [e0]
  by_cases q : e.K < 1
  · have q1 : decide (e.K < 1) = true := decide_eq_true q
    (rw [w_plain (fn := c34) rfl rfl (by simp only [go_sem, q1]) rfl (by decide)]; simp only [c34, c34_b, c34_r1, c34_r3, c34_r4, c34_r6, c34_r8, c34_r10, c34_r13, go_sem, q1]; repeat' (first | (rw [guardO_t]; split <;> rename_i h <;> (try rw [Bool.not_eq_true] at h) <;> (try simp only [go_sem, c34_r1, c34_r3, c34_r4, c34_r6, c34_r8, c34_r10, c34_r13, q1, *])) | (rw [guardO_f]; split <;> rename_i h <;> (try rw [Bool.not_eq_true] at h) <;> (try simp only [go_sem, c34_r1, c34_r3, c34_r4, c34_r6, c34_r8, c34_r10, c34_r13, q1, *])) | (rw [cw_bool]; split <;> rename_i h <;> (try rw [Bool.not_eq_true] at h) <;> (try simp only [go_sem, c34_r1, c34_r3, c34_r4, c34_r6, c34_r8, c34_r10, c34_r13, q1, *]))))
  · have q1 : decide (e.K < 1) = false := decide_eq_false q
    have q2 : decide (13 < e.K) = true := decide_eq_true (by omega)
    (rw [w_plain (fn := c34) rfl rfl (by simp only [go_sem, q1, q2]) rfl (by decide)]; simp only [c34, c34_b, c34_r1, c34_r3, c34_r4, c34_r6, c34_r8, c34_r10, c34_r13, go_sem, q1, q2]; repeat' (first | (rw [guardO_t]; split <;> rename_i h <;> (try rw [Bool.not_eq_true] at h) <;> (try simp only [go_sem, c34_r1, c34_r3, c34_r4, c34_r6, c34_r8, c34_r10, c34_r13, q1, q2, *])) | (rw [guardO_f]; split <;> rename_i h <;> (try rw [Bool.not_eq_true] at h) <;> (try simp only [go_sem, c34_r1, c34_r3, c34_r4, c34_r6, c34_r8, c34_r10, c34_r13, q1, q2, *])) | (rw [cw_bool]; split <;> rename_i h <;> (try rw [Bool.not_eq_true] at h) <;> (try simp only [go_sem, c34_r1, c34_r3, c34_r4, c34_r6, c34_r8, c34_r10, c34_r13, q1, q2, *]))))
theorem right14 : ∀ (e : GExp), OkExp e → ∀ S, cal (env ot oz) 19 [.agg (rExp e)] S = some (.bool (rightE e), S) := by
  refine GExp.ind fun e ih ok S => ?_
  obtain ⟨⟨a1, a2⟩, _⟩ := okExp_a ok
  have o := own14 (ot := ot) (oz := oz) e ok
  have f0 := fun fin st => loopA (E := (env ot oz)) (S := S) (c := c19_l0) e.Kids a1 (fun i => [(1, some (.at_ (rExp e))), (3, some (.int .i64 (i : Int)))]) (fun k => !(rightE k)) fin st
    (aft (env ot oz) fin st .ret [(2, some (.bool false))] S) (aft (env ot oz) fin st (.exit 0) [(1, some (.at_ (rExp e))), (3, some (.int .i64 (e.Kids.length : Int))), (11, some (.bool false))] S)
    (fun i k h1 h2 h3 h4 h5 => by
      have c := ih k h2 (a2 k h2)
      simp only [Bool.not_eq_false'] at h5
      (rw [c19_l0_w]; simp only [c19_l0_b, c19_l0_a, go_sem, h1, h3, h4, h5, c]; repeat' (first | (rw [guardO_t]; split <;> rename_i h <;> (try rw [Bool.not_eq_true] at h) <;> (try simp only [go_sem, c19_l0_a, h1, h3, h4, h5, c, *])) | (rw [guardO_f]; split <;> rename_i h <;> (try rw [Bool.not_eq_true] at h) <;> (try simp only [go_sem, c19_l0_a, h1, h3, h4, h5, c, *])) | (rw [cw_bool]; split <;> rename_i h <;> (try rw [Bool.not_eq_true] at h) <;> (try simp only [go_sem, c19_l0_a, h1, h3, h4, h5, c, *])))))
    (fun i k h1 h2 h3 h4 h5 => by
      have c := ih k h2 (a2 k h2)
      simp only [Bool.not_eq_true'] at h5
      (rw [c19_l0_w]; simp only [c19_l0_b, c19_l0_a, go_sem, h1, h3, h4, h5, c]; repeat' (first | (rw [guardO_t]; split <;> rename_i h <;> (try rw [Bool.not_eq_true] at h) <;> (try simp only [go_sem, c19_l0_a, h1, h3, h4, h5, c, *])) | (rw [guardO_f]; split <;> rename_i h <;> (try rw [Bool.not_eq_true] at h) <;> (try simp only [go_sem, c19_l0_a, h1, h3, h4, h5, c, *])) | (rw [cw_bool]; split <;> rename_i h <;> (try rw [Bool.not_eq_true] at h) <;> (try simp only [go_sem, c19_l0_a, h1, h3, h4, h5, c, *])))))
    (by (rw [c19_l0_w]; simp only [c19_l0_b, c19_l0_a, go_sem]; repeat' (first | (rw [guardO_t]; split <;> rename_i h <;> (try rw [Bool.not_eq_true] at h) <;> (try simp only [go_sem, c19_l0_a, *])) | (rw [guardO_f]; split <;> rename_i h <;> (try rw [Bool.not_eq_true] at h) <;> (try simp only [go_sem, c19_l0_a, *])) | (rw [cw_bool]; split <;> rename_i h <;> (try rw [Bool.not_eq_true] at h) <;> (try simp only [go_sem, c19_l0_a, *])))))
  simp only [Int.cast_ofNat_Int, ← List.not_all_eq_any_not] at f0
  rw [rightE_eq, rightEs_all]
  cases q : e.Kids.all rightE <;> simp only [q, if_true, if_false, Bool.false_eq_true, Bool.not_true, Bool.not_false] at f0 <;> cases q2 : ownE e <;> (rw [w_plain (fn := c19) rfl rfl (by simp only [go_sem, o, f0, q2]) rfl (by decide)]; simp only [c19, c19_b, go_sem, o, f0, q2]; repeat' (first | (rw [guardO_t]; split <;> rename_i h <;> (try rw [Bool.not_eq_true] at h) <;> (try simp only [go_sem, o, f0, q2, *])) | (rw [guardO_f]; split <;> rename_i h <;> (try rw [Bool.not_eq_true] at h) <;> (try simp only [go_sem, o, f0, q2, *])) | (rw [cw_bool]; split <;> rename_i h <;> (try rw [Bool.not_eq_true] at h) <;> (try simp only [go_sem, o, f0, q2, *]))))
end
end Go.PE
