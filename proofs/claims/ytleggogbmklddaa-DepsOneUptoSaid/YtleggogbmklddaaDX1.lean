/-
  Types, binders, expressions and definitions that are the same: by the program. Conditions: each law's own.
-/
import Derived.Test.YtleggogbmklddaaS4
import Derived.Test.YtleggogbmklddaaPLO
namespace Go.PE
open Go Go.RowKit Go.Proofs
set_option linter.unusedVariables false
set_option linter.unusedSimpArgs false
set_option maxRecDepth 100000
theorem eqS_allZ : ∀ l m : List ByteArray, eqS l m = allZ strEq l m
  | [], [] => rfl
  | [], _ :: _ => rfl
  | _ :: _, [] => rfl
  | a :: l, b :: m => by rw [eqS, allZ, eqS_allZ l m]
theorem sameTs_allZ : ∀ l m : List GTy, sameTs l m = allZ sameT l m
  | [], [] => by simp [sameTs, allZ]
  | [], _ :: _ => by simp [sameTs, allZ]
  | _ :: _, [] => by simp [sameTs, allZ]
  | a :: l, b :: m => by rw [sameTs, allZ, sameTs_allZ l m]
section
variable {ot : TypeId} {oz : EP}
theorem equalFTy (l m : List GTy) (p : GTy → GTy → Bool) (hl : Short l.length) (hm : Short m.length) (f : FuncId) (hp : ∀ a ∈ l, ∀ b ∈ m, ∀ S, cal (env ot oz) f [.agg (rTy a), .agg (rTy b)] S = some (.bool (p a b), S)) (S : St) :
    cal (env ot oz) 93 [.sl .ro (l.map rTy), .sl .ro (m.map rTy), .fn f [] []] S = some (.bool (allZ p l m), S) := by
  by_cases he : l.length = m.length
  · have hz := zip_len he
    have hb : ((l.length : Int) != (m.length : Int)) = false := by rw [he]; simp
    have f0 := fun fin st => loopAJ (E := (env ot oz)) (c := c93_l0) (l.zip m) (by rw [hz]; exact hl)
      (fun i => [(1, some (.sl .ro (m.map rTy))), (2, some (.fn f [] [])), (15, some (.sl .ro (l.map rTy))), (16, some (.int .i64 (l.length : Int))), (17, some (.int .i64 (i : Int)))]) (fun q => !(p q.1 q.2))
      (fun q => [.cells 33 (rTy q.1), .cells 33 (rTy q.2)]) fin st (fun T => aft (env ot oz) fin st .ret [(6, some (.bool false))] T)
      (fun T => aft (env ot oz) fin st (.exit 0) [(1, some (.sl .ro (m.map rTy))), (2, some (.fn f [] [])), (15, some (.sl .ro (l.map rTy))), (16, some (.int .i64 (l.length : Int))), (17, some (.int .i64 (l.length : Int))), (18, some (.bool false))] T)
      (fun i q T h1 h2 h3 h4 h5 => by
        obtain ⟨a, b⟩ := q
        obtain ⟨k1, k2⟩ := zip_get h1
        rw [hz] at h3
        have h3' : (i : Int) < (m.length : Int) := by omega
        have c := hp a (mem_of_get k1) b (mem_of_get k2)
        have e1 := rb1 T.obs (.cells 33 (rTy a)) (.cells 33 (rTy b))
        simp only [Bool.not_eq_false'] at h5
        (rw [c93_l0_w]; simp only [c93_l0_b, c93_l0_a, go_sem, h3, h3', h4, k1, k2, c, h5, e1]; repeat' (first | (rw [guardO_t]; split <;> rename_i h <;> (try rw [Bool.not_eq_true] at h) <;> (try simp only [go_sem, c93_l0_a, h3, h3', h4, k1, k2, c, h5, e1, *])) | (rw [guardO_f]; split <;> rename_i h <;> (try rw [Bool.not_eq_true] at h) <;> (try simp only [go_sem, c93_l0_a, h3, h3', h4, k1, k2, c, h5, e1, *])) | (rw [cw_bool]; split <;> rename_i h <;> (try rw [Bool.not_eq_true] at h) <;> (try simp only [go_sem, c93_l0_a, h3, h3', h4, k1, k2, c, h5, e1, *])))))
      (fun i q T h1 h2 h3 h4 h5 => by
        obtain ⟨a, b⟩ := q
        obtain ⟨k1, k2⟩ := zip_get h1
        rw [hz] at h3
        have h3' : (i : Int) < (m.length : Int) := by omega
        have c := hp a (mem_of_get k1) b (mem_of_get k2)
        have e1 := rb1 T.obs (.cells 33 (rTy a)) (.cells 33 (rTy b))
        simp only [Bool.not_eq_true'] at h5
        (rw [c93_l0_w]; simp only [c93_l0_b, c93_l0_a, go_sem, h3, h3', h4, k1, k2, c, h5, e1]; repeat' (first | (rw [guardO_t]; split <;> rename_i h <;> (try rw [Bool.not_eq_true] at h) <;> (try simp only [go_sem, c93_l0_a, h3, h3', h4, k1, k2, c, h5, e1, *])) | (rw [guardO_f]; split <;> rename_i h <;> (try rw [Bool.not_eq_true] at h) <;> (try simp only [go_sem, c93_l0_a, h3, h3', h4, k1, k2, c, h5, e1, *])) | (rw [cw_bool]; split <;> rename_i h <;> (try rw [Bool.not_eq_true] at h) <;> (try simp only [go_sem, c93_l0_a, h3, h3', h4, k1, k2, c, h5, e1, *])))))
      (fun T => by
        rw [hz]
        (rw [c93_l0_w]; simp only [c93_l0_b, c93_l0_a, go_sem]; repeat' (first | (rw [guardO_t]; split <;> rename_i h <;> (try rw [Bool.not_eq_true] at h) <;> (try simp only [go_sem, c93_l0_a, *])) | (rw [guardO_f]; split <;> rename_i h <;> (try rw [Bool.not_eq_true] at h) <;> (try simp only [go_sem, c93_l0_a, *])) | (rw [cw_bool]; split <;> rename_i h <;> (try rw [Bool.not_eq_true] at h) <;> (try simp only [go_sem, c93_l0_a, *]))))) S
    have e := allZ_zip (p := p) he
    rw [e] at f0
    simp only [Int.cast_ofNat_Int] at f0
    cases q : allZ p l m <;> simp only [q, Bool.not_true, Bool.not_false, if_true, if_false, Bool.false_eq_true] at f0 <;> (rw [w_plain (fn := c93) rfl rfl (by simp only [go_sem, f0, hb, q]) rfl (by decide)]; simp only [c93, c93_b, go_sem, f0, hb, q]; repeat' (first | (rw [guardO_t]; split <;> rename_i h <;> (try rw [Bool.not_eq_true] at h) <;> (try simp only [go_sem, f0, hb, q, *])) | (rw [guardO_f]; split <;> rename_i h <;> (try rw [Bool.not_eq_true] at h) <;> (try simp only [go_sem, f0, hb, q, *])) | (rw [cw_bool]; split <;> rename_i h <;> (try rw [Bool.not_eq_true] at h) <;> (try simp only [go_sem, f0, hb, q, *]))))
  · have e := allZ_len (p := p) he
    have hb : ((l.length : Int) != (m.length : Int)) = true := by simp; omega
    (rw [w_plain (fn := c93) rfl rfl (by simp only [go_sem, e, hb]) rfl (by decide)]; simp only [c93, c93_b, go_sem, e, hb]; repeat' (first | (rw [guardO_t]; split <;> rename_i h <;> (try rw [Bool.not_eq_true] at h) <;> (try simp only [go_sem, e, hb, *])) | (rw [guardO_f]; split <;> rename_i h <;> (try rw [Bool.not_eq_true] at h) <;> (try simp only [go_sem, e, hb, *])) | (rw [cw_bool]; split <;> rename_i h <;> (try rw [Bool.not_eq_true] at h) <;> (try simp only [go_sem, e, hb, *]))))
theorem equalFExp (l m : List GExp) (p : GExp → GExp → Bool) (hl : Short l.length) (hm : Short m.length) (f : FuncId) (hp : ∀ a ∈ l, ∀ b ∈ m, ∀ S, cal (env ot oz) f [.agg (rExp a), .agg (rExp b)] S = some (.bool (p a b), S)) (S : St) :
    cal (env ot oz) 94 [.sl .ro (l.map rExp), .sl .ro (m.map rExp), .fn f [] []] S = some (.bool (allZ p l m), S) := by
  by_cases he : l.length = m.length
  · have hz := zip_len he
    have hb : ((l.length : Int) != (m.length : Int)) = false := by rw [he]; simp
    have f0 := fun fin st => loopAJ (E := (env ot oz)) (c := c94_l0) (l.zip m) (by rw [hz]; exact hl)
      (fun i => [(1, some (.sl .ro (m.map rExp))), (2, some (.fn f [] [])), (15, some (.sl .ro (l.map rExp))), (16, some (.int .i64 (l.length : Int))), (17, some (.int .i64 (i : Int)))]) (fun q => !(p q.1 q.2))
      (fun q => [.cells 38 (rExp q.1), .cells 38 (rExp q.2)]) fin st (fun T => aft (env ot oz) fin st .ret [(6, some (.bool false))] T)
      (fun T => aft (env ot oz) fin st (.exit 0) [(1, some (.sl .ro (m.map rExp))), (2, some (.fn f [] [])), (15, some (.sl .ro (l.map rExp))), (16, some (.int .i64 (l.length : Int))), (17, some (.int .i64 (l.length : Int))), (18, some (.bool false))] T)
      (fun i q T h1 h2 h3 h4 h5 => by
        obtain ⟨a, b⟩ := q
        obtain ⟨k1, k2⟩ := zip_get h1
        rw [hz] at h3
        have h3' : (i : Int) < (m.length : Int) := by omega
        have c := hp a (mem_of_get k1) b (mem_of_get k2)
        have e1 := rb1 T.obs (.cells 38 (rExp a)) (.cells 38 (rExp b))
        simp only [Bool.not_eq_false'] at h5
        (rw [c94_l0_w]; simp only [c94_l0_b, c94_l0_a, go_sem, h3, h3', h4, k1, k2, c, h5, e1]; repeat' (first | (rw [guardO_t]; split <;> rename_i h <;> (try rw [Bool.not_eq_true] at h) <;> (try simp only [go_sem, c94_l0_a, h3, h3', h4, k1, k2, c, h5, e1, *])) | (rw [guardO_f]; split <;> rename_i h <;> (try rw [Bool.not_eq_true] at h) <;> (try simp only [go_sem, c94_l0_a, h3, h3', h4, k1, k2, c, h5, e1, *])) | (rw [cw_bool]; split <;> rename_i h <;> (try rw [Bool.not_eq_true] at h) <;> (try simp only [go_sem, c94_l0_a, h3, h3', h4, k1, k2, c, h5, e1, *])))))
      (fun i q T h1 h2 h3 h4 h5 => by
        obtain ⟨a, b⟩ := q
        obtain ⟨k1, k2⟩ := zip_get h1
        rw [hz] at h3
        have h3' : (i : Int) < (m.length : Int) := by omega
        have c := hp a (mem_of_get k1) b (mem_of_get k2)
        have e1 := rb1 T.obs (.cells 38 (rExp a)) (.cells 38 (rExp b))
        simp only [Bool.not_eq_true'] at h5
        (rw [c94_l0_w]; simp only [c94_l0_b, c94_l0_a, go_sem, h3, h3', h4, k1, k2, c, h5, e1]; repeat' (first | (rw [guardO_t]; split <;> rename_i h <;> (try rw [Bool.not_eq_true] at h) <;> (try simp only [go_sem, c94_l0_a, h3, h3', h4, k1, k2, c, h5, e1, *])) | (rw [guardO_f]; split <;> rename_i h <;> (try rw [Bool.not_eq_true] at h) <;> (try simp only [go_sem, c94_l0_a, h3, h3', h4, k1, k2, c, h5, e1, *])) | (rw [cw_bool]; split <;> rename_i h <;> (try rw [Bool.not_eq_true] at h) <;> (try simp only [go_sem, c94_l0_a, h3, h3', h4, k1, k2, c, h5, e1, *])))))
      (fun T => by
        rw [hz]
        (rw [c94_l0_w]; simp only [c94_l0_b, c94_l0_a, go_sem]; repeat' (first | (rw [guardO_t]; split <;> rename_i h <;> (try rw [Bool.not_eq_true] at h) <;> (try simp only [go_sem, c94_l0_a, *])) | (rw [guardO_f]; split <;> rename_i h <;> (try rw [Bool.not_eq_true] at h) <;> (try simp only [go_sem, c94_l0_a, *])) | (rw [cw_bool]; split <;> rename_i h <;> (try rw [Bool.not_eq_true] at h) <;> (try simp only [go_sem, c94_l0_a, *]))))) S
    have e := allZ_zip (p := p) he
    rw [e] at f0
    simp only [Int.cast_ofNat_Int] at f0
    cases q : allZ p l m <;> simp only [q, Bool.not_true, Bool.not_false, if_true, if_false, Bool.false_eq_true] at f0 <;> (rw [w_plain (fn := c94) rfl rfl (by simp only [go_sem, f0, hb, q]) rfl (by decide)]; simp only [c94, c94_b, go_sem, f0, hb, q]; repeat' (first | (rw [guardO_t]; split <;> rename_i h <;> (try rw [Bool.not_eq_true] at h) <;> (try simp only [go_sem, f0, hb, q, *])) | (rw [guardO_f]; split <;> rename_i h <;> (try rw [Bool.not_eq_true] at h) <;> (try simp only [go_sem, f0, hb, q, *])) | (rw [cw_bool]; split <;> rename_i h <;> (try rw [Bool.not_eq_true] at h) <;> (try simp only [go_sem, f0, hb, q, *]))))
  · have e := allZ_len (p := p) he
    have hb : ((l.length : Int) != (m.length : Int)) = true := by simp; omega
    (rw [w_plain (fn := c94) rfl rfl (by simp only [go_sem, e, hb]) rfl (by decide)]; simp only [c94, c94_b, go_sem, e, hb]; repeat' (first | (rw [guardO_t]; split <;> rename_i h <;> (try rw [Bool.not_eq_true] at h) <;> (try simp only [go_sem, e, hb, *])) | (rw [guardO_f]; split <;> rename_i h <;> (try rw [Bool.not_eq_true] at h) <;> (try simp only [go_sem, e, hb, *])) | (rw [cw_bool]; split <;> rename_i h <;> (try rw [Bool.not_eq_true] at h) <;> (try simp only [go_sem, e, hb, *]))))
theorem equalFBind (l m : List GBind) (p : GBind → GBind → Bool) (hl : Short l.length) (hm : Short m.length) (f : FuncId) (hp : ∀ a ∈ l, ∀ b ∈ m, ∀ S, cal (env ot oz) f [.agg (rBind a), .agg (rBind b)] S = some (.bool (p a b), S)) (S : St) :
    cal (env ot oz) 101 [.sl .ro (l.map rBind), .sl .ro (m.map rBind), .fn f [] []] S = some (.bool (allZ p l m), S) := by
  by_cases he : l.length = m.length
  · have hz := zip_len he
    have hb : ((l.length : Int) != (m.length : Int)) = false := by rw [he]; simp
    have f0 := fun fin st => loopAJ (E := (env ot oz)) (c := c101_l0) (l.zip m) (by rw [hz]; exact hl)
      (fun i => [(1, some (.sl .ro (m.map rBind))), (2, some (.fn f [] [])), (15, some (.sl .ro (l.map rBind))), (16, some (.int .i64 (l.length : Int))), (17, some (.int .i64 (i : Int)))]) (fun q => !(p q.1 q.2))
      (fun q => [.cells 76 (rBind q.1), .cells 76 (rBind q.2)]) fin st (fun T => aft (env ot oz) fin st .ret [(6, some (.bool false))] T)
      (fun T => aft (env ot oz) fin st (.exit 0) [(1, some (.sl .ro (m.map rBind))), (2, some (.fn f [] [])), (15, some (.sl .ro (l.map rBind))), (16, some (.int .i64 (l.length : Int))), (17, some (.int .i64 (l.length : Int))), (18, some (.bool false))] T)
      (fun i q T h1 h2 h3 h4 h5 => by
        obtain ⟨a, b⟩ := q
        obtain ⟨k1, k2⟩ := zip_get h1
        rw [hz] at h3
        have h3' : (i : Int) < (m.length : Int) := by omega
        have c := hp a (mem_of_get k1) b (mem_of_get k2)
        have e1 := rb1 T.obs (.cells 76 (rBind a)) (.cells 76 (rBind b))
        simp only [Bool.not_eq_false'] at h5
        (rw [c101_l0_w]; simp only [c101_l0_b, c101_l0_a, go_sem, h3, h3', h4, k1, k2, c, h5, e1]; repeat' (first | (rw [guardO_t]; split <;> rename_i h <;> (try rw [Bool.not_eq_true] at h) <;> (try simp only [go_sem, c101_l0_a, h3, h3', h4, k1, k2, c, h5, e1, *])) | (rw [guardO_f]; split <;> rename_i h <;> (try rw [Bool.not_eq_true] at h) <;> (try simp only [go_sem, c101_l0_a, h3, h3', h4, k1, k2, c, h5, e1, *])) | (rw [cw_bool]; split <;> rename_i h <;> (try rw [Bool.not_eq_true] at h) <;> (try simp only [go_sem, c101_l0_a, h3, h3', h4, k1, k2, c, h5, e1, *])))))
      (fun i q T h1 h2 h3 h4 h5 => by
        obtain ⟨a, b⟩ := q
        obtain ⟨k1, k2⟩ := zip_get h1
        rw [hz] at h3
        have h3' : (i : Int) < (m.length : Int) := by omega
        have c := hp a (mem_of_get k1) b (mem_of_get k2)
        have e1 := rb1 T.obs (.cells 76 (rBind a)) (.cells 76 (rBind b))
        simp only [Bool.not_eq_true'] at h5
        (rw [c101_l0_w]; simp only [c101_l0_b, c101_l0_a, go_sem, h3, h3', h4, k1, k2, c, h5, e1]; repeat' (first | (rw [guardO_t]; split <;> rename_i h <;> (try rw [Bool.not_eq_true] at h) <;> (try simp only [go_sem, c101_l0_a, h3, h3', h4, k1, k2, c, h5, e1, *])) | (rw [guardO_f]; split <;> rename_i h <;> (try rw [Bool.not_eq_true] at h) <;> (try simp only [go_sem, c101_l0_a, h3, h3', h4, k1, k2, c, h5, e1, *])) | (rw [cw_bool]; split <;> rename_i h <;> (try rw [Bool.not_eq_true] at h) <;> (try simp only [go_sem, c101_l0_a, h3, h3', h4, k1, k2, c, h5, e1, *])))))
      (fun T => by
        rw [hz]
        (rw [c101_l0_w]; simp only [c101_l0_b, c101_l0_a, go_sem]; repeat' (first | (rw [guardO_t]; split <;> rename_i h <;> (try rw [Bool.not_eq_true] at h) <;> (try simp only [go_sem, c101_l0_a, *])) | (rw [guardO_f]; split <;> rename_i h <;> (try rw [Bool.not_eq_true] at h) <;> (try simp only [go_sem, c101_l0_a, *])) | (rw [cw_bool]; split <;> rename_i h <;> (try rw [Bool.not_eq_true] at h) <;> (try simp only [go_sem, c101_l0_a, *]))))) S
    have e := allZ_zip (p := p) he
    rw [e] at f0
    simp only [Int.cast_ofNat_Int] at f0
    cases q : allZ p l m <;> simp only [q, Bool.not_true, Bool.not_false, if_true, if_false, Bool.false_eq_true] at f0 <;> (rw [w_plain (fn := c101) rfl rfl (by simp only [go_sem, f0, hb, q]) rfl (by decide)]; simp only [c101, c101_b, go_sem, f0, hb, q]; repeat' (first | (rw [guardO_t]; split <;> rename_i h <;> (try rw [Bool.not_eq_true] at h) <;> (try simp only [go_sem, f0, hb, q, *])) | (rw [guardO_f]; split <;> rename_i h <;> (try rw [Bool.not_eq_true] at h) <;> (try simp only [go_sem, f0, hb, q, *])) | (rw [cw_bool]; split <;> rename_i h <;> (try rw [Bool.not_eq_true] at h) <;> (try simp only [go_sem, f0, hb, q, *]))))
  · have e := allZ_len (p := p) he
    have hb : ((l.length : Int) != (m.length : Int)) = true := by simp; omega
    (rw [w_plain (fn := c101) rfl rfl (by simp only [go_sem, e, hb]) rfl (by decide)]; simp only [c101, c101_b, go_sem, e, hb]; repeat' (first | (rw [guardO_t]; split <;> rename_i h <;> (try rw [Bool.not_eq_true] at h) <;> (try simp only [go_sem, e, hb, *])) | (rw [guardO_f]; split <;> rename_i h <;> (try rw [Bool.not_eq_true] at h) <;> (try simp only [go_sem, e, hb, *])) | (rw [cw_bool]; split <;> rename_i h <;> (try rw [Bool.not_eq_true] at h) <;> (try simp only [go_sem, e, hb, *]))))
theorem equalS (l m : List ByteArray) (hl : Short l.length) (hm : Short m.length) (S : St) : cal (env ot oz) 92 [.sl .ro (l.map rStr), .sl .ro (m.map rStr)] S = some (.bool (eqS l m), S) := by
  rw [eqS_allZ]
  by_cases he : l.length = m.length
  · have hz := zip_len he
    have hb : ((l.length : Int) != (m.length : Int)) = false := by rw [he]; simp
    have f0 := fun fin st => loopA (E := (env ot oz)) (S := S) (c := c92_l0) (l.zip m) (by rw [hz]; exact hl)
      (fun i => [(0, some (.sl .ro (l.map rStr))), (1, some (.sl .ro (m.map rStr))), (12, some (.int .i64 (l.length : Int))), (13, some (.int .i64 (i : Int)))]) (fun q => !(strEq q.1 q.2)) fin st (aft (env ot oz) fin st .ret [(4, some (.bool false))] S)
      (aft (env ot oz) fin st (.exit 0) [(0, some (.sl .ro (l.map rStr))), (1, some (.sl .ro (m.map rStr))), (12, some (.int .i64 (l.length : Int))), (13, some (.int .i64 (l.length : Int))), (14, some (.bool false))] S)
      (fun i q h1 h2 h3 h4 h5 => by
        obtain ⟨a, b⟩ := q
        obtain ⟨k1, k2⟩ := zip_get h1
        rw [hz] at h3
        have h3' : (i : Int) < (m.length : Int) := by omega
        simp only [Bool.not_eq_false'] at h5
        (rw [c92_l0_w]; simp only [c92_l0_b, c92_l0_a, go_sem, h3, h3', h4, k1, k2, h5]; repeat' (first | (rw [guardO_t]; split <;> rename_i h <;> (try rw [Bool.not_eq_true] at h) <;> (try simp only [go_sem, c92_l0_a, h3, h3', h4, k1, k2, h5, *])) | (rw [guardO_f]; split <;> rename_i h <;> (try rw [Bool.not_eq_true] at h) <;> (try simp only [go_sem, c92_l0_a, h3, h3', h4, k1, k2, h5, *])) | (rw [cw_bool]; split <;> rename_i h <;> (try rw [Bool.not_eq_true] at h) <;> (try simp only [go_sem, c92_l0_a, h3, h3', h4, k1, k2, h5, *])))))
      (fun i q h1 h2 h3 h4 h5 => by
        obtain ⟨a, b⟩ := q
        obtain ⟨k1, k2⟩ := zip_get h1
        rw [hz] at h3
        have h3' : (i : Int) < (m.length : Int) := by omega
        simp only [Bool.not_eq_true'] at h5
        (rw [c92_l0_w]; simp only [c92_l0_b, c92_l0_a, go_sem, h3, h3', h4, k1, k2, h5]; repeat' (first | (rw [guardO_t]; split <;> rename_i h <;> (try rw [Bool.not_eq_true] at h) <;> (try simp only [go_sem, c92_l0_a, h3, h3', h4, k1, k2, h5, *])) | (rw [guardO_f]; split <;> rename_i h <;> (try rw [Bool.not_eq_true] at h) <;> (try simp only [go_sem, c92_l0_a, h3, h3', h4, k1, k2, h5, *])) | (rw [cw_bool]; split <;> rename_i h <;> (try rw [Bool.not_eq_true] at h) <;> (try simp only [go_sem, c92_l0_a, h3, h3', h4, k1, k2, h5, *])))))
      (by rw [hz]; (rw [c92_l0_w]; simp only [c92_l0_b, c92_l0_a, go_sem]; repeat' (first | (rw [guardO_t]; split <;> rename_i h <;> (try rw [Bool.not_eq_true] at h) <;> (try simp only [go_sem, c92_l0_a, *])) | (rw [guardO_f]; split <;> rename_i h <;> (try rw [Bool.not_eq_true] at h) <;> (try simp only [go_sem, c92_l0_a, *])) | (rw [cw_bool]; split <;> rename_i h <;> (try rw [Bool.not_eq_true] at h) <;> (try simp only [go_sem, c92_l0_a, *])))))
    have e := allZ_zip (p := strEq) he
    rw [e] at f0
    simp only [Int.cast_ofNat_Int] at f0
    cases q : allZ strEq l m <;> simp only [q, Bool.not_true, Bool.not_false, if_true, if_false, Bool.false_eq_true] at f0 <;> (rw [w_plain (fn := c92) rfl rfl (by simp only [go_sem, f0, hb, q]) rfl (by decide)]; simp only [c92, c92_b, go_sem, f0, hb, q]; repeat' (first | (rw [guardO_t]; split <;> rename_i h <;> (try rw [Bool.not_eq_true] at h) <;> (try simp only [go_sem, f0, hb, q, *])) | (rw [guardO_f]; split <;> rename_i h <;> (try rw [Bool.not_eq_true] at h) <;> (try simp only [go_sem, f0, hb, q, *])) | (rw [cw_bool]; split <;> rename_i h <;> (try rw [Bool.not_eq_true] at h) <;> (try simp only [go_sem, f0, hb, q, *]))))
  · have e := allZ_len (p := strEq) he
    have hb : ((l.length : Int) != (m.length : Int)) = true := by simp; omega
    (rw [w_plain (fn := c92) rfl rfl (by simp only [go_sem, e, hb]) rfl (by decide)]; simp only [c92, c92_b, go_sem, e, hb]; repeat' (first | (rw [guardO_t]; split <;> rename_i h <;> (try rw [Bool.not_eq_true] at h) <;> (try simp only [go_sem, e, hb, *])) | (rw [guardO_f]; split <;> rename_i h <;> (try rw [Bool.not_eq_true] at h) <;> (try simp only [go_sem, e, hb, *])) | (rw [cw_bool]; split <;> rename_i h <;> (try rw [Bool.not_eq_true] at h) <;> (try simp only [go_sem, e, hb, *]))))
theorem okTy_at {t : GTy} (h : OkTy t) : Short t.Args.length ∧ (∀ x ∈ t.Args, OkTy x) ∧ Short t.Labels.length ∧ ∀ x ∈ t.Labels, Short x.size := by
  cases h; exact ⟨by assumption, by assumption, (by assumption : _ ∧ _)⟩
theorem okExp_at {t : GExp} (h : OkExp t) : (Short t.Kids.length ∧ ∀ x ∈ t.Kids, OkExp x) ∧ (Short t.Types.length ∧ ∀ x ∈ t.Types, OkTy x) ∧ (Short t.Labels.length ∧ ∀ x ∈ t.Labels, Short x.size) ∧ Short t.Name.size ∧ In64 t.K ∧ In64 t.N := by
  cases h; exact ⟨⟨by assumption, by assumption⟩, by assumption, by assumption, by assumption, by assumption, by assumption⟩
theorem tySame : ∀ (a : GTy), OkTy a → ∀ b, OkTy b → ∀ S, cal (env ot oz) 91 [.agg (rTy a), .agg (rTy b)] S = some (.bool (sameT a b), S) := by
  refine GTy.ind fun a ih oa b ob S => ?_
  obtain ⟨a1, a2, a3, _⟩ := okTy_at oa
  obtain ⟨b1, b2, b3, _⟩ := okTy_at ob
  have s1 := equalS (ot := ot) (oz := oz) a.Labels b.Labels a3 b3
  have s2 := equalFTy (ot := ot) (oz := oz) a.Args b.Args sameT a1 b1 91 (fun x hx y hy S => ih x hx (a2 x hx) y (b2 y hy) S)
  have e := sameT_eq a b
  rw [sameTs_allZ] at e
  (rw [w_plain (fn := c91) rfl rfl (by simp only [go_sem, s1, s2]) rfl (by decide)]; simp only [c91, c91_b, c91_r1, go_sem, s1, s2]; repeat' (first | (rw [guardO_t]; split <;> rename_i h <;> (try rw [Bool.not_eq_true] at h) <;> (try simp only [go_sem, c91_r1, s1, s2, *])) | (rw [guardO_f]; split <;> rename_i h <;> (try rw [Bool.not_eq_true] at h) <;> (try simp only [go_sem, c91_r1, s1, s2, *])) | (rw [cw_bool]; split <;> rename_i h <;> (try rw [Bool.not_eq_true] at h) <;> (try simp only [go_sem, c91_r1, s1, s2, *])))) <;> (try simp_all [e]) <;> (try omega)
def sameB (a b : GBind) : Bool := strEq a.Name b.Name && sameT a.Typ b.Typ
mutual
def sameE : GExp → GExp → Bool
  | .mk K N Name Has Types Labels Kids, b => K == b.K && (N == b.N && (strEq Name b.Name && (Has == b.Has && (eqS Labels b.Labels && (allZ sameT Types b.Types && sameEs Kids b.Kids)))))
def sameEs : List GExp → List GExp → Bool
  | [], [] => true
  | a :: l, b :: m => sameE a b && sameEs l m
  | _, _ => false
end
theorem sameE_eq (a b : GExp) : sameE a b = (a.K == b.K && (a.N == b.N && (strEq a.Name b.Name && (a.Has == b.Has && (eqS a.Labels b.Labels && (allZ sameT a.Types b.Types && sameEs a.Kids b.Kids)))))) := by cases a; rw [sameE]; rfl
theorem sameEs_allZ : ∀ l m : List GExp, sameEs l m = allZ sameE l m
  | [], [] => by simp [sameEs, allZ]
  | [], _ :: _ => by simp [sameEs, allZ]
  | _ :: _, [] => by simp [sameEs, allZ]
  | a :: l, b :: m => by rw [sameEs, allZ, sameEs_allZ l m]
mutual
theorem sameE_iff : ∀ {a b : GExp}, sameE a b = true ↔ a = b
  | .mk K N Name Has Types Labels Kids, b => by
    cases b
    rw [sameE]
    have h1 := fun m => allZ_iff Types (fun a _ b => sameT_iff (a := a) (b := b)) m
    simp only [GExp.K, GExp.N, GExp.Name, GExp.Has, GExp.Types, GExp.Labels, GExp.Kids, Bool.and_eq_true, beq_iff_eq, strEq_iff, eqS_iff, h1, sameEs_iff (l := Kids), GExp.mk.injEq]
    constructor
    · rintro ⟨a, b, c, d, e, f, g⟩; exact ⟨a, b, c, d, f, e, g⟩
    · rintro ⟨a, b, c, d, e, f, g⟩; exact ⟨a, b, c, d, f, e, g⟩
theorem sameEs_iff : ∀ {l m : List GExp}, sameEs l m = true ↔ l = m
  | [], [] => by simp [sameEs]
  | [], _ :: _ => by simp [sameEs]
  | _ :: _, [] => by simp [sameEs]
  | a :: l, b :: m => by simp only [sameEs, Bool.and_eq_true, sameE_iff (a := a) (b := b), sameEs_iff (l := l) (m := m), List.cons.injEq]
end
theorem sameB_iff {a b : GBind} : sameB a b = true ↔ a = b := by
  cases a; cases b
  simp only [sameB, Bool.and_eq_true, strEq_iff, sameT_iff, GBind.mk.injEq]
def sameSig (a b : GSig) : Bool := strEq a.Name b.Name && (allZ sameB a.Binders b.Binders && (allZ sameB a.Params b.Params && sameT a.Result b.Result))
def sameDef (a b : GDef) : Bool := sameSig a.Sig b.Sig && sameE a.Body b.Body
theorem sameSig_iff {a b : GSig} : sameSig a b = true ↔ a = b := by
  cases a; cases b
  simp only [sameSig, Bool.and_eq_true, strEq_iff, sameT_iff, allZ_iff _ (fun a _ b => sameB_iff (a := a) (b := b)), GSig.mk.injEq]
theorem sameDef_iff {a b : GDef} : sameDef a b = true ↔ a = b := by
  cases a; cases b
  simp only [sameDef, Bool.and_eq_true, sameSig_iff, sameE_iff, GDef.mk.injEq]
theorem binds1 (a b : GBind) (ha : OkBind a) (hb : OkBind b) (S : St) : cal (env ot oz) 102 [.agg (rBind a), .agg (rBind b)] S = some (.bool (sameB a b), S) := by
  have s := tySame (ot := ot) (oz := oz) a.Typ ha.Typ b.Typ hb.Typ
  (rw [w_plain (fn := c102) rfl rfl (by simp only [go_sem, s]) rfl (by decide)]; simp only [c102, c102_b, c102_r1, go_sem, s]; repeat' (first | (rw [guardO_t]; split <;> rename_i h <;> (try rw [Bool.not_eq_true] at h) <;> (try simp only [go_sem, c102_r1, s, *])) | (rw [guardO_f]; split <;> rename_i h <;> (try rw [Bool.not_eq_true] at h) <;> (try simp only [go_sem, c102_r1, s, *])) | (rw [cw_bool]; split <;> rename_i h <;> (try rw [Bool.not_eq_true] at h) <;> (try simp only [go_sem, c102_r1, s, *])))) <;> (try simp_all [sameB]) <;> (try omega)
theorem bindsP (l m : List GBind) (hl : Short l.length) (hm : Short m.length) (ol : ∀ x ∈ l, OkBind x) (om : ∀ x ∈ m, OkBind x) (S : St) : cal (env ot oz) 90 [.sl .ro (l.map rBind), .sl .ro (m.map rBind)] S = some (.bool (allZ sameB l m), S) := by
  have s := equalFBind (ot := ot) (oz := oz) l m sameB hl hm 102 (fun a ha b hb S => binds1 a b (ol a ha) (om b hb) S)
  (rw [w_plain (fn := c90) rfl rfl (by simp only [go_sem, s]) rfl (by decide)]; simp only [c90, c90_b, go_sem, s]; repeat' (first | (rw [guardO_t]; split <;> rename_i h <;> (try rw [Bool.not_eq_true] at h) <;> (try simp only [go_sem, s, *])) | (rw [guardO_f]; split <;> rename_i h <;> (try rw [Bool.not_eq_true] at h) <;> (try simp only [go_sem, s, *])) | (rw [cw_bool]; split <;> rename_i h <;> (try rw [Bool.not_eq_true] at h) <;> (try simp only [go_sem, s, *]))))
theorem expSame : ∀ (a : GExp), OkExp a → ∀ b, OkExp b → ∀ S, cal (env ot oz) 72 [.agg (rExp a), .agg (rExp b)] S = some (.bool (sameE a b), S) := by
  refine GExp.ind fun a ih oa b ob S => ?_
  obtain ⟨⟨a1, a2⟩, ⟨a3, a4⟩, ⟨a5, a6⟩, _⟩ := okExp_at oa
  obtain ⟨⟨b1, b2⟩, ⟨b3, b4⟩, ⟨b5, b6⟩, _⟩ := okExp_at ob
  have s1 := equalS (ot := ot) (oz := oz) a.Labels b.Labels a5 b5
  have s2 := equalFTy (ot := ot) (oz := oz) a.Types b.Types sameT a3 b3 91 (fun x hx y hy S => tySame x (a4 x hx) y (b4 y hy) S)
  have s3 := equalFExp (ot := ot) (oz := oz) a.Kids b.Kids sameE a1 b1 72 (fun x hx y hy S => ih x hx (a2 x hx) y (b2 y hy) S)
  have e := sameE_eq a b
  rw [sameEs_allZ] at e
  (rw [w_plain (fn := c72) rfl rfl (by simp only [go_sem, s1, s2, s3]) rfl (by decide)]; simp only [c72, c72_b, c72_r1, go_sem, s1, s2, s3]; repeat' (first | (rw [guardO_t]; split <;> rename_i h <;> (try rw [Bool.not_eq_true] at h) <;> (try simp only [go_sem, c72_r1, s1, s2, s3, *])) | (rw [guardO_f]; split <;> rename_i h <;> (try rw [Bool.not_eq_true] at h) <;> (try simp only [go_sem, c72_r1, s1, s2, s3, *])) | (rw [cw_bool]; split <;> rename_i h <;> (try rw [Bool.not_eq_true] at h) <;> (try simp only [go_sem, c72_r1, s1, s2, s3, *])))) <;> (try simp_all [e]) <;> (try omega)
theorem expSameSig (a b : GSig) (oa : OkSig a) (ob : OkSig b) (S : St) : cal (env ot oz) 71 [.agg (rSig a), .agg (rSig b)] S = some (.bool (sameSig a b), S) := by
  have s1 := bindsP (ot := ot) (oz := oz) a.Binders b.Binders oa.Binders.1 ob.Binders.1 oa.Binders.2 ob.Binders.2
  have s2 := bindsP (ot := ot) (oz := oz) a.Params b.Params oa.Params.1 ob.Params.1 oa.Params.2 ob.Params.2
  have s3 := tySame (ot := ot) (oz := oz) a.Result oa.Result b.Result ob.Result
  (rw [w_plain (fn := c71) rfl rfl (by simp only [go_sem, s1, s2, s3]) rfl (by decide)]; simp only [c71, c71_b, c71_r1, go_sem, s1, s2, s3]; repeat' (first | (rw [guardO_t]; split <;> rename_i h <;> (try rw [Bool.not_eq_true] at h) <;> (try simp only [go_sem, c71_r1, s1, s2, s3, *])) | (rw [guardO_f]; split <;> rename_i h <;> (try rw [Bool.not_eq_true] at h) <;> (try simp only [go_sem, c71_r1, s1, s2, s3, *])) | (rw [cw_bool]; split <;> rename_i h <;> (try rw [Bool.not_eq_true] at h) <;> (try simp only [go_sem, c71_r1, s1, s2, s3, *])))) <;> (try simp_all [sameSig]) <;> (try omega)
theorem expSameDef (a b : GDef) (oa : OkDef a) (ob : OkDef b) (S : St) : cal (env ot oz) 47 [.agg (rDef a), .agg (rDef b)] S = some (.bool (sameDef a b), S) := by
  have s1 := expSameSig (ot := ot) (oz := oz) a.Sig b.Sig oa.Sig ob.Sig
  have s2 := expSame (ot := ot) (oz := oz) a.Body oa.Body b.Body ob.Body
  (rw [w_plain (fn := c47) rfl rfl (by simp only [go_sem, s1, s2]) rfl (by decide)]; simp only [c47, c47_b, c47_r1, go_sem, s1, s2]; repeat' (first | (rw [guardO_t]; split <;> rename_i h <;> (try rw [Bool.not_eq_true] at h) <;> (try simp only [go_sem, c47_r1, s1, s2, *])) | (rw [guardO_f]; split <;> rename_i h <;> (try rw [Bool.not_eq_true] at h) <;> (try simp only [go_sem, c47_r1, s1, s2, *])) | (rw [cw_bool]; split <;> rename_i h <;> (try rw [Bool.not_eq_true] at h) <;> (try simp only [go_sem, c47_r1, s1, s2, *])))) <;> (try simp_all [sameDef]) <;> (try omega)
theorem sameAll04 (l m : List GTy) (hl : Short l.length) (hm : Short m.length) (ol : ∀ x ∈ l, OkTy x) (om : ∀ x ∈ m, OkTy x) (S : St) : cal (env ot oz) 55 [.sl .ro (l.map rTy), .sl .ro (m.map rTy)] S = some (.bool (allZ sameT l m), S) := by
  by_cases he : l.length = m.length
  · have hz := zip_len he
    have hb : ((l.length : Int) != (m.length : Int)) = false := by rw [he]; simp
    have f0 := fun fin st => loopA (E := (env ot oz)) (S := S) (c := c55_l0) (l.zip m) (by rw [hz]; exact hl)
      (fun i => [(0, some (.sl .ro (l.map rTy))), (1, some (.sl .ro (m.map rTy))), (5, some (.int .i64 (i : Int)))]) (fun q => !(sameT q.1 q.2)) fin st (aft (env ot oz) fin st .ret [(4, some (.bool false))] S)
      (aft (env ot oz) fin st (.exit 0) [(0, some (.sl .ro (l.map rTy))), (1, some (.sl .ro (m.map rTy))), (5, some (.int .i64 (l.length : Int))), (20, some (.bool false))] S)
      (fun i q h1 h2 h3 h4 h5 => by
        obtain ⟨a, b⟩ := q
        obtain ⟨k1, k2⟩ := zip_get h1
        rw [hz] at h3
        have h3' : (i : Int) < (m.length : Int) := by omega
        have c := same04 (ot := ot) (oz := oz) a (ol a (mem_of_get k1)) b (om b (mem_of_get k2))
        simp only [Bool.not_eq_false'] at h5
        (rw [c55_l0_w]; simp only [c55_l0_b, c55_l0_a, c55_r4, go_sem, h3, h3', h4, k1, k2, h5, c]; repeat' (first | (rw [guardO_t]; split <;> rename_i h <;> (try rw [Bool.not_eq_true] at h) <;> (try simp only [go_sem, c55_r4, c55_l0_a, h3, h3', h4, k1, k2, h5, c, *])) | (rw [guardO_f]; split <;> rename_i h <;> (try rw [Bool.not_eq_true] at h) <;> (try simp only [go_sem, c55_r4, c55_l0_a, h3, h3', h4, k1, k2, h5, c, *])) | (rw [cw_bool]; split <;> rename_i h <;> (try rw [Bool.not_eq_true] at h) <;> (try simp only [go_sem, c55_r4, c55_l0_a, h3, h3', h4, k1, k2, h5, c, *])))))
      (fun i q h1 h2 h3 h4 h5 => by
        obtain ⟨a, b⟩ := q
        obtain ⟨k1, k2⟩ := zip_get h1
        rw [hz] at h3
        have h3' : (i : Int) < (m.length : Int) := by omega
        have c := same04 (ot := ot) (oz := oz) a (ol a (mem_of_get k1)) b (om b (mem_of_get k2))
        simp only [Bool.not_eq_true'] at h5
        (rw [c55_l0_w]; simp only [c55_l0_b, c55_l0_a, c55_r4, go_sem, h3, h3', h4, k1, k2, h5, c]; repeat' (first | (rw [guardO_t]; split <;> rename_i h <;> (try rw [Bool.not_eq_true] at h) <;> (try simp only [go_sem, c55_r4, c55_l0_a, h3, h3', h4, k1, k2, h5, c, *])) | (rw [guardO_f]; split <;> rename_i h <;> (try rw [Bool.not_eq_true] at h) <;> (try simp only [go_sem, c55_r4, c55_l0_a, h3, h3', h4, k1, k2, h5, c, *])) | (rw [cw_bool]; split <;> rename_i h <;> (try rw [Bool.not_eq_true] at h) <;> (try simp only [go_sem, c55_r4, c55_l0_a, h3, h3', h4, k1, k2, h5, c, *])))))
      (by rw [hz]; (rw [c55_l0_w]; simp only [c55_l0_b, c55_l0_a, c55_r4, go_sem]; repeat' (first | (rw [guardO_t]; split <;> rename_i h <;> (try rw [Bool.not_eq_true] at h) <;> (try simp only [go_sem, c55_r4, c55_l0_a, *])) | (rw [guardO_f]; split <;> rename_i h <;> (try rw [Bool.not_eq_true] at h) <;> (try simp only [go_sem, c55_r4, c55_l0_a, *])) | (rw [cw_bool]; split <;> rename_i h <;> (try rw [Bool.not_eq_true] at h) <;> (try simp only [go_sem, c55_r4, c55_l0_a, *])))))
    have e := allZ_zip (p := sameT) he
    rw [e] at f0
    simp only [Int.cast_ofNat_Int] at f0
    cases q : allZ sameT l m <;> simp only [q, Bool.not_true, Bool.not_false, if_true, if_false, Bool.false_eq_true] at f0 <;> (rw [w_plain (fn := c55) rfl rfl (by simp only [go_sem, f0, hb, q]) rfl (by decide)]; simp only [c55, c55_b, c55_r4, go_sem, f0, hb, q]; repeat' (first | (rw [guardO_t]; split <;> rename_i h <;> (try rw [Bool.not_eq_true] at h) <;> (try simp only [go_sem, c55_r4, f0, hb, q, *])) | (rw [guardO_f]; split <;> rename_i h <;> (try rw [Bool.not_eq_true] at h) <;> (try simp only [go_sem, c55_r4, f0, hb, q, *])) | (rw [cw_bool]; split <;> rename_i h <;> (try rw [Bool.not_eq_true] at h) <;> (try simp only [go_sem, c55_r4, f0, hb, q, *]))))
  · have e := allZ_len (p := sameT) he
    have hb : ((l.length : Int) != (m.length : Int)) = true := by simp; omega
    (rw [w_plain (fn := c55) rfl rfl (by simp only [go_sem, e, hb]) rfl (by decide)]; simp only [c55, c55_b, c55_r4, go_sem, e, hb]; repeat' (first | (rw [guardO_t]; split <;> rename_i h <;> (try rw [Bool.not_eq_true] at h) <;> (try simp only [go_sem, c55_r4, e, hb, *])) | (rw [guardO_f]; split <;> rename_i h <;> (try rw [Bool.not_eq_true] at h) <;> (try simp only [go_sem, c55_r4, e, hb, *])) | (rw [cw_bool]; split <;> rename_i h <;> (try rw [Bool.not_eq_true] at h) <;> (try simp only [go_sem, c55_r4, e, hb, *]))))
theorem same09 (l m : List GBind) (hl : Short l.length) (hm : Short m.length) (ol : ∀ x ∈ l, OkBind x) (om : ∀ x ∈ m, OkBind x) (S : St) : cal (env ot oz) 38 [.sl .ro (l.map rBind), .sl .ro (m.map rBind)] S = some (.bool (allZ sameB l m), S) := by
  by_cases he : l.length = m.length
  · have hz := zip_len he
    have hb : ((l.length : Int) != (m.length : Int)) = false := by rw [he]; simp
    have f0 := fun fin st => loopA (E := (env ot oz)) (S := S) (c := c38_l0) (l.zip m) (by rw [hz]; exact hl)
      (fun i => [(0, some (.sl .ro (l.map rBind))), (1, some (.sl .ro (m.map rBind))), (5, some (.int .i64 (i : Int)))]) (fun q => !(sameB q.1 q.2)) fin st (aft (env ot oz) fin st .ret [(4, some (.bool false))] S)
      (aft (env ot oz) fin st (.exit 0) [(0, some (.sl .ro (l.map rBind))), (1, some (.sl .ro (m.map rBind))), (5, some (.int .i64 (l.length : Int))), (20, some (.bool false))] S)
      (fun i q h1 h2 h3 h4 h5 => by
        obtain ⟨a, b⟩ := q
        obtain ⟨k1, k2⟩ := zip_get h1
        rw [hz] at h3
        have h3' : (i : Int) < (m.length : Int) := by omega
        have c := same04 (ot := ot) (oz := oz) a.Typ (ol a (mem_of_get k1)).Typ b.Typ (om b (mem_of_get k2)).Typ
        simp only [Bool.not_eq_false', sameB, Bool.and_eq_true] at h5
        obtain ⟨h5, h6⟩ := h5
        (rw [c38_l0_w]; simp only [c38_l0_b, c38_l0_a, c38_r4, c38_r6, go_sem, h3, h3', h4, k1, k2, h5, h6, c]; repeat' (first | (rw [guardO_t]; split <;> rename_i h <;> (try rw [Bool.not_eq_true] at h) <;> (try simp only [go_sem, c38_r4, c38_r6, c38_l0_a, h3, h3', h4, k1, k2, h5, h6, c, *])) | (rw [guardO_f]; split <;> rename_i h <;> (try rw [Bool.not_eq_true] at h) <;> (try simp only [go_sem, c38_r4, c38_r6, c38_l0_a, h3, h3', h4, k1, k2, h5, h6, c, *])) | (rw [cw_bool]; split <;> rename_i h <;> (try rw [Bool.not_eq_true] at h) <;> (try simp only [go_sem, c38_r4, c38_r6, c38_l0_a, h3, h3', h4, k1, k2, h5, h6, c, *])))))
      (fun i q h1 h2 h3 h4 h5 => by
        obtain ⟨a, b⟩ := q
        obtain ⟨k1, k2⟩ := zip_get h1
        rw [hz] at h3
        have h3' : (i : Int) < (m.length : Int) := by omega
        have c := same04 (ot := ot) (oz := oz) a.Typ (ol a (mem_of_get k1)).Typ b.Typ (om b (mem_of_get k2)).Typ
        simp only [Bool.not_eq_true', sameB, Bool.and_eq_false_iff] at h5
        rcases h5 with h5 | h5
        · (rw [c38_l0_w]; simp only [c38_l0_b, c38_l0_a, c38_r4, c38_r6, go_sem, h3, h3', h4, k1, k2, h5, c]; repeat' (first | (rw [guardO_t]; split <;> rename_i h <;> (try rw [Bool.not_eq_true] at h) <;> (try simp only [go_sem, c38_r4, c38_r6, c38_l0_a, h3, h3', h4, k1, k2, h5, c, *])) | (rw [guardO_f]; split <;> rename_i h <;> (try rw [Bool.not_eq_true] at h) <;> (try simp only [go_sem, c38_r4, c38_r6, c38_l0_a, h3, h3', h4, k1, k2, h5, c, *])) | (rw [cw_bool]; split <;> rename_i h <;> (try rw [Bool.not_eq_true] at h) <;> (try simp only [go_sem, c38_r4, c38_r6, c38_l0_a, h3, h3', h4, k1, k2, h5, c, *]))))
        · cases q : strEq a.Name b.Name <;> (rw [c38_l0_w]; simp only [c38_l0_b, c38_l0_a, c38_r4, c38_r6, go_sem, h3, h3', h4, k1, k2, h5, q, c]; repeat' (first | (rw [guardO_t]; split <;> rename_i h <;> (try rw [Bool.not_eq_true] at h) <;> (try simp only [go_sem, c38_r4, c38_r6, c38_l0_a, h3, h3', h4, k1, k2, h5, q, c, *])) | (rw [guardO_f]; split <;> rename_i h <;> (try rw [Bool.not_eq_true] at h) <;> (try simp only [go_sem, c38_r4, c38_r6, c38_l0_a, h3, h3', h4, k1, k2, h5, q, c, *])) | (rw [cw_bool]; split <;> rename_i h <;> (try rw [Bool.not_eq_true] at h) <;> (try simp only [go_sem, c38_r4, c38_r6, c38_l0_a, h3, h3', h4, k1, k2, h5, q, c, *])))))
      (by rw [hz]; (rw [c38_l0_w]; simp only [c38_l0_b, c38_l0_a, c38_r4, c38_r6, go_sem]; repeat' (first | (rw [guardO_t]; split <;> rename_i h <;> (try rw [Bool.not_eq_true] at h) <;> (try simp only [go_sem, c38_r4, c38_r6, c38_l0_a, *])) | (rw [guardO_f]; split <;> rename_i h <;> (try rw [Bool.not_eq_true] at h) <;> (try simp only [go_sem, c38_r4, c38_r6, c38_l0_a, *])) | (rw [cw_bool]; split <;> rename_i h <;> (try rw [Bool.not_eq_true] at h) <;> (try simp only [go_sem, c38_r4, c38_r6, c38_l0_a, *])))))
    have e := allZ_zip (p := sameB) he
    rw [e] at f0
    simp only [Int.cast_ofNat_Int] at f0
    cases q : allZ sameB l m <;> simp only [q, Bool.not_true, Bool.not_false, if_true, if_false, Bool.false_eq_true] at f0 <;> (rw [w_plain (fn := c38) rfl rfl (by simp only [go_sem, f0, hb, q]) rfl (by decide)]; simp only [c38, c38_b, c38_r4, c38_r6, go_sem, f0, hb, q]; repeat' (first | (rw [guardO_t]; split <;> rename_i h <;> (try rw [Bool.not_eq_true] at h) <;> (try simp only [go_sem, c38_r4, c38_r6, f0, hb, q, *])) | (rw [guardO_f]; split <;> rename_i h <;> (try rw [Bool.not_eq_true] at h) <;> (try simp only [go_sem, c38_r4, c38_r6, f0, hb, q, *])) | (rw [cw_bool]; split <;> rename_i h <;> (try rw [Bool.not_eq_true] at h) <;> (try simp only [go_sem, c38_r4, c38_r6, f0, hb, q, *]))))
  · have e := allZ_len (p := sameB) he
    have hb : ((l.length : Int) != (m.length : Int)) = true := by simp; omega
    (rw [w_plain (fn := c38) rfl rfl (by simp only [go_sem, e, hb]) rfl (by decide)]; simp only [c38, c38_b, c38_r4, c38_r6, go_sem, e, hb]; repeat' (first | (rw [guardO_t]; split <;> rename_i h <;> (try rw [Bool.not_eq_true] at h) <;> (try simp only [go_sem, c38_r4, c38_r6, e, hb, *])) | (rw [guardO_f]; split <;> rename_i h <;> (try rw [Bool.not_eq_true] at h) <;> (try simp only [go_sem, c38_r4, c38_r6, e, hb, *])) | (rw [cw_bool]; split <;> rename_i h <;> (try rw [Bool.not_eq_true] at h) <;> (try simp only [go_sem, c38_r4, c38_r6, e, hb, *]))))
set_option maxHeartbeats 2000000 in
theorem same14 : ∀ (a : GExp), OkExp a → ∀ b, OkExp b → ∀ S, cal (env ot oz) 40 [.agg (rExp a), .agg (rExp b)] S = some (.bool (sameE a b), S) := by
  refine GExp.ind fun a ih oa b ob S => ?_
  obtain ⟨⟨a1, a2⟩, ⟨a3, a4⟩, ⟨a5, a6⟩, _⟩ := okExp_at oa
  obtain ⟨⟨b1, b2⟩, ⟨b3, b4⟩, ⟨b5, b6⟩, _⟩ := okExp_at ob
  have s1 := same01 (ot := ot) (oz := oz) a.Labels b.Labels a5 b5
  have s2 := sameAll04 (ot := ot) (oz := oz) a.Types b.Types a3 b3 a4 b4
  have e := sameE_eq a b
  rw [sameEs_allZ] at e
  by_cases he : a.Kids.length = b.Kids.length
  · have hz := zip_len he
    have hb : ((a.Kids.length : Int) != (b.Kids.length : Int)) = false := by rw [he]; simp
    have f0 := fun fin st => loopA (E := (env ot oz)) (S := S) (c := c40_l0) (a.Kids.zip b.Kids) (by rw [hz]; exact a1)
      (fun i => [(2, some (.at_ (rExp a))), (3, some (.at_ (rExp b))), (5, some (.int .i64 (i : Int)))]) (fun q => !(sameE q.1 q.2)) fin st (aft (env ot oz) fin st .ret [(4, some (.bool false))] S)
      (aft (env ot oz) fin st (.exit 0) [(2, some (.at_ (rExp a))), (3, some (.at_ (rExp b))), (5, some (.int .i64 (a.Kids.length : Int))), (68, some (.bool false))] S)
      (fun i q h1 h2 h3 h4 h5 => by
        obtain ⟨x, y⟩ := q
        obtain ⟨k1, k2⟩ := zip_get h1
        rw [hz] at h3
        have h3' : (i : Int) < (b.Kids.length : Int) := by omega
        have c := ih x (mem_of_get k1) (a2 x (mem_of_get k1)) y (b2 y (mem_of_get k2))
        simp only [Bool.not_eq_false'] at h5
        (rw [c40_l0_w]; simp only [c40_l0_b, c40_l0_a, c40_r1, c40_r4, go_sem, h3, h3', h4, k1, k2, h5, c]; repeat' (first | (rw [guardO_t]; split <;> rename_i h <;> (try rw [Bool.not_eq_true] at h) <;> (try simp only [go_sem, c40_r1, c40_r4, c40_l0_a, h3, h3', h4, k1, k2, h5, c, *])) | (rw [guardO_f]; split <;> rename_i h <;> (try rw [Bool.not_eq_true] at h) <;> (try simp only [go_sem, c40_r1, c40_r4, c40_l0_a, h3, h3', h4, k1, k2, h5, c, *])) | (rw [cw_bool]; split <;> rename_i h <;> (try rw [Bool.not_eq_true] at h) <;> (try simp only [go_sem, c40_r1, c40_r4, c40_l0_a, h3, h3', h4, k1, k2, h5, c, *])))))
      (fun i q h1 h2 h3 h4 h5 => by
        obtain ⟨x, y⟩ := q
        obtain ⟨k1, k2⟩ := zip_get h1
        rw [hz] at h3
        have h3' : (i : Int) < (b.Kids.length : Int) := by omega
        have c := ih x (mem_of_get k1) (a2 x (mem_of_get k1)) y (b2 y (mem_of_get k2))
        simp only [Bool.not_eq_true'] at h5
        (rw [c40_l0_w]; simp only [c40_l0_b, c40_l0_a, c40_r1, c40_r4, go_sem, h3, h3', h4, k1, k2, h5, c]; repeat' (first | (rw [guardO_t]; split <;> rename_i h <;> (try rw [Bool.not_eq_true] at h) <;> (try simp only [go_sem, c40_r1, c40_r4, c40_l0_a, h3, h3', h4, k1, k2, h5, c, *])) | (rw [guardO_f]; split <;> rename_i h <;> (try rw [Bool.not_eq_true] at h) <;> (try simp only [go_sem, c40_r1, c40_r4, c40_l0_a, h3, h3', h4, k1, k2, h5, c, *])) | (rw [cw_bool]; split <;> rename_i h <;> (try rw [Bool.not_eq_true] at h) <;> (try simp only [go_sem, c40_r1, c40_r4, c40_l0_a, h3, h3', h4, k1, k2, h5, c, *])))))
      (by rw [hz]; (rw [c40_l0_w]; simp only [c40_l0_b, c40_l0_a, c40_r1, c40_r4, go_sem]; repeat' (first | (rw [guardO_t]; split <;> rename_i h <;> (try rw [Bool.not_eq_true] at h) <;> (try simp only [go_sem, c40_r1, c40_r4, c40_l0_a, *])) | (rw [guardO_f]; split <;> rename_i h <;> (try rw [Bool.not_eq_true] at h) <;> (try simp only [go_sem, c40_r1, c40_r4, c40_l0_a, *])) | (rw [cw_bool]; split <;> rename_i h <;> (try rw [Bool.not_eq_true] at h) <;> (try simp only [go_sem, c40_r1, c40_r4, c40_l0_a, *])))))
    have e2 := allZ_zip (p := sameE) he
    rw [e2] at f0
    simp only [Int.cast_ofNat_Int] at f0
    cases q : allZ sameE a.Kids b.Kids <;> simp only [q, Bool.not_true, Bool.not_false, if_true, if_false, Bool.false_eq_true] at f0 <;> (rw [w_plain (fn := c40) rfl rfl (by simp only [go_sem, s1, s2, f0, hb]) rfl (by decide)]; simp only [c40, c40_b, c40_r1, c40_r4, go_sem, s1, s2, f0, hb]; repeat' (first | (rw [guardO_t]; split <;> rename_i h <;> (try rw [Bool.not_eq_true] at h) <;> (try simp only [go_sem, c40_r1, c40_r4, s1, s2, f0, hb, *])) | (rw [guardO_f]; split <;> rename_i h <;> (try rw [Bool.not_eq_true] at h) <;> (try simp only [go_sem, c40_r1, c40_r4, s1, s2, f0, hb, *])) | (rw [cw_bool]; split <;> rename_i h <;> (try rw [Bool.not_eq_true] at h) <;> (try simp only [go_sem, c40_r1, c40_r4, s1, s2, f0, hb, *])))) <;> (try simp_all [e, q]) <;> (try omega)
  · have e2 := allZ_len (p := sameE) he
    have hb : ((a.Kids.length : Int) != (b.Kids.length : Int)) = true := by simp; omega
    (rw [w_plain (fn := c40) rfl rfl (by simp only [go_sem, s1, s2, hb]) rfl (by decide)]; simp only [c40, c40_b, c40_r1, c40_r4, go_sem, s1, s2, hb]; repeat' (first | (rw [guardO_t]; split <;> rename_i h <;> (try rw [Bool.not_eq_true] at h) <;> (try simp only [go_sem, c40_r1, c40_r4, s1, s2, hb, *])) | (rw [guardO_f]; split <;> rename_i h <;> (try rw [Bool.not_eq_true] at h) <;> (try simp only [go_sem, c40_r1, c40_r4, s1, s2, hb, *])) | (rw [cw_bool]; split <;> rename_i h <;> (try rw [Bool.not_eq_true] at h) <;> (try simp only [go_sem, c40_r1, c40_r4, s1, s2, hb, *])))) <;> (try simp_all [e, e2]) <;> (try omega)
theorem sameSig14 (a b : GSig) (oa : OkSig a) (ob : OkSig b) (S : St) : cal (env ot oz) 21 [.agg (rSig a), .agg (rSig b)] S = some (.bool (sameSig a b), S) := by
  have s1 := same09 (ot := ot) (oz := oz) a.Binders b.Binders oa.Binders.1 ob.Binders.1 oa.Binders.2 ob.Binders.2
  have s2 := same09 (ot := ot) (oz := oz) a.Params b.Params oa.Params.1 ob.Params.1 oa.Params.2 ob.Params.2
  have s3 := same04 (ot := ot) (oz := oz) a.Result oa.Result b.Result ob.Result
  (rw [w_plain (fn := c21) rfl rfl (by simp only [go_sem, s1, s2, s3]) rfl (by decide)]; simp only [c21, c21_b, c21_r1, go_sem, s1, s2, s3]; repeat' (first | (rw [guardO_t]; split <;> rename_i h <;> (try rw [Bool.not_eq_true] at h) <;> (try simp only [go_sem, c21_r1, s1, s2, s3, *])) | (rw [guardO_f]; split <;> rename_i h <;> (try rw [Bool.not_eq_true] at h) <;> (try simp only [go_sem, c21_r1, s1, s2, s3, *])) | (rw [cw_bool]; split <;> rename_i h <;> (try rw [Bool.not_eq_true] at h) <;> (try simp only [go_sem, c21_r1, s1, s2, s3, *])))) <;> (try simp_all [sameSig]) <;> (try omega)
theorem sameDef14 (a b : GDef) (oa : OkDef a) (ob : OkDef b) (S : St) : cal (env ot oz) 22 [.agg (rDef a), .agg (rDef b)] S = some (.bool (sameDef a b), S) := by
  have s1 := sameSig14 (ot := ot) (oz := oz) a.Sig b.Sig oa.Sig ob.Sig
  have s2 := same14 (ot := ot) (oz := oz) a.Body oa.Body b.Body ob.Body
  (rw [w_plain (fn := c22) rfl rfl (by simp only [go_sem, s1, s2]) rfl (by decide)]; simp only [c22, c22_b, c22_r1, go_sem, s1, s2]; repeat' (first | (rw [guardO_t]; split <;> rename_i h <;> (try rw [Bool.not_eq_true] at h) <;> (try simp only [go_sem, c22_r1, s1, s2, *])) | (rw [guardO_f]; split <;> rename_i h <;> (try rw [Bool.not_eq_true] at h) <;> (try simp only [go_sem, c22_r1, s1, s2, *])) | (rw [cw_bool]; split <;> rename_i h <;> (try rw [Bool.not_eq_true] at h) <;> (try simp only [go_sem, c22_r1, s1, s2, *])))) <;> (try simp_all [sameDef]) <;> (try omega)
end
end Go.PE
