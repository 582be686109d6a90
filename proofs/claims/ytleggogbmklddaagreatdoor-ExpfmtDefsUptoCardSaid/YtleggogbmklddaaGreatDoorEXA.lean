/-
  Expressions as texts, by the document: all of it; and the law ExpfmtShows. Conditions: each law's own (what comes in is of bulk at most 1048576).
-/
import Derived.Test.YtleggogbmklddaaGreatDoorEX9
import Derived.Test.YtleggogbmklddaaGreatDoorDX13
namespace Go.PE
open Go Go.RowKit Go.Proofs
set_option linter.unusedVariables false
set_option linter.unusedSimpArgs false
set_option maxRecDepth 100000
section
variable {ot : TypeId} {oz : EP}
theorem show15 : ∀ (e : GExp), OkExp e → rightE e = true → bulkL (rExp e) ≤ 1048576 → ∀ S, cal (env ot oz) 24 [.agg (rExp e)] S = some (.str (showE e), S) := by
  refine GExp.ind fun e ih ok hr hb S => ?_
  have F := fit1 ok hr hb
  obtain ⟨ho, hk⟩ := right_own hr
  have f := own_facts ho
  have hbe := bulk_expEq e
  have ki : ∀ k ∈ e.Kids, Sm (showE k) ∧ ∀ S, cal (env ot oz) 24 [.agg (rExp k)] S = some (.str (showE k), S) := fun k hm => by
    have h1 := bulkLL_mem (r := rExp) hm
    have ok' := (okExp_a ok).1.2 k hm
    exact ⟨(fit1 ok' (hk k hm) (by omega)).sm, ih k hm ok' (hk k hm) (by omega)⟩
  have bd := bound15 (ot := ot) (oz := oz) e F.bnd F.tys
  have sb := F.bnd
  have sn := F.name
  have ss := F.sm
  unfold Sm at sb ss
  have sums : ∀ l : List GExp, (∀ k ∈ l, rightE k = true) → ((l.map showE).map fun t => t.size + 2).sum ≤ 24 * bulkLL (l.map rExp) ∧ ((l.map showE).map fun t => t.size).sum ≤ 24 * bulkLL (l.map rExp) := fun l => by
    induction l with
    | nil => intro _; simp [bulkLL]
    | cons a l ih =>
      intro h
      have h1 := show_bulk a (h a (by simp))
      have h2 := ih fun k hk => h k (by simp [hk])
      rw [bulkLL_cons]
      simp only [List.map_cons, List.sum_cons]; omega
  have sm := sums e.Kids hk
  rcases own_kinds ho with hK | hK | hK | hK | hK | hK | hK | hK | hK | hK | hK | hK | hK
  · obtain ⟨n, hn⟩ : ∃ n : Nat, e.N = (n : Int) := ⟨e.N.toNat, by have := (f.2.1 hK).2; omega⟩
    have hin := (okExp_n ok).1
    unfold In64 at hin
    have hn2 : n < 10 ^ 20 := Nat.lt_of_le_of_lt (m := 9223372036854775807) (by omega) (by decide)
    have c := digits15 (ot := ot) (oz := oz) 20 n hn2 (by omega) (by omega) (by omega)
    have en : numS (n : Int) = txt (digF 20 n) := by
      unfold numS numL
      rw [if_neg (by omega)]
      simp; rfl
    rw [showE_1 hK, hn, en]
    (rw [w_plain (fn := c24) rfl rfl (by simp only [go_sem, hK, hn, c]) rfl (by decide)]; simp only [c24, c24_b, go_sem, hK, hn, c]; repeat' ((first | rw [guardO_t] | rw [guardO_f] | rw [cw_bool]); split <;> rename_i h <;> (try rw [Bool.not_eq_true] at h) <;> (try simp only [go_sem, hK, hn, c, *])))
  · rw [showE_2 hK]
    rcases (f.2.2.1 hK).2 with q | q
    · have q1 : ((0 : Int) == 1) = false := rfl
      rw [q, q1]
      (rw [w_plain (fn := c24) rfl rfl (by simp only [go_sem, hK, q]) rfl (by decide)]; simp only [c24, c24_b, go_sem, hK, q]; repeat' ((first | rw [guardO_t] | rw [guardO_f] | rw [cw_bool]); split <;> rename_i h <;> (try rw [Bool.not_eq_true] at h) <;> (try simp only [go_sem, hK, q, *])))
    · have q1 : ((1 : Int) == 1) = true := rfl
      rw [q, q1]
      (rw [w_plain (fn := c24) rfl rfl (by simp only [go_sem, hK, q]) rfl (by decide)]; simp only [c24, c24_b, go_sem, hK, q]; repeat' ((first | rw [guardO_t] | rw [guardO_f] | rw [cw_bool]); split <;> rename_i h <;> (try rw [Bool.not_eq_true] at h) <;> (try simp only [go_sem, hK, q, *])))
  · have c := fun S => cal_ans (quote2_ok (ot := ot) (oz := oz) e.Name (by have := F.name; omega)) (S := S)
    rw [showE_3 hK]
    (rw [w_plain (fn := c24) rfl rfl (by simp only [go_sem, hK, c]) rfl (by decide)]; simp only [c24, c24_b, go_sem, hK, c]; repeat' ((first | rw [guardO_t] | rw [guardO_f] | rw [cw_bool]); split <;> rename_i h <;> (try rw [Bool.not_eq_true] at h) <;> (try simp only [go_sem, hK, c, *])))
  · rw [showE_4 hK]
    (rw [w_plain (fn := c24) rfl rfl (by simp only [go_sem, hK]) rfl (by decide)]; simp only [c24, c24_b, go_sem, hK]; repeat' ((first | rw [guardO_t] | rw [guardO_f] | rw [cw_bool]); split <;> rename_i h <;> (try rw [Bool.not_eq_true] at h) <;> (try simp only [go_sem, hK, *])))
  · obtain ⟨x, y, hxy⟩ := lenIs2 (f.2.2.2.2.2.1 hK).1
    obtain ⟨sx, cx'⟩ := ki x (by simp [hxy])
    unfold Sm at sx
    obtain ⟨sy, cy'⟩ := ki y (by simp [hxy])
    unfold Sm at sy
    rw [showE_5 hK hxy]
    have z1 := addS (a := ⟨#[108, 101, 116, 32]⟩) (b := boundS e) (by have L := lits; (try simp only [app_size]); omega)
    have z2 := addS (a := ⟨#[108, 101, 116, 32]⟩ ++ boundS e) (b := ⟨#[32, 61, 32]⟩) (by have L := lits; (try simp only [app_size]); omega)
    have z3 := addS (a := ⟨#[108, 101, 116, 32]⟩ ++ boundS e ++ ⟨#[32, 61, 32]⟩) (b := showE x) (by have L := lits; (try simp only [app_size]); omega)
    have z4 := addS (a := ⟨#[108, 101, 116, 32]⟩ ++ boundS e ++ ⟨#[32, 61, 32]⟩ ++ showE x) (b := ⟨#[32, 105, 110, 32]⟩) (by have L := lits; (try simp only [app_size]); omega)
    have z5 := addS (a := ⟨#[108, 101, 116, 32]⟩ ++ boundS e ++ ⟨#[32, 61, 32]⟩ ++ showE x ++ ⟨#[32, 105, 110, 32]⟩) (b := showE y) (by have L := lits; (try simp only [app_size]); omega)
    (rw [w_plain (fn := c24) rfl rfl (by simp only [go_sem, hK, hxy, bd, cx', cy', ↓z1, ↓z2, ↓z3, ↓z4, ↓z5]) rfl (by decide)]; simp only [c24, c24_b, go_sem, hK, hxy, bd, cx', cy', ↓z1, ↓z2, ↓z3, ↓z4, ↓z5]; repeat' ((first | rw [guardO_t] | rw [guardO_f] | rw [cw_bool]); split <;> rename_i h <;> (try rw [Bool.not_eq_true] at h) <;> (try simp only [go_sem, hK, hxy, bd, cx', cy', ↓z1, ↓z2, ↓z3, ↓z4, ↓z5, *])))
  · obtain ⟨x, y, z, hxy⟩ := lenIs3 (f.2.2.2.2.2.2.1 hK)
    obtain ⟨sx, cx'⟩ := ki x (by simp [hxy])
    unfold Sm at sx
    obtain ⟨sy, cy'⟩ := ki y (by simp [hxy])
    unfold Sm at sy
    obtain ⟨sz, cz'⟩ := ki z (by simp [hxy])
    unfold Sm at sz
    rw [showE_6 hK hxy]
    have z1 := addS (a := ⟨#[105, 102, 32]⟩) (b := showE x) (by have L := lits; (try simp only [app_size]); omega)
    have z2 := addS (a := ⟨#[105, 102, 32]⟩ ++ showE x) (b := ⟨#[32, 116, 104, 101, 110, 32]⟩) (by have L := lits; (try simp only [app_size]); omega)
    have z3 := addS (a := ⟨#[105, 102, 32]⟩ ++ showE x ++ ⟨#[32, 116, 104, 101, 110, 32]⟩) (b := showE y) (by have L := lits; (try simp only [app_size]); omega)
    have z4 := addS (a := ⟨#[105, 102, 32]⟩ ++ showE x ++ ⟨#[32, 116, 104, 101, 110, 32]⟩ ++ showE y) (b := ⟨#[32, 101, 108, 115, 101, 32]⟩) (by have L := lits; (try simp only [app_size]); omega)
    have z5 := addS (a := ⟨#[105, 102, 32]⟩ ++ showE x ++ ⟨#[32, 116, 104, 101, 110, 32]⟩ ++ showE y ++ ⟨#[32, 101, 108, 115, 101, 32]⟩) (b := showE z) (by have L := lits; (try simp only [app_size]); omega)
    (rw [w_plain (fn := c24) rfl rfl (by simp only [go_sem, hK, hxy, cx', cy', cz', ↓z1, ↓z2, ↓z3, ↓z4, ↓z5]) rfl (by decide)]; simp only [c24, c24_b, go_sem, hK, hxy, cx', cy', cz', ↓z1, ↓z2, ↓z3, ↓z4, ↓z5]; repeat' ((first | rw [guardO_t] | rw [guardO_f] | rw [cw_bool]); split <;> rename_i h <;> (try rw [Bool.not_eq_true] at h) <;> (try simp only [go_sem, hK, hxy, cx', cy', cz', ↓z1, ↓z2, ↓z3, ↓z4, ↓z5, *])))
  · obtain ⟨x, hxy⟩ := lenIs1 (f.2.2.2.2.2.2.2.1 hK).1
    obtain ⟨sx, cx'⟩ := ki x (by simp [hxy])
    unfold Sm at sx
    rw [showE_7 hK hxy (f.2.2.2.2.2.2.2.1 hK).2]
    have z1 := addS (a := ⟨#[102, 110, 32]⟩) (b := boundS e) (by have L := lits; (try simp only [app_size]); omega)
    have z2 := addS (a := ⟨#[102, 110, 32]⟩ ++ boundS e) (b := ⟨#[32, 61, 62, 32]⟩) (by have L := lits; (try simp only [app_size]); omega)
    have z3 := addS (a := ⟨#[102, 110, 32]⟩ ++ boundS e ++ ⟨#[32, 61, 62, 32]⟩) (b := showE x) (by have L := lits; (try simp only [app_size]); omega)
    (rw [w_plain (fn := c24) rfl rfl (by simp only [go_sem, hK, hxy, bd, cx', ↓z1, ↓z2, ↓z3]) rfl (by decide)]; simp only [c24, c24_b, go_sem, hK, hxy, bd, cx', ↓z1, ↓z2, ↓z3]; repeat' ((first | rw [guardO_t] | rw [guardO_f] | rw [cw_bool]); split <;> rename_i h <;> (try rw [Bool.not_eq_true] at h) <;> (try simp only [go_sem, hK, hxy, bd, cx', ↓z1, ↓z2, ↓z3, *])))
  · obtain ⟨x, y, hxy⟩ := lenIs2 (f.2.2.2.2.2.2.2.2.1 hK)
    obtain ⟨sx, cx'⟩ := ki x (by simp [hxy])
    unfold Sm at sx
    obtain ⟨sy, cy'⟩ := ki y (by simp [hxy])
    unfold Sm at sy
    have ax := at15 (ot := ot) (oz := oz) x 4 sx cx'
    have as_ := at_size x (showE x) 4
    rw [showE_8 hK hxy]
    have z1 := addS (a := atS x (showE x) 4) (b := ⟨#[40]⟩) (by have L := lits; (try simp only [app_size]); omega)
    have z2 := addS (a := atS x (showE x) 4 ++ ⟨#[40]⟩) (b := showE y) (by have L := lits; (try simp only [app_size]); omega)
    have z3 := addS (a := atS x (showE x) 4 ++ ⟨#[40]⟩ ++ showE y) (b := ⟨#[41]⟩) (by have L := lits; (try simp only [app_size]); omega)
    (rw [w_plain (fn := c24) rfl rfl (by simp only [go_sem, hK, hxy, ax, cy', ↓z1, ↓z2, ↓z3]) rfl (by decide)]; simp only [c24, c24_b, go_sem, hK, hxy, ax, cy', ↓z1, ↓z2, ↓z3]; repeat' ((first | rw [guardO_t] | rw [guardO_f] | rw [cw_bool]); split <;> rename_i h <;> (try rw [Bool.not_eq_true] at h) <;> (try simp only [go_sem, hK, hxy, ax, cy', ↓z1, ↓z2, ↓z3, *])))
  · rw [showE_9 hK] at ss ⊢
    simp only [app_size] at ss
    obtain ⟨hll, h6⟩ := f.2.2.2.2.2.2.2.2.2.1 hK
    have fs := fields_size e.Labels (e.Kids.map showE)
    have kd := list15r (ot := ot) (oz := oz) e (by simp [hK]) (by omega) hll (by omega) (fun l hl => by
      have h1 := bulkLL_mem (r := rStr) hl
      have h2 : bulkL (rStr l) = l.size + 1 := by simp [rStr, bulkL, PV.bulk]
      omega) ki
    have z1 := addS (a := ⟨#[123]⟩) (b := commaS (fieldsE e.Labels (e.Kids.map showE))) (by have L := lits; (try simp only [app_size]); omega)
    have z2 := addS (a := ⟨#[123]⟩ ++ commaS (fieldsE e.Labels (e.Kids.map showE))) (b := ⟨#[125]⟩) (by have L := lits; (try simp only [app_size]); omega)
    (rw [w_plain (fn := c24) rfl rfl (by simp only [go_sem, hK, kd, ↓z1, ↓z2]) rfl (by decide)]; simp only [c24, c24_b, go_sem, hK, kd, ↓z1, ↓z2]; repeat' ((first | rw [guardO_t] | rw [guardO_f] | rw [cw_bool]); split <;> rename_i h <;> (try rw [Bool.not_eq_true] at h) <;> (try simp only [go_sem, hK, kd, ↓z1, ↓z2, *])))
  · obtain ⟨x, hxy⟩ := lenIs1 (f.2.2.2.2.2.2.2.2.2.2.1 hK).1
    obtain ⟨sx, cx'⟩ := ki x (by simp [hxy])
    unfold Sm at sx
    have ax := at15 (ot := ot) (oz := oz) x 4 sx cx'
    have as_ := at_size x (showE x) 4
    rw [showE_10 hK hxy (List.eq_nil_of_length_eq_zero (f.2.2.2.2.2.2.2.2.2.2.1 hK).2)]
    have z1 := addS (a := atS x (showE x) 4) (b := ⟨#[46]⟩) (by have L := lits; (try simp only [app_size]); omega)
    have z2 := addS (a := atS x (showE x) 4 ++ ⟨#[46]⟩) (b := e.Name) (by have L := lits; (try simp only [app_size]); omega)
    (rw [w_plain (fn := c24) rfl rfl (by simp only [go_sem, hK, hxy, ax, ↓z1, ↓z2]) rfl (by decide)]; simp only [c24, c24_b, go_sem, hK, hxy, ax, ↓z1, ↓z2]; repeat' ((first | rw [guardO_t] | rw [guardO_f] | rw [cw_bool]); split <;> rename_i h <;> (try rw [Bool.not_eq_true] at h) <;> (try simp only [go_sem, hK, hxy, ax, ↓z1, ↓z2, *])))
  · obtain ⟨x, y, hxy⟩ := lenIs2 (f.2.2.2.2.2.2.2.2.2.2.2.1 hK)
    obtain ⟨sx, cx'⟩ := ki x (by simp [hxy])
    unfold Sm at sx
    obtain ⟨sy, cy'⟩ := ki y (by simp [hxy])
    unfold Sm at sy
    have te := tightO15 (ot := ot) (oz := oz) e.N
    have ax := fun n => at15 (ot := ot) (oz := oz) x n sx cx'
    have ay := fun n => at15 (ot := ot) (oz := oz) y n sy cy'
    have as_ := at_size x (showE x) (max (tightO e.N) 2)
    have as2 := at_size y (showE y) (tightO e.N + 1)
    have op := op15 (ot := ot) (oz := oz) e.N
    have os_ := op_size e.N
    have to3 : 1 ≤ tightO e.N ∧ tightO e.N ≤ 3 := by unfold tightO; split <;> (try split) <;> omega
    have wr : IntKind.i64.wrap (tightO e.N + 1) = tightO e.N + 1 := wrap64 (by omega) (by omega)
    rw [showE_11 hK hxy]
    have z1 := addS (a := atS x (showE x) (max (tightO e.N) 2)) (b := ⟨#[32]⟩) (by have L := lits; (try simp only [app_size]); omega)
    have z2 := addS (a := atS x (showE x) (max (tightO e.N) 2) ++ ⟨#[32]⟩) (b := opS e.N) (by have L := lits; (try simp only [app_size]); omega)
    have z3 := addS (a := atS x (showE x) (max (tightO e.N) 2) ++ ⟨#[32]⟩ ++ opS e.N) (b := ⟨#[32]⟩) (by have L := lits; (try simp only [app_size]); omega)
    have z4 := addS (a := atS x (showE x) (max (tightO e.N) 2) ++ ⟨#[32]⟩ ++ opS e.N ++ ⟨#[32]⟩) (b := atS y (showE y) (tightO e.N + 1)) (by have L := lits; (try simp only [app_size]); omega)
    have o : cal (env ot oz) 55 [.agg (rExp e)] S = some (.str (atS x (showE x) (max (tightO e.N) 2) ++ ⟨#[32]⟩ ++ opS e.N ++ ⟨#[32]⟩ ++ atS y (showE y) (tightO e.N + 1)), S) := by
      cases q : (tightO e.N == 1) with
      | true =>
        have q2 : tightO e.N = 1 := by simpa using q
        have mx : max (tightO e.N) 2 = 2 := by omega
        rw [mx] at z1 z2 z3 z4 ⊢
        (rw [w_plain (fn := c55) rfl rfl (by simp only [go_sem, hxy, te, ax, ay, op, wr, q, ↓z1, ↓z2, ↓z3, ↓z4]) rfl (by decide)]; simp only [c55, c55_b, go_sem, hxy, te, ax, ay, op, wr, q, ↓z1, ↓z2, ↓z3, ↓z4]; repeat' ((first | rw [guardO_t] | rw [guardO_f] | rw [cw_bool]); split <;> rename_i h <;> (try rw [Bool.not_eq_true] at h) <;> (try simp only [go_sem, hxy, te, ax, ay, op, wr, q, ↓z1, ↓z2, ↓z3, ↓z4, *])))
      | false =>
        have q2 : tightO e.N ≠ 1 := by simpa using q
        have mx : max (tightO e.N) 2 = tightO e.N := by omega
        rw [mx] at z1 z2 z3 z4 ⊢
        (rw [w_plain (fn := c55) rfl rfl (by simp only [go_sem, hxy, te, ax, ay, op, wr, q, ↓z1, ↓z2, ↓z3, ↓z4]) rfl (by decide)]; simp only [c55, c55_b, go_sem, hxy, te, ax, ay, op, wr, q, ↓z1, ↓z2, ↓z3, ↓z4]; repeat' ((first | rw [guardO_t] | rw [guardO_f] | rw [cw_bool]); split <;> rename_i h <;> (try rw [Bool.not_eq_true] at h) <;> (try simp only [go_sem, hxy, te, ax, ay, op, wr, q, ↓z1, ↓z2, ↓z3, ↓z4, *])))
    (rw [w_plain (fn := c24) rfl rfl (by simp only [go_sem, hK, o]) rfl (by decide)]; simp only [c24, c24_b, go_sem, hK, o]; repeat' ((first | rw [guardO_t] | rw [guardO_f] | rw [cw_bool]); split <;> rename_i h <;> (try rw [Bool.not_eq_true] at h) <;> (try simp only [go_sem, hK, o, *])))
  · obtain ⟨t, ht⟩ := lenIs1 (f.2.2.2.2.2.2.2.2.2.2.2.2.1 hK).2
    obtain ⟨x, hxy⟩ := lenIs1 (f.2.2.2.2.2.2.2.2.2.2.2.2.1 hK).1
    obtain ⟨sx, cx'⟩ := ki x (by simp [hxy])
    unfold Sm at sx
    have ot_ := F.tys t (by simp [ht])
    have ct := rshow (ot := ot) (oz := oz) t ot_.1 ot_.2
    have st_ := showT_bulk t
    have st2 := ot_.2
    rw [showE_12 hK hxy ht]
    have z1 := addS (a := ⟨#[40]⟩) (b := showE x) (by have L := lits; (try simp only [app_size]); omega)
    have z2 := addS (a := ⟨#[40]⟩ ++ showE x) (b := ⟨#[32, 58, 32]⟩) (by have L := lits; (try simp only [app_size]); omega)
    have z3 := addS (a := ⟨#[40]⟩ ++ showE x ++ ⟨#[32, 58, 32]⟩) (b := showT t) (by have L := lits; (try simp only [app_size]); omega)
    have z4 := addS (a := ⟨#[40]⟩ ++ showE x ++ ⟨#[32, 58, 32]⟩ ++ showT t) (b := ⟨#[41]⟩) (by have L := lits; (try simp only [app_size]); omega)
    (rw [w_plain (fn := c24) rfl rfl (by simp only [go_sem, hK, hxy, ht, cx', ct, ↓z1, ↓z2, ↓z3, ↓z4]) rfl (by decide)]; simp only [c24, c24_b, go_sem, hK, hxy, ht, cx', ct, ↓z1, ↓z2, ↓z3, ↓z4]; repeat' ((first | rw [guardO_t] | rw [guardO_f] | rw [cw_bool]); split <;> rename_i h <;> (try rw [Bool.not_eq_true] at h) <;> (try simp only [go_sem, hK, hxy, ht, cx', ct, ↓z1, ↓z2, ↓z3, ↓z4, *])))
  · rw [showE_13 hK] at ss ⊢
    have sc := F.call
    unfold Sm at sc
    simp only [app_size] at ss
    have h13 := f.2.2.2.2.2.2.2.2.2.2.2.2.2 hK
    have kd := list15 (ot := ot) (oz := oz) e (by simp [hK]) (by omega) (by omega) ki
    have hlT : Short e.Types.length := by unfold Short maxLen; omega
    have lt := rlist (ot := ot) (oz := oz) e.Types hlT F.tys F.list .ro
    cases q : e.Has with
    | false =>
      have ec : callS e = ⟨#[]⟩ := by unfold callS; rw [q]; rfl
      have eb : ∀ b : ByteArray, b ++ (⟨#[]⟩ : ByteArray) = b := fun b => by
        rw [show (⟨#[]⟩ : ByteArray) = txt [] from rfl, ← txt_toList b, txt_append, List.append_nil]
      rw [ec, eb]
      have z1 := addS (a := ⟨#[99, 97, 108, 108, 32]⟩) (b := e.Name) (by have L := lits; (try simp only [app_size]); omega)
      have z2 := addS (a := ⟨#[99, 97, 108, 108, 32]⟩ ++ e.Name) (b := ⟨#[40]⟩) (by have L := lits; (try simp only [app_size]); omega)
      have z3 := addS (a := ⟨#[99, 97, 108, 108, 32]⟩ ++ e.Name ++ ⟨#[40]⟩) (b := commaS (e.Kids.map showE)) (by have L := lits; (try simp only [app_size]); omega)
      have z4 := addS (a := ⟨#[99, 97, 108, 108, 32]⟩ ++ e.Name ++ ⟨#[40]⟩ ++ commaS (e.Kids.map showE)) (b := ⟨#[41]⟩) (by have L := lits; (try simp only [app_size]); omega)
      (rw [w_plain (fn := c24) rfl rfl (by simp only [go_sem, hK, q, kd, ↓z1, ↓z2, ↓z3, ↓z4]) rfl (by decide)]; simp only [c24, c24_b, go_sem, hK, q, kd, ↓z1, ↓z2, ↓z3, ↓z4]; repeat' ((first | rw [guardO_t] | rw [guardO_f] | rw [cw_bool]); split <;> rename_i h <;> (try rw [Bool.not_eq_true] at h) <;> (try simp only [go_sem, hK, q, kd, ↓z1, ↓z2, ↓z3, ↓z4, *])))
    | true =>
      have ec : callS e = ⟨#[91]⟩ ++ listT e.Types ++ ⟨#[93]⟩ := by unfold callS; rw [q]; rfl
      have lsz := listT_size e.Types
      have ea : ⟨#[99, 97, 108, 108, 32]⟩ ++ e.Name ++ (⟨#[91]⟩ ++ listT e.Types ++ ⟨#[93]⟩) = ⟨#[99, 97, 108, 108, 32]⟩ ++ e.Name ++ ⟨#[91]⟩ ++ listT e.Types ++ ⟨#[93]⟩ := by simp only [ba_assoc]
      rw [ec, ea]
      have z1 := addS (a := ⟨#[99, 97, 108, 108, 32]⟩) (b := e.Name) (by have L := lits; (try simp only [app_size]); omega)
      have z2 := addS (a := ⟨#[99, 97, 108, 108, 32]⟩ ++ e.Name) (b := ⟨#[91]⟩) (by have L := lits; (try simp only [app_size]); omega)
      have z3 := addS (a := ⟨#[99, 97, 108, 108, 32]⟩ ++ e.Name ++ ⟨#[91]⟩) (b := listT e.Types) (by have L := lits; (try simp only [app_size]); omega)
      have z4 := addS (a := ⟨#[99, 97, 108, 108, 32]⟩ ++ e.Name ++ ⟨#[91]⟩ ++ listT e.Types) (b := ⟨#[93]⟩) (by have L := lits; (try simp only [app_size]); omega)
      have z5 := addS (a := ⟨#[99, 97, 108, 108, 32]⟩ ++ e.Name ++ ⟨#[91]⟩ ++ listT e.Types ++ ⟨#[93]⟩) (b := ⟨#[40]⟩) (by have L := lits; (try simp only [app_size]); omega)
      have z6 := addS (a := ⟨#[99, 97, 108, 108, 32]⟩ ++ e.Name ++ ⟨#[91]⟩ ++ listT e.Types ++ ⟨#[93]⟩ ++ ⟨#[40]⟩) (b := commaS (e.Kids.map showE)) (by have L := lits; (try simp only [app_size]); omega)
      have z7 := addS (a := ⟨#[99, 97, 108, 108, 32]⟩ ++ e.Name ++ ⟨#[91]⟩ ++ listT e.Types ++ ⟨#[93]⟩ ++ ⟨#[40]⟩ ++ commaS (e.Kids.map showE)) (b := ⟨#[41]⟩) (by have L := lits; (try simp only [app_size]); omega)
      (rw [w_plain (fn := c24) rfl rfl (by simp only [go_sem, hK, q, kd, lt, ↓z1, ↓z2, ↓z3, ↓z4, ↓z5, ↓z6, ↓z7]) rfl (by decide)]; simp only [c24, c24_b, go_sem, hK, q, kd, lt, ↓z1, ↓z2, ↓z3, ↓z4, ↓z5, ↓z6, ↓z7]; repeat' ((first | rw [guardO_t] | rw [guardO_f] | rw [cw_bool]); split <;> rename_i h <;> (try rw [Bool.not_eq_true] at h) <;> (try simp only [go_sem, hK, q, kd, lt, ↓z1, ↓z2, ↓z3, ↓z4, ↓z5, ↓z6, ↓z7, *])))
theorem aw15 (S : St) : cal (env ot oz) 7 [] S = some (.bool true, S) := cal_closed (env_free ot oz) (n := 60) (by kernel_rfl) rfl rfl S
end
end Go.PE
