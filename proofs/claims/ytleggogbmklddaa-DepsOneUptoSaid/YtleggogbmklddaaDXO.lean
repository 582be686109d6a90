/-
  The laws DepsReach and DepsOne, at the evaluator's level. Conditions: what comes in is of bulk at most 1048576.
-/
import Derived.Test.YtleggogbmklddaaDXT
import Derived.Test.YtleggogbmklddaaEX3
namespace Go.PE
open Go Go.RowKit Go.Proofs
set_option linter.unusedVariables false
set_option linter.unusedSimpArgs false
set_option maxRecDepth 100000
/-! ### programs that are right -/
def badAt (l : List GDef) (q : GDef × Nat) : Bool := !(defOk q.1) || (decide (0 < q.2) && !(strLt ((l[q.2 - 1]?.map fun d => d.Sig.Name).getD ⟨#[]⟩) q.1.Sig.Name))
def progOk (l : List GDef) : Bool := !(l.zipIdx.any (badAt l)) && decide (l.length ≤ 12)
/-- Definitions that are handed in, with what is asked of their sizes. -/
theorem nodesT_bulk_both : (∀ t : GTy, nodesT t ≤ bulkL (rTy t)) ∧ ∀ l : List GTy, nodesTs l ≤ bulkLL (l.map rTy) := by
  have h1 : ∀ t : GTy, nodesT t ≤ bulkL (rTy t) := by
    refine GTy.ind fun t ih => ?_
    have hs : ∀ l : List GTy, (∀ a ∈ l, nodesT a ≤ bulkL (rTy a)) → nodesTs l ≤ bulkLL (l.map rTy) := by
      intro l
      induction l with
      | nil => intro _; simp [nodesTs, bulkLL]
      | cons a l ih => intro h; rw [nodesTs, List.map_cons, bulkLL]; have := h a (by simp); have := ih fun x hx => h x (by simp [hx]); omega
    have := hs t.Args ih
    rw [nodesT_eq]
    have hb : bulkLL (t.Args.map rTy) + 1 ≤ bulkL (rTy t) := by cases t; simp only [rTy_mk, bulkL, PV.bulk, GTy.Args]; omega
    omega
  refine ⟨h1, fun l => ?_⟩
  induction l with
  | nil => simp [nodesTs, bulkLL]
  | cons a l ih => rw [nodesTs, List.map_cons, bulkLL]; have := h1 a; omega
theorem nodesE_bulk : ∀ e : GExp, nodesE e ≤ bulkL (rExp e) := by
  refine GExp.ind fun e ih => ?_
  have hs : ∀ l : List GExp, (∀ a ∈ l, nodesE a ≤ bulkL (rExp a)) → nodesEs l ≤ bulkLL (l.map rExp) := by
    intro l
    induction l with
    | nil => intro _; simp [nodesEs, bulkLL]
    | cons a l ih => intro h; rw [nodesEs, List.map_cons, bulkLL]; have := h a (by simp); have := ih fun x hx => h x (by simp [hx]); omega
  have h1 := hs e.Kids ih
  have h2 := nodesT_bulk_both.2 e.Types
  rw [nodesE_eq]
  have hb : bulkLL (e.Kids.map rExp) + bulkLL (e.Types.map rTy) + 1 ≤ bulkL (rExp e) := by cases e; simp only [rExp_mk, bulkL, PV.bulk, GExp.Kids, GExp.Types]; omega
  omega
theorem nodes_binds (l : List GBind) : nodesTs (l.map GBind.Typ) ≤ bulkLL (l.map rBind) := by
  induction l with
  | nil => simp [nodesTs, bulkLL]
  | cons b l ih =>
    rw [List.map_cons, nodesTs, List.map_cons, bulkLL]
    have h1 := nodesT_bulk_both.1 b.Typ
    have h2 : bulkL (rTy b.Typ) ≤ bulkL (rBind b) := by
      simp only [rBind, rTy_eq, List.cons_append, List.nil_append, bulkL, PV.bulk]; omega
    omega
theorem defNodes_bulk (d : GDef) : defNodes d ≤ bulkL (rDef d) := by
  unfold defNodes sigT
  rw [nodesTs_app, nodesTs_app]
  have h1 := nodesE_bulk d.Body
  have h2 := nodes_binds d.Sig.Binders
  have h3 := nodes_binds d.Sig.Params
  have h4 := nodesT_bulk_both.1 d.Sig.Result
  have h5 : bulkL (rExp d.Body) + (bulkLL (d.Sig.Binders.map rBind) + (bulkLL (d.Sig.Params.map rBind) + bulkL (rTy d.Sig.Result))) ≤ bulkL (rDef d) := by
    simp only [rDef, List.cons_append, List.nil_append, bulkL, bulkL_append, PV.bulk]; omega
  simp only [nodesTs]
  omega
section
variable {ot : TypeId} {oz : EP}
theorem right37 (l : List GDef) (hl : Short l.length) (ok : ∀ d ∈ l, OkDef d ∧ defNodes d ≤ 1000000000) (S : St) : cal (env ot oz) 18 [.sl .ro (l.map rDef)] S = some (.bool (progOk l), S) := by
  have f0 := fun fin st => loopA (E := (env ot oz)) (S := S) (c := c18_l0) l.zipIdx (by rw [List.length_zipIdx]; exact hl) (fun i => [(0, some (.sl .ro (l.map rDef))), (3, some (.int .i64 (i : Int)))]) (badAt l) fin st
    (aft (env ot oz) fin st .ret [(2, some (.bool false))] S) (aft (env ot oz) fin st (.exit 0) [(0, some (.sl .ro (l.map rDef))), (3, some (.int .i64 (l.length : Int))), (7, some (.bool false))] S)
    (fun i q h1 h2 h3 h4 h5 => by
      obtain ⟨d, j⟩ := q
      obtain ⟨k1, k2⟩ := zipIdx_at h1
      simp only at k1 k2
      subst k2
      rw [List.length_zipIdx] at h3
      obtain ⟨o1, o2⟩ := ok d (mem_of_get k1)
      have c := def14 (ot := ot) (oz := oz) d o1 o2
      unfold badAt at h5
      simp only [Bool.or_eq_false_iff, Bool.not_eq_false', Bool.and_eq_false_iff] at h5
      obtain ⟨h5, h6⟩ := h5
      cases j with
      | zero =>
        have z : decide ((0 : Int) < ((0 : Nat) : Int)) = false := rfl
        simp only [Int.cast_ofNat_Int] at *
        (rw [c18_l0_w]; simp only [c18_l0_b, c18_l0_a, c18_r4, go_sem, k1, h3, h4, c, h5]; repeat' (first | (rw [guardO_t]; split <;> rename_i h <;> (try rw [Bool.not_eq_true] at h) <;> (try simp only [go_sem, c18_r4, c18_l0_a, k1, h3, h4, c, h5, *])) | (rw [guardO_f]; split <;> rename_i h <;> (try rw [Bool.not_eq_true] at h) <;> (try simp only [go_sem, c18_r4, c18_l0_a, k1, h3, h4, c, h5, *])) | (rw [cw_bool]; split <;> rename_i h <;> (try rw [Bool.not_eq_true] at h) <;> (try simp only [go_sem, c18_r4, c18_l0_a, k1, h3, h4, c, h5, *]))))
      | succ j =>
        have hj : j < l.length := by omega
        have k2 : l[j]? = some l[j] := List.getElem?_eq_getElem hj
        simp only [Nat.add_sub_cancel, k2, Option.map_some, Option.getD_some, decide_eq_false_iff_not, Bool.not_eq_false'] at h6
        have h7 : strLt l[j].Sig.Name d.Sig.Name = true := by rcases h6 with k | k; omega; exact k
        generalize l[j] = p at *
        have z : decide ((0 : Int) < ((j + 1 : Nat) : Int)) = true := decide_eq_true (by omega)
        have w : IntKind.i64.wrap (((j + 1 : Nat) : Int) - 1) = (j : Int) := by unfold Short maxLen at hl; rw [wrap64 (by omega) (by omega)]; omega
        have hj2 : (j : Int) < (l.length : Int) := by omega
        (rw [c18_l0_w]; simp only [c18_l0_b, c18_l0_a, c18_r4, go_sem, k1, k2, h3, h4, hj2, c, h5, h7, z, w]; repeat' (first | (rw [guardO_t]; split <;> rename_i h <;> (try rw [Bool.not_eq_true] at h) <;> (try simp only [go_sem, c18_r4, c18_l0_a, k1, k2, h3, h4, hj2, c, h5, h7, z, w, *])) | (rw [guardO_f]; split <;> rename_i h <;> (try rw [Bool.not_eq_true] at h) <;> (try simp only [go_sem, c18_r4, c18_l0_a, k1, k2, h3, h4, hj2, c, h5, h7, z, w, *])) | (rw [cw_bool]; split <;> rename_i h <;> (try rw [Bool.not_eq_true] at h) <;> (try simp only [go_sem, c18_r4, c18_l0_a, k1, k2, h3, h4, hj2, c, h5, h7, z, w, *])))))
    (fun i q h1 h2 h3 h4 h5 => by
      obtain ⟨d, j⟩ := q
      obtain ⟨k1, k2⟩ := zipIdx_at h1
      simp only at k1 k2
      subst k2
      rw [List.length_zipIdx] at h3
      obtain ⟨o1, o2⟩ := ok d (mem_of_get k1)
      have c := def14 (ot := ot) (oz := oz) d o1 o2
      cases q : defOk d with
      | false => (rw [c18_l0_w]; simp only [c18_l0_b, c18_l0_a, c18_r4, go_sem, k1, h3, h4, c, q]; repeat' (first | (rw [guardO_t]; split <;> rename_i h <;> (try rw [Bool.not_eq_true] at h) <;> (try simp only [go_sem, c18_r4, c18_l0_a, k1, h3, h4, c, q, *])) | (rw [guardO_f]; split <;> rename_i h <;> (try rw [Bool.not_eq_true] at h) <;> (try simp only [go_sem, c18_r4, c18_l0_a, k1, h3, h4, c, q, *])) | (rw [cw_bool]; split <;> rename_i h <;> (try rw [Bool.not_eq_true] at h) <;> (try simp only [go_sem, c18_r4, c18_l0_a, k1, h3, h4, c, q, *]))))
      | true =>
        unfold badAt at h5
        simp only [q, Bool.not_true, Bool.false_or, Bool.and_eq_true, decide_eq_true_eq, Bool.not_eq_true'] at h5
        obtain ⟨h5, h6⟩ := h5
        obtain ⟨j, rfl⟩ : ∃ k, j = k + 1 := ⟨j - 1, by omega⟩
        have hj : j < l.length := by omega
        have k2 : l[j]? = some l[j] := List.getElem?_eq_getElem hj
        simp only [Nat.add_sub_cancel, k2, Option.map_some, Option.getD_some] at h6
        generalize l[j] = p at *
        have z : decide ((0 : Int) < ((j + 1 : Nat) : Int)) = true := decide_eq_true (by omega)
        have w : IntKind.i64.wrap (((j + 1 : Nat) : Int) - 1) = (j : Int) := by unfold Short maxLen at hl; rw [wrap64 (by omega) (by omega)]; omega
        have hj2 : (j : Int) < (l.length : Int) := by omega
        (rw [c18_l0_w]; simp only [c18_l0_b, c18_l0_a, c18_r4, go_sem, k1, k2, h3, h4, hj2, c, q, h6, z, w]; repeat' (first | (rw [guardO_t]; split <;> rename_i h <;> (try rw [Bool.not_eq_true] at h) <;> (try simp only [go_sem, c18_r4, c18_l0_a, k1, k2, h3, h4, hj2, c, q, h6, z, w, *])) | (rw [guardO_f]; split <;> rename_i h <;> (try rw [Bool.not_eq_true] at h) <;> (try simp only [go_sem, c18_r4, c18_l0_a, k1, k2, h3, h4, hj2, c, q, h6, z, w, *])) | (rw [cw_bool]; split <;> rename_i h <;> (try rw [Bool.not_eq_true] at h) <;> (try simp only [go_sem, c18_r4, c18_l0_a, k1, k2, h3, h4, hj2, c, q, h6, z, w, *])))))
    (by rw [List.length_zipIdx]; (rw [c18_l0_w]; simp only [c18_l0_b, c18_l0_a, c18_r4, go_sem]; repeat' (first | (rw [guardO_t]; split <;> rename_i h <;> (try rw [Bool.not_eq_true] at h) <;> (try simp only [go_sem, c18_r4, c18_l0_a, *])) | (rw [guardO_f]; split <;> rename_i h <;> (try rw [Bool.not_eq_true] at h) <;> (try simp only [go_sem, c18_r4, c18_l0_a, *])) | (rw [cw_bool]; split <;> rename_i h <;> (try rw [Bool.not_eq_true] at h) <;> (try simp only [go_sem, c18_r4, c18_l0_a, *])))))
  simp only [Int.cast_ofNat_Int] at f0
  unfold progOk
  have e : decide ((l.length : Int) ≤ 12) = decide (l.length ≤ 12) := by
    apply Bool.eq_iff_iff.2; simp only [decide_eq_true_eq]; omega
  cases q : l.zipIdx.any (badAt l) <;> simp only [q, if_true, if_false, Bool.false_eq_true] at f0 <;> (rw [w_plain (fn := c18) rfl rfl (by simp only [go_sem, f0, e]) rfl (by decide)]; simp only [c18, c18_b, c18_r4, go_sem, f0, e]; repeat' (first | (rw [guardO_t]; split <;> rename_i h <;> (try rw [Bool.not_eq_true] at h) <;> (try simp only [go_sem, c18_r4, f0, e, *])) | (rw [guardO_f]; split <;> rename_i h <;> (try rw [Bool.not_eq_true] at h) <;> (try simp only [go_sem, c18_r4, f0, e, *])) | (rw [cw_bool]; split <;> rename_i h <;> (try rw [Bool.not_eq_true] at h) <;> (try simp only [go_sem, c18_r4, f0, e, *]))))
end
end Go.PE
