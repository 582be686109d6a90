/-
  The laws DepsReach and DepsOne, at the evaluator's level. Conditions: what comes in is of bulk at most 1048576.
-/
import Derived.Test.YtleggogbmklddaaDXT
import Derived.Test.YtleggogbmklddaaEX3
namespace Go.PE
open Go Go.RowKit Go.Proofs
set_option linter.unusedVariables false
set_option linter.unusedSimpArgs false
set_option maxRecDepth 100000
/-! ### programs that are right -/
def badAt (l : List GDef) (q : GDef × Nat) : Bool := !(defOk q.1) || (decide (0 < q.2) && !(strLt ((l[q.2 - 1]?.map fun d => d.Sig.Name).getD ⟨#[]⟩) q.1.Sig.Name))
def progOk (l : List GDef) : Bool := !(l.zipIdx.any (badAt l)) && decide (l.length ≤ 12)
/-- Definitions that are handed in, with what is asked of their sizes. -/
theorem nodesT_bulk_both : (∀ t : GTy, nodesT t ≤ bulkL (rTy t)) ∧ ∀ l : List GTy, nodesTs l ≤ bulkLL (l.map rTy) := by
  have h1 : ∀ t : GTy, nodesT t ≤ bulkL (rTy t) := by
    refine GTy.ind fun t ih => ?_
    have hs : ∀ l : List GTy, (∀ a ∈ l, nodesT a ≤ bulkL (rTy a)) → nodesTs l ≤ bulkLL (l.map rTy) := by
      intro l
      induction l with
      | nil => intro _; simp [nodesTs, bulkLL]
      | cons a l ih => intro h; rw [nodesTs, List.map_cons, bulkLL]; have := h a (by simp); have := ih fun x hx => h x (by simp [hx]); omega
    have := hs t.Args ih
    rw [nodesT_eq]
    have hb : bulkLL (t.Args.map rTy) + 1 ≤ bulkL (rTy t) := by cases t; simp only [rTy_mk, bulkL, PV.bulk, GTy.Args]; omega
    omega
  refine ⟨h1, fun l => ?_⟩
  induction l with
  | nil => simp [nodesTs, bulkLL]
  | cons a l ih => rw [nodesTs, List.map_cons, bulkLL]; have := h1 a; omega
theorem nodesE_bulk : ∀ e : GExp, nodesE e ≤ bulkL (rExp e) := by
  refine GExp.ind fun e ih => ?_
  have hs : ∀ l : List GExp, (∀ a ∈ l, nodesE a ≤ bulkL (rExp a)) → nodesEs l ≤ bulkLL (l.map rExp) := by
    intro l
    induction l with
    | nil => intro _; simp [nodesEs, bulkLL]
    | cons a l ih => intro h; rw [nodesEs, List.map_cons, bulkLL]; have := h a (by simp); have := ih fun x hx => h x (by simp [hx]); omega
  have h1 := hs e.Kids ih
  have h2 := nodesT_bulk_both.2 e.Types
  rw [nodesE_eq]
  have hb : bulkLL (e.Kids.map rExp) + bulkLL (e.Types.map rTy) + 1 ≤ bulkL (rExp e) := by cases e; simp only [rExp_mk, bulkL, PV.bulk, GExp.Kids, GExp.Types]; omega
  omega
theorem nodes_binds (l : List GBind) : nodesTs (l.map GBind.Typ) ≤ bulkLL (l.map rBind) := by
  induction l with
  | nil => simp [nodesTs, bulkLL]
  | cons b l ih =>
    rw [List.map_cons, nodesTs, List.map_cons, bulkLL]
    have h1 := nodesT_bulk_both.1 b.Typ
    have h2 : bulkL (rTy b.Typ) ≤ bulkL (rBind b) := by
      simp only [rBind, rTy_eq, List.cons_append, List.nil_append, bulkL, PV.bulk]; omega
    omega
theorem defNodes_bulk (d : GDef) : defNodes d ≤ bulkL (rDef d) := by
  unfold defNodes sigT
  rw [nodesTs_app, nodesTs_app]
  have h1 := nodesE_bulk d.Body
  have h2 := nodes_binds d.Sig.Binders
  have h3 := nodes_binds d.Sig.Params
  have h4 := nodesT_bulk_both.1 d.Sig.Result
  have h5 : bulkL (rExp d.Body) + (bulkLL (d.Sig.Binders.map rBind) + (bulkLL (d.Sig.Params.map rBind) + bulkL (rTy d.Sig.Result))) ≤ bulkL (rDef d) := by
    simp only [rDef, List.cons_append, List.nil_append, bulkL, bulkL_append, PV.bulk]; omega
  simp only [nodesTs]
  omega
section
variable {ot : TypeId} {oz : EP}
theorem right37 (l : List GDef) (hl : Short l.length) (ok : ∀ d ∈ l, OkDef d ∧ defNodes d ≤ 1000000000) (S : St) : cal (env ot oz) 18 [.sl .ro (l.map rDef)] S = some (.bool (progOk l), S) := by
  have f0 := fun fin st => loopA (E := (env ot oz)) (S := S) (c := c18_l0) l.zipIdx (by rw [List.length_zipIdx]; exact hl) (fun i => [(0, some (.sl .ro (l.map rDef))), (3, some (.int .i64 (i : Int)))]) (badAt l) fin st
    (aft (env ot oz) fin st .ret [(2, some (.bool false))] S) (aft (env ot oz) fin st (.exit 0) [(0, some (.sl .ro (l.map rDef))), (3, some (.int .i64 (l.length : Int))), (7, some (.bool false))] S)
    (fun i q h1 h2 h3 h4 h5 => by
      obtain ⟨d, j⟩ := q
      obtain ⟨k1, k2⟩ := zipIdx_at h1
      simp only at k1 k2
      subst k2
      rw [List.length_zipIdx] at h3
      obtain ⟨o1, o2⟩ := ok d (mem_of_get k1)
      have c := def14 (ot := ot) (oz := oz) d o1 o2
      unfold badAt at h5
      simp only [Bool.or_eq_false_iff, Bool.not_eq_false', Bool.and_eq_false_iff] at h5
      obtain ⟨h5, h6⟩ := h5
      cases j with
      | zero =>
        have z : decide ((0 : Int) < ((0 : Nat) : Int)) = false := rfl
        simp only [Int.cast_ofNat_Int] at *
        (rw [c18_l0_w]; simp only [c18_l0_b, c18_l0_a, c18_r4, go_sem, k1, h3, h4, c, h5]; repeat' (first | (rw [guardO_t]; split <;> rename_i h <;> (try rw [Bool.not_eq_true] at h) <;> (try simp only [go_sem, c18_r4, c18_l0_a, k1, h3, h4, c, h5, *])) | (rw [guardO_f]; split <;> rename_i h <;> (try rw [Bool.not_eq_true] at h) <;> (try simp only [go_sem, c18_r4, c18_l0_a, k1, h3, h4, c, h5, *])) | (rw [cw_bool]; split <;> rename_i h <;> (try rw [Bool.not_eq_true] at h) <;> (try simp only [go_sem, c18_r4, c18_l0_a, k1, h3, h4, c, h5, *]))))
      | succ j =>
        have hj : j < l.length := by omega
        have k2 : l[j]? = some l[j] := List.getElem?_eq_getElem hj
        simp only [Nat.add_sub_cancel, k2, Option.map_some, Option.getD_some, decide_eq_false_iff_not, Bool.not_eq_false'] at h6
        have h7 : strLt l[j].Sig.Name d.Sig.Name = true := by rcases h6 with k | k; omega; exact k
        generalize l[j] = p at *
        have z : decide ((0 : Int) < ((j + 1 : Nat) : Int)) = true := decide_eq_true (by omega)
        have w : IntKind.i64.wrap (((j + 1 : Nat) : Int) - 1) = (j : Int) := by unfold Short maxLen at hl; rw [wrap64 (by omega) (by omega)]; omega
        have hj2 : (j : Int) < (l.length : Int) := by omega
        (rw [c18_l0_w]; simp only [c18_l0_b, c18_l0_a, c18_r4, go_sem, k1, k2, h3, h4, hj2, c, h5, h7, z, w]; repeat' (first | (rw [guardO_t]; split <;> rename_i h <;> (try rw [Bool.not_eq_true] at h) <;> (try simp only [go_sem, c18_r4, c18_l0_a, k1, k2, h3, h4, hj2, c, h5, h7, z, w, *])) | (rw [guardO_f]; split <;> rename_i h <;> (try rw [Bool.not_eq_true] at h) <;> (try simp only [go_sem, c18_r4, c18_l0_a, k1, k2, h3, h4, hj2, c, h5, h7, z, w, *])) | (rw [cw_bool]; split <;> rename_i h <;> (try rw [Bool.not_eq_true] at h) <;> (try simp only [go_sem, c18_r4, c18_l0_a, k1, k2, h3, h4, hj2, c, h5, h7, z, w, *])))))
    (fun i q h1 h2 h3 h4 h5 => by
      obtain ⟨d, j⟩ := q
      obtain ⟨k1, k2⟩ := zipIdx_at h1
      simp only at k1 k2
      subst k2
      rw [List.length_zipIdx] at h3
      obtain ⟨o1, o2⟩ := ok d (mem_of_get k1)
      have c := def14 (ot := ot) (oz := oz) d o1 o2
      cases q : defOk d with
      | false => (rw [c18_l0_w]; simp only [c18_l0_b, c18_l0_a, c18_r4, go_sem, k1, h3, h4, c, q]; repeat' (first | (rw [guardO_t]; split <;> rename_i h <;> (try rw [Bool.not_eq_true] at h) <;> (try simp only [go_sem, c18_r4, c18_l0_a, k1, h3, h4, c, q, *])) | (rw [guardO_f]; split <;> rename_i h <;> (try rw [Bool.not_eq_true] at h) <;> (try simp only [go_sem, c18_r4, c18_l0_a, k1, h3, h4, c, q, *])) | (rw [cw_bool]; split <;> rename_i h <;> (try rw [Bool.not_eq_true] at h) <;> (try simp only [go_sem, c18_r4, c18_l0_a, k1, h3, h4, c, q, *]))))
      | true =>
        unfold badAt at h5
        simp only [q, Bool.not_true, Bool.false_or, Bool.and_eq_true, decide_eq_true_eq, Bool.not_eq_true'] at h5
        obtain ⟨h5, h6⟩ := h5
        obtain ⟨j, rfl⟩ : ∃ k, j = k + 1 := ⟨j - 1, by omega⟩
        have hj : j < l.length := by omega
        have k2 : l[j]? = some l[j] := List.getElem?_eq_getElem hj
        simp only [Nat.add_sub_cancel, k2, Option.map_some, Option.getD_some] at h6
        generalize l[j] = p at *
        have z : decide ((0 : Int) < ((j + 1 : Nat) : Int)) = true := decide_eq_true (by omega)
        have w : IntKind.i64.wrap (((j + 1 : Nat) : Int) - 1) = (j : Int) := by unfold Short maxLen at hl; rw [wrap64 (by omega) (by omega)]; omega
        have hj2 : (j : Int) < (l.length : Int) := by omega
        (rw [c18_l0_w]; simp only [c18_l0_b, c18_l0_a, c18_r4, go_sem, k1, k2, h3, h4, hj2, c, q, h6, z, w]; repeat' (first | (rw [guardO_t]; split <;> rename_i h <;> (try rw [Bool.not_eq_true] at h) <;> (try simp only [go_sem, c18_r4, c18_l0_a, k1, k2, h3, h4, hj2, c, q, h6, z, w, *])) | (rw [guardO_f]; split <;> rename_i h <;> (try rw [Bool.not_eq_true] at h) <;> (try simp only [go_sem, c18_r4, c18_l0_a, k1, k2, h3, h4, hj2, c, q, h6, z, w, *])) | (rw [cw_bool]; split <;> rename_i h <;> (try rw [Bool.not_eq_true] at h) <;> (try simp only [go_sem, c18_r4, c18_l0_a, k1, k2, h3, h4, hj2, c, q, h6, z, w, *])))))
    (by rw [List.length_zipIdx]; (rw [c18_l0_w]; simp only [c18_l0_b, c18_l0_a, c18_r4, go_sem]; repeat' (first | (rw [guardO_t]; split <;> rename_i h <;> (try rw [Bool.not_eq_true] at h) <;> (try simp only [go_sem, c18_r4, c18_l0_a, *])) | (rw [guardO_f]; split <;> rename_i h <;> (try rw [Bool.not_eq_true] at h) <;> (try simp only [go_sem, c18_r4, c18_l0_a, *])) | (rw [cw_bool]; split <;> rename_i h <;> (try rw [Bool.not_eq_true] at h) <;> (try simp only [go_sem, c18_r4, c18_l0_a, *])))))
  simp only [Int.cast_ofNat_Int] at f0
  unfold progOk
  have e : decide ((l.length : Int) ≤ 12) = decide (l.length ≤ 12) := by
    apply Bool.eq_iff_iff.2; simp only [decide_eq_true_eq]; omega
  cases q : l.zipIdx.any (badAt l) <;> simp only [q, if_true, if_false, Bool.false_eq_true] at f0 <;> (rw [w_plain (fn := c18) rfl rfl (by simp only [go_sem, f0, e]) rfl (by decide)]; simp only [c18, c18_b, c18_r4, go_sem, f0, e]; repeat' (first | (rw [guardO_t]; split <;> rename_i h <;> (try rw [Bool.not_eq_true] at h) <;> (try simp only [go_sem, c18_r4, f0, e, *])) | (rw [guardO_f]; split <;> rename_i h <;> (try rw [Bool.not_eq_true] at h) <;> (try simp only [go_sem, c18_r4, f0, e, *])) | (rw [cw_bool]; split <;> rename_i h <;> (try rw [Bool.not_eq_true] at h) <;> (try simp only [go_sem, c18_r4, f0, e, *]))))
theorem reach_in (l : List GDef) (ol : OkL l) (n : ByteArray) (r : List ByteArray) (hr : Short r.length) (hf : ∀ y ∈ r, found l y = true) (i : Nat) (s : ByteArray) (b0 : Bool) (S : St) (fin : Kont (PV × St)) (st : List Fw) :
    run (env ot oz) fin st c5_l0 [(0, some (.sl .ro (l.map rDef))), (1, some (.str n)), (5, some (.sl .ro (r.map rStr))), (6, some (.int .i64 (i : Int))), (7, some (.str s)), (8, some (.bool b0)), (9, some (.int .i64 0))] S =
      aft (env ot oz) fin st (.exit 2) [(0, some (.sl .ro (l.map rDef))), (1, some (.str n)), (5, some (.sl .ro (r.map rStr))), (6, some (.int .i64 (i : Int))), (7, some (.str s)), (8, some (.bool (b0 || r.any fun y => (asksS l y).any (strEq s)))), (9, some (.int .i64 (r.length : Int))), (43, some (.bool false))] S := by
  have f0 := loopF0 (E := (env ot oz)) (S := S) (c := c5_l0) r hr (fun k (b : Bool) => [(0, some (.sl .ro (l.map rDef))), (1, some (.str n)), (5, some (.sl .ro (r.map rStr))), (6, some (.int .i64 (i : Int))), (7, some (.str s)), (8, some (.bool b)), (9, some (.int .i64 (k : Int)))]) (fun b y => b || (asksS l y).any (strEq s)) b0 fin st
    (fun k b y h1 h2 h3 h4 => by
      have f := find37 (ot := ot) (oz := oz) l ol.short y
      obtain ⟨hf1, hf2⟩ := find_idx (isN y) l
      have hfe : l.any (isN y) = true := by
        have := hf y h2
        unfold found findD at this
        cases q : l.any (isN y) with
        | true => rfl
        | false => rw [hf2 q] at this; cases this
      rw [hfe] at f
      simp only [if_true] at f
      have z : decide (((l.findIdx (isN y) : Nat) : Int) < 0) = false := decide_eq_false (by omega)
      have ca := asks39 (ot := ot) (oz := oz) l ol y
      have hal := asks_len ol y
      have cp := place01 (ot := ot) (oz := oz) (asksS l y) (by unfold Short maxLen; omega) s .ro
      have pg := place_ge (asksS l y) s
      rw [any_strEq2] at cp pg
      generalize ((l.findIdx (isN y) : Nat) : Int) = z1 at *
      generalize (if (asksS l y).any (strEq s) = true then (((asksS l y).findIdx (strEq · s) : Nat) : Int) else -1) = z2 at *
      cases b <;> cases q2 : (asksS l y).any (strEq s) <;> rw [q2] at pg <;> (rw [c5_l0_w]; simp only [c5_l0_b, c5_l0_a, c5_r1, c5_r14, go_sem, h1, h3, h4, f, z, ca, cp, pg]; repeat' (first | (rw [guardO_t]; split <;> rename_i h <;> (try rw [Bool.not_eq_true] at h) <;> (try simp only [go_sem, c5_r1, c5_r14, c5_l0_a, h1, h3, h4, f, z, ca, cp, pg, *])) | (rw [guardO_f]; split <;> rename_i h <;> (try rw [Bool.not_eq_true] at h) <;> (try simp only [go_sem, c5_r1, c5_r14, c5_l0_a, h1, h3, h4, f, z, ca, cp, pg, *])) | (rw [cw_bool]; split <;> rename_i h <;> (try rw [Bool.not_eq_true] at h) <;> (try simp only [go_sem, c5_r1, c5_r14, c5_l0_a, h1, h3, h4, f, z, ca, cp, pg, *])))))
  have hfold : ∀ (m : List ByteArray) (b : Bool), m.foldl (fun b y => b || (asksS l y).any (strEq s)) b = (b || m.any fun y => (asksS l y).any (strEq s)) := by
    intro m
    induction m with
    | nil => intro b; simp
    | cons a m ih => intro b; rw [List.foldl_cons, ih, List.any_cons, Bool.or_assoc]
  rw [hfold] at f0
  simp only [Int.cast_ofNat_Int] at f0
  rw [f0]
  generalize (b0 || r.any fun y => (asksS l y).any (strEq s)) = b2
  (rw [c5_l0_w]; simp only [c5_l0_b, c5_l0_a, c5_r1, c5_r14, go_sem]; repeat' (first | (rw [guardO_t]; split <;> rename_i h <;> (try rw [Bool.not_eq_true] at h) <;> (try simp only [go_sem, c5_r1, c5_r14, c5_l0_a, *])) | (rw [guardO_f]; split <;> rename_i h <;> (try rw [Bool.not_eq_true] at h) <;> (try simp only [go_sem, c5_r1, c5_r14, c5_l0_a, *])) | (rw [cw_bool]; split <;> rename_i h <;> (try rw [Bool.not_eq_true] at h) <;> (try simp only [go_sem, c5_r1, c5_r14, c5_l0_a, *]))))
theorem depsReach (l : List GDef) (n : ByteArray) (okl : Short l.length ∧ ∀ d ∈ l, OkDef d) (okn : Short n.size) (hl : PV.bulk (.sl .ro (l.map rDef)) ≤ 1048576) (hn : n.size + 1 ≤ 1048576) :
    Ev (env ot oz) 5 [.sl .ro (l.map rDef), .str n] .none (.bool true) .none := by
  refine cal_ev ?_
  have aw := aw39 (ot := ot) (oz := oz)
  have ol := okL_bulk okl.2 hl
  obtain ⟨b1, s1⟩ := small_n (ot := ot) (oz := oz) l okl.1 okl.2
  have hdn : ∀ d ∈ l, OkDef d ∧ defNodes d ≤ 1000000000 := fun d hd => ⟨okl.2 d hd, by
    have h1 := defNodes_bulk d
    have h2 := bulk_mem (r := rDef) hd
    simp only [PV.bulk] at hl
    omega⟩
  have pr := right37 (ot := ot) (oz := oz) l okl.1 hdn
  obtain ⟨met, p1, p2, r1⟩ := reachP (ot := ot) (oz := oz) l ol n .none
  have hlen : Short (sortS met).length := by have := sortS_len met; unfold Short maxLen; omega
  have hmem : ∀ x, x ∈ sortS met ↔ Rch l n x := fun x => by rw [sortS_mem, p1.2]
  generalize sortS met = r at *
  have f0 := fun fin st => loopA (E := (env ot oz)) (S := .none) (c := c5_l1) l okl.1 (fun i => [(0, some (.sl .ro (l.map rDef))), (1, some (.str n)), (5, some (.sl .ro (r.map rStr))), (6, some (.int .i64 (i : Int)))]) (fun _ => false) fin st none
    (aft (env ot oz) fin st (.exit 0) [(0, some (.sl .ro (l.map rDef))), (1, some (.str n)), (5, some (.sl .ro (r.map rStr))), (6, some (.int .i64 (l.length : Int))), (25, some (.bool false))] .none)
    (fun i d h1 h2 h3 h4 h5 => by
      have hfd : found l d.Sig.Name = true := by
        unfold found findD
        rw [List.find?_isSome]
        exact ⟨d, h2, strEq_refl _⟩
      have ca := asks39 (ot := ot) (oz := oz) l ol n
      have hal := asks_len ol n
      have cp := place01 (ot := ot) (oz := oz) (asksS l n) (by unfold Short maxLen; omega) d.Sig.Name .ro
      have pg := place_ge (asksS l n) d.Sig.Name
      rw [any_strEq2] at cp pg
      have cq := place01 (ot := ot) (oz := oz) r hlen d.Sig.Name .ro
      have qg := place_ge r d.Sig.Name
      rw [any_strEq2] at cq qg
      have fi := fun b0 fin st => reach_in (ot := ot) (oz := oz) l ol n r hlen (fun y hy => rch_found ((hmem y).1 hy)) i d.Sig.Name b0 .none fin st
      have he : ((asksS l n).any (strEq d.Sig.Name) || r.any fun y => (asksS l y).any (strEq d.Sig.Name)) = r.any (strEq d.Sig.Name) := by
        apply Bool.eq_iff_iff.2
        rw [Bool.or_eq_true, any_strEq, any_strEq, List.any_eq_true, hmem]
        constructor
        · rintro (h | ⟨y, hy, h⟩)
          · exact .one h hfd
          · rw [any_strEq] at h; exact .more ((hmem y).1 hy) h hfd
        · intro h
          cases h with
          | one h _ => exact .inl h
          | more h k _ => exact .inr ⟨_, (hmem _).2 h, (any_strEq _ _).2 k⟩
      generalize (if (asksS l n).any (strEq d.Sig.Name) = true then (((asksS l n).findIdx (strEq · d.Sig.Name) : Nat) : Int) else -1) = z1 at *
      generalize (if r.any (strEq d.Sig.Name) = true then ((r.findIdx (strEq · d.Sig.Name) : Nat) : Int) else -1) = z2 at *
      have hbb : ∀ b : Bool, (true != (b == b)) = false := fun b => by cases b <;> rfl
      (rw [c5_l1_w]; simp only [c5_l1_b, c5_l1_a, c5_r1, c5_r14, go_sem, h1, h3, h4, ca, cp, pg, fi, cq, qg, he, hbb]; repeat' (first | (rw [guardO_t]; split <;> rename_i h <;> (try rw [Bool.not_eq_true] at h) <;> (try simp only [go_sem, c5_r1, c5_r14, c5_l1_a, h1, h3, h4, ca, cp, pg, fi, cq, qg, he, hbb, *])) | (rw [guardO_f]; split <;> rename_i h <;> (try rw [Bool.not_eq_true] at h) <;> (try simp only [go_sem, c5_r1, c5_r14, c5_l1_a, h1, h3, h4, ca, cp, pg, fi, cq, qg, he, hbb, *])) | (rw [cw_bool]; split <;> rename_i h <;> (try rw [Bool.not_eq_true] at h) <;> (try simp only [go_sem, c5_r1, c5_r14, c5_l1_a, h1, h3, h4, ca, cp, pg, fi, cq, qg, he, hbb, *])))))
    (fun i d h1 h2 h3 h4 h5 => by cases h5)
    (by (rw [c5_l1_w]; simp only [c5_l1_b, c5_l1_a, c5_r1, c5_r14, go_sem]; repeat' (first | (rw [guardO_t]; split <;> rename_i h <;> (try rw [Bool.not_eq_true] at h) <;> (try simp only [go_sem, c5_r1, c5_r14, c5_l1_a, *])) | (rw [guardO_f]; split <;> rename_i h <;> (try rw [Bool.not_eq_true] at h) <;> (try simp only [go_sem, c5_r1, c5_r14, c5_l1_a, *])) | (rw [cw_bool]; split <;> rename_i h <;> (try rw [Bool.not_eq_true] at h) <;> (try simp only [go_sem, c5_r1, c5_r14, c5_l1_a, *])))))
  have hany : (l.any fun _ => false) = false := by induction l <;> simp_all
  simp only [hany, Bool.false_eq_true, if_false, Int.cast_ofNat_Int] at f0
  cases b1 with
  | false => (rw [w_plain (fn := c5) rfl rfl (by simp only [go_sem, s1, aw]) rfl (by decide)]; simp only [c5, c5_b, c5_r1, c5_r14, go_sem, s1, aw]; repeat' (first | (rw [guardO_t]; split <;> rename_i h <;> (try rw [Bool.not_eq_true] at h) <;> (try simp only [go_sem, c5_r1, c5_r14, s1, aw, *])) | (rw [guardO_f]; split <;> rename_i h <;> (try rw [Bool.not_eq_true] at h) <;> (try simp only [go_sem, c5_r1, c5_r14, s1, aw, *])) | (rw [cw_bool]; split <;> rename_i h <;> (try rw [Bool.not_eq_true] at h) <;> (try simp only [go_sem, c5_r1, c5_r14, s1, aw, *]))))
  | true => cases q : progOk l <;> (rw [w_plain (fn := c5) rfl rfl (by simp only [go_sem, s1, aw, pr, q, r1, f0]) rfl (by decide)]; simp only [c5, c5_b, c5_r1, c5_r14, go_sem, s1, aw, pr, q, r1, f0]; repeat' (first | (rw [guardO_t]; split <;> rename_i h <;> (try rw [Bool.not_eq_true] at h) <;> (try simp only [go_sem, c5_r1, c5_r14, s1, aw, pr, q, r1, f0, *])) | (rw [guardO_f]; split <;> rename_i h <;> (try rw [Bool.not_eq_true] at h) <;> (try simp only [go_sem, c5_r1, c5_r14, s1, aw, pr, q, r1, f0, *])) | (rw [cw_bool]; split <;> rename_i h <;> (try rw [Bool.not_eq_true] at h) <;> (try simp only [go_sem, c5_r1, c5_r14, s1, aw, pr, q, r1, f0, *]))))
end
end Go.PE
