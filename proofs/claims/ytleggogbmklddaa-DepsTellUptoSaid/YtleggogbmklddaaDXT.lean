/-
  The law DepsTell, at the evaluator's level. Conditions: what comes in is of bulk at most 1048576.
-/
import Derived.Test.YtleggogbmklddaaDX10
import Derived.Test.YtleggogbmklddaaDX13
import Derived.KernelRfl
namespace Go.PE
open Go Go.RowKit Go.Proofs
set_option linter.unusedVariables false
set_option linter.unusedSimpArgs false
set_option maxRecDepth 100000
/-! ### how much is handed in -/
theorem bulk_exp (e : GExp) : bulkLL (e.Kids.map rExp) + 1 ≤ bulkL (rExp e) := by
  cases e; simp only [rExp_mk, bulkL, PV.bulk, GExp.Kids]; omega
mutual
theorem pre_bulk : ∀ e : GExp, (preE e).length ≤ bulkL (rExp e)
  | .mk K N Name Has Types Labels Kids => by
    have h := bulk_exp (.mk K N Name Has Types Labels Kids)
    have ih := pres_bulk Kids
    rw [preE, List.length_cons]
    simp only [GExp.Kids] at h
    omega
theorem pres_bulk : ∀ l : List GExp, (preEs l).length ≤ bulkLL (l.map rExp)
  | [] => by simp [preEs, bulkLL]
  | a :: l => by
    have h1 := pre_bulk a
    have h2 := pres_bulk l
    rw [preEs, List.length_append, List.map_cons, bulkLL]; omega
end
theorem bulk_def (d : GDef) : bulkL (rExp d.Body) + 1 ≤ bulkL (rDef d) := by
  simp only [rDef, rTy_eq, List.cons_append, List.nil_append, bulkL, PV.bulk]; omega
theorem bulk_mem {α : Type} {r : α → List PV} : ∀ {l : List α} {a : α}, a ∈ l → bulkL (r a) ≤ bulkLL (l.map r)
  | b :: l, a, h => by
    rw [List.map_cons, bulkLL]
    rcases List.mem_cons.1 h with e | h
    · subst e; omega
    · have := bulk_mem (r := r) h; omega
theorem bulk_len {α : Type} {r : α → List PV} (hr : ∀ a, 1 ≤ bulkL (r a)) : ∀ l : List α, l.length ≤ bulkLL (l.map r)
  | [] => by simp [bulkLL]
  | a :: l => by
    have h1 := hr a
    have h2 := bulk_len hr l
    rw [List.map_cons, bulkLL, List.length_cons]; omega
theorem okL_bulk {l : List GDef} (ok : ∀ d ∈ l, OkDef d) (h : PV.bulk (.sl .ro (l.map rDef)) ≤ 1048576) : OkL l := by
  simp only [PV.bulk] at h
  have h1 := bulk_len (r := rDef) (fun d => by have := bulk_def d; omega) l
  refine ⟨by omega, fun d hd => ⟨ok d hd, ?_⟩⟩
  have h2 := bulk_mem (r := rDef) hd
  have h3 := bulk_def d
  have h4 := pre_bulk d.Body
  omega
theorem eqS_refl (l : List ByteArray) : eqS l l = true := eqS_iff.2 rfl
section
variable {ot : TypeId} {oz : EP}
theorem aw39 (S : St) : cal (env ot oz) 7 [] S = some (.bool true, S) := cal_closed (env_free ot oz) (n := 60) (by kernel_rfl) rfl rfl S
theorem same01_same (l : List ByteArray) (hl : Short l.length) (S : St) : cal (env ot oz) 8 [.sl .ro (l.map rStr), .sl .ro (l.map rStr)] S = some (.bool true, S) := by
  have := same01 (ot := ot) (oz := oz) l l hl hl S
  rw [eqS_refl] at this; exact this
theorem users_len {l : List GDef} (ol : OkL l) (n : ByteArray) : (usersS l n).length ≤ 2000000 := by
  refine Nat.le_trans (setS_len _) ?_
  unfold userN
  rw [List.length_map]
  exact Nat.le_trans (List.length_filter_le _ _) ol.1
theorem staleL_len {b a : List GDef} (oa : OkL a) : (staleL b a).length ≤ 2000000 := by
  have key : ∀ (m : List GDef) (r : List ByteArray × List ByteArray), (m.foldl (staleF b a) r).1.length ≤ r.1.length + m.length := by
    intro m
    induction m with
    | nil => intro r; simp
    | cons d m ih =>
      intro r
      rw [List.foldl_cons, List.length_cons]
      have := ih (staleF b a r d)
      have h2 : (staleF b a r d).1.length ≤ r.1.length + 1 := by
        unfold staleF; simp only; split <;> simp
      omega
  have h := key a ([], [])
  have h2 := oa.1
  have e : staleL b a = (a.foldl (staleF b a) ([], [])).1 := rfl
  rw [e]
  simp only [List.length_nil, Nat.zero_add] at h
  omega
theorem depsTell (l m : List GDef) (n : ByteArray) (okl : Short l.length ∧ ∀ d ∈ l, OkDef d) (okm : Short m.length ∧ ∀ d ∈ m, OkDef d) (okn : Short n.size) (hl : PV.bulk (.sl .ro (l.map rDef)) ≤ 1048576) (hm : PV.bulk (.sl .ro (m.map rDef)) ≤ 1048576) (hn : n.size + 1 ≤ 1048576) :
    Ev (env ot oz) 3 [.sl .ro (l.map rDef), .sl .ro (m.map rDef), .str n] .none (.bool true) .none := by
  refine cal_ev ?_
  have aw := aw39 (ot := ot) (oz := oz)
  have ol := okL_bulk okl.2 hl
  have om := okL_bulk okm.2 hm
  obtain ⟨b1, s1⟩ := small_n (ot := ot) (oz := oz) l okl.1 okl.2
  obtain ⟨b2, s2⟩ := small_n (ot := ot) (oz := oz) m okm.1 okm.2
  have a1 := asksP (ot := ot) (oz := oz) l ol n
  have a2 := asks39 (ot := ot) (oz := oz) l ol n
  have e1 := same01_same (ot := ot) (oz := oz) (asksS l n) (by have := asks_len ol n; unfold Short maxLen; omega)
  have u1 := usersP (ot := ot) (oz := oz) l ol n
  have u2 := users39 (ot := ot) (oz := oz) l ol n
  have e2 := same01_same (ot := ot) (oz := oz) (usersS l n) (by have := users_len ol n; unfold Short maxLen; omega)
  have t1 := staleLP (ot := ot) (oz := oz) l m ol om
  have t2 := stale39L (ot := ot) (oz := oz) l m ol om
  have e4 := same01_same (ot := ot) (oz := oz) (staleL l m) (by have := staleL_len (b := l) om; unfold Short maxLen; omega)
  obtain ⟨met, p1, p2, r1⟩ := reachP (ot := ot) (oz := oz) l ol n .none
  obtain ⟨out, q1, r2⟩ := reach39 (ot := ot) (oz := oz) l ol n .none
  have he : out = sortS met := rise_one q1.1 (sortS_rise p1.1) fun x => by rw [q1.2, sortS_mem, p1.2]
  subst he
  have e3 := same01_same (ot := ot) (oz := oz) (sortS met) (by have := sortS_len met; unfold Short maxLen; omega)
  cases b1 with
  | false => (rw [w_plain (fn := c3) rfl rfl (by simp only [go_sem, s1, aw]) rfl (by decide)]; simp only [c3, c3_b, c3_r1, c3_r3, go_sem, s1, aw]; repeat' (first | (rw [guardO_t]; split <;> rename_i h <;> (try rw [Bool.not_eq_true] at h) <;> (try simp only [go_sem, c3_r1, c3_r3, s1, aw, *])) | (rw [guardO_f]; split <;> rename_i h <;> (try rw [Bool.not_eq_true] at h) <;> (try simp only [go_sem, c3_r1, c3_r3, s1, aw, *])) | (rw [cw_bool]; split <;> rename_i h <;> (try rw [Bool.not_eq_true] at h) <;> (try simp only [go_sem, c3_r1, c3_r3, s1, aw, *]))))
  | true =>
    cases b2 with
    | false => (rw [w_plain (fn := c3) rfl rfl (by simp only [go_sem, s1, s2, aw]) rfl (by decide)]; simp only [c3, c3_b, c3_r1, c3_r3, go_sem, s1, s2, aw]; repeat' (first | (rw [guardO_t]; split <;> rename_i h <;> (try rw [Bool.not_eq_true] at h) <;> (try simp only [go_sem, c3_r1, c3_r3, s1, s2, aw, *])) | (rw [guardO_f]; split <;> rename_i h <;> (try rw [Bool.not_eq_true] at h) <;> (try simp only [go_sem, c3_r1, c3_r3, s1, s2, aw, *])) | (rw [cw_bool]; split <;> rename_i h <;> (try rw [Bool.not_eq_true] at h) <;> (try simp only [go_sem, c3_r1, c3_r3, s1, s2, aw, *]))))
    | true => (rw [w_plain (fn := c3) rfl rfl (by simp only [go_sem, s1, s2, aw, a1, a2, e1, u1, u2, e2, r1, r2, e3, t1, t2, e4]) rfl (by decide)]; simp only [c3, c3_b, c3_r1, c3_r3, go_sem, s1, s2, aw, a1, a2, e1, u1, u2, e2, r1, r2, e3, t1, t2, e4]; repeat' (first | (rw [guardO_t]; split <;> rename_i h <;> (try rw [Bool.not_eq_true] at h) <;> (try simp only [go_sem, c3_r1, c3_r3, s1, s2, aw, a1, a2, e1, u1, u2, e2, r1, r2, e3, t1, t2, e4, *])) | (rw [guardO_f]; split <;> rename_i h <;> (try rw [Bool.not_eq_true] at h) <;> (try simp only [go_sem, c3_r1, c3_r3, s1, s2, aw, a1, a2, e1, u1, u2, e2, r1, r2, e3, t1, t2, e4, *])) | (rw [cw_bool]; split <;> rename_i h <;> (try rw [Bool.not_eq_true] at h) <;> (try simp only [go_sem, c3_r1, c3_r3, s1, s2, aw, a1, a2, e1, u1, u2, e2, r1, r2, e3, t1, t2, e4, *]))))
end
end Go.PE
