/-
  The law DepsTell, at the evaluator's level. Conditions: what comes in is of bulk at most 1048576.
-/
import Derived.Test.YtleggogbmklddaaDX10
import Derived.Test.YtleggogbmklddaaDX13
import Derived.KernelRfl
namespace Go.PE
open Go Go.RowKit Go.Proofs
set_option linter.unusedVariables false
set_option linter.unusedSimpArgs false
set_option maxRecDepth 100000
/-! ### how much is handed in -/
theorem bulk_exp (e : GExp) : bulkLL (e.Kids.map rExp) + 1 ≤ bulkL (rExp e) := by
  cases e; simp only [rExp_mk, bulkL, PV.bulk, GExp.Kids]; omega
mutual
theorem pre_bulk : ∀ e : GExp, (preE e).length ≤ bulkL (rExp e)
  | .mk K N Name Has Types Labels Kids => by
    have h := bulk_exp (.mk K N Name Has Types Labels Kids)
    have ih := pres_bulk Kids
    rw [preE, List.length_cons]
    simp only [GExp.Kids] at h
    omega
theorem pres_bulk : ∀ l : List GExp, (preEs l).length ≤ bulkLL (l.map rExp)
  | [] => by simp [preEs, bulkLL]
  | a :: l => by
    have h1 := pre_bulk a
    have h2 := pres_bulk l
    rw [preEs, List.length_append, List.map_cons, bulkLL]; omega
end
theorem bulk_def (d : GDef) : bulkL (rExp d.Body) + 1 ≤ bulkL (rDef d) := by
  simp only [rDef, rTy_eq, List.cons_append, List.nil_append, bulkL, PV.bulk]; omega
theorem bulk_mem {α : Type} {r : α → List PV} : ∀ {l : List α} {a : α}, a ∈ l → bulkL (r a) ≤ bulkLL (l.map r)
  | b :: l, a, h => by
    rw [List.map_cons, bulkLL]
    rcases List.mem_cons.1 h with e | h
    · subst e; omega
    · have := bulk_mem (r := r) h; omega
theorem bulk_len {α : Type} {r : α → List PV} (hr : ∀ a, 1 ≤ bulkL (r a)) : ∀ l : List α, l.length ≤ bulkLL (l.map r)
  | [] => by simp [bulkLL]
  | a :: l => by
    have h1 := hr a
    have h2 := bulk_len hr l
    rw [List.map_cons, bulkLL, List.length_cons]; omega
theorem okL_bulk {l : List GDef} (ok : ∀ d ∈ l, OkDef d) (h : PV.bulk (.sl .ro (l.map rDef)) ≤ 1048576) : OkL l := by
  simp only [PV.bulk] at h
  have h1 := bulk_len (r := rDef) (fun d => by have := bulk_def d; omega) l
  refine ⟨by omega, fun d hd => ⟨ok d hd, ?_⟩⟩
  have h2 := bulk_mem (r := rDef) hd
  have h3 := bulk_def d
  have h4 := pre_bulk d.Body
  omega
theorem eqS_refl (l : List ByteArray) : eqS l l = true := eqS_iff.2 rfl
section
variable {ot : TypeId} {oz : EP}
theorem aw39 (S : St) : cal (env ot oz) 7 [] S = some (.bool true, S) := cal_closed (env_free ot oz) (n := 60) (by kernel_rfl) rfl rfl S
theorem same01_same (l : List ByteArray) (hl : Short l.length) (S : St) : cal (env ot oz) 8 [.sl .ro (l.map rStr), .sl .ro (l.map rStr)] S = some (.bool true, S) := by
  have := same01 (ot := ot) (oz := oz) l l hl hl S
  rw [eqS_refl] at this; exact this
end
end Go.PE
