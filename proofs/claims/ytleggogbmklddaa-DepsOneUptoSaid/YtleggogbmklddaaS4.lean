/-
  Types, and lists of names, that are the same, by the document. Conditions: each law's own.
-/
import Derived.Test.YtleggogbmklddaaT04
namespace Go.PE
open Go Go.RowKit Go.Proofs
set_option linter.unusedVariables false
set_option linter.unusedSimpArgs false
set_option maxRecDepth 100000
def eqS : List ByteArray → List ByteArray → Bool
  | [], [] => true
  | a :: l, b :: m => strEq a b && eqS l m
  | _, _ => false
theorem eqS_iff : ∀ {l m : List ByteArray}, eqS l m = true ↔ l = m
  | [], [] => by simp [eqS]
  | [], _ :: _ => by simp [eqS]
  | _ :: _, [] => by simp [eqS]
  | a :: l, b :: m => by simp [eqS, eqS_iff (l := l) (m := m), strEq_iff]
theorem eqS_len : ∀ {l m : List ByteArray}, l.length ≠ m.length → eqS l m = false := fun {l m} h => by
  cases q : eqS l m with
  | false => rfl
  | true => exact absurd (congrArg List.length (eqS_iff.1 q)) h
mutual
def sameT : GTy → GTy → Bool
  | .mk K N Name Labels Args, b => K == b.K && (N == b.N && (strEq Name b.Name && (eqS Labels b.Labels && sameTs Args b.Args)))
def sameTs : List GTy → List GTy → Bool
  | [], [] => true
  | a :: l, b :: m => sameT a b && sameTs l m
  | _, _ => false
end
theorem sameT_eq (a b : GTy) : sameT a b = (a.K == b.K && (a.N == b.N && (strEq a.Name b.Name && (eqS a.Labels b.Labels && sameTs a.Args b.Args)))) := by cases a; rw [sameT]; rfl
theorem sameTs_len : ∀ {l m : List GTy}, l.length ≠ m.length → sameTs l m = false
  | [], [], h => absurd rfl h
  | [], _ :: _, _ => by simp [sameTs]
  | _ :: _, [], _ => by simp [sameTs]
  | a :: l, b :: m, h => by simp [sameTs, sameTs_len (l := l) (m := m) (by simpa using h)]
mutual
theorem sameT_iff : ∀ {a b : GTy}, sameT a b = true ↔ a = b
  | .mk K N Name Labels Args, b => by
    cases b
    rw [sameT]
    simp only [GTy.K, GTy.N, GTy.Name, GTy.Labels, GTy.Args, Bool.and_eq_true, beq_iff_eq, strEq_iff, eqS_iff, sameTs_iff (l := Args), GTy.mk.injEq]
theorem sameTs_iff : ∀ {l m : List GTy}, sameTs l m = true ↔ l = m
  | [], [] => by simp [sameTs]
  | [], _ :: _ => by simp [sameTs]
  | _ :: _, [] => by simp [sameTs]
  | a :: l, b :: m => by simp only [sameTs, Bool.and_eq_true, sameT_iff (a := a) (b := b), sameTs_iff (l := l) (m := m), List.cons.injEq]
end
section
variable {ot : TypeId} {oz : EP}
theorem same01_l0 (l m : List ByteArray) (hl : Short l.length) (he : l.length = m.length) (S : St) (fin : Kont (PV × St)) (st : List Fw) : ∀ (rl rm : List ByteArray) (i : Nat), l.drop i = rl → m.drop i = rm →
    run (env ot oz) fin st c8_l0 [(0, some (.sl .ro (l.map rStr))), (1, some (.sl .ro (m.map rStr))), (5, some (.int .i64 (i : Int)))] S =
      if eqS rl rm then aft (env ot oz) fin st (.exit 0) [(0, some (.sl .ro (l.map rStr))), (1, some (.sl .ro (m.map rStr))), (5, some (.int .i64 ((i + rl.length : Nat) : Int))), (20, some (.bool false))] S else aft (env ot oz) fin st .ret [(4, some (.bool false))] S
  | [], rm, i, h, k => by
    have hlt := lt_no (drop_nil h)
    have : rm = [] := by rw [← k]; exact List.drop_eq_nil_of_le (by rw [← he]; exact drop_nil h)
    subst this
    simp only [eqS]
    (rw [c8_l0_w]; simp only [c8_l0_b, c8_l0_a, c8_r4, go_sem, hlt])
  | a :: rl, [], i, h, k => by
    have := drop_nil k
    have := (drop_cons h).2.2
    omega
  | a :: rl, b :: rm, i, h, k => by
    obtain ⟨h1, h2, h3⟩ := drop_cons h
    obtain ⟨k1, k2, k3⟩ := drop_cons k
    unfold Short maxLen at hl
    have e : i + (a :: rl).length = i + 1 + rl.length := by simp only [List.length_cons]; omega
    have w := wrap_succ (i := i) (n := l.length) h3 (by omega)
    have hlt : (i : Int) < (l.length : Int) := by omega
    have hlt2 : (i : Int) < (m.length : Int) := by omega
    have ih := same01_l0 l m (by unfold Short maxLen; omega) he S fin st rl rm (i + 1) h2 k2
    rw [e]
    cases q : strEq a b <;> (rw [c8_l0_w]; simp only [c8_l0_b, c8_l0_a, c8_r4, go_sem, hlt, hlt2, h1, k1, q, w, ih, eqS])
theorem same01 (l m : List ByteArray) (hl : Short l.length) (hm : Short m.length) (S : St) : cal (env ot oz) 8 [.sl .ro (l.map rStr), .sl .ro (m.map rStr)] S = some (.bool (eqS l m), S) := by
  by_cases he : l.length = m.length
  · have f := fun fin st => same01_l0 (ot := ot) (oz := oz) l m hl he S fin st l m 0 rfl rfl
    have hb : ((l.length : Int) != (m.length : Int)) = false := by rw [he]; simp
    simp only [Int.cast_ofNat_Int] at f
    cases q : eqS l m <;> simp only [q, if_true, if_false, Bool.false_eq_true] at f <;> (rw [w_plain (fn := c8) rfl rfl (by simp only [go_sem, f, hb]) rfl (by decide)]; simp only [c8, c8_b, c8_r4, go_sem, f, hb]; repeat' (first | (rw [guardO_t]; split <;> rename_i h <;> (try rw [Bool.not_eq_true] at h) <;> (try simp only [go_sem, c8_r4, f, hb, *])) | (rw [guardO_f]; split <;> rename_i h <;> (try rw [Bool.not_eq_true] at h) <;> (try simp only [go_sem, c8_r4, f, hb, *])) | (rw [cw_bool]; split <;> rename_i h <;> (try rw [Bool.not_eq_true] at h) <;> (try simp only [go_sem, c8_r4, f, hb, *]))))
  · have e := eqS_len he
    have hb : ((l.length : Int) != (m.length : Int)) = true := by simp; omega
    (rw [w_plain (fn := c8) rfl rfl (by simp only [go_sem, e, hb]) rfl (by decide)]; simp only [c8, c8_b, c8_r4, go_sem, e, hb]; repeat' (first | (rw [guardO_t]; split <;> rename_i h <;> (try rw [Bool.not_eq_true] at h) <;> (try simp only [go_sem, c8_r4, e, hb, *])) | (rw [guardO_f]; split <;> rename_i h <;> (try rw [Bool.not_eq_true] at h) <;> (try simp only [go_sem, c8_r4, e, hb, *])) | (rw [cw_bool]; split <;> rename_i h <;> (try rw [Bool.not_eq_true] at h) <;> (try simp only [go_sem, c8_r4, e, hb, *]))))
theorem same04_l0 (a b : GTy) (hl : Short a.Args.length) (he : a.Args.length = b.Args.length) (S : St) (ih0 : ∀ x ∈ a.Args, ∀ y ∈ b.Args, cal (env ot oz) 39 [.agg (rTy x), .agg (rTy y)] S = some (.bool (sameT x y), S)) (fin : Kont (PV × St)) (st : List Fw) : ∀ (rl rm : List GTy) (i : Nat), a.Args.drop i = rl → b.Args.drop i = rm →
    run (env ot oz) fin st c39_l0 [(2, some (.at_ (rTy a))), (3, some (.at_ (rTy b))), (5, some (.int .i64 (i : Int)))] S =
      if sameTs rl rm then aft (env ot oz) fin st (.exit 0) [(2, some (.at_ (rTy a))), (3, some (.at_ (rTy b))), (5, some (.int .i64 ((i + rl.length : Nat) : Int))), (53, some (.bool false))] S else aft (env ot oz) fin st .ret [(4, some (.bool false))] S
  | [], rm, i, h, k => by
    have hlt := lt_no (drop_nil h)
    have : rm = [] := by rw [← k]; exact List.drop_eq_nil_of_le (by rw [← he]; exact drop_nil h)
    subst this
    simp only [sameTs]
    (rw [c39_l0_w]; simp only [c39_l0_b, c39_l0_a, c39_r1, c39_r4, go_sem, hlt])
  | x :: rl, [], i, h, k => by
    have := drop_nil k
    have := (drop_cons h).2.2
    omega
  | x :: rl, y :: rm, i, h, k => by
    obtain ⟨h1, h2, h3⟩ := drop_cons h
    obtain ⟨k1, k2, k3⟩ := drop_cons k
    unfold Short maxLen at hl
    have e : i + (x :: rl).length = i + 1 + rl.length := by simp only [List.length_cons]; omega
    have w := wrap_succ (i := i) (n := a.Args.length) h3 (by omega)
    have hlt : (i : Int) < (a.Args.length : Int) := by omega
    have hlt2 : (i : Int) < (b.Args.length : Int) := by omega
    have ih := same04_l0 a b (by unfold Short maxLen; omega) he S ih0 fin st rl rm (i + 1) h2 k2
    have c := ih0 x (mem_of_get h1) y (mem_of_get k1)
    rw [e]
    cases q : sameT x y <;> (rw [c39_l0_w]; simp only [c39_l0_b, c39_l0_a, c39_r1, c39_r4, go_sem, hlt, hlt2, h1, k1, c, q, w, ih, sameTs])
theorem same04 : ∀ (a : GTy), OkTy a → ∀ b, OkTy b → ∀ S, cal (env ot oz) 39 [.agg (rTy a), .agg (rTy b)] S = some (.bool (sameT a b), S) := by
  refine GTy.ind fun a ih oa b ob S => ?_
  have hA : Short a.Args.length ∧ (∀ x ∈ a.Args, OkTy x) ∧ Short a.Labels.length := by cases oa; exact ⟨by assumption, by assumption, (by assumption : _ ∧ _).1⟩
  have hB : Short b.Args.length ∧ (∀ x ∈ b.Args, OkTy x) ∧ Short b.Labels.length := by cases ob; exact ⟨by assumption, by assumption, (by assumption : _ ∧ _).1⟩
  have s1 := same01 (ot := ot) (oz := oz) a.Labels b.Labels hA.2.2 hB.2.2
  have e := sameT_eq a b
  by_cases he : a.Args.length = b.Args.length
  · have f := fun fin st => same04_l0 (ot := ot) (oz := oz) a b hA.1 he S (fun x hx y hy => ih x hx (hA.2.1 x hx) y (hB.2.1 y hy) S) fin st a.Args b.Args 0 rfl rfl
    have hb : ((a.Args.length : Int) != (b.Args.length : Int)) = false := by rw [he]; simp
    simp only [Int.cast_ofNat_Int] at f
    cases q : sameTs a.Args b.Args <;> simp only [q, if_true, if_false, Bool.false_eq_true] at f e <;> (rw [w_plain (fn := c39) rfl rfl (by simp only [go_sem, s1, f, hb]) rfl (by decide)]; simp only [c39, c39_b, c39_r1, c39_r4, go_sem, s1, f, hb]; repeat' (first | (rw [guardO_t]; split <;> rename_i h <;> (try rw [Bool.not_eq_true] at h) <;> (try simp only [go_sem, c39_r1, c39_r4, s1, f, hb, *])) | (rw [guardO_f]; split <;> rename_i h <;> (try rw [Bool.not_eq_true] at h) <;> (try simp only [go_sem, c39_r1, c39_r4, s1, f, hb, *])) | (rw [cw_bool]; split <;> rename_i h <;> (try rw [Bool.not_eq_true] at h) <;> (try simp only [go_sem, c39_r1, c39_r4, s1, f, hb, *])))) <;> (try simp_all [e]) <;> (try omega)
  · have q := sameTs_len he
    have hb : ((a.Args.length : Int) != (b.Args.length : Int)) = true := by simp; omega
    simp only [q] at e
    (rw [w_plain (fn := c39) rfl rfl (by simp only [go_sem, s1, hb]) rfl (by decide)]; simp only [c39, c39_b, c39_r1, c39_r4, go_sem, s1, hb]; repeat' (first | (rw [guardO_t]; split <;> rename_i h <;> (try rw [Bool.not_eq_true] at h) <;> (try simp only [go_sem, c39_r1, c39_r4, s1, hb, *])) | (rw [guardO_f]; split <;> rename_i h <;> (try rw [Bool.not_eq_true] at h) <;> (try simp only [go_sem, c39_r1, c39_r4, s1, hb, *])) | (rw [cw_bool]; split <;> rename_i h <;> (try rw [Bool.not_eq_true] at h) <;> (try simp only [go_sem, c39_r1, c39_r4, s1, hb, *])))) <;> (try simp_all [e]) <;> (try omega)
end
end Go.PE
