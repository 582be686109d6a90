/-
  Texts put in their places, what is called, by the document; places of texts. Conditions: each law's own.
-/
import Derived.Test.YtleggogbmklddaaDX2
namespace Go.PE
open Go Go.RowKit Go.Proofs
set_option linter.unusedVariables false
set_option linter.unusedSimpArgs false
set_option maxRecDepth 100000
/-- A list of texts that grows. -/
def aG (S : St) (out : List ByteArray) : Tag := accG .null S 9 (out.map rStr)
def aS (S : St) (out : List ByteArray) : St := accS S 1 [] (out.map rStr)
theorem aG_nil (S : St) : aG S [] = .null := rfl
theorem aS_nil (S : St) : aS S [] = S := rfl
theorem aStr_apps (S : St) (out ys : List ByteArray) (h : out.length + ys.length ≤ 8000000000000) : appP (aS S out) 9 1 16 (aG S out) (out.map rStr) (ys.map rStr) = some (.sl (aG S (out ++ ys)) ((out ++ ys).map rStr), aS S (out ++ ys)) := by
  by_cases hy : ys = []
  · subst hy; simp [appP]
  · have := acc_app (g0 := .null) (.inl rfl) S 9 1 16 [] (out.map rStr) (ys.map rStr) (by simpa using hy) (by omega) (by simp; omega) (by simp; omega) (by simp only [List.nil_append]; exact rStr_ok _) (rStr_ok _)
    simp only [List.nil_append] at this
    unfold aS aG
    rw [this, List.map_append]
theorem aStr_app (S : St) (out : List ByteArray) (s : ByteArray) (h : out.length + 1 ≤ 8000000000000) : appP (aS S out) 9 1 16 (aG S out) (out.map rStr) [[.str s]] = some (.sl (aG S (out ++ [s])) ((out ++ [s]).map rStr), aS S (out ++ [s])) := aStr_apps S out [s] (by simpa using h)
theorem aStr_close (S : St) (out : List ByteArray) : close S (aS S out) (.sl (aG S out) (out.map rStr)) = (.sl .ro (out.map rStr), S) := by
  refine close_acc S 1 [] (out.map rStr) fun n d => ?_
  simp [sealW, rStr_sll]
/-- A text, put in its place in a list that rises, once. -/
def putS (s : ByteArray) : List ByteArray → List ByteArray
  | [] => [s]
  | a :: r => if strLt a s then a :: putS s r else if strEq a s then a :: r else s :: a :: r
def putF (s : ByteArray) (b : List ByteArray × Bool) (a : ByteArray) : List ByteArray × Bool :=
  if (!b.2 && !(strLt a s)) = true then ((if (!(strLt a s || strEq a s)) = true then b.1 ++ [s] else b.1) ++ [a], true) else (b.1 ++ [a], b.2)
theorem putF_done (s : ByteArray) : ∀ (l out : List ByteArray), l.foldl (putF s) (out, true) = (out ++ l, true)
  | [], out => by simp
  | a :: l, out => by
    rw [List.foldl_cons]
    have : putF s (out, true) a = (out ++ [a], true) := by simp [putF]
    rw [this, putF_done s l]; simp
theorem putF_eq (s : ByteArray) : ∀ (l out : List ByteArray), (fun r : List ByteArray × Bool => if r.2 = true then r.1 else r.1 ++ [s]) (l.foldl (putF s) (out, false)) = out ++ putS s l
  | [], out => by simp [putS]
  | a :: l, out => by
    rw [List.foldl_cons, putS]
    cases h : strLt a s with
    | true =>
      have : putF s (out, false) a = (out ++ [a], false) := by simp [putF, h]
      rw [this, putF_eq s l]; simp
    | false =>
      cases h2 : strEq a s with
      | true =>
        have : putF s (out, false) a = (out ++ [a], true) := by simp [putF, h, h2]
        rw [this, putF_done]; simp
      | false =>
        have : putF s (out, false) a = (out ++ [s] ++ [a], true) := by simp [putF, h, h2]
        rw [this, putF_done]; simp
theorem putF_len (s : ByteArray) (b : List ByteArray × Bool) (a : ByteArray) : (putF s b a).1.length ≤ b.1.length + 2 := by
  unfold putF; split
  · split <;> simp
  · simp
theorem putS_len (s : ByteArray) : ∀ l, (putS s l).length ≤ l.length + 1
  | [] => by simp [putS]
  | a :: l => by
    unfold putS
    split
    · have := putS_len s l; simp; omega
    · split <;> simp
section
variable {ot : TypeId} {oz : EP}
theorem put04 (l : List ByteArray) (hl : l.length ≤ 3000000000000) (s : ByteArray) (g : Tag) (S : St) : cal (env ot oz) 31 [.sl g (l.map rStr), .str s] S = some (.sl .ro ((putS s l).map rStr), S) := by
  refine cal_tag2 ?_ (fun n d => rStr_sll n d l) (plain_cons (plain_str _) plain_nil)
  have hl' : Short l.length := by unfold Short maxLen; omega
  have f0 := fun fin st => loopF (E := (env ot oz)) (c := c31_l0) l hl' (fun i b => [(0, some (.sl .ro (l.map rStr))), (1, some (.str s)), (5, some (.sl (aG S b.1) (b.1.map rStr))), (6, some (.bool b.2)), (7, some (.int .i64 (i : Int)))]) (fun i b => aS S b.1) (putF s) (fun i b => b.1.length ≤ 2 * i) fin st
    (fun i b a h1 h2 h3 h4 hb => by
      obtain ⟨out, done⟩ := b
      simp only at hb
      have hi : i < l.length := by omega
      refine ⟨by have := putF_len s (out, done) a; simp only at this; omega, ?_⟩
      have a1 := aStr_app S out s (by omega)
      have a2 := aStr_app S out a (by omega)
      have a3 := aStr_app S (out ++ [s]) a (by simp; omega)
      simp only [List.map_append, List.map_cons, List.map_nil, rStr_eq, List.append_assoc, List.cons_append, List.nil_append] at a3
      unfold putF
      generalize aS S out = T1 at *
      cases q1 : done <;> cases q2 : strLt a s <;> cases q3 : strEq a s <;> (rw [c31_l0_w]; simp only [c31_l0_b, c31_l0_a, c31_r6, go_sem, h1, h3, h4, a1, a2, a3, q2, q3]; repeat' (first | (rw [guardO_t]; split <;> rename_i h <;> (try rw [Bool.not_eq_true] at h) <;> (try simp only [go_sem, c31_r6, c31_l0_a, h1, h3, h4, a1, a2, a3, q2, q3, *])) | (rw [guardO_f]; split <;> rename_i h <;> (try rw [Bool.not_eq_true] at h) <;> (try simp only [go_sem, c31_r6, c31_l0_a, h1, h3, h4, a1, a2, a3, q2, q3, *])) | (rw [cw_bool]; split <;> rename_i h <;> (try rw [Bool.not_eq_true] at h) <;> (try simp only [go_sem, c31_r6, c31_l0_a, h1, h3, h4, a1, a2, a3, q2, q3, *]))))) l 0 ([], false) rfl (by simp)
  have e := putF_eq s l []
  have fx : ∀ fin st (b : List ByteArray × Bool), run (env ot oz) fin st c31_l0 [(0, some (.sl .ro (l.map rStr))), (1, some (.str s)), (5, some (.sl (aG S b.1) (b.1.map rStr))), (6, some (.bool b.2)), (7, some (.int .i64 (l.length : Int)))] (aS S b.1) = aft (env ot oz) fin st (.exit 0) [(0, some (.sl .ro (l.map rStr))), (1, some (.str s)), (5, some (.sl (aG S b.1) (b.1.map rStr))), (6, some (.bool b.2)), (7, some (.int .i64 (l.length : Int))), (11, some (.bool false))] (aS S b.1) := fun fin st b => by
    generalize aS S b.1 = T1
    (rw [c31_l0_w]; simp only [c31_l0_b, c31_l0_a, c31_r6, go_sem]; repeat' (first | (rw [guardO_t]; split <;> rename_i h <;> (try rw [Bool.not_eq_true] at h) <;> (try simp only [go_sem, c31_r6, c31_l0_a, *])) | (rw [guardO_f]; split <;> rename_i h <;> (try rw [Bool.not_eq_true] at h) <;> (try simp only [go_sem, c31_r6, c31_l0_a, *])) | (rw [cw_bool]; split <;> rename_i h <;> (try rw [Bool.not_eq_true] at h) <;> (try simp only [go_sem, c31_r6, c31_l0_a, *]))))
  have hlen := (f0 (fun _ _ _ => none) []).1
  have f0 := fun fin st => (f0 fin st).2
  simp only [Nat.zero_add, fx] at f0 hlen
  generalize l.foldl (putF s) ([], false) = r at *
  obtain ⟨out, done⟩ := r
  simp only [List.nil_append] at e hlen f0
  simp only [Int.cast_ofNat_Int, List.map_nil, aG_nil, aS_nil] at f0
  cases done with
  | true =>
    simp only [if_true] at e
    subst e
    have cl := aStr_close S (putS s l)
    generalize aS S (putS s l) = T1 at *
    (rw [w_plain (fn := c31) rfl rfl (by simp only [go_sem, f0, cl]) rfl (by decide)]; simp only [c31, c31_b, c31_r6, go_sem, f0, cl]; repeat' (first | (rw [guardO_t]; split <;> rename_i h <;> (try rw [Bool.not_eq_true] at h) <;> (try simp only [go_sem, c31_r6, f0, cl, *])) | (rw [guardO_f]; split <;> rename_i h <;> (try rw [Bool.not_eq_true] at h) <;> (try simp only [go_sem, c31_r6, f0, cl, *])) | (rw [cw_bool]; split <;> rename_i h <;> (try rw [Bool.not_eq_true] at h) <;> (try simp only [go_sem, c31_r6, f0, cl, *]))))
  | false =>
    simp only [Bool.false_eq_true, if_false] at e
    have a1 := aStr_app S out s (by omega)
    rw [e] at a1
    have cl := aStr_close S (putS s l)
    generalize aS S (putS s l) = T2 at *
    generalize aS S out = T1 at *
    (rw [w_plain (fn := c31) rfl rfl (by simp only [go_sem, f0, cl, a1]) rfl (by decide)]; simp only [c31, c31_b, c31_r6, go_sem, f0, cl, a1]; repeat' (first | (rw [guardO_t]; split <;> rename_i h <;> (try rw [Bool.not_eq_true] at h) <;> (try simp only [go_sem, c31_r6, f0, cl, a1, *])) | (rw [guardO_f]; split <;> rename_i h <;> (try rw [Bool.not_eq_true] at h) <;> (try simp only [go_sem, c31_r6, f0, cl, a1, *])) | (rw [cw_bool]; split <;> rename_i h <;> (try rw [Bool.not_eq_true] at h) <;> (try simp only [go_sem, c31_r6, f0, cl, a1, *]))))
theorem place01 (l : List ByteArray) (hl : Short l.length) (s : ByteArray) (g : Tag) (S : St) : cal (env ot oz) 23 [.sl g (l.map rStr), .str s] S = some (.int .i64 (if l.any (strEq · s) then (l.findIdx (strEq · s) : Int) else -1), S) := by
  refine cal_tag2 ?_ (fun n d => rStr_sll n d l) (plain_cons (plain_str _) plain_nil)
  have f0 := fun fin st => loopP (E := (env ot oz)) (S := S) (c := c23_l0) l hl (fun i => [(0, some (.sl .ro (l.map rStr))), (1, some (.str s)), (5, some (.int .i64 (i : Int)))]) (strEq · s) fin st
    (fun i => aft (env ot oz) fin st .ret [(4, some (.int .i64 (i : Int)))] S) (aft (env ot oz) fin st (.exit 0) [(0, some (.sl .ro (l.map rStr))), (1, some (.str s)), (5, some (.int .i64 (l.length : Int))), (9, some (.bool false))] S)
    (fun i d h1 h2 h3 h4 h5 => by (rw [c23_l0_w]; simp only [c23_l0_b, c23_l0_a, go_sem, h1, h3, h4, h5]; repeat' (first | (rw [guardO_t]; split <;> rename_i h <;> (try rw [Bool.not_eq_true] at h) <;> (try simp only [go_sem, c23_l0_a, h1, h3, h4, h5, *])) | (rw [guardO_f]; split <;> rename_i h <;> (try rw [Bool.not_eq_true] at h) <;> (try simp only [go_sem, c23_l0_a, h1, h3, h4, h5, *])) | (rw [cw_bool]; split <;> rename_i h <;> (try rw [Bool.not_eq_true] at h) <;> (try simp only [go_sem, c23_l0_a, h1, h3, h4, h5, *])))))
    (fun i d h1 h2 h3 h4 h5 => by (rw [c23_l0_w]; simp only [c23_l0_b, c23_l0_a, go_sem, h1, h3, h4, h5]; repeat' (first | (rw [guardO_t]; split <;> rename_i h <;> (try rw [Bool.not_eq_true] at h) <;> (try simp only [go_sem, c23_l0_a, h1, h3, h4, h5, *])) | (rw [guardO_f]; split <;> rename_i h <;> (try rw [Bool.not_eq_true] at h) <;> (try simp only [go_sem, c23_l0_a, h1, h3, h4, h5, *])) | (rw [cw_bool]; split <;> rename_i h <;> (try rw [Bool.not_eq_true] at h) <;> (try simp only [go_sem, c23_l0_a, h1, h3, h4, h5, *])))))
    (by (rw [c23_l0_w]; simp only [c23_l0_b, c23_l0_a, go_sem]; repeat' (first | (rw [guardO_t]; split <;> rename_i h <;> (try rw [Bool.not_eq_true] at h) <;> (try simp only [go_sem, c23_l0_a, *])) | (rw [guardO_f]; split <;> rename_i h <;> (try rw [Bool.not_eq_true] at h) <;> (try simp only [go_sem, c23_l0_a, *])) | (rw [cw_bool]; split <;> rename_i h <;> (try rw [Bool.not_eq_true] at h) <;> (try simp only [go_sem, c23_l0_a, *])))))
  simp only [Int.cast_ofNat_Int] at f0
  cases q : l.any (strEq · s) <;> simp only [q, if_true, if_false, Bool.false_eq_true] at f0 ⊢ <;> (rw [w_plain (fn := c23) rfl rfl (by simp only [go_sem, f0]) rfl (by decide)]; simp only [c23, c23_b, go_sem, f0]; repeat' (first | (rw [guardO_t]; split <;> rename_i h <;> (try rw [Bool.not_eq_true] at h) <;> (try simp only [go_sem, f0, *])) | (rw [guardO_f]; split <;> rename_i h <;> (try rw [Bool.not_eq_true] at h) <;> (try simp only [go_sem, f0, *])) | (rw [cw_bool]; split <;> rename_i h <;> (try rw [Bool.not_eq_true] at h) <;> (try simp only [go_sem, f0, *]))))
theorem place_ge (l : List ByteArray) (s : ByteArray) : decide ((0 : Int) ≤ (if l.any (strEq · s) then (l.findIdx (strEq · s) : Int) else -1)) = l.any (strEq · s) := by
  cases l.any (strEq · s) <;> simp
end
end Go.PE
namespace Go.PE
open Go Go.RowKit Go.Proofs
set_option linter.unusedVariables false
set_option linter.unusedSimpArgs false
set_option maxRecDepth 100000
/-! ### lists in order, each once -/
theorem strLt_lt (a b : ByteArray) : strLt a b = decide (tl a < tl b) := bl_lt _ _
theorem tl_inj {a b : ByteArray} (h : tl a = tl b) : a = b := by rw [← txt_tl a, ← txt_tl b, h]
/-- In order, each once. -/
def Rise (l : List ByteArray) : Prop := l.Pairwise fun a b => tl a < tl b
theorem lt_irr (l : List UInt8) : ¬ l < l := List.lt_irrefl l
theorem lt_tri (a b : List UInt8) : a < b ∨ a = b ∨ b < a := by
  by_cases h : a < b
  · exact .inl h
  · by_cases k : b < a
    · exact .inr (.inr k)
    · rw [List.not_lt] at h k
      exact .inr (.inl (List.le_antisymm k h))
theorem rise_one {l m : List ByteArray} (hl : Rise l) (hm : Rise m) (h : ∀ x, x ∈ l ↔ x ∈ m) : l = m := by
  induction l generalizing m with
  | nil =>
    cases m with
    | nil => rfl
    | cons b m => exact absurd ((h b).2 (by simp)) (by simp)
  | cons a l ih =>
    cases m with
    | nil => exact absurd ((h a).1 (by simp)) (by simp)
    | cons b m =>
      unfold Rise at hl hm
      rw [List.pairwise_cons] at hl hm
      have e : a = b := by
        rcases List.mem_cons.1 ((h a).1 (by simp)) with e | e
        · exact e
        · rcases List.mem_cons.1 ((h b).2 (by simp)) with k | k
          · exact k.symm
          · exact absurd (List.lt_trans (hm.1 a e) (hl.1 b k)) (lt_irr _)
      subst e
      have : l = m := by
        refine ih hl.2 hm.2 fun x => ?_
        constructor
        · intro hx
          rcases List.mem_cons.1 ((h x).1 (List.mem_cons_of_mem _ hx)) with e | e
          · subst e; exact absurd (hl.1 x hx) (lt_irr _)
          · exact e
        · intro hx
          rcases List.mem_cons.1 ((h x).2 (List.mem_cons_of_mem _ hx)) with e | e
          · subst e; exact absurd (hm.1 x hx) (lt_irr _)
          · exact e
      rw [this]
theorem putS_mem (s x : ByteArray) : ∀ l, x ∈ putS s l ↔ x = s ∨ x ∈ l
  | [] => by simp [putS]
  | a :: r => by
    unfold putS
    split
    · rw [List.mem_cons, putS_mem s x r, List.mem_cons]
      constructor
      · rintro (h | h | h); exact .inr (.inl h); exact .inl h; exact .inr (.inr h)
      · rintro (h | h | h); exact .inr (.inl h); exact .inl h; exact .inr (.inr h)
    · split
      · rename_i h
        rw [strEq_iff] at h; subst h
        rw [List.mem_cons]
        constructor
        · intro h; exact .inr h
        · rintro (h | h); exact .inl h; exact h
      · rw [List.mem_cons]
theorem putS_rise (s : ByteArray) : ∀ l, Rise l → Rise (putS s l)
  | [], _ => by simp [putS, Rise]
  | a :: r, h => by
    unfold Rise at h
    rw [List.pairwise_cons] at h
    unfold putS
    split
    · rename_i q
      rw [strLt_lt, decide_eq_true_eq] at q
      unfold Rise
      rw [List.pairwise_cons]
      refine ⟨fun x hx => ?_, putS_rise s r h.2⟩
      rcases (putS_mem s x r).1 hx with e | e
      · subst e; exact q
      · exact h.1 x e
    · rename_i q
      rw [strLt_lt, decide_eq_true_eq] at q
      split
      · unfold Rise; rw [List.pairwise_cons]; exact h
      · rename_i q2
        have hlt : tl s < tl a := by
          rcases lt_tri (tl s) (tl a) with k | k | k
          · exact k
          · have := tl_inj k; subst this; exact absurd (strEq_refl _) (by simpa using q2)
          · exact absurd k q
        unfold Rise
        rw [List.pairwise_cons]
        refine ⟨fun x hx => ?_, by rw [List.pairwise_cons]; exact h⟩
        rcases List.mem_cons.1 hx with e | e
        · subst e; exact hlt
        · exact List.lt_trans hlt (h.1 x e)
theorem cpA_mem (x : List UInt8) : ∀ (l : List (List UInt8)) (p : List UInt8), (x = p ∨ x ∈ cpA p l) ↔ (x = p ∨ x ∈ l)
  | [], p => by simp [cpA]
  | a :: r, p => by
    unfold cpA
    split
    · rename_i e; subst e
      rw [cpA_mem x r a, List.mem_cons]
      constructor
      · rintro (h | h); exact .inl h; exact .inr (.inr h)
      · rintro (h | h | h); exact .inl h; exact .inl h; exact .inr h
    · rw [List.mem_cons, List.mem_cons]
      have := cpA_mem x r a
      constructor
      · rintro (h | h | h)
        · exact .inl h
        · exact .inr (.inl h)
        · rcases this.1 (.inr h) with k | k
          · exact .inr (.inl k)
          · exact .inr (.inr k)
      · rintro (h | h | h)
        · exact .inl h
        · exact .inr (.inl h)
        · rcases this.2 (.inr h) with k | k
          · exact .inr (.inl k)
          · exact .inr (.inr k)
theorem cpA_rise : ∀ (l : List (List UInt8)) (p : List UInt8), (p :: l).Pairwise (· ≤ ·) → (p :: cpA p l).Pairwise (· < ·)
  | [], p, _ => by simp [cpA]
  | a :: r, p, h => by
    rw [List.pairwise_cons, List.pairwise_cons] at h
    obtain ⟨h1, h2, h3⟩ := h
    unfold cpA
    split
    · rename_i e; subst e
      exact cpA_rise r a (by rw [List.pairwise_cons]; exact ⟨h2, h3⟩)
    · rename_i q
      have ih := cpA_rise r a (by rw [List.pairwise_cons]; exact ⟨h2, h3⟩)
      have hlt : p < a := by
        rcases lt_tri p a with k | k | k
        · exact k
        · exact absurd k.symm q
        · exact absurd (List.le_antisymm (List.le_of_lt k) (h1 a (by simp))) q
      rw [List.pairwise_cons] at ih ⊢
      refine ⟨fun x hx => ?_, by rw [List.pairwise_cons]; exact ih⟩
      rcases List.mem_cons.1 hx with e | e
      · subst e; exact hlt
      · exact List.lt_trans hlt (ih.1 x e)
theorem cpL_mem (x : List UInt8) (l : List (List UInt8)) : x ∈ cpL l ↔ x ∈ l := by
  cases l with
  | nil => simp [cpL]
  | cons a r =>
    rw [cpL, List.mem_cons, List.mem_cons]
    exact cpA_mem x r a
theorem setS_mem (x : ByteArray) (l : List ByteArray) : x ∈ setS l ↔ x ∈ l := by
  unfold setS
  rw [List.mem_map]
  constructor
  · rintro ⟨y, hy, rfl⟩
    rw [cpL_mem, (srtL_perm _).mem_iff, List.mem_map] at hy
    obtain ⟨z, hz, rfl⟩ := hy
    rw [txt_tl]; exact hz
  · intro h
    refine ⟨tl x, ?_, txt_tl x⟩
    rw [cpL_mem, (srtL_perm _).mem_iff]
    exact List.mem_map_of_mem h
theorem setS_rise (l : List ByteArray) : Rise (setS l) := by
  unfold setS Rise
  rw [List.pairwise_map]
  simp only [tl_txt]
  have := srtL_sorted (l.map tl)
  cases h : srtL (l.map tl) with
  | nil => simp [cpL]
  | cons a r =>
    rw [h] at this
    exact cpA_rise r a this
theorem foldPut_mem (x : ByteArray) : ∀ (l out : List ByteArray), x ∈ l.foldl (fun o s => putS s o) out ↔ x ∈ out ∨ x ∈ l
  | [], out => by simp
  | a :: l, out => by
    rw [List.foldl_cons, foldPut_mem x l, putS_mem, List.mem_cons]
    constructor
    · rintro ((h | h) | h); exact .inr (.inl h); exact .inl h; exact .inr (.inr h)
    · rintro (h | h | h); exact .inl (.inr h); exact .inl (.inl h); exact .inr h
theorem foldPut_rise : ∀ (l out : List ByteArray), Rise out → Rise (l.foldl (fun o s => putS s o) out)
  | [], out, h => h
  | a :: l, out, h => by rw [List.foldl_cons]; exact foldPut_rise l _ (putS_rise a out h)
theorem foldPut_len : ∀ (l out : List ByteArray), (l.foldl (fun o s => putS s o) out).length ≤ out.length + l.length
  | [], out => by simp
  | a :: l, out => by
    rw [List.foldl_cons]
    have h1 := foldPut_len l (putS a out)
    have h2 := putS_len a out
    simp only [List.length_cons]; omega
/-- What the document's Calls gathers. -/
def callF : List ByteArray → GExp → List ByteArray := fun out k => (callsS k).foldl (fun o s => putS s o) out
def ownN (e : GExp) : List ByteArray := if (e.K == 13) = true then [e.Name] else []
theorem callN_cons (e : GExp) (l : List GExp) : callN (e :: l) = ownN e ++ callN l := by
  unfold callN ownN
  rw [List.filter_cons]
  cases e.K == 13 <;> simp
theorem callF_mem (x : ByteArray) : ∀ (l : List GExp) (out : List ByteArray), x ∈ l.foldl callF out ↔ x ∈ out ∨ x ∈ callN (preEs l)
  | [], out => by simp [preEs, callN]
  | a :: l, out => by
    rw [List.foldl_cons, callF_mem x l, callF, foldPut_mem, preEs, callN_app, List.mem_append]
    unfold callsS
    rw [setS_mem]
    constructor
    · rintro ((h | h) | h); exact .inl h; exact .inr (.inl h); exact .inr (.inr h)
    · rintro (h | h | h); exact .inl (.inl h); exact .inl (.inr h); exact .inr h
theorem callF_rise : ∀ (l : List GExp) (out : List ByteArray), Rise out → Rise (l.foldl callF out)
  | [], out, h => h
  | a :: l, out, h => by rw [List.foldl_cons]; exact callF_rise l _ (foldPut_rise _ _ h)
theorem ownN_rise (e : GExp) : Rise (ownN e) := by unfold ownN Rise; split <;> simp
theorem callsS_eq (e : GExp) : e.Kids.foldl callF (ownN e) = callsS e := by
  refine rise_one (callF_rise _ _ (ownN_rise e)) (setS_rise _) fun x => ?_
  unfold callsS
  rw [callF_mem, setS_mem, preE_eq, callN_cons, List.mem_append]
theorem callsS_len (e : GExp) : (callsS e).length ≤ (preE e).length := Nat.le_trans (setS_len _) (callN_len _)
section
variable {ot : TypeId} {oz : EP}
theorem calls14_in (e : GExp) (l : List ByteArray) (hl : l.length ≤ 1000000000000) (i : Nat) (out : List ByteArray) (g : Tag) (ho : out.length ≤ 1000000000000) (T : St) (fin : Kont (PV × St)) (st : List Fw) : run (env ot oz) fin st c27_l0 [(1, some (.at_ (rExp e))), (3, some (.sl g (out.map rStr))), (4, some (.int .i64 (i : Int))), (5, some (.sl .ro (l.map rStr))), (6, some (.int .i64 0))] T =
    aft (env ot oz) fin st (.exit 2) [(1, some (.at_ (rExp e))), (3, some (.sl (if l = [] then g else .ro) ((l.foldl (fun o s => putS s o) out).map rStr))), (4, some (.int .i64 (i : Int))), (5, some (.sl .ro (l.map rStr))), (6, some (.int .i64 (l.length : Int))), (31, some (.bool false))] T := by
  have hl' : Short l.length := by unfold Short maxLen; omega
  have f0 := loopF (E := (env ot oz)) (c := c27_l0) l hl' (fun k (b : List ByteArray × Tag) => [(1, some (.at_ (rExp e))), (3, some (.sl b.2 (b.1.map rStr))), (4, some (.int .i64 (i : Int))), (5, some (.sl .ro (l.map rStr))), (6, some (.int .i64 (k : Int)))]) (fun _ _ => T) (fun b s => (putS s b.1, .ro)) (fun k b => b.1.length ≤ out.length + k) fin st
    (fun k b s h1 h2 h3 h4 hb => by
      have hk : k < l.length := by omega
      refine ⟨by have := putS_len s b.1; simp only; omega, ?_⟩
      have c := put04 (ot := ot) (oz := oz) b.1 (by omega) s b.2
      (rw [c27_l0_w]; simp only [c27_l0_b, c27_l0_a, go_sem, h1, h3, h4, c]; repeat' (first | (rw [guardO_t]; split <;> rename_i h <;> (try rw [Bool.not_eq_true] at h) <;> (try simp only [go_sem, c27_l0_a, h1, h3, h4, c, *])) | (rw [guardO_f]; split <;> rename_i h <;> (try rw [Bool.not_eq_true] at h) <;> (try simp only [go_sem, c27_l0_a, h1, h3, h4, c, *])) | (rw [cw_bool]; split <;> rename_i h <;> (try rw [Bool.not_eq_true] at h) <;> (try simp only [go_sem, c27_l0_a, h1, h3, h4, c, *]))))) l 0 (out, g) rfl (by simp)
  have hf : ∀ (l : List ByteArray) (out : List ByteArray) (g : Tag), l.foldl (fun (b : List ByteArray × Tag) s => (putS s b.1, Tag.ro)) (out, g) = (l.foldl (fun o s => putS s o) out, if l = [] then g else .ro) := by
    intro l
    induction l with
    | nil => intro out g; simp
    | cons a l ih => intro out g; rw [List.foldl_cons, ih]; simp
  rw [hf] at f0
  have f1 := f0.2
  simp only [Nat.zero_add, Int.cast_ofNat_Int] at f1
  rw [f1]
  generalize l.foldl (fun o s => putS s o) out = o2
  generalize (if l = [] then g else Tag.ro) = g2
  (rw [c27_l0_w]; simp only [c27_l0_b, c27_l0_a, go_sem]; repeat' (first | (rw [guardO_t]; split <;> rename_i h <;> (try rw [Bool.not_eq_true] at h) <;> (try simp only [go_sem, c27_l0_a, *])) | (rw [guardO_f]; split <;> rename_i h <;> (try rw [Bool.not_eq_true] at h) <;> (try simp only [go_sem, c27_l0_a, *])) | (rw [cw_bool]; split <;> rename_i h <;> (try rw [Bool.not_eq_true] at h) <;> (try simp only [go_sem, c27_l0_a, *]))))
theorem calls14 : ∀ (e : GExp), OkExp e → (preE e).length ≤ 1000000000000 → ∀ S, cal (env ot oz) 27 [.agg (rExp e)] S = some (.sl .ro ((callsS e).map rStr), S) := by
  refine GExp.ind fun e ih oe hB S => ?_
  obtain ⟨⟨a1, a2⟩, _⟩ := okExp_at oe
  rw [preE_eq, List.length_cons] at hB
  have key : ∀ (T : St) (g : Tag) (fin : Kont (PV × St)) (st : List Fw), ∃ g', run (env ot oz) fin st c27_l1 [(1, some (.at_ (rExp e))), (3, some (.sl g ((ownN e).map rStr))), (4, some (.int .i64 0))] T =
      aft (env ot oz) fin st (.exit 0) [(1, some (.at_ (rExp e))), (3, some (.sl g' ((callsS e).map rStr))), (4, some (.int .i64 (e.Kids.length : Int))), (19, some (.bool false))] T := fun T g fin st => by
    have f0 := loopF (E := (env ot oz)) (c := c27_l1) e.Kids a1 (fun i (b : List ByteArray × Tag) => [(1, some (.at_ (rExp e))), (3, some (.sl b.2 (b.1.map rStr))), (4, some (.int .i64 (i : Int)))]) (fun _ _ => T) (fun b k => (callF b.1 k, if callsS k = [] then b.2 else .ro)) (fun i b => b.1.length + (preEs (e.Kids.drop i)).length ≤ 1000000000000) fin st
      (fun i b k h1 h2 h3 h4 hb => by
        have hd : e.Kids.drop i = k :: e.Kids.drop (i + 1) := by
          rw [List.drop_eq_getElem_cons (by omega)]
          congr 1
          rw [List.getElem?_eq_getElem (by omega)] at h1; exact Option.some.inj h1
        rw [hd, preEs, List.length_append] at hb
        have hk := callsS_len k
        have hq := foldPut_len (callsS k) b.1
        have e1 : callF b.1 k = (callsS k).foldl (fun o s => putS s o) b.1 := rfl
        refine ⟨by simp only [e1]; omega, ?_⟩
        have c := ih k h2 (a2 k h2) (by omega) T
        have f := fun fin st => calls14_in (ot := ot) (oz := oz) e (callsS k) (by omega) i b.1 b.2 (by omega) T fin st
        simp only [e1]
        generalize (callsS k).foldl (fun o s => putS s o) b.1 = o2 at *
        generalize callsS k = ck at *
        (rw [c27_l1_w]; simp only [c27_l1_b, c27_l1_a, go_sem, h1, h3, h4, c, f]; repeat' (first | (rw [guardO_t]; split <;> rename_i h <;> (try rw [Bool.not_eq_true] at h) <;> (try simp only [go_sem, c27_l1_a, h1, h3, h4, c, f, *])) | (rw [guardO_f]; split <;> rename_i h <;> (try rw [Bool.not_eq_true] at h) <;> (try simp only [go_sem, c27_l1_a, h1, h3, h4, c, f, *])) | (rw [cw_bool]; split <;> rename_i h <;> (try rw [Bool.not_eq_true] at h) <;> (try simp only [go_sem, c27_l1_a, h1, h3, h4, c, f, *]))))) e.Kids 0 (ownN e, g) rfl (by
          simp only [List.drop_zero]
          have : (ownN e).length ≤ 1 := by unfold ownN; split <;> simp
          omega)
    have hf : ∀ (l : List GExp) (out : List ByteArray) (g : Tag), ∃ g', l.foldl (fun (b : List ByteArray × Tag) k => (callF b.1 k, if callsS k = [] then b.2 else Tag.ro)) (out, g) = (l.foldl callF out, g') := by
      intro l
      induction l with
      | nil => intro out g; exact ⟨g, rfl⟩
      | cons a l ih => intro out g; rw [List.foldl_cons, List.foldl_cons]; exact ih _ _
    obtain ⟨g', hg⟩ := hf e.Kids (ownN e) g
    rw [hg, callsS_eq] at f0
    refine ⟨g', ?_⟩
    have f1 := f0.2
    simp only [Nat.zero_add, Int.cast_ofNat_Int] at f1
    rw [f1]
    generalize callsS e = o2
    (rw [c27_l1_w]; simp only [c27_l1_b, c27_l1_a, go_sem]; repeat' (first | (rw [guardO_t]; split <;> rename_i h <;> (try rw [Bool.not_eq_true] at h) <;> (try simp only [go_sem, c27_l1_a, *])) | (rw [guardO_f]; split <;> rename_i h <;> (try rw [Bool.not_eq_true] at h) <;> (try simp only [go_sem, c27_l1_a, *])) | (rw [cw_bool]; split <;> rename_i h <;> (try rw [Bool.not_eq_true] at h) <;> (try simp only [go_sem, c27_l1_a, *]))))
  have hgo := fun T g => key T g (endF S [.tmp 2]) [.block 0, .seq (.seq (.reg 12 [⟨some 40, .mv (.tmp 3), none, Q0⟩, ⟨some 2, .mv (.tmp 40), none, Q0⟩] false (some [2])) .ret)]
  cases hk : (e.K == 13) with
  | false =>
    have ho : ownN e = [] := by unfold ownN; rw [hk]; rfl
    rw [ho] at hgo
    obtain ⟨g', f⟩ := hgo S .null
    simp only [List.map_nil] at f
    (rw [w_plain (fn := c27) rfl rfl (by simp only [go_sem, hk, f]) rfl (by decide)]; simp only [c27, c27_b, go_sem, hk, f]; repeat' (first | (rw [guardO_t]; split <;> rename_i h <;> (try rw [Bool.not_eq_true] at h) <;> (try simp only [go_sem, hk, f, *])) | (rw [guardO_f]; split <;> rename_i h <;> (try rw [Bool.not_eq_true] at h) <;> (try simp only [go_sem, hk, f, *])) | (rw [cw_bool]; split <;> rename_i h <;> (try rw [Bool.not_eq_true] at h) <;> (try simp only [go_sem, hk, f, *]))))
  | true =>
    have ho : ownN e = [e.Name] := by unfold ownN; rw [hk]; rfl
    rw [ho] at hgo
    obtain ⟨g', f⟩ := hgo (aS S [e.Name]) (aG S [e.Name])
    have ap := aStr_app S [] e.Name (by simp)
    simp only [aS_nil, aG_nil, List.map_nil, List.nil_append] at ap
    simp only [List.map_cons, List.map_nil, rStr_eq] at f ap
    have cl : close S (aS S [e.Name]) (.sl g' ((callsS e).map rStr)) = (.sl .ro ((callsS e).map rStr), S) := close_acc S 1 [] _ fun n d => by simp [sealW, rStr_sll]
    generalize aS S [e.Name] = T1 at *
    (rw [w_plain (fn := c27) rfl rfl (by simp only [go_sem, hk, f, ap, cl]) rfl (by decide)]; simp only [c27, c27_b, go_sem, hk, f, ap, cl]; repeat' (first | (rw [guardO_t]; split <;> rename_i h <;> (try rw [Bool.not_eq_true] at h) <;> (try simp only [go_sem, hk, f, ap, cl, *])) | (rw [guardO_f]; split <;> rename_i h <;> (try rw [Bool.not_eq_true] at h) <;> (try simp only [go_sem, hk, f, ap, cl, *])) | (rw [cw_bool]; split <;> rename_i h <;> (try rw [Bool.not_eq_true] at h) <;> (try simp only [go_sem, hk, f, ap, cl, *]))))
end
end Go.PE
namespace Go.PE
open Go Go.RowKit Go.Proofs
set_option linter.unusedVariables false
set_option linter.unusedSimpArgs false
set_option maxRecDepth 100000
/-- Definitions as they are handed in, not too large. -/
def OkL (l : List GDef) : Prop := l.length ≤ 2000000 ∧ ∀ d ∈ l, OkDef d ∧ (preE d.Body).length ≤ 2000000
theorem OkL.short {l : List GDef} (h : OkL l) : Short l.length := by have := h.1; unfold Short maxLen; omega
theorem findD_mem {l : List GDef} {n : ByteArray} {d : GDef} (h : findD l n = some d) : d ∈ l ∧ d.Sig.Name = n := by
  have h1 := List.mem_of_find?_eq_some h
  have h2 := List.find?_some h
  exact ⟨h1, strEq_iff.1 h2⟩
def asksS (l : List GDef) (n : ByteArray) : List ByteArray := match findD l n with
  | none => []
  | some d => callsS d.Body
theorem asks_len {l : List GDef} (h : OkL l) (n : ByteArray) : (asksS l n).length ≤ 2000000 := by
  unfold asksS
  split
  · simp
  · rename_i d hd
    exact Nat.le_trans (callsS_len _) (h.2 d (findD_mem hd).1).2
section
variable {ot : TypeId} {oz : EP}
theorem asksP (l : List GDef) (ol : OkL l) (n : ByteArray) (S : St) : cal (env ot oz) 9 [.sl .ro (l.map rDef), .str n] S = some (.sl .ro ((asksS l n).map rStr), S) := by
  have f := findP (ot := ot) (oz := oz) l ol.short n
  unfold asksS
  cases q : findD l n with
  | none =>
    simp only [q, findR] at f
    simp only [List.map_nil]
    (rw [w_plain (fn := c9) rfl rfl (by simp only [go_sem, f]) rfl (by decide)]; simp only [c9, c9_b, go_sem, f]; repeat' (first | (rw [guardO_t]; split <;> rename_i h <;> (try rw [Bool.not_eq_true] at h) <;> (try simp only [go_sem, f, *])) | (rw [guardO_f]; split <;> rename_i h <;> (try rw [Bool.not_eq_true] at h) <;> (try simp only [go_sem, f, *])) | (rw [cw_bool]; split <;> rename_i h <;> (try rw [Bool.not_eq_true] at h) <;> (try simp only [go_sem, f, *]))))
  | some d =>
    obtain ⟨h1, h2⟩ := ol.2 d (findD_mem q).1
    have c := callsP (ot := ot) (oz := oz) d.Body h1.Body (by omega)
    simp only [q, findR] at f
    (rw [w_plain (fn := c9) rfl rfl (by simp only [go_sem, f, c]) rfl (by decide)]; simp only [c9, c9_b, go_sem, f, c]; repeat' (first | (rw [guardO_t]; split <;> rename_i h <;> (try rw [Bool.not_eq_true] at h) <;> (try simp only [go_sem, f, c, *])) | (rw [guardO_f]; split <;> rename_i h <;> (try rw [Bool.not_eq_true] at h) <;> (try simp only [go_sem, f, c, *])) | (rw [cw_bool]; split <;> rename_i h <;> (try rw [Bool.not_eq_true] at h) <;> (try simp only [go_sem, f, c, *]))))
theorem asks39 (l : List GDef) (ol : OkL l) (n : ByteArray) (S : St) : cal (env ot oz) 10 [.sl .ro (l.map rDef), .str n] S = some (.sl .ro ((asksS l n).map rStr), S) := by
  have f := find37 (ot := ot) (oz := oz) l ol.short n
  obtain ⟨h1, h2⟩ := find_idx (isN n) l
  unfold asksS findD
  cases q : l.any (isN n) with
  | false =>
    simp only [q, Bool.false_eq_true, if_false] at f
    rw [h2 q]
    simp only [List.map_nil]
    (rw [w_plain (fn := c10) rfl rfl (by simp only [go_sem, f]) rfl (by decide)]; simp only [c10, c10_b, go_sem, f]; repeat' (first | (rw [guardO_t]; split <;> rename_i h <;> (try rw [Bool.not_eq_true] at h) <;> (try simp only [go_sem, f, *])) | (rw [guardO_f]; split <;> rename_i h <;> (try rw [Bool.not_eq_true] at h) <;> (try simp only [go_sem, f, *])) | (rw [cw_bool]; split <;> rename_i h <;> (try rw [Bool.not_eq_true] at h) <;> (try simp only [go_sem, f, *]))))
  | true =>
    obtain ⟨d, k1, k2, k3⟩ := h1 q
    simp only [q, if_true] at f
    rw [k1]
    obtain ⟨o1, o2⟩ := ol.2 d (mem_of_get k2)
    have c := calls14 (ot := ot) (oz := oz) d.Body o1.Body (by omega)
    have hlt := getElem?_lt k2
    generalize l.findIdx (isN n) = i at *
    have h0 : ¬ (i : Int) < 0 := by omega
    have hlt' : (i : Int) < (l.length : Int) := by omega
    (rw [w_plain (fn := c10) rfl rfl (by simp only [go_sem, f, c, h0, k2, hlt']) rfl (by decide)]; simp only [c10, c10_b, go_sem, f, c, h0, k2, hlt']; repeat' (first | (rw [guardO_t]; split <;> rename_i h <;> (try rw [Bool.not_eq_true] at h) <;> (try simp only [go_sem, f, c, h0, k2, hlt', *])) | (rw [guardO_f]; split <;> rename_i h <;> (try rw [Bool.not_eq_true] at h) <;> (try simp only [go_sem, f, c, h0, k2, hlt', *])) | (rw [cw_bool]; split <;> rename_i h <;> (try rw [Bool.not_eq_true] at h) <;> (try simp only [go_sem, f, c, h0, k2, hlt', *]))))
end
end Go.PE
namespace Go.PE
open Go Go.RowKit Go.Proofs
set_option linter.unusedVariables false
set_option linter.unusedSimpArgs false
set_option maxRecDepth 100000
theorem strEq_comm (a b : ByteArray) : strEq a b = strEq b a := by
  apply Bool.eq_iff_iff.2; rw [strEq_iff, strEq_iff]; exact eq_comm
theorem any_strEq (l : List ByteArray) (s : ByteArray) : l.any (strEq s) = true ↔ s ∈ l := by
  rw [List.any_eq_true]
  constructor
  · rintro ⟨x, hx, h⟩; rw [strEq_iff] at h; subst h; exact hx
  · intro h; exact ⟨s, h, strEq_refl s⟩
theorem any_strEq2 (l : List ByteArray) (s : ByteArray) : l.any (strEq · s) = l.any (strEq s) := by
  congr 1; funext x; exact strEq_comm x s
section
variable {ot : TypeId} {oz : EP}
end
end Go.PE
