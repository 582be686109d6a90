/-
  Texts put in their places, what is called, by the document; places of texts. Conditions: each law's own.
-/
import Derived.Test.YtleggogbmklddaaDX2
namespace Go.PE
open Go Go.RowKit Go.Proofs
set_option linter.unusedVariables false
set_option linter.unusedSimpArgs false
set_option maxRecDepth 100000
/-- A list of texts that grows. -/
def aG (S : St) (out : List ByteArray) : Tag := accG .null S 9 (out.map rStr)
def aS (S : St) (out : List ByteArray) : St := accS S 1 [] (out.map rStr)
theorem aG_nil (S : St) : aG S [] = .null := rfl
theorem aS_obs (S : St) (out : List ByteArray) : (aS S out).obs = S.obs := by unfold aS accS; split <;> rfl
theorem aStr_apps (S : St) (out ys : List ByteArray) (h : out.length + ys.length ≤ 8000000000000) : appP (aS S out) 9 1 16 (aG S out) (out.map rStr) (ys.map rStr) = some (.sl (aG S (out ++ ys)) ((out ++ ys).map rStr), aS S (out ++ ys)) := by
  by_cases hy : ys = []
  · subst hy; simp [appP]
  · have := acc_app (g0 := .null) (.inl rfl) S 9 1 16 [] (out.map rStr) (ys.map rStr) (by simpa using hy) (by omega) (by simp; omega) (by simp; omega) (by simp only [List.nil_append]; exact rStr_ok _) (rStr_ok _)
    simp only [List.nil_append] at this
    unfold aS aG
    rw [this, List.map_append]
theorem aStr_app (S : St) (out : List ByteArray) (s : ByteArray) (h : out.length + 1 ≤ 8000000000000) : appP (aS S out) 9 1 16 (aG S out) (out.map rStr) [[.str s]] = some (.sl (aG S (out ++ [s])) ((out ++ [s]).map rStr), aS S (out ++ [s])) := aStr_apps S out [s] (by simpa using h)
section
variable {ot : TypeId} {oz : EP}
end
end Go.PE
namespace Go.PE
open Go Go.RowKit Go.Proofs
set_option linter.unusedVariables false
set_option linter.unusedSimpArgs false
set_option maxRecDepth 100000
/-! ### lists in order, each once -/
theorem callsS_len (e : GExp) : (callsS e).length ≤ (preE e).length := Nat.le_trans (setS_len _) (callN_len _)
section
variable {ot : TypeId} {oz : EP}
end
end Go.PE
namespace Go.PE
open Go Go.RowKit Go.Proofs
set_option linter.unusedVariables false
set_option linter.unusedSimpArgs false
set_option maxRecDepth 100000
/-- Definitions as they are handed in, not too large. -/
def OkL (l : List GDef) : Prop := l.length ≤ 2000000 ∧ ∀ d ∈ l, OkDef d ∧ (preE d.Body).length ≤ 2000000
theorem OkL.short {l : List GDef} (h : OkL l) : Short l.length := by have := h.1; unfold Short maxLen; omega
theorem findD_mem {l : List GDef} {n : ByteArray} {d : GDef} (h : findD l n = some d) : d ∈ l ∧ d.Sig.Name = n := by
  have h1 := List.mem_of_find?_eq_some h
  have h2 := List.find?_some h
  exact ⟨h1, strEq_iff.1 h2⟩
def asksS (l : List GDef) (n : ByteArray) : List ByteArray := match findD l n with
  | none => []
  | some d => callsS d.Body
def promisedS (a b : List GDef) (n : ByteArray) : Bool := match findD a n, findD b n with
  | some d, some e => sameSig d.Sig e.Sig
  | none, none => true
  | _, _ => false
def staleS (b a : List GDef) (n : ByteArray) : Bool := match findD b n with
  | none => true
  | some d => !(sameDef d ((findD a n).getD zDef)) || (callsS ((findD a n).getD zDef).Body).any fun s => !(promisedS b a s)
theorem okTy_z : OkTy zTy := .mk _ _ _ _ _ (by unfold In64; omega) (by unfold In64; omega) (by unfold Short maxLen; decide) ⟨by unfold Short maxLen; decide, by simp⟩ (by unfold Short maxLen; decide) (by simp)
theorem okExp_z : OkExp zExp := by
  unfold zExp
  constructor <;> first | (unfold In64; omega) | (unfold Short maxLen; decide) | simp | exact ⟨by unfold Short maxLen; decide, by simp⟩
theorem okSig_z : OkSig zDef.Sig := ⟨by unfold Short maxLen zDef; decide, ⟨by unfold Short maxLen zDef; decide, by simp [zDef]⟩, ⟨by unfold Short maxLen zDef; decide, by simp [zDef]⟩, okTy_z⟩
theorem okDef_z : OkDef zDef := ⟨okSig_z, okExp_z⟩
theorem pre_z : (preE zDef.Body).length ≤ 2000000 := by
  show (preE zExp).length ≤ _
  unfold zExp; simp [preE, preEs]
section
variable {ot : TypeId} {oz : EP}
theorem promisedP (a b : List GDef) (oa : OkL a) (ob : OkL b) (n : ByteArray) (S : St) : cal (env ot oz) 50 [.sl .ro (a.map rDef), .sl .ro (b.map rDef), .str n] S = some (.bool (promisedS a b n), S) := by
  have f1 := findP (ot := ot) (oz := oz) a oa.short n
  have f2 := findP (ot := ot) (oz := oz) b ob.short n
  unfold promisedS
  cases q1 : findD a n with
  | none =>
    cases q2 : findD b n with
    | none =>
      simp only [q1, q2, findR] at f1 f2
      have c := expSameSig (ot := ot) (oz := oz) zDef.Sig zDef.Sig okSig_z okSig_z
      have e : sameSig zDef.Sig zDef.Sig = true := sameSig_iff.2 rfl
      rw [e] at c
      (rw [w_plain (fn := c50) rfl rfl (by simp only [go_sem, f1, f2, c]) rfl (by decide)]; simp only [c50, c50_b, c50_r3, go_sem, f1, f2, c]; repeat' (first | (rw [guardO_t]; split <;> rename_i h <;> (try rw [Bool.not_eq_true] at h) <;> (try simp only [go_sem, c50_r3, f1, f2, c, *])) | (rw [guardO_f]; split <;> rename_i h <;> (try rw [Bool.not_eq_true] at h) <;> (try simp only [go_sem, c50_r3, f1, f2, c, *])) | (rw [cw_bool]; split <;> rename_i h <;> (try rw [Bool.not_eq_true] at h) <;> (try simp only [go_sem, c50_r3, f1, f2, c, *]))))
    | some d2 =>
      simp only [q1, q2, findR] at f1 f2
      have b1 : (false == true) = false := rfl
      have b2 : (true == false) = false := rfl
      (rw [w_plain (fn := c50) rfl rfl (by simp only [go_sem, f1, f2, b1, b2]) rfl (by decide)]; simp only [c50, c50_b, c50_r3, go_sem, f1, f2, b1, b2]; repeat' (first | (rw [guardO_t]; split <;> rename_i h <;> (try rw [Bool.not_eq_true] at h) <;> (try simp only [go_sem, c50_r3, f1, f2, b1, b2, *])) | (rw [guardO_f]; split <;> rename_i h <;> (try rw [Bool.not_eq_true] at h) <;> (try simp only [go_sem, c50_r3, f1, f2, b1, b2, *])) | (rw [cw_bool]; split <;> rename_i h <;> (try rw [Bool.not_eq_true] at h) <;> (try simp only [go_sem, c50_r3, f1, f2, b1, b2, *]))))
  | some d1 =>
    cases q2 : findD b n with
    | none =>
      simp only [q1, q2, findR] at f1 f2
      have b1 : (false == true) = false := rfl
      have b2 : (true == false) = false := rfl
      (rw [w_plain (fn := c50) rfl rfl (by simp only [go_sem, f1, f2, b1, b2]) rfl (by decide)]; simp only [c50, c50_b, c50_r3, go_sem, f1, f2, b1, b2]; repeat' (first | (rw [guardO_t]; split <;> rename_i h <;> (try rw [Bool.not_eq_true] at h) <;> (try simp only [go_sem, c50_r3, f1, f2, b1, b2, *])) | (rw [guardO_f]; split <;> rename_i h <;> (try rw [Bool.not_eq_true] at h) <;> (try simp only [go_sem, c50_r3, f1, f2, b1, b2, *])) | (rw [cw_bool]; split <;> rename_i h <;> (try rw [Bool.not_eq_true] at h) <;> (try simp only [go_sem, c50_r3, f1, f2, b1, b2, *]))))
    | some d2 =>
      simp only [q1, q2, findR] at f1 f2
      have c := expSameSig (ot := ot) (oz := oz) d1.Sig d2.Sig (oa.2 d1 (findD_mem q1).1).1.Sig (ob.2 d2 (findD_mem q2).1).1.Sig
      (rw [w_plain (fn := c50) rfl rfl (by simp only [go_sem, f1, f2, c]) rfl (by decide)]; simp only [c50, c50_b, c50_r3, go_sem, f1, f2, c]; repeat' (first | (rw [guardO_t]; split <;> rename_i h <;> (try rw [Bool.not_eq_true] at h) <;> (try simp only [go_sem, c50_r3, f1, f2, c, *])) | (rw [guardO_f]; split <;> rename_i h <;> (try rw [Bool.not_eq_true] at h) <;> (try simp only [go_sem, c50_r3, f1, f2, c, *])) | (rw [cw_bool]; split <;> rename_i h <;> (try rw [Bool.not_eq_true] at h) <;> (try simp only [go_sem, c50_r3, f1, f2, c, *]))))
theorem staleP (b a : List GDef) (ob : OkL b) (oa : OkL a) (n : ByteArray) (S : St) : cal (env ot oz) 32 [.sl .ro (b.map rDef), .sl .ro (a.map rDef), .str n] S = some (.bool (staleS b a n), S) := by
  have f1 := findP (ot := ot) (oz := oz) b ob.short n
  have f2 := findP (ot := ot) (oz := oz) a oa.short n
  have he : ∃ ok, OkDef ((findD a n).getD zDef) ∧ (preE ((findD a n).getD zDef).Body).length ≤ 2000000 ∧ findR (findD a n) = .tup [.agg (rDef ((findD a n).getD zDef)), .bool ok] := by
    cases q2 : findD a n with
    | none => exact ⟨false, okDef_z, pre_z, rfl⟩
    | some e => exact ⟨true, (oa.2 e (findD_mem q2).1).1, (oa.2 e (findD_mem q2).1).2, rfl⟩
  obtain ⟨ok, oe, pe, hf⟩ := he
  rw [hf] at f2
  unfold staleS
  generalize (findD a n).getD zDef = e at *
  cases q1 : findD b n with
  | none =>
    simp only [q1, findR] at f1
    (rw [w_plain (fn := c32) rfl rfl (by simp only [go_sem, f1, f2]) rfl (by decide)]; simp only [c32, c32_b, c32_r3, go_sem, f1, f2]; repeat' (first | (rw [guardO_t]; split <;> rename_i h <;> (try rw [Bool.not_eq_true] at h) <;> (try simp only [go_sem, c32_r3, f1, f2, *])) | (rw [guardO_f]; split <;> rename_i h <;> (try rw [Bool.not_eq_true] at h) <;> (try simp only [go_sem, c32_r3, f1, f2, *])) | (rw [cw_bool]; split <;> rename_i h <;> (try rw [Bool.not_eq_true] at h) <;> (try simp only [go_sem, c32_r3, f1, f2, *]))))
  | some d =>
    simp only [q1, findR] at f1
    have od := (ob.2 d (findD_mem q1).1).1
    have c := expSameDef (ot := ot) (oz := oz) d e od oe
    cases q : sameDef d e with
    | false => (rw [w_plain (fn := c32) rfl rfl (by simp only [go_sem, f1, f2, c, q]) rfl (by decide)]; simp only [c32, c32_b, c32_r3, go_sem, f1, f2, c, q]; repeat' (first | (rw [guardO_t]; split <;> rename_i h <;> (try rw [Bool.not_eq_true] at h) <;> (try simp only [go_sem, c32_r3, f1, f2, c, q, *])) | (rw [guardO_f]; split <;> rename_i h <;> (try rw [Bool.not_eq_true] at h) <;> (try simp only [go_sem, c32_r3, f1, f2, c, q, *])) | (rw [cw_bool]; split <;> rename_i h <;> (try rw [Bool.not_eq_true] at h) <;> (try simp only [go_sem, c32_r3, f1, f2, c, q, *]))))
    | true =>
      have c2 := callsP (ot := ot) (oz := oz) e.Body oe.Body (by omega)
      have hcl := callsS_len e.Body
      have c3 : ∀ S, cal (env ot oz) 48 [.sl .ro ((callsS e.Body).map rStr), .fn 49 [] [.at_ [.sl .ro (b.map rDef)], .at_ [.sl .ro (a.map rDef)]]] S = some (.bool ((callsS e.Body).any fun s => !(promisedS b a s)), S) := fun S =>
        containsFStr (ot := ot) (oz := oz) (callsS e.Body) (fun s => !(promisedS b a s)) (by unfold Short maxLen; omega) 49 [] [.at_ [.sl .ro (b.map rDef)], .at_ [.sl .ro (a.map rDef)]] S (fun _ _ => rfl) (fun n d => by simp [sealL, sealW, rDef_sll]) (fun s _ => by
          have p := promisedP (ot := ot) (oz := oz) b a ob oa s
          show cal _ _ [.str s, .at_ [.sl .ro (b.map rDef)], .at_ [.sl .ro (a.map rDef)]] _ = _
          (rw [w_plain (fn := c49) rfl rfl (by simp only [go_sem, p]) rfl (by decide)]; simp only [c49, c49_b, go_sem, p]; repeat' (first | (rw [guardO_t]; split <;> rename_i h <;> (try rw [Bool.not_eq_true] at h) <;> (try simp only [go_sem, p, *])) | (rw [guardO_f]; split <;> rename_i h <;> (try rw [Bool.not_eq_true] at h) <;> (try simp only [go_sem, p, *])) | (rw [cw_bool]; split <;> rename_i h <;> (try rw [Bool.not_eq_true] at h) <;> (try simp only [go_sem, p, *])))))
      (rw [w_plain (fn := c32) rfl rfl (by simp only [go_sem, f1, f2, c, q, c2, c3]) rfl (by decide)]; simp only [c32, c32_b, c32_r3, go_sem, f1, f2, c, q, c2, c3]; repeat' (first | (rw [guardO_t]; split <;> rename_i h <;> (try rw [Bool.not_eq_true] at h) <;> (try simp only [go_sem, c32_r3, f1, f2, c, q, c2, c3, *])) | (rw [guardO_f]; split <;> rename_i h <;> (try rw [Bool.not_eq_true] at h) <;> (try simp only [go_sem, c32_r3, f1, f2, c, q, c2, c3, *])) | (rw [cw_bool]; split <;> rename_i h <;> (try rw [Bool.not_eq_true] at h) <;> (try simp only [go_sem, c32_r3, f1, f2, c, q, c2, c3, *]))))
end
end Go.PE
namespace Go.PE
open Go Go.RowKit Go.Proofs
set_option linter.unusedVariables false
set_option linter.unusedSimpArgs false
set_option maxRecDepth 100000
theorem strEq_comm (a b : ByteArray) : strEq a b = strEq b a := by
  apply Bool.eq_iff_iff.2; rw [strEq_iff, strEq_iff]; exact eq_comm
theorem any_strEq (l : List ByteArray) (s : ByteArray) : l.any (strEq s) = true ↔ s ∈ l := by
  rw [List.any_eq_true]
  constructor
  · rintro ⟨x, hx, h⟩; rw [strEq_iff] at h; subst h; exact hx
  · intro h; exact ⟨s, h, strEq_refl s⟩
section
variable {ot : TypeId} {oz : EP}
end
end Go.PE
