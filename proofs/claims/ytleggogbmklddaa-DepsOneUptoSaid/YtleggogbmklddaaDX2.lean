/-
  Definitions by names; the expressions within one, in order; what is called. Conditions: each law's own.
-/
import Derived.Test.YtleggogbmklddaaDX1
import Derived.Test.YtleggogbmklddaaSL
import Derived.Test.YtleggogbmklddaaPMS
namespace Go.PE
open Go Go.RowKit Go.Proofs
set_option linter.unusedVariables false
set_option linter.unusedSimpArgs false
set_option maxRecDepth 100000
def zTy : GTy := .mk 0 0 ⟨#[]⟩ [] []
def zExp : GExp := .mk 0 0 ⟨#[]⟩ false [] [] []
def zDef : GDef := ⟨⟨⟨#[]⟩, [], [], zTy⟩, zExp⟩
def isN (n : ByteArray) (d : GDef) : Bool := strEq d.Sig.Name n
def findD (l : List GDef) (n : ByteArray) : Option GDef := l.find? (isN n)
theorem find_idx {α : Type} (p : α → Bool) : ∀ l : List α, (l.any p = true → ∃ a, l.find? p = some a ∧ l[l.findIdx p]? = some a ∧ p a = true) ∧ (l.any p = false → l.find? p = none)
  | [] => by simp
  | a :: l => by
    obtain ⟨h1, h2⟩ := find_idx p l
    rw [List.any_cons, List.find?_cons, List.findIdx_cons]
    cases q : p a with
    | true => simp [q]
    | false => simp only [Bool.false_or]; exact ⟨by simpa [q] using h1, by simp [q]⟩
section
variable {ot : TypeId} {oz : EP}
theorem place1 (d : GDef) (n : ByteArray) (S : St) : cal (env ot oz) 57 [.agg (rDef d), .at_ [.str n]] S = some (.bool (isN n d), S) := by
  (rw [w_plain (fn := c57) rfl rfl (by simp only [go_sem, isN]) rfl (by decide)]; simp only [c57, c57_b, go_sem, isN]; repeat' (first | (rw [guardO_t]; split <;> rename_i h <;> (try rw [Bool.not_eq_true] at h) <;> (try simp only [go_sem, isN, *])) | (rw [guardO_f]; split <;> rename_i h <;> (try rw [Bool.not_eq_true] at h) <;> (try simp only [go_sem, isN, *])) | (rw [cw_bool]; split <;> rename_i h <;> (try rw [Bool.not_eq_true] at h) <;> (try simp only [go_sem, isN, *]))))
theorem placeP (l : List GDef) (hl : Short l.length) (n : ByteArray) (S : St) : cal (env ot oz) 41 [.sl .ro (l.map rDef), .str n] S = some (.int .i64 (if l.any (isN n) then (l.findIdx (isN n) : Int) else -1), S) := by
  have s := fun S => indexFDef (ot := ot) (oz := oz) l (isN n) hl 57 [] [.at_ [.str n]] S (fun _ _ => rfl) (fun _ _ => rfl) (fun a _ => by have := place1 (ot := ot) (oz := oz) a n S; simpa using this)
  (rw [w_plain (fn := c41) rfl rfl (by simp only [go_sem, s]) rfl (by decide)]; simp only [c41, c41_b, go_sem, s]; repeat' (first | (rw [guardO_t]; split <;> rename_i h <;> (try rw [Bool.not_eq_true] at h) <;> (try simp only [go_sem, s, *])) | (rw [guardO_f]; split <;> rename_i h <;> (try rw [Bool.not_eq_true] at h) <;> (try simp only [go_sem, s, *])) | (rw [cw_bool]; split <;> rename_i h <;> (try rw [Bool.not_eq_true] at h) <;> (try simp only [go_sem, s, *]))))
def findR : Option GDef → PV
  | some d => .tup [.agg (rDef d), .bool true]
  | none => .tup [.agg (rDef zDef), .bool false]
theorem findP (l : List GDef) (hl : Short l.length) (n : ByteArray) (S : St) : cal (env ot oz) 25 [.sl .ro (l.map rDef), .str n] S = some (findR (findD l n), S) := by
  have s := placeP (ot := ot) (oz := oz) l hl n
  obtain ⟨h1, h2⟩ := find_idx (isN n) l
  have z : rDef zDef = [.str ⟨#[]⟩, .sl .ro [], .sl .ro [], .int .i64 0, .int .i64 0, .str ⟨#[]⟩, .sl .ro [], .sl .ro [], .int .i64 0, .int .i64 0, .str ⟨#[]⟩, .bool false, .sl .ro [], .sl .ro [], .sl .ro []] := by
    simp [rDef, rTy_eq, rExp_eq, zDef, zTy, zExp, GTy.K, GTy.N, GTy.Name, GTy.Labels, GTy.Args, GExp.K, GExp.N, GExp.Name, GExp.Has, GExp.Types, GExp.Labels, GExp.Kids]
  unfold findD
  cases q : l.any (isN n) with
  | false =>
    rw [h2 q]
    simp only [q, Bool.false_eq_true, if_false] at s
    simp only [findR, z]
    (rw [w_plain (fn := c25) rfl rfl (by simp only [go_sem, s]) rfl (by decide)]; simp only [c25, c25_b, go_sem, s]; repeat' (first | (rw [guardO_t]; split <;> rename_i h <;> (try rw [Bool.not_eq_true] at h) <;> (try simp only [go_sem, s, *])) | (rw [guardO_f]; split <;> rename_i h <;> (try rw [Bool.not_eq_true] at h) <;> (try simp only [go_sem, s, *])) | (rw [cw_bool]; split <;> rename_i h <;> (try rw [Bool.not_eq_true] at h) <;> (try simp only [go_sem, s, *]))))
  | true =>
    obtain ⟨d, k1, k2, k3⟩ := h1 q
    rw [k1]
    simp only [q, if_true] at s
    have hlt := getElem?_lt k2
    generalize l.findIdx (isN n) = i at *
    have h0 : ¬ (i : Int) < 0 := by omega
    have hlt' : (i : Int) < (l.length : Int) := by omega
    simp only [findR]
    (rw [w_plain (fn := c25) rfl rfl (by simp only [go_sem, s, h0, k2, hlt']) rfl (by decide)]; simp only [c25, c25_b, go_sem, s, h0, k2, hlt']; repeat' (first | (rw [guardO_t]; split <;> rename_i h <;> (try rw [Bool.not_eq_true] at h) <;> (try simp only [go_sem, s, h0, k2, hlt', *])) | (rw [guardO_f]; split <;> rename_i h <;> (try rw [Bool.not_eq_true] at h) <;> (try simp only [go_sem, s, h0, k2, hlt', *])) | (rw [cw_bool]; split <;> rename_i h <;> (try rw [Bool.not_eq_true] at h) <;> (try simp only [go_sem, s, h0, k2, hlt', *]))))
theorem find37 (l : List GDef) (hl : Short l.length) (n : ByteArray) (S : St) : cal (env ot oz) 19 [.sl .ro (l.map rDef), .str n] S = some (.int .i64 (if l.any (isN n) then (l.findIdx (isN n) : Int) else -1), S) := by
  have f0 := fun fin st => loopP (E := (env ot oz)) (S := S) (c := c19_l0) l hl (fun i => [(0, some (.sl .ro (l.map rDef))), (1, some (.str n)), (5, some (.int .i64 (i : Int)))]) (isN n) fin st
    (fun i => aft (env ot oz) fin st .ret [(4, some (.int .i64 (i : Int)))] S) (aft (env ot oz) fin st (.exit 0) [(0, some (.sl .ro (l.map rDef))), (1, some (.str n)), (5, some (.int .i64 (l.length : Int))), (9, some (.bool false))] S)
    (fun i d h1 h2 h3 h4 h5 => by
      unfold isN at h5
      (rw [c19_l0_w]; simp only [c19_l0_b, c19_l0_a, go_sem, h1, h3, h4, h5]; repeat' (first | (rw [guardO_t]; split <;> rename_i h <;> (try rw [Bool.not_eq_true] at h) <;> (try simp only [go_sem, c19_l0_a, h1, h3, h4, h5, *])) | (rw [guardO_f]; split <;> rename_i h <;> (try rw [Bool.not_eq_true] at h) <;> (try simp only [go_sem, c19_l0_a, h1, h3, h4, h5, *])) | (rw [cw_bool]; split <;> rename_i h <;> (try rw [Bool.not_eq_true] at h) <;> (try simp only [go_sem, c19_l0_a, h1, h3, h4, h5, *])))))
    (fun i d h1 h2 h3 h4 h5 => by
      unfold isN at h5
      (rw [c19_l0_w]; simp only [c19_l0_b, c19_l0_a, go_sem, h1, h3, h4, h5]; repeat' (first | (rw [guardO_t]; split <;> rename_i h <;> (try rw [Bool.not_eq_true] at h) <;> (try simp only [go_sem, c19_l0_a, h1, h3, h4, h5, *])) | (rw [guardO_f]; split <;> rename_i h <;> (try rw [Bool.not_eq_true] at h) <;> (try simp only [go_sem, c19_l0_a, h1, h3, h4, h5, *])) | (rw [cw_bool]; split <;> rename_i h <;> (try rw [Bool.not_eq_true] at h) <;> (try simp only [go_sem, c19_l0_a, h1, h3, h4, h5, *])))))
    (by (rw [c19_l0_w]; simp only [c19_l0_b, c19_l0_a, go_sem]; repeat' (first | (rw [guardO_t]; split <;> rename_i h <;> (try rw [Bool.not_eq_true] at h) <;> (try simp only [go_sem, c19_l0_a, *])) | (rw [guardO_f]; split <;> rename_i h <;> (try rw [Bool.not_eq_true] at h) <;> (try simp only [go_sem, c19_l0_a, *])) | (rw [cw_bool]; split <;> rename_i h <;> (try rw [Bool.not_eq_true] at h) <;> (try simp only [go_sem, c19_l0_a, *])))))
  simp only [Int.cast_ofNat_Int] at f0
  cases q : l.any (isN n) <;> simp only [q, if_true, if_false, Bool.false_eq_true] at f0 ⊢ <;> (rw [w_plain (fn := c19) rfl rfl (by simp only [go_sem, f0]) rfl (by decide)]; simp only [c19, c19_b, go_sem, f0]; repeat' (first | (rw [guardO_t]; split <;> rename_i h <;> (try rw [Bool.not_eq_true] at h) <;> (try simp only [go_sem, f0, *])) | (rw [guardO_f]; split <;> rename_i h <;> (try rw [Bool.not_eq_true] at h) <;> (try simp only [go_sem, f0, *])) | (rw [cw_bool]; split <;> rename_i h <;> (try rw [Bool.not_eq_true] at h) <;> (try simp only [go_sem, f0, *]))))
end
end Go.PE
namespace Go.PE
open Go Go.RowKit Go.Proofs
set_option linter.unusedVariables false
set_option linter.unusedSimpArgs false
set_option maxRecDepth 100000
mutual
/-- An expression, and all in it, in order. -/
def preE : GExp → List GExp
  | .mk K N Name Has Types Labels Kids => .mk K N Name Has Types Labels Kids :: preEs Kids
def preEs : List GExp → List GExp
  | [] => []
  | a :: l => preE a ++ preEs l
end
theorem preE_eq (e : GExp) : preE e = e :: preEs e.Kids := by cases e; rw [preE]; rfl
theorem preEs_fold : ∀ (l d : List GExp), l.foldl (fun d k => d ++ preE k) d = d ++ preEs l
  | [], d => by simp [preEs]
  | a :: l, d => by rw [List.foldl_cons, preEs_fold l, preEs, List.append_assoc]
def callN (l : List GExp) : List ByteArray := (l.filter fun e => e.K == 13).map GExp.Name
theorem callN_app (l m : List GExp) : callN (l ++ m) = callN l ++ callN m := by simp [callN]
theorem callN_len (l : List GExp) : (callN l).length ≤ l.length := by simp only [callN, List.length_map]; exact List.length_filter_le _ _
section
variable {ot : TypeId} {oz : EP}
theorem walk_rel (lp B : Nat) (I : List GExp → St → Prop) (hcl : ∀ d T d' T', I d T → I d' T' → beqO (T'.obs.take T.obs.length) T.obs = true → (T'.own.take T.own.length == T.own) = true → I d' T)
    (hj : ∀ d T k, I d T → I d ⟨T.obs ++ [.cells 38 (rExp k)], T.own⟩)
    (hy : ∀ d x T, OkExp x → I d T → d.length < B → ∃ T', cal (env ot oz) yid [.yld lp, .agg (rExp x)] T = some (.bool true, T') ∧ I (d ++ [x]) T') :
    ∀ e, OkExp e → ∀ d T, I d T → d.length + (preE e).length ≤ B → ∃ T', cal (env ot oz) 59 [.agg (rExp e), .yld lp] T = some (.bool true, T') ∧ I (d ++ preE e) T' := by
  refine GExp.ind fun e ih oe d T hI hB => ?_
  obtain ⟨⟨a1, a2⟩, _⟩ := okExp_at oe
  rw [preE_eq, List.length_cons] at hB
  obtain ⟨T1, y1, hI1⟩ := hy d e T oe hI (by omega)
  obtain ⟨ts', T2, ⟨rfl, hI2⟩, f0⟩ := loopR (E := (env ot oz)) (c := c59_l0) e.Kids a1 (fun d k => d ++ preE k)
    (fun i d' ts T' => ts = [(1, some (.yld lp)), (12, some (.sl .ro (e.Kids.map rExp))), (13, some (.int .i64 (e.Kids.length : Int))), (14, some (.int .i64 (i : Int)))] ∧ (I d' T' ∧ d'.length + (preEs (e.Kids.drop i)).length ≤ B))
    (fun i d' k ts T' h1 h2 h3 h4 hh => by
      obtain ⟨rfl, hI', hB'⟩ := hh
      have hd : e.Kids.drop i = k :: e.Kids.drop (i + 1) := by
        rw [List.drop_eq_getElem_cons (by omega)]
        congr 1
        rw [List.getElem?_eq_getElem (by omega)] at h1; exact Option.some.inj h1
      rw [hd, preEs, List.length_append] at hB'
      obtain ⟨T2, c, hI2⟩ := ih k h2 (a2 k h2) d' _ (hj d' T' k hI') (by omega)
      refine ⟨_, T2, ⟨rfl, hI2, by simp only [List.length_append]; omega⟩, fun fin st => ?_⟩
      (rw [c59_l0_w]; simp only [c59_l0_b, c59_l0_a, go_sem, h1, h3, h4, c]; repeat' (first | (rw [guardO_t]; split <;> rename_i h <;> (try rw [Bool.not_eq_true] at h) <;> (try simp only [go_sem, c59_l0_a, h1, h3, h4, c, *])) | (rw [guardO_f]; split <;> rename_i h <;> (try rw [Bool.not_eq_true] at h) <;> (try simp only [go_sem, c59_l0_a, h1, h3, h4, c, *])) | (rw [cw_bool]; split <;> rename_i h <;> (try rw [Bool.not_eq_true] at h) <;> (try simp only [go_sem, c59_l0_a, h1, h3, h4, c, *]))))) (d ++ [e]) _ T1 ⟨rfl, hI1, by simp only [List.length_append, List.length_cons, List.length_nil, List.drop_zero]; omega⟩
  rw [preEs_fold, List.append_assoc] at hI2
  have ex : ∀ fin st, run (env ot oz) fin st c59_l0 [(1, some (.yld lp)), (12, some (.sl .ro (e.Kids.map rExp))), (13, some (.int .i64 (e.Kids.length : Int))), (14, some (.int .i64 (e.Kids.length : Int)))] T2 = aft (env ot oz) fin st (.exit 0) [(1, some (.yld lp)), (12, some (.sl .ro (e.Kids.map rExp))), (13, some (.int .i64 (e.Kids.length : Int))), (14, some (.int .i64 (e.Kids.length : Int))), (15, some (.bool false))] T2 := fun fin st => by
    (rw [c59_l0_w]; simp only [c59_l0_b, c59_l0_a, go_sem]; repeat' (first | (rw [guardO_t]; split <;> rename_i h <;> (try rw [Bool.not_eq_true] at h) <;> (try simp only [go_sem, c59_l0_a, *])) | (rw [guardO_f]; split <;> rename_i h <;> (try rw [Bool.not_eq_true] at h) <;> (try simp only [go_sem, c59_l0_a, *])) | (rw [cw_bool]; split <;> rename_i h <;> (try rw [Bool.not_eq_true] at h) <;> (try simp only [go_sem, c59_l0_a, *]))))
  simp only [Int.cast_ofNat_Int] at f0
  by_cases hc : (beqO (T2.obs.take T.obs.length) T.obs && T2.own.take T.own.length == T.own) = true
  · have cl : close T T2 (.bool true) = (.bool true, T) := by unfold close; simp only [hc, if_true, sealW]
    simp only [Bool.and_eq_true] at hc
    refine ⟨T, ?_, by rw [preE_eq]; exact hcl d T _ T2 hI hI2.1 hc.1 hc.2⟩
    (rw [w_plain (fn := c59) rfl rfl (by simp only [go_sem, y1, f0, ex, cl]) rfl (by decide)]; simp only [c59, c59_b, go_sem, y1, f0, ex, cl]; repeat' (first | (rw [guardO_t]; split <;> rename_i h <;> (try rw [Bool.not_eq_true] at h) <;> (try simp only [go_sem, y1, f0, ex, cl, *])) | (rw [guardO_f]; split <;> rename_i h <;> (try rw [Bool.not_eq_true] at h) <;> (try simp only [go_sem, y1, f0, ex, cl, *])) | (rw [cw_bool]; split <;> rename_i h <;> (try rw [Bool.not_eq_true] at h) <;> (try simp only [go_sem, y1, f0, ex, cl, *]))))
  · have cl : close T T2 (.bool true) = (.bool true, T2) := by unfold close; simp only [hc, Bool.false_eq_true, if_false]
    refine ⟨T2, ?_, by rw [preE_eq]; exact hI2.1⟩
    (rw [w_plain (fn := c59) rfl rfl (by simp only [go_sem, y1, f0, ex, cl]) rfl (by decide)]; simp only [c59, c59_b, go_sem, y1, f0, ex, cl]; repeat' (first | (rw [guardO_t]; split <;> rename_i h <;> (try rw [Bool.not_eq_true] at h) <;> (try simp only [go_sem, y1, f0, ex, cl, *])) | (rw [guardO_f]; split <;> rename_i h <;> (try rw [Bool.not_eq_true] at h) <;> (try simp only [go_sem, y1, f0, ex, cl, *])) | (rw [cw_bool]; split <;> rename_i h <;> (try rw [Bool.not_eq_true] at h) <;> (try simp only [go_sem, y1, f0, ex, cl, *]))))
theorem within1_rel (lp B : Nat) (I : List GExp → St → Prop) (hcl : ∀ d T d' T', I d T → I d' T' → beqO (T'.obs.take T.obs.length) T.obs = true → (T'.own.take T.own.length == T.own) = true → I d' T)
    (hj : ∀ d T k, I d T → I d ⟨T.obs ++ [.cells 38 (rExp k)], T.own⟩)
    (hy : ∀ d x T, OkExp x → I d T → d.length < B → ∃ T', cal (env ot oz) yid [.yld lp, .agg (rExp x)] T = some (.bool true, T') ∧ I (d ++ [x]) T') (e : GExp) (oe : OkExp e) (T : St) (hI : I [] T) (hB : (preE e).length ≤ B) :
    ∃ T', cal (env ot oz) 58 [.yld lp, .at_ (rExp e)] T = some (.un, T') ∧ I (preE e) T' := by
  obtain ⟨T2, c, hI2⟩ := walk_rel (ot := ot) (oz := oz) lp B I hcl hj hy e oe [] T hI (by simpa using hB)
  rw [List.nil_append] at hI2
  by_cases hc : (beqO (T2.obs.take T.obs.length) T.obs && T2.own.take T.own.length == T.own) = true
  · have cl : close T T2 (.tup []) = (.un, T) := by unfold close; simp only [hc, if_true, sealW, sealL, Option.map_some]
    simp only [Bool.and_eq_true] at hc
    refine ⟨T, ?_, hcl [] T _ T2 hI hI2 hc.1 hc.2⟩
    (rw [w_plain (fn := c58) rfl rfl (by simp only [go_sem, c, cl]) rfl (by decide)]; simp only [c58, c58_b, go_sem, c, cl]; repeat' (first | (rw [guardO_t]; split <;> rename_i h <;> (try rw [Bool.not_eq_true] at h) <;> (try simp only [go_sem, c, cl, *])) | (rw [guardO_f]; split <;> rename_i h <;> (try rw [Bool.not_eq_true] at h) <;> (try simp only [go_sem, c, cl, *])) | (rw [cw_bool]; split <;> rename_i h <;> (try rw [Bool.not_eq_true] at h) <;> (try simp only [go_sem, c, cl, *]))))
  · have cl : close T T2 (.tup []) = (.un, T2) := by unfold close; simp only [hc, Bool.false_eq_true, if_false]
    refine ⟨T2, ?_, hI2⟩
    (rw [w_plain (fn := c58) rfl rfl (by simp only [go_sem, c, cl]) rfl (by decide)]; simp only [c58, c58_b, go_sem, c, cl]; repeat' (first | (rw [guardO_t]; split <;> rename_i h <;> (try rw [Bool.not_eq_true] at h) <;> (try simp only [go_sem, c, cl, *])) | (rw [guardO_f]; split <;> rename_i h <;> (try rw [Bool.not_eq_true] at h) <;> (try simp only [go_sem, c, cl, *])) | (rw [cw_bool]; split <;> rename_i h <;> (try rw [Bool.not_eq_true] at h) <;> (try simp only [go_sem, c, cl, *]))))
end
end Go.PE
namespace Go.PE
open Go Go.RowKit Go.Proofs
set_option linter.unusedVariables false
set_option linter.unusedSimpArgs false
set_option maxRecDepth 100000
section
variable {ot : TypeId} {oz : EP}
theorem set_null (T : St) (g : Tag) : cal (env ot oz) 43 [.sl g []] T = some (.sl .ro [], T) := by
  refine cal_tag1 ?_ (fun _ _ => rfl)
  have h1 := sort_null (ot := ot) (oz := oz) .ro T
  have h2 := compact_null (ot := ot) (oz := oz) .ro T
  (rw [w_plain (fn := c43) rfl rfl (by simp only [go_sem, h1, h2]) rfl (by decide)]; simp only [c43, c43_b, go_sem, h1, h2]; repeat' (first | (rw [guardO_t]; split <;> rename_i h <;> (try rw [Bool.not_eq_true] at h) <;> (try simp only [go_sem, h1, h2, *])) | (rw [guardO_f]; split <;> rename_i h <;> (try rw [Bool.not_eq_true] at h) <;> (try simp only [go_sem, h1, h2, *])) | (rw [cw_bool]; split <;> rename_i h <;> (try rw [Bool.not_eq_true] at h) <;> (try simp only [go_sem, h1, h2, *]))))
theorem set_w (T : St) (l : Nat) (xs : List ByteArray) (t : TypeId) (hT : T.obs[l]? = some (.row t (xs.map .str))) (hn : xs ≠ []) (hs : xs.length < 4611686018427387904) :
    ∃ zs, cal (env ot oz) 43 [.msl l 0 xs.length 1] T = some (.msl l 0 (setS xs).length 1, { T with obs := T.obs.set l (.row t ((setS xs ++ zs).map .str)) }) := by
  have hl := getElem?_lt hT
  have h1 := sort_w (ot := ot) (oz := oz) T l xs t hT hn hs
  have hn2 : sortS xs ≠ [] := by intro e; have := sortS_len xs; rw [e] at this; exact hn (List.eq_nil_of_length_eq_zero this.symm)
  obtain ⟨zs, h2⟩ := compact_w (ot := ot) (oz := oz) { T with obs := T.obs.set l (.row t ((sortS xs).map .str)) } l (sortS xs) t (by simp [hl]) hn2 (by rw [sortS_len]; exact hs)
  rw [sortS_len] at h2
  have e : (cpL ((sortS xs).map tl)).map txt = setS xs := by unfold sortS setS; rw [map_tl_txt]
  rw [e] at h2
  simp only [List.set_set] at h2
  have cl := close_set T hl (.row t ((setS xs ++ zs).map .str)) 0 (setS xs).length 1
  refine ⟨zs, ?_⟩
  generalize ({ T with obs := T.obs.set l (.row t ((setS xs ++ zs).map .str)) } : St) = T2 at *
  generalize ({ T with obs := T.obs.set l (.row t ((sortS xs).map .str)) } : St) = T1 at *
  (rw [w_plain (fn := c43) rfl rfl (by simp only [go_sem, h1, h2, cl]) rfl (by decide)]; simp only [c43, c43_b, go_sem, h1, h2, cl]; repeat' (first | (rw [guardO_t]; split <;> rename_i h <;> (try rw [Bool.not_eq_true] at h) <;> (try simp only [go_sem, h1, h2, cl, *])) | (rw [guardO_f]; split <;> rename_i h <;> (try rw [Bool.not_eq_true] at h) <;> (try simp only [go_sem, h1, h2, cl, *])) | (rw [cw_bool]; split <;> rename_i h <;> (try rw [Bool.not_eq_true] at h) <;> (try simp only [go_sem, h1, h2, cl, *]))))
/-- The loop of Calls. -/
def cR (S : St) (pd : Nat) : ELoop := ⟨[7], c26_f0_a, c26_f0_b, [(2, some (.sl .null [])), (3, some (.ref S.obs.length 0))], pd, none⟩
/-- Its state. -/
def cT (S : St) (pd : Nat) (v : PV) (os : List Ob) : St := ⟨S.obs ++ .cells 26 [v] :: .loop (cR S pd) :: os, S.own⟩
def cI (S : St) (d : List GExp) (T : St) : Prop := ∃ v os, T = cT S 0 v os ∧ MRow T 9 (S.obs.length + 2) v (callN d)
theorem cT_cell (S : St) (pd : Nat) (v : PV) (os : List Ob) : (cT S pd v os).obs[S.obs.length]? = some (.cells 26 [v]) := by simp [cT]
theorem cT_loop (S : St) (pd : Nat) (v : PV) (os : List Ob) : (cT S pd v os).obs[S.obs.length + 1]? = some (.loop (cR S pd)) := by simp [cT]
theorem cT_len (S : St) (pd : Nat) (v : PV) (os : List Ob) : (cT S pd v os).obs.length = S.obs.length + 2 + os.length := by simp [cT]; omega
theorem cT_set (S : St) (pd : Nat) (v v' : PV) (os : List Ob) : (cT S pd v os).obs.set S.obs.length (.cells 26 [v']) = (cT S pd v' os).obs := by simp [cT]
theorem cT_own (S : St) (pd : Nat) (v : PV) (os : List Ob) : (cT S pd v os).own = S.own := rfl
theorem cT_setL (S : St) (pd pd' : Nat) (v : PV) (os : List Ob) : setLoop (cT S pd v os) (S.obs.length + 1) pd' none = some (cT S pd' v os) := by
  unfold setLoop
  rw [cT_loop]
  simp [cT, cR]
theorem cT_app (S : St) (pd : Nat) (v : PV) (os : List Ob) (x : Ob) : (⟨(cT S pd v os).obs ++ [x], (cT S pd v os).own⟩ : St) = cT S pd v (os ++ [x]) := by simp [cT]
theorem calls_round (S : St) (d : List GExp) (x : GExp) (T : St) (hI : cI S d T) (hd : d.length < 8000000000000) : ∃ T', cal (env ot oz) yid [.yld (S.obs.length + 1), .agg (rExp x)] T = some (.bool true, T') ∧ cI S (d ++ [x]) T' := by
  obtain ⟨v, os, rfl, hM⟩ := hI
  have key : ∀ T', run (env ot oz) (rndE (S.obs.length + 1)) [] c26_f0_b [(3, some (.ref S.obs.length 0)), (4, some (.ref (S.obs.length + 2 + os.length) 0))] (cT S 1 v (os ++ [.cells 38 (rExp x)])) = some (.bool true, T') →
      cal (env ot oz) yid [.yld (S.obs.length + 1), .agg (rExp x)] (cT S 0 v os) = some (.bool true, T') := fun T' h => by
    rw [w_yield (r := cR S 0) (vs' := [.agg (rExp x)]) rfl rfl (cT_loop S 0 v os) rfl (by simp only [cR]; kernel_rfl) (by simp only [go_sem, rExp_sl])]
    have g1 := cT_len S 0 v os
    have e1 := cT_app S 0 v os (.cells 38 (rExp x))
    have hrun : ∀ (T0 T1 : St), T0.obs.length = S.obs.length + 2 + os.length → (⟨T0.obs ++ [.cells 38 (rExp x)], T0.own⟩ : St) = T1 → run (env ot oz) (rndE (S.obs.length + 1)) [.rnd (S.obs.length + 1) (cR S 0).bd] (cR S 0).asg (bindP (cR S 0).ps [.agg (rExp x)] (cR S 0).ts) T0 = aft (env ot oz) (rndE (S.obs.length + 1)) [.rnd (S.obs.length + 1) (cR S 0).bd] .normal [(3, some (.ref S.obs.length 0)), (4, some (.ref (S.obs.length + 2 + os.length) 0))] T1 := fun T0 T1 q1 q2 => by
      have q3 : ∀ y z, (T0.obs ++ [y]).set (S.obs.length + 2 + os.length) z = T0.obs ++ [z] := fun y z => by rw [← q1]; simp
      have q4 : ∀ y, (T0.obs ++ [y])[S.obs.length + 2 + os.length]? = some y := fun y => by rw [← q1]; simp
      simp only [cR, c26_f0_a, bindP, go_sem, q1, q2, q3, q4]
    rw [hrun _ _ g1 e1, a_rnd_n (cT_loop S 0 v _) rfl (cT_setL S 0 1 v _)]
    exact h
  have g1 := cT_cell S 1 v (os ++ [.cells 38 (rExp x)])
  have g2 : (cT S 1 v (os ++ [.cells 38 (rExp x)])).obs[S.obs.length + 2 + os.length]? = some (.cells 38 (rExp x)) := by
    simp only [cT]
    rw [Nat.add_assoc, app_get]
    have : 2 + os.length = os.length + 2 := by omega
    rw [this]; simp
  cases hk : (x.K == 13) with
  | false =>
    refine ⟨cT S 0 v (os ++ [.cells 38 (rExp x)]), key _ ?_, v, _, rfl, ?_⟩
    · have e2 := cT_setL S 1 0 v (os ++ [.cells 38 (rExp x)])
      generalize cT S 1 v (os ++ [.cells 38 (rExp x)]) = T1 at *
      simp only [c26_f0_b, go_sem, g1, g2, hk, rndE, e2]
    · have : callN (d ++ [x]) = callN d := by rw [callN_app]; simp [callN, hk]
      rw [this]
      rcases hM with hM | ⟨hn, k, hv, hk2⟩
      · exact .inl hM
      · refine .inr ⟨hn, k, hv, ?_⟩
        have hlt := getElem?_lt hk2
        rw [cT_len] at hlt
        have h3 : ∀ os', (cT S 0 v os').obs[S.obs.length + 2 + k]? = os'[k]? := fun os' => by
          simp only [cT]
          rw [Nat.add_assoc, app_get]
          have : 2 + k = k + 2 := by omega
          rw [this]; simp
        rw [h3] at hk2 ⊢
        rw [List.getElem?_append_left (by omega)]; exact hk2
  | true =>
    have hcn : callN (d ++ [x]) = callN d ++ [x.Name] := by rw [callN_app]; simp [callN, hk]
    have hlen : (callN d).length ≤ d.length := callN_len d
    rcases hM with ⟨hx, rfl⟩ | ⟨hn, k, rfl, hk2⟩
    · refine ⟨cT S 0 (.msl (S.obs.length + 2 + (os.length + 1)) 0 1 1) (os ++ [.cells 38 (rExp x)] ++ [.row 9 [.str x.Name]]), key _ ?_, _, _, rfl, ?_⟩
      · have ap := appM_first (cT S 1 (.sl .null []) (os ++ [.cells 38 (rExp x)])) 9 x.Name
        have e0 := cT_app S 1 (.sl .null []) (os ++ [.cells 38 (rExp x)]) (.row 9 [.str x.Name])
        rw [e0, cT_len, List.length_append, List.length_singleton] at ap
        have e1 := cT_cell S 1 (.sl .null []) (os ++ [.cells 38 (rExp x)] ++ [.row 9 [.str x.Name]])
        have e3 := cT_set S 1 (.sl .null []) (.msl (S.obs.length + 2 + (os.length + 1)) 0 1 1) (os ++ [.cells 38 (rExp x)] ++ [.row 9 [.str x.Name]])
        have e2 := cT_setL S 1 0 (.msl (S.obs.length + 2 + (os.length + 1)) 0 1 1) (os ++ [.cells 38 (rExp x)] ++ [.row 9 [.str x.Name]])
        have e4 : ∀ v os', (⟨(cT S 1 v os').obs, S.own⟩ : St) = cT S 1 v os' := fun _ _ => rfl
        have e5 := cT_own S 1 (.sl .null []) (os ++ [.cells 38 (rExp x)] ++ [.row 9 [.str x.Name]])
        generalize hos : os ++ [Ob.cells 38 (rExp x)] ++ [.row 9 [.str x.Name]] = os2 at *
        generalize hT1 : cT S 1 (.sl .null []) (os ++ [.cells 38 (rExp x)]) = T1 at *
        generalize hT2 : cT S 1 (.sl .null []) os2 = T2 at *
        simp only [c26_f0_b, go_sem, g1, g2, hk, ap, e1, e3, e5]
        simp only [e4, rndE, e2, Option.map_some]
      · rw [hcn, hx]
        refine .inr ⟨by simp, os.length + 1, rfl, ?_⟩
        simp only [cT]
        rw [Nat.add_assoc, app_get]
        have : 2 + (os.length + 1) = (os.length + 1) + 2 := by omega
        rw [this]; simp
    · have h3 : ∀ pd v os', (cT S pd v os').obs[S.obs.length + 2 + k]? = os'[k]? := fun pd v os' => by
        simp only [cT]
        rw [Nat.add_assoc, app_get]
        have : 2 + k = k + 2 := by omega
        rw [this]; simp
      have hlt := getElem?_lt hk2
      rw [cT_len] at hlt
      have hk3 : (os ++ [Ob.cells 38 (rExp x)])[k]? = some (.row 9 ((callN d).map .str)) := by
        rw [h3] at hk2; rw [List.getElem?_append_left (by omega)]; exact hk2
      have hset : ∀ pd v os' y, (cT S pd v os').obs.set (S.obs.length + 2 + k) y = (cT S pd v (os'.set k y)).obs := fun pd v os' y => by
        simp only [cT]
        rw [Nat.add_assoc, app_set]
        have : 2 + k = k + 2 := by omega
        rw [this]; simp
      refine ⟨cT S 0 (.msl (S.obs.length + 2 + (os.length + 1)) 0 (callN d ++ [x.Name]).length 1) ((os ++ [Ob.cells 38 (rExp x)]).set k .dead ++ [.row 9 ((callN d ++ [x.Name]).map .str)]), key _ ?_, _, _, rfl, ?_⟩
      · have ap := appM_next (cT S 1 (.msl (S.obs.length + 2 + k) 0 (callN d).length 1) (os ++ [.cells 38 (rExp x)])) 9 (S.obs.length + 2 + k) (callN d) x.Name (by rw [h3]; exact hk3) hn (by omega)
        rw [hset, cT_own] at ap
        have e0 := cT_app S 1 (.msl (S.obs.length + 2 + k) 0 (callN d).length 1) ((os ++ [Ob.cells 38 (rExp x)]).set k .dead) (.row 9 ((callN d ++ [x.Name]).map .str))
        rw [cT_own] at e0
        rw [e0, cT_len, List.length_append, List.length_singleton] at ap
        have e1 := cT_cell S 1 (.msl (S.obs.length + 2 + k) 0 (callN d).length 1) ((os ++ [Ob.cells 38 (rExp x)]).set k .dead ++ [.row 9 ((callN d ++ [x.Name]).map .str)])
        have e3 := cT_set S 1 (.msl (S.obs.length + 2 + k) 0 (callN d).length 1) (.msl (S.obs.length + 2 + (os.length + 1)) 0 (callN d ++ [x.Name]).length 1) ((os ++ [Ob.cells 38 (rExp x)]).set k .dead ++ [.row 9 ((callN d ++ [x.Name]).map .str)])
        have e2 := cT_setL S 1 0 (.msl (S.obs.length + 2 + (os.length + 1)) 0 (callN d ++ [x.Name]).length 1) ((os ++ [Ob.cells 38 (rExp x)]).set k .dead ++ [.row 9 ((callN d ++ [x.Name]).map .str)])
        have e4 : ∀ v os', (⟨(cT S 1 v os').obs, S.own⟩ : St) = cT S 1 v os' := fun _ _ => rfl
        have e5 := cT_own S 1 (.msl (S.obs.length + 2 + k) 0 (callN d).length 1) ((os ++ [Ob.cells 38 (rExp x)]).set k .dead ++ [.row 9 ((callN d ++ [x.Name]).map .str)])
        generalize hN : (callN d ++ [x.Name]).length = n1 at *
        generalize hos : (os ++ [Ob.cells 38 (rExp x)]).set k .dead ++ [.row 9 ((callN d ++ [x.Name]).map .str)] = os2 at *
        generalize hT1 : cT S 1 (.msl (S.obs.length + 2 + k) 0 (callN d).length 1) (os ++ [.cells 38 (rExp x)]) = T1 at *
        generalize hT2 : cT S 1 (.msl (S.obs.length + 2 + k) 0 (callN d).length 1) os2 = T2 at *
        simp only [c26_f0_b, go_sem, g1, g2, hk, ap, e1, e3, e5]
        simp only [e4, rndE, e2, Option.map_some]
      · rw [hcn]
        refine .inr ⟨by simp, os.length + 1, rfl, ?_⟩
        simp only [cT]
        rw [Nat.add_assoc, app_get]
        have : 2 + (os.length + 1) = (os.length + 1) + 2 := by omega
        rw [this]
        have hl : ((os ++ [Ob.cells 38 (rExp x)]).set k .dead).length = os.length + 1 := by simp
        simp only [List.getElem?_cons_succ]
        rw [List.getElem?_append_right (by omega), hl]; simp
end
end Go.PE
namespace Go.PE
open Go Go.RowKit Go.Proofs
set_option linter.unusedVariables false
set_option linter.unusedSimpArgs false
set_option maxRecDepth 100000
def callsS (e : GExp) : List ByteArray := setS (callN (preE e))
section
variable {ot : TypeId} {oz : EP}
theorem cT_at (S : St) (pd : Nat) (v : PV) (os : List Ob) (k : Nat) : (cT S pd v os).obs[S.obs.length + 2 + k]? = os[k]? := by
  simp only [cT]
  rw [Nat.add_assoc, app_get]
  have : 2 + k = k + 2 := by omega
  rw [this]; simp
theorem cI_cl (S : St) (d : List GExp) (T : St) (d' : List GExp) (T' : St) (h : cI S d T) (h' : cI S d' T') (hp : beqO (T'.obs.take T.obs.length) T.obs = true) (_ho : (T'.own.take T.own.length == T.own) = true) : cI S d' T := by
  obtain ⟨v, os, rfl, hM⟩ := h
  obtain ⟨v', os', rfl, hM'⟩ := h'
  have e := beqO_sound hp
  have hv : v' = v := by
    have h1 := cT_cell S 0 v os
    rw [← e, List.getElem?_take, cT_len, if_pos (by omega), cT_cell] at h1
    injection h1 with h1; injection h1 with _ h1; injection h1
  subst hv
  refine ⟨v', os, rfl, ?_⟩
  rcases hM' with hM' | ⟨hn, k, hv, hk⟩
  · exact .inl hM'
  · refine .inr ⟨hn, k, hv, ?_⟩
    rcases hM with ⟨_, h2⟩ | ⟨_, k2, h2, h3⟩
    · rw [hv] at h2; cases h2
    · rw [hv] at h2; injection h2 with h2 _ _ _
      have : k = k2 := by omega
      subst this
      have hlt := getElem?_lt h3
      rw [← e, List.getElem?_take, if_pos hlt]; exact hk
theorem withinP (e : GExp) (S : St) : cal (env ot oz) 42 [.agg (rExp e)] S = some (.fn 58 [] [.at_ (rExp e)], S) := by
  (rw [w_plain (fn := c42) rfl rfl (by simp only [go_sem]) rfl (by decide)]; simp only [c42, c42_b, go_sem]; repeat' (first | (rw [guardO_t]; split <;> rename_i h <;> (try rw [Bool.not_eq_true] at h) <;> (try simp only [go_sem, *])) | (rw [guardO_f]; split <;> rename_i h <;> (try rw [Bool.not_eq_true] at h) <;> (try simp only [go_sem, *])) | (rw [cw_bool]; split <;> rename_i h <;> (try rw [Bool.not_eq_true] at h) <;> (try simp only [go_sem, *]))))
theorem calls_range (e : GExp) (oe : OkExp e) (hB : (preE e).length ≤ 8000000000000) (S : St) : ∃ v os, MRow (cT S 0 v os) 9 (S.obs.length + 2) v (callN (preE e)) ∧ ∀ fin st, run (env ot oz) fin st (.rangeF (some [2, 3]) (.tmp 6) [7] c26_f0_a c26_f0_b) [(2, some (.sl .null [])), (3, some (.ref S.obs.length 0)), (6, some (.fn 58 [] [.at_ (rExp e)]))] ⟨S.obs ++ [.cells 26 [.sl .null []]], S.own⟩ =
    aft (env ot oz) fin st .normal [(2, some (.sl .null [])), (3, some (.ref S.obs.length 0))] (cT S 3 v os) := by
  obtain ⟨T', c, v, os, rfl, hM⟩ := within1_rel (ot := ot) (oz := oz) (S.obs.length + 1) 8000000000000 (cI S) (cI_cl S) (fun d T k h => by
    obtain ⟨v, os, rfl, hM⟩ := h
    refine ⟨v, _, cT_app S 0 v os _, ?_⟩
    rw [cT_app]
    rcases hM with hM | ⟨hn, k, hv, hk⟩
    · exact .inl hM
    · refine .inr ⟨hn, k, hv, ?_⟩
      have hlt := getElem?_lt hk
      rw [cT_len] at hlt
      rw [cT_at] at hk ⊢
      rw [List.getElem?_append_left (by omega)]; exact hk) (fun d x T _ hI hd => calls_round S d x T hI hd) e oe (cT S 0 (.sl .null []) []) ⟨_, _, rfl, .inl ⟨rfl, rfl⟩⟩ hB
  refine ⟨v, os, hM, fun fin st => ?_⟩
  rw [w_range (f := 58) (first := []) (caps := [.at_ (rExp e)]) (by simp only [go_sem])]
  have e1 : (⟨S.obs ++ [Ob.cells 26 [.sl .null []]], S.own⟩ : St).obs.length = S.obs.length + 1 := by simp
  have e2 : ({ (⟨S.obs ++ [Ob.cells 26 [.sl .null []]], S.own⟩ : St) with obs := (⟨S.obs ++ [Ob.cells 26 [.sl .null []]], S.own⟩ : St).obs ++ [.loop ⟨[7], c26_f0_a, c26_f0_b, sel (some [2, 3]) [(2, some (.sl .null [])), (3, some (.ref S.obs.length 0)), (6, some (.fn 58 [] [.at_ (rExp e)]))], 0, none⟩] } : St) = cT S 0 (.sl .null []) [] := by
    simp [cT, cR, sel, PE.look]
  rw [e2, e1]
  simp only [List.nil_append, List.cons_append]
  rw [c]
  simp only [stepFw, cT_loop, stepFw2, cR]
  rw [if_neg (by decide)]
  simp [cT, cR, pendX, sel, PE.look]
theorem callsP (e : GExp) (oe : OkExp e) (hB : (preE e).length ≤ 8000000000000) (S : St) : cal (env ot oz) 26 [.agg (rExp e)] S = some (.sl .ro ((callsS e).map rStr), S) := by
  have w := withinP (ot := ot) (oz := oz) e
  obtain ⟨v, os, hM, hr⟩ := calls_range (ot := ot) (oz := oz) e oe hB S
  have g1 := cT_cell S 3 v os
  rcases hM with ⟨hx, rfl⟩ | ⟨hn, k, rfl, hk⟩
  · have hs := set_null (ot := ot) (oz := oz) (cT S 3 (.sl .null []) os) .null
    have cl : close S (cT S 3 (.sl .null []) os) (.sl .ro []) = (.sl .ro [], S) := by
      unfold cT; rw [close_junk1]; simp [sealW, sealLL]
    have e0 : callsS e = [] := by unfold callsS; rw [hx]; rfl
    generalize cT S 3 (.sl .null []) os = T at *
    (rw [w_plain (fn := c26) rfl rfl (by simp only [go_sem, w, hr, g1, hs, cl, e0]) rfl (by decide)]; simp only [c26, c26_b, go_sem, w, hr, g1, hs, cl, e0]; repeat' (first | (rw [guardO_t]; split <;> rename_i h <;> (try rw [Bool.not_eq_true] at h) <;> (try simp only [go_sem, w, hr, g1, hs, cl, e0, *])) | (rw [guardO_f]; split <;> rename_i h <;> (try rw [Bool.not_eq_true] at h) <;> (try simp only [go_sem, w, hr, g1, hs, cl, e0, *])) | (rw [cw_bool]; split <;> rename_i h <;> (try rw [Bool.not_eq_true] at h) <;> (try simp only [go_sem, w, hr, g1, hs, cl, e0, *]))))
  · have hl : (callN (preE e)).length ≤ 8000000000000 := Nat.le_trans (callN_len _) hB
    have hk2 : (cT S 3 (.msl (S.obs.length + 2 + k) 0 (callN (preE e)).length 1) os).obs[S.obs.length + 2 + k]? = some (.row 9 ((callN (preE e)).map .str)) := by
      rw [cT_at] at hk ⊢; exact hk
    obtain ⟨zs, hs⟩ := set_w (ot := ot) (oz := oz) (cT S 3 (.msl (S.obs.length + 2 + k) 0 (callN (preE e)).length 1) os) (S.obs.length + 2 + k) (callN (preE e)) 9 hk2 hn (by omega)
    have hkl : k < os.length := by rw [cT_at] at hk; exact getElem?_lt hk
    have e2 : (cT S 3 (.msl (S.obs.length + 2 + k) 0 (callN (preE e)).length 1) os).obs.set (S.obs.length + 2 + k) (.row 9 ((setS (callN (preE e)) ++ zs).map .str)) = S.obs ++ (Ob.cells 26 [.msl (S.obs.length + 2 + k) 0 (callN (preE e)).length 1] :: .loop (cR S 3) :: os.set k (.row 9 ((setS (callN (preE e)) ++ zs).map .str))) := by
      simp only [cT]
      rw [Nat.add_assoc, app_set]
      have : 2 + k = k + 2 := by omega
      rw [this]; simp
    rw [e2, cT_own] at hs
    have cl := close_msl S (Ob.cells 26 [.msl (S.obs.length + 2 + k) 0 (callN (preE e)).length 1] :: .loop (cR S 3) :: os.set k (.row 9 ((setS (callN (preE e)) ++ zs).map .str))) (k + 2) 9 (setS (callN (preE e))) zs (by simp [hkl])
    have e3 : S.obs.length + (k + 2) = S.obs.length + 2 + k := by omega
    rw [e3] at cl
    have e0 : callsS e = setS (callN (preE e)) := rfl
    generalize (⟨S.obs ++ (Ob.cells 26 [.msl (S.obs.length + 2 + k) 0 (callN (preE e)).length 1] :: .loop (cR S 3) :: os.set k (.row 9 ((setS (callN (preE e)) ++ zs).map .str))), S.own⟩ : St) = T2 at *
    generalize cT S 3 (.msl (S.obs.length + 2 + k) 0 (callN (preE e)).length 1) os = T at *
    (rw [w_plain (fn := c26) rfl rfl (by simp only [go_sem, w, hr, g1, hs, cl, e0]) rfl (by decide)]; simp only [c26, c26_b, go_sem, w, hr, g1, hs, cl, e0]; repeat' (first | (rw [guardO_t]; split <;> rename_i h <;> (try rw [Bool.not_eq_true] at h) <;> (try simp only [go_sem, w, hr, g1, hs, cl, e0, *])) | (rw [guardO_f]; split <;> rename_i h <;> (try rw [Bool.not_eq_true] at h) <;> (try simp only [go_sem, w, hr, g1, hs, cl, e0, *])) | (rw [cw_bool]; split <;> rename_i h <;> (try rw [Bool.not_eq_true] at h) <;> (try simp only [go_sem, w, hr, g1, hs, cl, e0, *]))))
end
end Go.PE
