/-
  Expressions as texts: what the text is, and how long it is at most. No conditions.
-/
import Derived.Test.YtleggogbmklddaaGreatDoorEX5
import Derived.Test.YtleggogbmklddaaGreatDoorF5d
import Derived.Test.YtleggogbmklddaaGreatDoorR3Q
import Derived.Test.YtleggogbmklddaaGreatDoorPKN
namespace Go.PE
open Go Go.RowKit Go.Proofs
set_option linter.unusedVariables false
set_option linter.unusedSimpArgs false
set_option maxRecDepth 100000
/-- An operation's sign. -/
def opS (n : Int) : ByteArray := if n == 1 then ⟨#[43]⟩ else if n == 2 then ⟨#[45]⟩ else if n == 3 then ⟨#[42]⟩ else if n == 4 then ⟨#[47]⟩ else if n == 5 then ⟨#[43, 43]⟩ else if n == 6 then ⟨#[60]⟩ else if n == 7 then ⟨#[61, 61]⟩ else ⟨#[]⟩
/-- How tightly an operation binds, and an expression. -/
def tightO (n : Int) : Int := if (n == 6) || (n == 7) then 1 else if (n == 3) || (n == 4) then 3 else 2
def tightE (e : GExp) : Int := if (e.K == 5) || (e.K == 6) || (e.K == 7) then 0 else if e.K == 11 then tightO e.N else if (e.K == 8) || (e.K == 10) then 4 else 5
def atS (e : GExp) (s : ByteArray) (n : Int) : ByteArray := if decide (tightE e < n) then ⟨#[40]⟩ ++ s ++ ⟨#[41]⟩ else s
def boundS (e : GExp) : ByteArray := match e.Types with
  | [] => e.Name
  | t :: _ => e.Name ++ ⟨#[58, 32]⟩ ++ showT t
/-- The texts of Kids, each with its label. -/
def fieldsE : List ByteArray → List ByteArray → List ByteArray
  | l :: ls, s :: ss => (l ++ ⟨#[32, 61, 32]⟩ ++ s) :: fieldsE ls ss
  | _, _ => []
def callS (e : GExp) : ByteArray := if e.Has then ⟨#[91]⟩ ++ listT e.Types ++ ⟨#[93]⟩ else ⟨#[]⟩
def commaS (ss : List ByteArray) : ByteArray := txt (joinL [44, 32] ss)
def formE (e : GExp) (ss : List ByteArray) : ByteArray :=
  if e.K = 1 then numS e.N else if e.K = 2 then (if e.N == 1 then ⟨#[116, 114, 117, 101]⟩ else ⟨#[102, 97, 108, 115, 101]⟩) else if e.K = 3 then quoteS e.Name else if e.K = 4 then e.Name
  else if e.K = 9 then ⟨#[123]⟩ ++ commaS (fieldsE e.Labels ss) ++ ⟨#[125]⟩
  else if e.K = 13 then ⟨#[99, 97, 108, 108, 32]⟩ ++ e.Name ++ callS e ++ ⟨#[40]⟩ ++ commaS ss ++ ⟨#[41]⟩
  else match e.Kids, ss, e.Types with
    | [x], [a], [t] => if e.K = 7 then ⟨#[102, 110, 32]⟩ ++ boundS e ++ ⟨#[32, 61, 62, 32]⟩ ++ a else if e.K = 12 then ⟨#[40]⟩ ++ a ++ ⟨#[32, 58, 32]⟩ ++ showT t ++ ⟨#[41]⟩ else ⟨#[]⟩
    | [x], [a], [] => if e.K = 7 then ⟨#[102, 110, 32]⟩ ++ boundS e ++ ⟨#[32, 61, 62, 32]⟩ ++ a else if e.K = 10 then atS x a 4 ++ ⟨#[46]⟩ ++ e.Name else ⟨#[]⟩
    | [x, y], [a, b], _ => if e.K = 5 then ⟨#[108, 101, 116, 32]⟩ ++ boundS e ++ ⟨#[32, 61, 32]⟩ ++ a ++ ⟨#[32, 105, 110, 32]⟩ ++ b else if e.K = 8 then atS x a 4 ++ ⟨#[40]⟩ ++ b ++ ⟨#[41]⟩
        else if e.K = 11 then atS x a (max (tightO e.N) 2) ++ ⟨#[32]⟩ ++ opS e.N ++ ⟨#[32]⟩ ++ atS y b (tightO e.N + 1) else ⟨#[]⟩
    | [_, _, _], [a, b, c], _ => if e.K = 6 then ⟨#[105, 102, 32]⟩ ++ a ++ ⟨#[32, 116, 104, 101, 110, 32]⟩ ++ b ++ ⟨#[32, 101, 108, 115, 101, 32]⟩ ++ c else ⟨#[]⟩
    | _, _, _ => ⟨#[]⟩
mutual
/-- A right expression's text. -/
def showE : GExp → ByteArray
  | .mk K N Name Has Types Labels Kids => formE (.mk K N Name Has Types Labels Kids) (showKs Kids)
def showKs : List GExp → List ByteArray
  | [] => []
  | a :: l => showE a :: showKs l
end
theorem showE_eq (e : GExp) : showE e = formE e (showKs e.Kids) := by cases e; rw [showE]; rfl
theorem showKs_map : ∀ l, showKs l = l.map showE
  | [] => by simp [showKs]
  | a :: l => by rw [showKs, showKs_map l]; rfl
/-! ### what a right expression is like -/
theorem own_kinds {e : GExp} (h : ownE e = true) : (e.K = 1 ∨ e.K = 2 ∨ e.K = 3 ∨ e.K = 4 ∨ e.K = 5 ∨ e.K = 6 ∨ e.K = 7 ∨ e.K = 8 ∨ e.K = 9 ∨ e.K = 10 ∨ e.K = 11 ∨ e.K = 12 ∨ e.K = 13) := by
  unfold ownE at h
  grind
theorem own_facts {e : GExp} (h : ownE e = true) : typesOk e.Types = true ∧ (e.K = 1 → e.Kids.length = 0 ∧ 0 ≤ e.N) ∧ (e.K = 2 → e.Kids.length = 0 ∧ (e.N = 0 ∨ e.N = 1)) ∧ (e.K = 3 → e.Kids.length = 0) ∧ (e.K = 4 → e.Kids.length = 0) ∧ (e.K = 5 → e.Kids.length = 2 ∧ e.Types.length ≤ 1) ∧ (e.K = 6 → e.Kids.length = 3) ∧ (e.K = 7 → e.Kids.length = 1 ∧ e.Types.length ≤ 1) ∧
    (e.K = 8 → e.Kids.length = 2) ∧ (e.K = 9 → e.Kids.length = e.Labels.length ∧ e.Kids.length ≤ 6) ∧ (e.K = 10 → e.Kids.length = 1 ∧ e.Types.length = 0) ∧ (e.K = 11 → e.Kids.length = 2) ∧ (e.K = 12 → e.Kids.length = 1 ∧ e.Types.length = 1) ∧ (e.K = 13 → e.Kids.length ≤ 4 ∧ e.Types.length ≤ 3) := by
  rw [own_eq] at h
  simp only [wordE, numE, typE, beaE] at h
  generalize strEq e.Name ⟨#[]⟩ = sn at *
  generalize fineS e.Name = fn at *
  generalize (e.Name.size : Int) = sz at *
  generalize typesOk e.Types = ty at *
  generalize risingS e.Labels = ri at *
  generalize e.Types.length = t at *
  generalize e.Kids.length = k at *
  generalize e.Labels.length = n at *
  generalize e.K = K at *
  generalize e.N = N at *
  generalize e.Has = H at *
  refine ⟨?_, fun hK => ?_, fun hK => ?_, fun hK => ?_, fun hK => ?_, fun hK => ?_, fun hK => ?_, fun hK => ?_, fun hK => ?_, fun hK => ?_, fun hK => ?_, fun hK => ?_, fun hK => ?_, fun hK => ?_⟩
  · simp only [Bool.and_eq_true] at h; exact h.2.2.2.2.2
  all_goals subst hK; simp at h; first | omega | grind
theorem showE_1 {e : GExp} (hK : e.K = 1) : showE e = numS e.N := by
  rw [showE_eq]; unfold formE; simp only [hK, showKs, showKs_map, List.map_cons, List.map_nil, Int.reduceEq, if_true, if_false]
theorem showE_2 {e : GExp} (hK : e.K = 2) : showE e = if e.N == 1 then ⟨#[116, 114, 117, 101]⟩ else ⟨#[102, 97, 108, 115, 101]⟩ := by
  rw [showE_eq]; unfold formE; simp only [hK, showKs, showKs_map, List.map_cons, List.map_nil, Int.reduceEq, if_true, if_false]
theorem showE_3 {e : GExp} (hK : e.K = 3) : showE e = quoteS e.Name := by
  rw [showE_eq]; unfold formE; simp only [hK, showKs, showKs_map, List.map_cons, List.map_nil, Int.reduceEq, if_true, if_false]
theorem showE_4 {e : GExp} (hK : e.K = 4) : showE e = e.Name := by
  rw [showE_eq]; unfold formE; simp only [hK, showKs, showKs_map, List.map_cons, List.map_nil, Int.reduceEq, if_true, if_false]
theorem showE_5 {e : GExp} {x y : GExp} (hK : e.K = 5) (hk : e.Kids = [x, y]) : showE e = ⟨#[108, 101, 116, 32]⟩ ++ boundS e ++ ⟨#[32, 61, 32]⟩ ++ showE x ++ ⟨#[32, 105, 110, 32]⟩ ++ showE y := by
  rw [showE_eq]; unfold formE; simp only [hK, hk, showKs, showKs_map, List.map_cons, List.map_nil, Int.reduceEq, if_true, if_false]
theorem showE_6 {e : GExp} {x y z : GExp} (hK : e.K = 6) (hk : e.Kids = [x, y, z]) : showE e = ⟨#[105, 102, 32]⟩ ++ showE x ++ ⟨#[32, 116, 104, 101, 110, 32]⟩ ++ showE y ++ ⟨#[32, 101, 108, 115, 101, 32]⟩ ++ showE z := by
  rw [showE_eq]; unfold formE; simp only [hK, hk, showKs, showKs_map, List.map_cons, List.map_nil, Int.reduceEq, if_true, if_false]
theorem showE_7 {e : GExp} {x : GExp} (hK : e.K = 7) (hk : e.Kids = [x]) (ht : e.Types.length ≤ 1) : showE e = ⟨#[102, 110, 32]⟩ ++ boundS e ++ ⟨#[32, 61, 62, 32]⟩ ++ showE x := by
  rw [showE_eq]; unfold formE
  match q : e.Types, ht with
  | [], _ => simp only [hK, hk, q, showKs, Int.reduceEq, if_true, if_false]
  | [t], _ => simp only [hK, hk, q, showKs, Int.reduceEq, if_true, if_false]
theorem showE_8 {e : GExp} {x y : GExp} (hK : e.K = 8) (hk : e.Kids = [x, y]) : showE e = atS x (showE x) 4 ++ ⟨#[40]⟩ ++ showE y ++ ⟨#[41]⟩ := by
  rw [showE_eq]; unfold formE; simp only [hK, hk, showKs, showKs_map, List.map_cons, List.map_nil, Int.reduceEq, if_true, if_false]
theorem showE_9 {e : GExp} (hK : e.K = 9) : showE e = ⟨#[123]⟩ ++ commaS (fieldsE e.Labels (e.Kids.map showE)) ++ ⟨#[125]⟩ := by
  rw [showE_eq]; unfold formE; simp only [hK, showKs, showKs_map, List.map_cons, List.map_nil, Int.reduceEq, if_true, if_false]
theorem showE_10 {e : GExp} {x : GExp} (hK : e.K = 10) (hk : e.Kids = [x]) (ht : e.Types = []) : showE e = atS x (showE x) 4 ++ ⟨#[46]⟩ ++ e.Name := by
  rw [showE_eq]; unfold formE; simp only [hK, hk, ht, showKs, showKs_map, List.map_cons, List.map_nil, Int.reduceEq, if_true, if_false]
theorem showE_11 {e : GExp} {x y : GExp} (hK : e.K = 11) (hk : e.Kids = [x, y]) : showE e = atS x (showE x) (max (tightO e.N) 2) ++ ⟨#[32]⟩ ++ opS e.N ++ ⟨#[32]⟩ ++ atS y (showE y) (tightO e.N + 1) := by
  rw [showE_eq]; unfold formE; simp only [hK, hk, showKs, showKs_map, List.map_cons, List.map_nil, Int.reduceEq, if_true, if_false]
theorem showE_12 {e : GExp} {x : GExp} {t : GTy} (hK : e.K = 12) (hk : e.Kids = [x]) (ht : e.Types = [t]) : showE e = ⟨#[40]⟩ ++ showE x ++ ⟨#[32, 58, 32]⟩ ++ showT t ++ ⟨#[41]⟩ := by
  rw [showE_eq]; unfold formE; simp only [hK, hk, ht, showKs, showKs_map, List.map_cons, List.map_nil, Int.reduceEq, if_true, if_false]
theorem showE_13 {e : GExp} (hK : e.K = 13) : showE e = ⟨#[99, 97, 108, 108, 32]⟩ ++ e.Name ++ callS e ++ ⟨#[40]⟩ ++ commaS (e.Kids.map showE) ++ ⟨#[41]⟩ := by
  rw [showE_eq]; unfold formE; simp only [hK, showKs, showKs_map, List.map_cons, List.map_nil, Int.reduceEq, if_true, if_false]
/-! ### how long it is -/
theorem bulk_expEq (e : GExp) : bulkL (rExp e) = 3 + (e.Name.size + 1) + (bulkLL (e.Types.map rTy) + 1) + (bulkLL (e.Labels.map rStr) + 1) + (bulkLL (e.Kids.map rExp) + 1) := by
  rw [rExp_eq]; simp only [bulkL, PV.bulk]; omega
theorem bulkLL_cons {α : Type} (r : α → List PV) (a : α) (l : List α) : bulkLL ((a :: l).map r) = bulkL (r a) + bulkLL (l.map r) := by rw [List.map_cons, bulkLL]
theorem lz0 : (ByteArray.mk #[]).size = 0 := rfl
theorem lz1 : (ByteArray.mk #[102, 110, 32]).size = 3 := rfl
theorem lz2 : (ByteArray.mk #[102, 97, 108, 115, 101]).size = 5 := rfl
theorem lz3 : (ByteArray.mk #[105, 102, 32]).size = 3 := rfl
theorem lz4 : (ByteArray.mk #[108, 101, 116, 32]).size = 4 := rfl
theorem lz5 : (ByteArray.mk #[116, 114, 117, 101]).size = 4 := rfl
theorem lz6 : (ByteArray.mk #[123]).size = 1 := rfl
theorem lz7 : (ByteArray.mk #[125]).size = 1 := rfl
theorem lz8 : (ByteArray.mk #[32]).size = 1 := rfl
theorem lz9 : (ByteArray.mk #[32, 101, 108, 115, 101, 32]).size = 6 := rfl
theorem lz10 : (ByteArray.mk #[32, 105, 110, 32]).size = 4 := rfl
theorem lz11 : (ByteArray.mk #[32, 116, 104, 101, 110, 32]).size = 6 := rfl
theorem lz12 : (ByteArray.mk #[32, 58, 32]).size = 3 := rfl
theorem lz13 : (ByteArray.mk #[32, 61, 32]).size = 3 := rfl
theorem lz14 : (ByteArray.mk #[32, 61, 62, 32]).size = 4 := rfl
theorem lz15 : (ByteArray.mk #[40]).size = 1 := rfl
theorem lz16 : (ByteArray.mk #[41]).size = 1 := rfl
theorem lz17 : (ByteArray.mk #[42]).size = 1 := rfl
theorem lz18 : (ByteArray.mk #[43]).size = 1 := rfl
theorem lz19 : (ByteArray.mk #[43, 43]).size = 2 := rfl
theorem lz20 : (ByteArray.mk #[45]).size = 1 := rfl
theorem lz21 : (ByteArray.mk #[46]).size = 1 := rfl
theorem lz22 : (ByteArray.mk #[47]).size = 1 := rfl
theorem lz23 : (ByteArray.mk #[58, 32]).size = 2 := rfl
theorem lz24 : (ByteArray.mk #[60]).size = 1 := rfl
theorem lz25 : (ByteArray.mk #[61, 61]).size = 2 := rfl
theorem lz26 : (ByteArray.mk #[91]).size = 1 := rfl
theorem lz27 : (ByteArray.mk #[93]).size = 1 := rfl
theorem lz28 : (ByteArray.mk #[99, 97, 108, 108, 32]).size = 5 := rfl
theorem bound_size (e : GExp) : (boundS e).size ≤ e.Name.size + 2 + 10 * bulkLL (e.Types.map rTy) := by
  unfold boundS
  split
  · omega
  · rename_i t l h
    have := showT_bulk t
    rw [h, bulkLL_cons]
    simp only [app_size, lz0, lz1, lz2, lz3, lz4, lz5, lz6, lz7, lz8, lz9, lz10, lz11, lz12, lz13, lz14, lz15, lz16, lz17, lz18, lz19, lz20, lz21, lz22, lz23, lz24, lz25, lz26, lz27, lz28]
    omega
theorem joinR_le {c : Nat} : ∀ ts : List ByteArray, (joinR [44, 32] ts).length = (ts.map fun t => t.size + 2).sum
  | [] => rfl
  | t :: r => by
    have := joinR_le (c := c) r
    simp only [joinR, List.length_append, size_data, List.length_cons, List.length_nil, List.map_cons, List.sum_cons, this]; omega
theorem comma_size (ts : List ByteArray) : (commaS ts).size ≤ (ts.map fun t => t.size + 2).sum := by
  have := joinL_R [44, 32] ts
  rw [joinR_le (c := 0)] at this
  unfold commaS
  rw [txt_size]; exact this
theorem listT_size (l : List GTy) : (listT l).size ≤ 11 * bulkLL (l.map rTy) := by
  have h : (listT l).size ≤ ((l.map showT).map fun t => t.size + 2).sum := comma_size _
  refine Nat.le_trans h ?_
  clear h
  induction l with
  | nil => simp [bulkLL]
  | cons t l ih =>
    have := showT_bulk t
    have h5 : 2 ≤ bulkL (rTy t) := by rw [bulk_ty]; omega
    rw [bulkLL_cons, List.map_cons, List.map_cons, List.sum_cons]; omega
theorem callS_size (e : GExp) : (callS e).size ≤ 2 + 11 * bulkLL (e.Types.map rTy) := by
  unfold callS
  split
  · have := listT_size e.Types
    simp only [app_size, lz0, lz1, lz2, lz3, lz4, lz5, lz6, lz7, lz8, lz9, lz10, lz11, lz12, lz13, lz14, lz15, lz16, lz17, lz18, lz19, lz20, lz21, lz22, lz23, lz24, lz25, lz26, lz27, lz28]; omega
  · show 0 ≤ _; omega
theorem qc_len (c : UInt8) : (qc c).length ≤ 4 := by
  unfold qc
  split
  · simp
  · split
    · simp
    · split <;> simp
theorem quote_size (s : ByteArray) : (quoteS s).size ≤ 4 * s.size + 2 := by
  unfold quoteS
  have h : ∀ l : List UInt8, (l.flatMap qc).length ≤ 4 * l.length := fun l => by
    induction l with
    | nil => simp
    | cons c l ih => have := qc_len c; simp only [List.flatMap_cons, List.length_append, List.length_cons]; omega
  have := h s.data.toList
  rw [txt_size]
  simp only [List.length_append, List.length_cons, List.length_nil, size_data] at this ⊢
  omega
theorem at_size (e : GExp) (s : ByteArray) (n : Int) : (atS e s n).size ≤ s.size + 2 := by
  unfold atS
  split
  · simp only [app_size, lz0, lz1, lz2, lz3, lz4, lz5, lz6, lz7, lz8, lz9, lz10, lz11, lz12, lz13, lz14, lz15, lz16, lz17, lz18, lz19, lz20, lz21, lz22, lz23, lz24, lz25, lz26, lz27, lz28]; omega
  · omega
theorem op_size (n : Int) : (opS n).size ≤ 2 := by
  unfold opS
  repeat' split
  all_goals decide
theorem fields_size : ∀ (ls : List ByteArray) (ss : List ByteArray), ((fieldsE ls ss).map fun t => t.size + 2).sum ≤ 24 * bulkLL (ls.map rStr) + (ss.map fun s => s.size).sum
  | [], ss => by simp [fieldsE]
  | l :: ls, [] => by simp [fieldsE]
  | l :: ls, s :: ss => by
    have ih := fields_size ls ss
    have hb : bulkL (rStr l) = l.size + 1 := by simp [rStr, bulkL, PV.bulk]
    rw [fieldsE, bulkLL_cons, List.map_cons, List.sum_cons, List.map_cons, List.sum_cons, hb]
    simp only [app_size, lz0, lz1, lz2, lz3, lz4, lz5, lz6, lz7, lz8, lz9, lz10, lz11, lz12, lz13, lz14, lz15, lz16, lz17, lz18, lz19, lz20, lz21, lz22, lz23, lz24, lz25, lz26, lz27, lz28]; omega
theorem lenIs1 {α : Type} {l : List α} (h : l.length = 1) : ∃ a, l = [a] := by match l, h with | [a], _ => exact ⟨a, rfl⟩
theorem lenIs2 {α : Type} {l : List α} (h : l.length = 2) : ∃ a b, l = [a, b] := by match l, h with | [a, b], _ => exact ⟨a, b, rfl⟩
theorem lenIs3 {α : Type} {l : List α} (h : l.length = 3) : ∃ a b c, l = [a, b, c] := by match l, h with | [a, b, c], _ => exact ⟨a, b, c, rfl⟩
theorem right_own {e : GExp} (h : rightE e = true) : ownE e = true ∧ ∀ k ∈ e.Kids, rightE k = true := by
  rw [rightE_eq, Bool.and_eq_true, rightEs_all, List.all_eq_true] at h; exact h
theorem show_bulk : ∀ (e : GExp), rightE e = true → (showE e).size + 8 ≤ 24 * bulkL (rExp e) := by
  refine GExp.ind fun e ih hr => ?_
  obtain ⟨ho, hk⟩ := right_own hr
  have f := own_facts ho
  have hb := bulk_expEq e
  have b1 := bound_size e
  have sums : ∀ l : List GExp, (∀ k ∈ l, (showE k).size + 8 ≤ 24 * bulkL (rExp k)) → (((l.map showE).map fun t => t.size + 2).sum ≤ 24 * bulkLL (l.map rExp) ∧ ((l.map showE).map fun t => t.size).sum ≤ 24 * bulkLL (l.map rExp)) := fun l => by
    induction l with
    | nil => intro _; simp [bulkLL]
    | cons a l ih =>
      intro h
      have h1 := h a (by simp)
      have h2 := ih fun k hk => h k (by simp [hk])
      rw [bulkLL_cons]
      simp only [List.map_cons, List.sum_cons]; omega
  have sm := sums e.Kids fun k hk' => ih k hk' (hk k hk')
  rcases own_kinds ho with hK | hK | hK | hK | hK | hK | hK | hK | hK | hK | hK | hK | hK
  · rw [showE_1 hK]; have := numS_21 e.N; omega
  · rw [showE_2 hK]; split <;> (simp only [lz0, lz1, lz2, lz3, lz4, lz5, lz6, lz7, lz8, lz9, lz10, lz11, lz12, lz13, lz14, lz15, lz16, lz17, lz18, lz19, lz20, lz21, lz22, lz23, lz24, lz25, lz26, lz27, lz28]; omega)
  · rw [showE_3 hK]; have := quote_size e.Name; omega
  · rw [showE_4 hK]; omega
  · obtain ⟨x, y, hxy⟩ := lenIs2 (f.2.2.2.2.2.1 hK).1
    have h1 := ih x (by simp [hxy]) (hk x (by simp [hxy]))
    have h2 := ih y (by simp [hxy]) (hk y (by simp [hxy]))
    have h3 : bulkLL (e.Kids.map rExp) = bulkL (rExp x) + bulkL (rExp y) := by rw [hxy]; simp [bulkLL]
    rw [showE_5 hK hxy]
    simp only [app_size, lz0, lz1, lz2, lz3, lz4, lz5, lz6, lz7, lz8, lz9, lz10, lz11, lz12, lz13, lz14, lz15, lz16, lz17, lz18, lz19, lz20, lz21, lz22, lz23, lz24, lz25, lz26, lz27, lz28]; omega
  · obtain ⟨x, y, z, hxy⟩ := lenIs3 (f.2.2.2.2.2.2.1 hK)
    have h1 := ih x (by simp [hxy]) (hk x (by simp [hxy]))
    have h2 := ih y (by simp [hxy]) (hk y (by simp [hxy]))
    have h4 := ih z (by simp [hxy]) (hk z (by simp [hxy]))
    have h3 : bulkLL (e.Kids.map rExp) = bulkL (rExp x) + (bulkL (rExp y) + bulkL (rExp z)) := by rw [hxy]; simp [bulkLL]
    rw [showE_6 hK hxy]
    simp only [app_size, lz0, lz1, lz2, lz3, lz4, lz5, lz6, lz7, lz8, lz9, lz10, lz11, lz12, lz13, lz14, lz15, lz16, lz17, lz18, lz19, lz20, lz21, lz22, lz23, lz24, lz25, lz26, lz27, lz28]; omega
  · obtain ⟨x, hxy⟩ := lenIs1 (f.2.2.2.2.2.2.2.1 hK).1
    have h1 := ih x (by simp [hxy]) (hk x (by simp [hxy]))
    have h3 : bulkLL (e.Kids.map rExp) = bulkL (rExp x) := by rw [hxy]; simp [bulkLL]
    rw [showE_7 hK hxy (f.2.2.2.2.2.2.2.1 hK).2]
    simp only [app_size, lz0, lz1, lz2, lz3, lz4, lz5, lz6, lz7, lz8, lz9, lz10, lz11, lz12, lz13, lz14, lz15, lz16, lz17, lz18, lz19, lz20, lz21, lz22, lz23, lz24, lz25, lz26, lz27, lz28]; omega
  · obtain ⟨x, y, hxy⟩ := lenIs2 (f.2.2.2.2.2.2.2.2.1 hK)
    have h1 := ih x (by simp [hxy]) (hk x (by simp [hxy]))
    have h2 := ih y (by simp [hxy]) (hk y (by simp [hxy]))
    have h3 : bulkLL (e.Kids.map rExp) = bulkL (rExp x) + bulkL (rExp y) := by rw [hxy]; simp [bulkLL]
    have h4 := at_size x (showE x) 4
    rw [showE_8 hK hxy]
    simp only [app_size, lz0, lz1, lz2, lz3, lz4, lz5, lz6, lz7, lz8, lz9, lz10, lz11, lz12, lz13, lz14, lz15, lz16, lz17, lz18, lz19, lz20, lz21, lz22, lz23, lz24, lz25, lz26, lz27, lz28]; omega
  · rw [showE_9 hK]
    have h1 := comma_size (fieldsE e.Labels (e.Kids.map showE))
    have h2 := fields_size e.Labels (e.Kids.map showE)
    simp only [app_size, lz0, lz1, lz2, lz3, lz4, lz5, lz6, lz7, lz8, lz9, lz10, lz11, lz12, lz13, lz14, lz15, lz16, lz17, lz18, lz19, lz20, lz21, lz22, lz23, lz24, lz25, lz26, lz27, lz28]; omega
  · obtain ⟨x, hxy⟩ := lenIs1 (f.2.2.2.2.2.2.2.2.2.2.1 hK).1
    have h1 := ih x (by simp [hxy]) (hk x (by simp [hxy]))
    have h3 : bulkLL (e.Kids.map rExp) = bulkL (rExp x) := by rw [hxy]; simp [bulkLL]
    have h4 := at_size x (showE x) 4
    rw [showE_10 hK hxy (List.eq_nil_of_length_eq_zero (f.2.2.2.2.2.2.2.2.2.2.1 hK).2)]
    simp only [app_size, lz0, lz1, lz2, lz3, lz4, lz5, lz6, lz7, lz8, lz9, lz10, lz11, lz12, lz13, lz14, lz15, lz16, lz17, lz18, lz19, lz20, lz21, lz22, lz23, lz24, lz25, lz26, lz27, lz28]; omega
  · obtain ⟨x, y, hxy⟩ := lenIs2 (f.2.2.2.2.2.2.2.2.2.2.2.1 hK)
    have h1 := ih x (by simp [hxy]) (hk x (by simp [hxy]))
    have h2 := ih y (by simp [hxy]) (hk y (by simp [hxy]))
    have h3 : bulkLL (e.Kids.map rExp) = bulkL (rExp x) + bulkL (rExp y) := by rw [hxy]; simp [bulkLL]
    have h4 := at_size x (showE x) (max (tightO e.N) 2)
    have h5 := at_size y (showE y) (tightO e.N + 1)
    have h6 := op_size e.N
    rw [showE_11 hK hxy]
    simp only [app_size, lz0, lz1, lz2, lz3, lz4, lz5, lz6, lz7, lz8, lz9, lz10, lz11, lz12, lz13, lz14, lz15, lz16, lz17, lz18, lz19, lz20, lz21, lz22, lz23, lz24, lz25, lz26, lz27, lz28]; omega
  · obtain ⟨x, hxy⟩ := lenIs1 (f.2.2.2.2.2.2.2.2.2.2.2.2.1 hK).1
    obtain ⟨t, ht⟩ := lenIs1 (f.2.2.2.2.2.2.2.2.2.2.2.2.1 hK).2
    have h1 := ih x (by simp [hxy]) (hk x (by simp [hxy]))
    have h3 : bulkLL (e.Kids.map rExp) = bulkL (rExp x) := by rw [hxy]; simp [bulkLL]
    have h4 : bulkLL (e.Types.map rTy) = bulkL (rTy t) := by rw [ht]; simp [bulkLL]
    have h5 := showT_bulk t
    rw [showE_12 hK hxy ht]
    simp only [app_size, lz0, lz1, lz2, lz3, lz4, lz5, lz6, lz7, lz8, lz9, lz10, lz11, lz12, lz13, lz14, lz15, lz16, lz17, lz18, lz19, lz20, lz21, lz22, lz23, lz24, lz25, lz26, lz27, lz28]; omega
  · rw [showE_13 hK]
    have h1 := comma_size (e.Kids.map showE)
    have h2 := callS_size e
    simp only [app_size, lz0, lz1, lz2, lz3, lz4, lz5, lz6, lz7, lz8, lz9, lz10, lz11, lz12, lz13, lz14, lz15, lz16, lz17, lz18, lz19, lz20, lz21, lz22, lz23, lz24, lz25, lz26, lz27, lz28]; omega
end Go.PE
