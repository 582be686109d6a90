/-
  The data types of this seat's laws as Lean types: rows of cells, and how what is handed in is read as them. (Printed by a program.) Conditions: each law's own.
-/
import Derived.Test.YtedgebnmllinlaaDoorPF
import Derived.Test.YtedgebnmllinlaaDoorProg
namespace Go.PE
open Go Go.RowKit Go.Proofs
set_option linter.unusedVariables false
set_option linter.unusedSimpArgs false
set_option maxRecDepth 100000

/-! ### limbeck/api.Ty -/
inductive GTy where
  | mk (K : Int) (N : Int) (Name : ByteArray) (Labels : List ByteArray) (Args : List GTy)
def GTy.K : GTy → Int
  | .mk x _ _ _ _ => x
def GTy.N : GTy → Int
  | .mk _ x _ _ _ => x
def GTy.Name : GTy → ByteArray
  | .mk _ _ x _ _ => x
def GTy.Labels : GTy → List ByteArray
  | .mk _ _ _ x _ => x
def GTy.Args : GTy → List GTy
  | .mk _ _ _ _ x => x
mutual
def rTy : GTy → List PV
  | .mk K N Name Labels Args => [.int .i64 K, .int .i64 N, .str Name, .sl .ro (Labels.map rStr), .sl .ro (rTys Args)]
def rTys : List GTy → List (List PV)
  | [] => []
  | t :: l => rTy t :: rTys l
end
theorem rTys_eq : ∀ l : List GTy, rTys l = l.map rTy
  | [] => by simp [rTys]
  | t :: l => by simp [rTys, rTys_eq l]
theorem rTy_mk (K : Int) (N : Int) (Name : ByteArray) (Labels : List ByteArray) (Args : List GTy) : rTy (.mk K N Name Labels Args) = [.int .i64 K, .int .i64 N, .str Name, .sl .ro (Labels.map rStr), .sl .ro (Args.map rTy)] := by simp [rTy, rTys_eq]
theorem rTy_eq (v : GTy) : rTy v = [.int .i64 v.K, .int .i64 v.N, .str v.Name, .sl .ro (v.Labels.map rStr), .sl .ro (v.Args.map rTy)] := by cases v; rw [rTy_mk]; rfl
theorem rTy_len (v : GTy) : (rTy v).length = 5 := by simp [rTy_eq]
theorem rTy_take (v : GTy) : (rTy v).take 5 = rTy v := by rw [List.take_of_length_le]; rw [rTy_len]; exact Nat.le_refl _
theorem GTy.ind {p : GTy → Prop} (h : ∀ v, (∀ k ∈ v.Args, p k) → p v) : ∀ v, p v
  | .mk K N Name Labels Args => h _ fun k hk => GTy.ind h k
termination_by v => SizeOf.sizeOf v
decreasing_by all_goals (simp_wf; have := List.sizeOf_lt_of_mem hk; simp only [GTy.Args] at *; omega)
theorem rTy_g0 (v : GTy) : (rTy v)[0]? = some (.int .i64 v.K) := by cases v; rw [rTy_mk]; rfl
theorem rTy_g1 (v : GTy) : (rTy v)[1]? = some (.int .i64 v.N) := by cases v; rw [rTy_mk]; rfl
theorem rTy_g2 (v : GTy) : (rTy v)[2]? = some (.str v.Name) := by cases v; rw [rTy_mk]; rfl
theorem rTy_g3 (v : GTy) : (rTy v)[3]? = some (.sl .ro (v.Labels.map rStr)) := by cases v; rw [rTy_mk]; rfl
theorem rTy_g4 (v : GTy) : (rTy v)[4]? = some (.sl .ro (v.Args.map rTy)) := by cases v; rw [rTy_mk]; rfl
theorem rTy_set {cs : List PV} (v : GTy) (h : cs.length = 5) : setRow cs 0 (rTy v) = rTy v := setRow_all (by rw [h, rTy_len])
theorem rTy_plain : ∀ v : GTy, PlainL (rTy v)
  | .mk K N Name Labels Args => by
    rw [rTy_mk]
    exact plain_cons (plain_int _ _) (plain_cons (plain_int _ _) (plain_cons (plain_str _) (plain_cons (plain_sl (plainLL_map fun x hx => rStr_plain x)) (plain_cons (plain_sl (plainLL_map fun x hx => rTy_plain x)) (plain_nil)))))
termination_by v => SizeOf.sizeOf v
decreasing_by all_goals (simp_wf; have := List.sizeOf_lt_of_mem hx; omega)
theorem rTy_sl (n : Nat) (d : Nat → Nat → Option PV) (v : GTy) : sealL n d (rTy v) = some (rTy v) := rTy_plain v n d
theorem rTy_sll (n : Nat) (d : Nat → Nat → Option PV) (l : List GTy) : sealLL n d (l.map rTy) = some (l.map rTy) := plainLL_map (fun x _ => rTy_plain x) n d
theorem rTy_ok (l : List GTy) : headOk 5 (l.map rTy) = true := headOk_map rTy_len l
inductive OkTy : GTy → Prop
  | mk (K : Int) (N : Int) (Name : ByteArray) (Labels : List ByteArray) (Args : List GTy) (hK : In64 K) (hN : In64 N) (hName : Short Name.size) (hLabels : Short Labels.length ∧ ∀ x ∈ Labels, Short x.size) (hArgs : Short Args.length) (hArgs' : ∀ x ∈ Args, OkTy x) : OkTy (.mk K N Name Labels Args)
theorem sz3 : Tryd.prog.cellsOf 3 = 1 := by kernel_rfl
theorem sz9 : Tryd.prog.cellsOf 9 = 1 := by kernel_rfl
theorem sz27 : Tryd.prog.cellsOf 27 = 1 := by kernel_rfl
theorem sz52 : Tryd.prog.cellsOf 52 = 1 := by kernel_rfl
theorem sz70 : Tryd.prog.cellsOf 70 = 5 := by kernel_rfl
theorem rTy_both {t : TypeId} {cs : List PV} (h : Fit Tryd.prog t cs) : (t = 70 → ∃ x, cs = rTy x ∧ OkTy x) ∧ (t = 52 → ∃ l : List GTy, cs = [.sl .ro (l.map rTy)] ∧ Short l.length ∧ ∀ x ∈ l, OkTy x) := by
  induction h with
  | bool t b h => exact ⟨fun e => (by subst e; rw [Tryd.underlying70] at h; cases h), fun e => (by subst e; rw [Tryd.underlying52] at h; cases h)⟩
  | int t k n h wf => exact ⟨fun e => (by subst e; rw [Tryd.underlying70] at h; cases h), fun e => (by subst e; rw [Tryd.underlying52] at h; cases h)⟩
  | str t s h hs => exact ⟨fun e => (by subst e; rw [Tryd.underlying70] at h; cases h), fun e => (by subst e; rw [Tryd.underlying52] at h; cases h)⟩
  | sl t e xs h hl hr ih =>
    refine ⟨fun e => (by subst e; rw [Tryd.underlying70] at h; cases h), fun e1 => ?_⟩
    subst e1; rw [Tryd.underlying52] at h; injection h with h; injection h with h; subst h
    obtain ⟨l, rfl, hl'⟩ := rows_of (row := rTy) (ok := OkTy) fun j r hj => (ih j r hj).1 rfl
    exact ⟨l, rfl, by simpa using hl, hl'⟩
  | struct t fs cs h hlen hf ih =>
    refine ⟨fun e1 => ?_, fun e => (by subst e; rw [Tryd.underlying52] at h; cases h)⟩
    subst e1; rw [Tryd.underlying70] at h; injection h with h; injection h with h; subst h
    have f0 : Fit Tryd.prog 3 (List.take (Tryd.prog.cellsOf 3) (List.drop 0 cs)) := hf 0 _ rfl
    rw [sz3] at f0
    obtain ⟨x0, e0, k0⟩ := fit_int64 Tryd.underlying3 f0
    have f1 : Fit Tryd.prog 3 (List.take (Tryd.prog.cellsOf 3) (List.drop 1 cs)) := hf 1 _ rfl
    rw [sz3] at f1
    obtain ⟨x1, e1, k1⟩ := fit_int64 Tryd.underlying3 f1
    have f2 : Fit Tryd.prog 9 (List.take (Tryd.prog.cellsOf 9) (List.drop 2 cs)) := hf 2 _ rfl
    rw [sz9] at f2
    obtain ⟨x2, e2, k2⟩ := fit_str Tryd.underlying9 f2
    have f3 : Fit Tryd.prog 27 (List.take (Tryd.prog.cellsOf 27) (List.drop 3 cs)) := hf 3 _ rfl
    rw [sz27] at f3
    obtain ⟨x3, e3, k3⟩ := fit_strs Tryd.underlying27 Tryd.underlying9 f3
    have f4 : ∃ l : List GTy, List.take (Tryd.prog.cellsOf 52) (List.drop 4 cs) = [.sl .ro (l.map rTy)] ∧ Short l.length ∧ ∀ x ∈ l, OkTy x := (ih 4 _ rfl).2 rfl
    rw [sz52] at f4
    obtain ⟨x4, e4, k4, k4'⟩ := f4
    have z : cs.drop 5 = [] := List.drop_eq_nil_of_le (by rw [hlen, sz70]; exact Nat.le_refl _)
    have hc := cut1 cs 0 1 1 rfl
    rw [e0, cut1 cs 1 1 2 rfl, e1, cut1 cs 2 1 3 rfl, e2, cut1 cs 3 1 4 rfl, e3, cut1 cs 4 1 5 rfl, e4, z, List.drop_zero] at hc
    exact ⟨.mk x0 x1 x2 x3 x4, by rw [rTy_mk]; exact hc.trans (by first | rfl | simp), .mk _ _ _ _ _ k0 k1 k2 k3 k4 k4'⟩
theorem rTy_fits {cs : List PV} (h : Fit Tryd.prog 70 cs) : ∃ x, cs = rTy x ∧ OkTy x := (rTy_both h).1 rfl
/-! ### limbeck/api.Bind -/
structure GBind where
  Name : ByteArray
  Typ : GTy
def rBind (v : GBind) : List PV := ([.str v.Name] ++ (rTy v.Typ))
theorem rBind_eq (v : GBind) : rBind v = ([.str v.Name] ++ (rTy v.Typ)) := rfl
theorem rBind_len (v : GBind) : (rBind v).length = 6 := by simp [rBind, rTy_len]
theorem rBind_plain (v : GBind) : PlainL (rBind v) := plain_cons (plain_str _) (rTy_plain _)
theorem rBind_sll (n : Nat) (d : Nat → Nat → Option PV) (l : List GBind) : sealLL n d (l.map rBind) = some (l.map rBind) := plainLL_map (fun x _ => rBind_plain x) n d
theorem rBind_ok (l : List GBind) : headOk 6 (l.map rBind) = true := headOk_map rBind_len l
structure OkBind (v : GBind) : Prop where
  Name : Short v.Name.size
  Typ : OkTy v.Typ
theorem sz77 : Tryd.prog.cellsOf 77 = 6 := by kernel_rfl
theorem rBind_fits {cs : List PV} (h : Fit Tryd.prog 77 cs) : ∃ x, cs = rBind x ∧ OkBind x := by
  obtain ⟨hlen, hf⟩ := fit_struct Tryd.underlying77 h
  have f0 : Fit Tryd.prog 9 (List.take (Tryd.prog.cellsOf 9) (List.drop 0 cs)) := hf 0 _ rfl
  rw [sz9] at f0
  obtain ⟨x0, e0, k0⟩ := fit_str Tryd.underlying9 f0
  have f1 : Fit Tryd.prog 70 (List.take (Tryd.prog.cellsOf 70) (List.drop 1 cs)) := hf 1 _ rfl
  rw [sz70] at f1
  obtain ⟨x1, e1, k1⟩ := rTy_fits f1
  have z : cs.drop 6 = [] := List.drop_eq_nil_of_le (by rw [hlen, sz77]; exact Nat.le_refl _)
  have hc := cut1 cs 0 1 1 rfl
  rw [e0, cut1 cs 1 5 6 rfl, e1, z, List.drop_zero] at hc
  exact ⟨⟨x0, x1⟩, hc.trans (by first | rfl | simp [rBind]), ⟨k0, k1⟩⟩
def dataTypes : List TypeId := [3, 9, 27, 52, 70, 75, 77]
theorem dataTypes_ok : plainTypes Tryd.prog dataTypes = true := by kernel_rfl
end Go.PE
