/-
  The data types of this seat's laws as Lean types: rows of cells, and how what is handed in is read as them. (Printed by a program.) Conditions: each law's own.
-/
import Derived.Test.YtedgebnmllinlaaDoorPF
import Derived.Test.YtedgebnmllinlaaDoorProg
namespace Go.PE
open Go Go.RowKit Go.Proofs
set_option linter.unusedVariables false
set_option linter.unusedSimpArgs false
set_option maxRecDepth 100000

/-! ### limbeck/api.Ty -/
inductive GTy where
  | mk (K : Int) (N : Int) (Name : ByteArray) (Labels : List ByteArray) (Args : List GTy)
def GTy.K : GTy → Int
  | .mk x _ _ _ _ => x
def GTy.N : GTy → Int
  | .mk _ x _ _ _ => x
def GTy.Name : GTy → ByteArray
  | .mk _ _ x _ _ => x
def GTy.Labels : GTy → List ByteArray
  | .mk _ _ _ x _ => x
def GTy.Args : GTy → List GTy
  | .mk _ _ _ _ x => x
mutual
def rTy : GTy → List PV
  | .mk K N Name Labels Args => [.int .i64 K, .int .i64 N, .str Name, .sl .ro (Labels.map rStr), .sl .ro (rTys Args)]
def rTys : List GTy → List (List PV)
  | [] => []
  | t :: l => rTy t :: rTys l
end
theorem rTys_eq : ∀ l : List GTy, rTys l = l.map rTy
  | [] => by simp [rTys]
  | t :: l => by simp [rTys, rTys_eq l]
theorem rTy_mk (K : Int) (N : Int) (Name : ByteArray) (Labels : List ByteArray) (Args : List GTy) : rTy (.mk K N Name Labels Args) = [.int .i64 K, .int .i64 N, .str Name, .sl .ro (Labels.map rStr), .sl .ro (Args.map rTy)] := by simp [rTy, rTys_eq]
theorem rTy_eq (v : GTy) : rTy v = [.int .i64 v.K, .int .i64 v.N, .str v.Name, .sl .ro (v.Labels.map rStr), .sl .ro (v.Args.map rTy)] := by cases v; rw [rTy_mk]; rfl
theorem rTy_len (v : GTy) : (rTy v).length = 5 := by simp [rTy_eq]
theorem rTy_take (v : GTy) : (rTy v).take 5 = rTy v := by rw [List.take_of_length_le]; rw [rTy_len]; exact Nat.le_refl _
theorem GTy.ind {p : GTy → Prop} (h : ∀ v, (∀ k ∈ v.Args, p k) → p v) : ∀ v, p v
  | .mk K N Name Labels Args => h _ fun k hk => GTy.ind h k
termination_by v => SizeOf.sizeOf v
decreasing_by all_goals (simp_wf; have := List.sizeOf_lt_of_mem hk; simp only [GTy.Args] at *; omega)
theorem rTy_g0 (v : GTy) : (rTy v)[0]? = some (.int .i64 v.K) := by cases v; rw [rTy_mk]; rfl
theorem rTy_g1 (v : GTy) : (rTy v)[1]? = some (.int .i64 v.N) := by cases v; rw [rTy_mk]; rfl
theorem rTy_g2 (v : GTy) : (rTy v)[2]? = some (.str v.Name) := by cases v; rw [rTy_mk]; rfl
theorem rTy_g3 (v : GTy) : (rTy v)[3]? = some (.sl .ro (v.Labels.map rStr)) := by cases v; rw [rTy_mk]; rfl
theorem rTy_g4 (v : GTy) : (rTy v)[4]? = some (.sl .ro (v.Args.map rTy)) := by cases v; rw [rTy_mk]; rfl
theorem rTy_set {cs : List PV} (v : GTy) (h : cs.length = 5) : setRow cs 0 (rTy v) = rTy v := setRow_all (by rw [h, rTy_len])
theorem rTy_plain : ∀ v : GTy, PlainL (rTy v)
  | .mk K N Name Labels Args => by
    rw [rTy_mk]
    exact plain_cons (plain_int _ _) (plain_cons (plain_int _ _) (plain_cons (plain_str _) (plain_cons (plain_sl (plainLL_map fun x hx => rStr_plain x)) (plain_cons (plain_sl (plainLL_map fun x hx => rTy_plain x)) (plain_nil)))))
termination_by v => SizeOf.sizeOf v
decreasing_by all_goals (simp_wf; have := List.sizeOf_lt_of_mem hx; omega)
theorem rTy_sl (n : Nat) (d : Nat → Nat → Option PV) (v : GTy) : sealL n d (rTy v) = some (rTy v) := rTy_plain v n d
theorem rTy_sll (n : Nat) (d : Nat → Nat → Option PV) (l : List GTy) : sealLL n d (l.map rTy) = some (l.map rTy) := plainLL_map (fun x _ => rTy_plain x) n d
theorem rTy_ok (l : List GTy) : headOk 5 (l.map rTy) = true := headOk_map rTy_len l
inductive OkTy : GTy → Prop
  | mk (K : Int) (N : Int) (Name : ByteArray) (Labels : List ByteArray) (Args : List GTy) (hK : In64 K) (hN : In64 N) (hName : Short Name.size) (hLabels : Short Labels.length ∧ ∀ x ∈ Labels, Short x.size) (hArgs : Short Args.length) (hArgs' : ∀ x ∈ Args, OkTy x) : OkTy (.mk K N Name Labels Args)
theorem sz3 : Tryd.prog.cellsOf 3 = 1 := by kernel_rfl
theorem sz9 : Tryd.prog.cellsOf 9 = 1 := by kernel_rfl
theorem sz27 : Tryd.prog.cellsOf 27 = 1 := by kernel_rfl
theorem sz52 : Tryd.prog.cellsOf 52 = 1 := by kernel_rfl
theorem sz70 : Tryd.prog.cellsOf 70 = 5 := by kernel_rfl
theorem rTy_both {t : TypeId} {cs : List PV} (h : Fit Tryd.prog t cs) : (t = 70 → ∃ x, cs = rTy x ∧ OkTy x) ∧ (t = 52 → ∃ l : List GTy, cs = [.sl .ro (l.map rTy)] ∧ Short l.length ∧ ∀ x ∈ l, OkTy x) := by
  induction h with
  | bool t b h => exact ⟨fun e => (by subst e; rw [Tryd.underlying70] at h; cases h), fun e => (by subst e; rw [Tryd.underlying52] at h; cases h)⟩
  | int t k n h wf => exact ⟨fun e => (by subst e; rw [Tryd.underlying70] at h; cases h), fun e => (by subst e; rw [Tryd.underlying52] at h; cases h)⟩
  | str t s h hs => exact ⟨fun e => (by subst e; rw [Tryd.underlying70] at h; cases h), fun e => (by subst e; rw [Tryd.underlying52] at h; cases h)⟩
  | sl t e xs h hl hr ih =>
    refine ⟨fun e => (by subst e; rw [Tryd.underlying70] at h; cases h), fun e1 => ?_⟩
    subst e1; rw [Tryd.underlying52] at h; injection h with h; injection h with h; subst h
    obtain ⟨l, rfl, hl'⟩ := rows_of (row := rTy) (ok := OkTy) fun j r hj => (ih j r hj).1 rfl
    exact ⟨l, rfl, by simpa using hl, hl'⟩
  | struct t fs cs h hlen hf ih =>
    refine ⟨fun e1 => ?_, fun e => (by subst e; rw [Tryd.underlying52] at h; cases h)⟩
    subst e1; rw [Tryd.underlying70] at h; injection h with h; injection h with h; subst h
    have f0 : Fit Tryd.prog 3 (List.take (Tryd.prog.cellsOf 3) (List.drop 0 cs)) := hf 0 _ rfl
    rw [sz3] at f0
    obtain ⟨x0, e0, k0⟩ := fit_int64 Tryd.underlying3 f0
    have f1 : Fit Tryd.prog 3 (List.take (Tryd.prog.cellsOf 3) (List.drop 1 cs)) := hf 1 _ rfl
    rw [sz3] at f1
    obtain ⟨x1, e1, k1⟩ := fit_int64 Tryd.underlying3 f1
    have f2 : Fit Tryd.prog 9 (List.take (Tryd.prog.cellsOf 9) (List.drop 2 cs)) := hf 2 _ rfl
    rw [sz9] at f2
    obtain ⟨x2, e2, k2⟩ := fit_str Tryd.underlying9 f2
    have f3 : Fit Tryd.prog 27 (List.take (Tryd.prog.cellsOf 27) (List.drop 3 cs)) := hf 3 _ rfl
    rw [sz27] at f3
    obtain ⟨x3, e3, k3⟩ := fit_strs Tryd.underlying27 Tryd.underlying9 f3
    have f4 : ∃ l : List GTy, List.take (Tryd.prog.cellsOf 52) (List.drop 4 cs) = [.sl .ro (l.map rTy)] ∧ Short l.length ∧ ∀ x ∈ l, OkTy x := (ih 4 _ rfl).2 rfl
    rw [sz52] at f4
    obtain ⟨x4, e4, k4, k4'⟩ := f4
    have z : cs.drop 5 = [] := List.drop_eq_nil_of_le (by rw [hlen, sz70]; exact Nat.le_refl _)
    have hc := cut1 cs 0 1 1 rfl
    rw [e0, cut1 cs 1 1 2 rfl, e1, cut1 cs 2 1 3 rfl, e2, cut1 cs 3 1 4 rfl, e3, cut1 cs 4 1 5 rfl, e4, z, List.drop_zero] at hc
    exact ⟨.mk x0 x1 x2 x3 x4, by rw [rTy_mk]; exact hc.trans (by first | rfl | simp), .mk _ _ _ _ _ k0 k1 k2 k3 k4 k4'⟩
theorem rTy_fits {cs : List PV} (h : Fit Tryd.prog 70 cs) : ∃ x, cs = rTy x ∧ OkTy x := (rTy_both h).1 rfl
/-! ### limbeck/api.Bind -/
structure GBind where
  Name : ByteArray
  Typ : GTy
def rBind (v : GBind) : List PV := ([.str v.Name] ++ (rTy v.Typ))
theorem rBind_eq (v : GBind) : rBind v = ([.str v.Name] ++ (rTy v.Typ)) := rfl
theorem rBind_len (v : GBind) : (rBind v).length = 6 := by simp [rBind, rTy_len]
theorem rBind_plain (v : GBind) : PlainL (rBind v) := plain_cons (plain_str _) (rTy_plain _)
theorem rBind_sll (n : Nat) (d : Nat → Nat → Option PV) (l : List GBind) : sealLL n d (l.map rBind) = some (l.map rBind) := plainLL_map (fun x _ => rBind_plain x) n d
theorem rBind_ok (l : List GBind) : headOk 6 (l.map rBind) = true := headOk_map rBind_len l
structure OkBind (v : GBind) : Prop where
  Name : Short v.Name.size
  Typ : OkTy v.Typ
theorem sz77 : Tryd.prog.cellsOf 77 = 6 := by kernel_rfl
theorem rBind_fits {cs : List PV} (h : Fit Tryd.prog 77 cs) : ∃ x, cs = rBind x ∧ OkBind x := by
  obtain ⟨hlen, hf⟩ := fit_struct Tryd.underlying77 h
  have f0 : Fit Tryd.prog 9 (List.take (Tryd.prog.cellsOf 9) (List.drop 0 cs)) := hf 0 _ rfl
  rw [sz9] at f0
  obtain ⟨x0, e0, k0⟩ := fit_str Tryd.underlying9 f0
  have f1 : Fit Tryd.prog 70 (List.take (Tryd.prog.cellsOf 70) (List.drop 1 cs)) := hf 1 _ rfl
  rw [sz70] at f1
  obtain ⟨x1, e1, k1⟩ := rTy_fits f1
  have z : cs.drop 6 = [] := List.drop_eq_nil_of_le (by rw [hlen, sz77]; exact Nat.le_refl _)
  have hc := cut1 cs 0 1 1 rfl
  rw [e0, cut1 cs 1 5 6 rfl, e1, z, List.drop_zero] at hc
  exact ⟨⟨x0, x1⟩, hc.trans (by first | rfl | simp [rBind]), ⟨k0, k1⟩⟩
/-! ### limbeck/api.Label -/
structure GLabel where
  Def : ByteArray
  Node : Int
  deriving DecidableEq, Inhabited
def rLabel (v : GLabel) : List PV := [.str v.Def, .int .i64 v.Node]
theorem rLabel_eq (v : GLabel) : rLabel v = [.str v.Def, .int .i64 v.Node] := rfl
theorem rLabel_len (v : GLabel) : (rLabel v).length = 2 := by simp [rLabel]
theorem rLabel_plain (v : GLabel) : PlainL (rLabel v) := plain_cons (plain_str _) (plain_cons (plain_int _ _) (plain_nil))
theorem rLabel_sll (n : Nat) (d : Nat → Nat → Option PV) (l : List GLabel) : sealLL n d (l.map rLabel) = some (l.map rLabel) := plainLL_map (fun x _ => rLabel_plain x) n d
theorem rLabel_ok (l : List GLabel) : headOk 2 (l.map rLabel) = true := headOk_map rLabel_len l
structure OkLabel (v : GLabel) : Prop where
  Def : Short v.Def.size
  Node : In64 v.Node
theorem sz51 : Tryd.prog.cellsOf 51 = 2 := by kernel_rfl
theorem rLabel_fits {cs : List PV} (h : Fit Tryd.prog 51 cs) : ∃ x, cs = rLabel x ∧ OkLabel x := by
  obtain ⟨hlen, hf⟩ := fit_struct Tryd.underlying51 h
  have f0 : Fit Tryd.prog 9 (List.take (Tryd.prog.cellsOf 9) (List.drop 0 cs)) := hf 0 _ rfl
  rw [sz9] at f0
  obtain ⟨x0, e0, k0⟩ := fit_str Tryd.underlying9 f0
  have f1 : Fit Tryd.prog 3 (List.take (Tryd.prog.cellsOf 3) (List.drop 1 cs)) := hf 1 _ rfl
  rw [sz3] at f1
  obtain ⟨x1, e1, k1⟩ := fit_int64 Tryd.underlying3 f1
  have z : cs.drop 2 = [] := List.drop_eq_nil_of_le (by rw [hlen, sz51]; exact Nat.le_refl _)
  have hc := cut1 cs 0 1 1 rfl
  rw [e0, cut1 cs 1 1 2 rfl, e1, z, List.drop_zero] at hc
  exact ⟨⟨x0, x1⟩, hc.trans (by first | rfl | simp [rLabel]), ⟨k0, k1⟩⟩
/-! ### limbeck/api.Val -/
inductive GVal where
  | mk (K : Int) (N : Int) (M : Int) (In : Bool) (S : ByteArray) (At : GLabel) (Types : List GTy) (Labels : List ByteArray) (Kids : List GVal)
def GVal.K : GVal → Int
  | .mk x _ _ _ _ _ _ _ _ => x
def GVal.N : GVal → Int
  | .mk _ x _ _ _ _ _ _ _ => x
def GVal.M : GVal → Int
  | .mk _ _ x _ _ _ _ _ _ => x
def GVal.In : GVal → Bool
  | .mk _ _ _ x _ _ _ _ _ => x
def GVal.S : GVal → ByteArray
  | .mk _ _ _ _ x _ _ _ _ => x
def GVal.At : GVal → GLabel
  | .mk _ _ _ _ _ x _ _ _ => x
def GVal.Types : GVal → List GTy
  | .mk _ _ _ _ _ _ x _ _ => x
def GVal.Labels : GVal → List ByteArray
  | .mk _ _ _ _ _ _ _ x _ => x
def GVal.Kids : GVal → List GVal
  | .mk _ _ _ _ _ _ _ _ x => x
mutual
def rVal : GVal → List PV
  | .mk K N M In S At Types Labels Kids => [.int .i64 K, .int .i64 N, .int .i64 M, .bool In, .str S, .str At.Def, .int .i64 At.Node, .sl .ro (Types.map rTy), .sl .ro (Labels.map rStr), .sl .ro (rVals Kids)]
def rVals : List GVal → List (List PV)
  | [] => []
  | t :: l => rVal t :: rVals l
end
theorem rVals_eq : ∀ l : List GVal, rVals l = l.map rVal
  | [] => by simp [rVals]
  | t :: l => by simp [rVals, rVals_eq l]
theorem rVal_mk (K : Int) (N : Int) (M : Int) (In : Bool) (S : ByteArray) (At : GLabel) (Types : List GTy) (Labels : List ByteArray) (Kids : List GVal) : rVal (.mk K N M In S At Types Labels Kids) = [.int .i64 K, .int .i64 N, .int .i64 M, .bool In, .str S, .str At.Def, .int .i64 At.Node, .sl .ro (Types.map rTy), .sl .ro (Labels.map rStr), .sl .ro (Kids.map rVal)] := by simp [rVal, rVals_eq]
theorem rVal_eq (v : GVal) : rVal v = [.int .i64 v.K, .int .i64 v.N, .int .i64 v.M, .bool v.In, .str v.S, .str v.At.Def, .int .i64 v.At.Node, .sl .ro (v.Types.map rTy), .sl .ro (v.Labels.map rStr), .sl .ro (v.Kids.map rVal)] := by cases v; rw [rVal_mk]; rfl
theorem rVal_len (v : GVal) : (rVal v).length = 10 := by simp [rVal_eq]
theorem rVal_take (v : GVal) : (rVal v).take 10 = rVal v := by rw [List.take_of_length_le]; rw [rVal_len]; exact Nat.le_refl _
theorem GVal.ind {p : GVal → Prop} (h : ∀ v, (∀ k ∈ v.Kids, p k) → p v) : ∀ v, p v
  | .mk K N M In S At Types Labels Kids => h _ fun k hk => GVal.ind h k
termination_by v => SizeOf.sizeOf v
decreasing_by all_goals (simp_wf; have := List.sizeOf_lt_of_mem hk; simp only [GVal.Kids] at *; omega)
theorem rVal_g0 (v : GVal) : (rVal v)[0]? = some (.int .i64 v.K) := by cases v; rw [rVal_mk]; rfl
theorem rVal_g1 (v : GVal) : (rVal v)[1]? = some (.int .i64 v.N) := by cases v; rw [rVal_mk]; rfl
theorem rVal_g2 (v : GVal) : (rVal v)[2]? = some (.int .i64 v.M) := by cases v; rw [rVal_mk]; rfl
theorem rVal_g3 (v : GVal) : (rVal v)[3]? = some (.bool v.In) := by cases v; rw [rVal_mk]; rfl
theorem rVal_g4 (v : GVal) : (rVal v)[4]? = some (.str v.S) := by cases v; rw [rVal_mk]; rfl
theorem rVal_g5 (v : GVal) : (rVal v)[5]? = some (.str v.At.Def) := by cases v; rw [rVal_mk]; rfl
theorem rVal_g6 (v : GVal) : (rVal v)[6]? = some (.int .i64 v.At.Node) := by cases v; rw [rVal_mk]; rfl
theorem rVal_s5 (v : GVal) : ((rVal v).drop 5).take 2 = [.str v.At.Def, .int .i64 v.At.Node] := by cases v; rw [rVal_mk]; rfl
theorem rVal_g7 (v : GVal) : (rVal v)[7]? = some (.sl .ro (v.Types.map rTy)) := by cases v; rw [rVal_mk]; rfl
theorem rVal_g8 (v : GVal) : (rVal v)[8]? = some (.sl .ro (v.Labels.map rStr)) := by cases v; rw [rVal_mk]; rfl
theorem rVal_g9 (v : GVal) : (rVal v)[9]? = some (.sl .ro (v.Kids.map rVal)) := by cases v; rw [rVal_mk]; rfl
theorem rVal_set {cs : List PV} (v : GVal) (h : cs.length = 10) : setRow cs 0 (rVal v) = rVal v := setRow_all (by rw [h, rVal_len])
theorem rVal_plain : ∀ v : GVal, PlainL (rVal v)
  | .mk K N M In S At Types Labels Kids => by
    rw [rVal_mk]
    exact plain_cons (plain_int _ _) (plain_cons (plain_int _ _) (plain_cons (plain_int _ _) (plain_cons (plain_bool _) (plain_cons (plain_str _) (plain_cons (plain_str _) (plain_cons (plain_int _ _) (plain_cons (plain_sl (plainLL_map fun x hx => rTy_plain x)) (plain_cons (plain_sl (plainLL_map fun x hx => rStr_plain x)) (plain_cons (plain_sl (plainLL_map fun x hx => rVal_plain x)) (plain_nil))))))))))
termination_by v => SizeOf.sizeOf v
decreasing_by all_goals (simp_wf; have := List.sizeOf_lt_of_mem hx; omega)
theorem rVal_sl (n : Nat) (d : Nat → Nat → Option PV) (v : GVal) : sealL n d (rVal v) = some (rVal v) := rVal_plain v n d
theorem rVal_sll (n : Nat) (d : Nat → Nat → Option PV) (l : List GVal) : sealLL n d (l.map rVal) = some (l.map rVal) := plainLL_map (fun x _ => rVal_plain x) n d
theorem rVal_ok (l : List GVal) : headOk 10 (l.map rVal) = true := headOk_map rVal_len l
inductive OkVal : GVal → Prop
  | mk (K : Int) (N : Int) (M : Int) (In : Bool) (S : ByteArray) (At : GLabel) (Types : List GTy) (Labels : List ByteArray) (Kids : List GVal) (hK : In64 K) (hN : In64 N) (hM : In64 M) (hS : Short S.size) (hAt : OkLabel At) (hTypes : Short Types.length ∧ ∀ x ∈ Types, OkTy x) (hLabels : Short Labels.length ∧ ∀ x ∈ Labels, Short x.size) (hKids : Short Kids.length) (hKids' : ∀ x ∈ Kids, OkVal x) : OkVal (.mk K N M In S At Types Labels Kids)
theorem sz4 : Tryd.prog.cellsOf 4 = 1 := by kernel_rfl
theorem sz53 : Tryd.prog.cellsOf 53 = 1 := by kernel_rfl
theorem sz55 : Tryd.prog.cellsOf 55 = 10 := by kernel_rfl
theorem rVal_both {t : TypeId} {cs : List PV} (h : Fit Tryd.prog t cs) : (t = 55 → ∃ x, cs = rVal x ∧ OkVal x) ∧ (t = 53 → ∃ l : List GVal, cs = [.sl .ro (l.map rVal)] ∧ Short l.length ∧ ∀ x ∈ l, OkVal x) := by
  induction h with
  | bool t b h => exact ⟨fun e => (by subst e; rw [Tryd.underlying55] at h; cases h), fun e => (by subst e; rw [Tryd.underlying53] at h; cases h)⟩
  | int t k n h wf => exact ⟨fun e => (by subst e; rw [Tryd.underlying55] at h; cases h), fun e => (by subst e; rw [Tryd.underlying53] at h; cases h)⟩
  | str t s h hs => exact ⟨fun e => (by subst e; rw [Tryd.underlying55] at h; cases h), fun e => (by subst e; rw [Tryd.underlying53] at h; cases h)⟩
  | sl t e xs h hl hr ih =>
    refine ⟨fun e => (by subst e; rw [Tryd.underlying55] at h; cases h), fun e1 => ?_⟩
    subst e1; rw [Tryd.underlying53] at h; injection h with h; injection h with h; subst h
    obtain ⟨l, rfl, hl'⟩ := rows_of (row := rVal) (ok := OkVal) fun j r hj => (ih j r hj).1 rfl
    exact ⟨l, rfl, by simpa using hl, hl'⟩
  | struct t fs cs h hlen hf ih =>
    refine ⟨fun e1 => ?_, fun e => (by subst e; rw [Tryd.underlying53] at h; cases h)⟩
    subst e1; rw [Tryd.underlying55] at h; injection h with h; injection h with h; subst h
    have f0 : Fit Tryd.prog 3 (List.take (Tryd.prog.cellsOf 3) (List.drop 0 cs)) := hf 0 _ rfl
    rw [sz3] at f0
    obtain ⟨x0, e0, k0⟩ := fit_int64 Tryd.underlying3 f0
    have f1 : Fit Tryd.prog 3 (List.take (Tryd.prog.cellsOf 3) (List.drop 1 cs)) := hf 1 _ rfl
    rw [sz3] at f1
    obtain ⟨x1, e1, k1⟩ := fit_int64 Tryd.underlying3 f1
    have f2 : Fit Tryd.prog 3 (List.take (Tryd.prog.cellsOf 3) (List.drop 2 cs)) := hf 2 _ rfl
    rw [sz3] at f2
    obtain ⟨x2, e2, k2⟩ := fit_int64 Tryd.underlying3 f2
    have f3 : Fit Tryd.prog 4 (List.take (Tryd.prog.cellsOf 4) (List.drop 3 cs)) := hf 3 _ rfl
    rw [sz4] at f3
    obtain ⟨x3, e3⟩ := fit_bool Tryd.underlying4 f3
    have f4 : Fit Tryd.prog 9 (List.take (Tryd.prog.cellsOf 9) (List.drop 4 cs)) := hf 4 _ rfl
    rw [sz9] at f4
    obtain ⟨x4, e4, k4⟩ := fit_str Tryd.underlying9 f4
    have f5 : Fit Tryd.prog 51 (List.take (Tryd.prog.cellsOf 51) (List.drop 5 cs)) := hf 5 _ rfl
    rw [sz51] at f5
    obtain ⟨x5, e5, k5⟩ := rLabel_fits f5
    have f6 : Fit Tryd.prog 52 (List.take (Tryd.prog.cellsOf 52) (List.drop 7 cs)) := hf 6 _ rfl
    rw [sz52] at f6
    obtain ⟨x6, e6, k6⟩ := fit_list Tryd.underlying52 (fun r hr => rTy_fits hr) f6
    have f7 : Fit Tryd.prog 27 (List.take (Tryd.prog.cellsOf 27) (List.drop 8 cs)) := hf 7 _ rfl
    rw [sz27] at f7
    obtain ⟨x7, e7, k7⟩ := fit_strs Tryd.underlying27 Tryd.underlying9 f7
    have f8 : ∃ l : List GVal, List.take (Tryd.prog.cellsOf 53) (List.drop 9 cs) = [.sl .ro (l.map rVal)] ∧ Short l.length ∧ ∀ x ∈ l, OkVal x := (ih 8 _ rfl).2 rfl
    rw [sz53] at f8
    obtain ⟨x8, e8, k8, k8'⟩ := f8
    have z : cs.drop 10 = [] := List.drop_eq_nil_of_le (by rw [hlen, sz55]; exact Nat.le_refl _)
    have hc := cut1 cs 0 1 1 rfl
    rw [e0, cut1 cs 1 1 2 rfl, e1, cut1 cs 2 1 3 rfl, e2, cut1 cs 3 1 4 rfl, e3, cut1 cs 4 1 5 rfl, e4, cut1 cs 5 2 7 rfl, e5, cut1 cs 7 1 8 rfl, e6, cut1 cs 8 1 9 rfl, e7, cut1 cs 9 1 10 rfl, e8, z, List.drop_zero] at hc
    exact ⟨.mk x0 x1 x2 x3 x4 x5 x6 x7 x8, by rw [rVal_mk]; exact hc.trans (by first | rfl | simp), .mk _ _ _ _ _ _ _ _ _ k0 k1 k2 k4 k5 k6 k7 k8 k8'⟩
theorem rVal_fits {cs : List PV} (h : Fit Tryd.prog 55 cs) : ∃ x, cs = rVal x ∧ OkVal x := (rVal_both h).1 rfl
/-! ### limbeck/api.Obs -/
structure GObs where
  K : Int
  N : Int
  S : ByteArray
  deriving DecidableEq, Inhabited
def rObs (v : GObs) : List PV := [.int .i64 v.K, .int .i64 v.N, .str v.S]
theorem rObs_eq (v : GObs) : rObs v = [.int .i64 v.K, .int .i64 v.N, .str v.S] := rfl
theorem rObs_len (v : GObs) : (rObs v).length = 3 := by simp [rObs]
theorem rObs_plain (v : GObs) : PlainL (rObs v) := plain_cons (plain_int _ _) (plain_cons (plain_int _ _) (plain_cons (plain_str _) (plain_nil)))
theorem rObs_sll (n : Nat) (d : Nat → Nat → Option PV) (l : List GObs) : sealLL n d (l.map rObs) = some (l.map rObs) := plainLL_map (fun x _ => rObs_plain x) n d
theorem rObs_ok (l : List GObs) : headOk 3 (l.map rObs) = true := headOk_map rObs_len l
structure OkObs (v : GObs) : Prop where
  K : In64 v.K
  N : In64 v.N
  S : Short v.S.size
theorem sz57 : Tryd.prog.cellsOf 57 = 3 := by kernel_rfl
theorem rObs_fits {cs : List PV} (h : Fit Tryd.prog 57 cs) : ∃ x, cs = rObs x ∧ OkObs x := by
  obtain ⟨hlen, hf⟩ := fit_struct Tryd.underlying57 h
  have f0 : Fit Tryd.prog 3 (List.take (Tryd.prog.cellsOf 3) (List.drop 0 cs)) := hf 0 _ rfl
  rw [sz3] at f0
  obtain ⟨x0, e0, k0⟩ := fit_int64 Tryd.underlying3 f0
  have f1 : Fit Tryd.prog 3 (List.take (Tryd.prog.cellsOf 3) (List.drop 1 cs)) := hf 1 _ rfl
  rw [sz3] at f1
  obtain ⟨x1, e1, k1⟩ := fit_int64 Tryd.underlying3 f1
  have f2 : Fit Tryd.prog 9 (List.take (Tryd.prog.cellsOf 9) (List.drop 2 cs)) := hf 2 _ rfl
  rw [sz9] at f2
  obtain ⟨x2, e2, k2⟩ := fit_str Tryd.underlying9 f2
  have z : cs.drop 3 = [] := List.drop_eq_nil_of_le (by rw [hlen, sz57]; exact Nat.le_refl _)
  have hc := cut1 cs 0 1 1 rfl
  rw [e0, cut1 cs 1 1 2 rfl, e1, cut1 cs 2 1 3 rfl, e2, z, List.drop_zero] at hc
  exact ⟨⟨x0, x1, x2⟩, hc.trans (by first | rfl | simp [rObs]), ⟨k0, k1, k2⟩⟩
/-! ### limbeck/api.Out -/
structure GOut where
  K : Int
  Obs : GObs
  At : GLabel
  Steps : Int
  deriving DecidableEq, Inhabited
def rOut (v : GOut) : List PV := [.int .i64 v.K, .int .i64 v.Obs.K, .int .i64 v.Obs.N, .str v.Obs.S, .str v.At.Def, .int .i64 v.At.Node, .int .i64 v.Steps]
theorem rOut_eq (v : GOut) : rOut v = [.int .i64 v.K, .int .i64 v.Obs.K, .int .i64 v.Obs.N, .str v.Obs.S, .str v.At.Def, .int .i64 v.At.Node, .int .i64 v.Steps] := rfl
theorem rOut_len (v : GOut) : (rOut v).length = 7 := by simp [rOut]
theorem rOut_plain (v : GOut) : PlainL (rOut v) := plain_cons (plain_int _ _) (plain_cons (plain_int _ _) (plain_cons (plain_int _ _) (plain_cons (plain_str _) (plain_cons (plain_str _) (plain_cons (plain_int _ _) (plain_cons (plain_int _ _) (plain_nil)))))))
theorem rOut_sll (n : Nat) (d : Nat → Nat → Option PV) (l : List GOut) : sealLL n d (l.map rOut) = some (l.map rOut) := plainLL_map (fun x _ => rOut_plain x) n d
theorem rOut_ok (l : List GOut) : headOk 7 (l.map rOut) = true := headOk_map rOut_len l
structure OkOut (v : GOut) : Prop where
  K : In64 v.K
  Obs : OkObs v.Obs
  At : OkLabel v.At
  Steps : In64 v.Steps
theorem sz59 : Tryd.prog.cellsOf 59 = 7 := by kernel_rfl
theorem rOut_fits {cs : List PV} (h : Fit Tryd.prog 59 cs) : ∃ x, cs = rOut x ∧ OkOut x := by
  obtain ⟨hlen, hf⟩ := fit_struct Tryd.underlying59 h
  have f0 : Fit Tryd.prog 3 (List.take (Tryd.prog.cellsOf 3) (List.drop 0 cs)) := hf 0 _ rfl
  rw [sz3] at f0
  obtain ⟨x0, e0, k0⟩ := fit_int64 Tryd.underlying3 f0
  have f1 : Fit Tryd.prog 57 (List.take (Tryd.prog.cellsOf 57) (List.drop 1 cs)) := hf 1 _ rfl
  rw [sz57] at f1
  obtain ⟨x1, e1, k1⟩ := rObs_fits f1
  have f2 : Fit Tryd.prog 51 (List.take (Tryd.prog.cellsOf 51) (List.drop 4 cs)) := hf 2 _ rfl
  rw [sz51] at f2
  obtain ⟨x2, e2, k2⟩ := rLabel_fits f2
  have f3 : Fit Tryd.prog 3 (List.take (Tryd.prog.cellsOf 3) (List.drop 6 cs)) := hf 3 _ rfl
  rw [sz3] at f3
  obtain ⟨x3, e3, k3⟩ := fit_int64 Tryd.underlying3 f3
  have z : cs.drop 7 = [] := List.drop_eq_nil_of_le (by rw [hlen, sz59]; exact Nat.le_refl _)
  have hc := cut1 cs 0 1 1 rfl
  rw [e0, cut1 cs 1 3 4 rfl, e1, cut1 cs 4 2 6 rfl, e2, cut1 cs 6 1 7 rfl, e3, z, List.drop_zero] at hc
  exact ⟨⟨x0, x1, x2, x3⟩, hc.trans (by first | rfl | simp [rOut]), ⟨k0, k1, k2, k3⟩⟩
def dataTypes : List TypeId := [3, 4, 5, 9, 27, 51, 52, 53, 55, 57, 59, 66, 70, 77]
theorem dataTypes_ok : plainTypes Tryd.prog dataTypes = true := by kernel_rfl
end Go.PE
