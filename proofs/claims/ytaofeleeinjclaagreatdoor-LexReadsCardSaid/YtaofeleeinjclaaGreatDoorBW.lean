/-
  Texts that grow, without fuel; what a round lays behind the builder. Conditions: each law's own.
-/
import Derived.Test.YtaofeleeinjclaaGreatDoorPR
namespace Go.PE
open Go Go.RowKit Go.Proofs
set_option linter.unusedVariables false
set_option linter.unusedSimpArgs false
set_option maxRecDepth 100000
section
variable {ot : TypeId} {oz : EP}
theorem wb0_w (S : St) (os : List Ob) (b : UInt8) : cal (env ot oz) 34 [.ref S.obs.length 0, .int .u8 (b.toNat : Int)] (B0 S os) = some (.nilifc, BX S [b] os) := cal_at (wb0 S os b _ rfl 0)
theorem wb_w (S : St) (bs : List UInt8) (os : List Ob) (b : UInt8) (hl : bs.length + 1 ≤ 140737488355328) : cal (env ot oz) 34 [.ref S.obs.length 0, .int .u8 (b.toNat : Int)] (BX S bs os) = some (.nilifc, BX S (bs ++ [b]) os) := cal_at (wb S bs os b _ rfl hl 0)
theorem ws0_w (S : St) (os : List Ob) (s : ByteArray) (hl : s.size ≤ 140737488355328) : cal (env ot oz) 35 [.ref S.obs.length 0, .str s] (B0 S os) = some (.tup [.int .i64 (s.size : Int), .nilifc], BX S s.data.toList os) := cal_at (ws0 S os s hl 0)
theorem ws_w (S : St) (bs : List UInt8) (os : List Ob) (s : ByteArray) (hl : bs.length + s.size ≤ 140737488355328) : cal (env ot oz) 35 [.ref S.obs.length 0, .str s] (BX S bs os) = some (.tup [.int .i64 (s.size : Int), .nilifc], BX S (bs ++ s.data.toList) os) := cal_at (ws S bs os s hl 0)
theorem str0_w (S : St) (os : List Ob) : cal (env ot oz) 36 [.ref S.obs.length 0] (B0 S os) = some (.str (txt []), B0 S os) := cal_at (str0 S os 0)
theorem strX_w (S : St) (bs : List UInt8) (os : List Ob) (hl : bs.length ≤ 140737488355328) : cal (env ot oz) 36 [.ref S.obs.length 0] (BX S bs os) = some (.str (txt bs), BZ S bs os) := cal_at (strX S bs os hl 0)
theorem bx_len (S : St) (bs : List UInt8) (os : List Ob) : (BX S bs os).obs.length = S.obs.length + 1 + os.length := by cases bs <;> simp [BX] <;> omega
theorem bx_app (S : St) (bs : List UInt8) (os : List Ob) (o : Ob) : (⟨(BX S bs os).obs ++ [o], (BX S bs os).own⟩ : St) = BX S bs (os ++ [o]) := by cases bs <;> simp [BX]
theorem bx_get (S : St) (bs : List UInt8) (os : List Ob) (o : Ob) : (BX S bs (os ++ [o])).obs[S.obs.length + 1 + os.length]? = some o := by
  have h : ∀ x : Ob, (S.obs ++ x :: (os ++ [o]))[S.obs.length + 1 + os.length]? = some o := fun x => by
    rw [List.getElem?_append_right (by omega), show S.obs.length + 1 + os.length - S.obs.length = os.length + 1 by omega, List.getElem?_cons_succ]
    simp
  cases bs <;> exact h _
theorem bx_set (S : St) (bs : List UInt8) (os : List Ob) (o p : Ob) : (⟨(BX S bs (os ++ [o])).obs.set (S.obs.length + 1 + os.length) p, (BX S bs (os ++ [o])).own⟩ : St) = BX S bs (os ++ [p]) := by
  have h : ∀ x : Ob, (S.obs ++ x :: (os ++ [o])).set (S.obs.length + 1 + os.length) p = S.obs ++ x :: (os ++ [p]) := fun x => by
    rw [List.set_append_right _ _ (by omega), show S.obs.length + 1 + os.length - S.obs.length = os.length + 1 by omega, List.set_cons_succ]
    simp
  cases bs <;> simp only [BX, h]
theorem b0_len (S : St) (os : List Ob) : (B0 S os).obs.length = S.obs.length + 1 + os.length := by simp [B0]; omega
theorem b0_app (S : St) (os : List Ob) (o : Ob) : (⟨(B0 S os).obs ++ [o], (B0 S os).own⟩ : St) = B0 S (os ++ [o]) := by simp [B0]
theorem b0_get (S : St) (os : List Ob) (o : Ob) : (B0 S (os ++ [o])).obs[S.obs.length + 1 + os.length]? = some o := by
  show (S.obs ++ _ :: (os ++ [o]))[S.obs.length + 1 + os.length]? = some o
  rw [List.getElem?_append_right (by omega), show S.obs.length + 1 + os.length - S.obs.length = os.length + 1 by omega, List.getElem?_cons_succ]
  simp
theorem b0_set (S : St) (os : List Ob) (o p : Ob) : (⟨(B0 S (os ++ [o])).obs.set (S.obs.length + 1 + os.length) p, (B0 S (os ++ [o])).own⟩ : St) = B0 S (os ++ [p]) := by
  simp only [B0]
  rw [List.set_append_right _ _ (by omega), show S.obs.length + 1 + os.length - S.obs.length = os.length + 1 by omega, List.set_cons_succ]
  simp
theorem b0_start (S : St) : (⟨S.obs ++ [.cells 77 [.nilp, .sl .null []]], S.own⟩ : St) = B0 S [] := rfl
end

/-- Texts, one behind the other, a sign between. -/
def joinR (b : List UInt8) : List ByteArray → List UInt8
  | [] => []
  | t :: r => b ++ (t.data.toList ++ joinR b r)
def joinL (b : List UInt8) : List ByteArray → List UInt8
  | [] => []
  | t :: r => t.data.toList ++ joinR b r
end Go.PE
