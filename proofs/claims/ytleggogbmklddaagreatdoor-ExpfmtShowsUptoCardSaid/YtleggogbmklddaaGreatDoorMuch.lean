/-
  The stepping set: the rows of this seat's data types. No conditions.
-/
import Derived.Test.YtleggogbmklddaaGreatDoorPB
import Derived.Test.YtleggogbmklddaaGreatDoorTypes
namespace Go.PE
open Go Go.RowKit Go.Proofs
attribute [go_sem] Int.lt_irrefl cast_1 wrap_m1 wrap_0 wrap_1 wrap_2 wrap_3 wrap_4 wrap_5 wrap_6 wrap_7 wrap_8 wrap_9 wrap_10 wrap_11 setRow_succ rTy_mk rExp_mk rTy_len rTy_take rTy_g0 rTy_g1 rTy_g2 rTy_g3 rTy_g4 rTy_set rTy_sl rTy_sll rTy_ok rBind_len rBind_take rBind_g0 rBind_s1_5 rBind_g1 rBind_g2 rBind_g3 rBind_g4 rBind_g5 rBind_set rBind_sl rBind_sll rBind_ok rExp_len rExp_take rExp_g0 rExp_g1 rExp_g2 rExp_g3 rExp_g4 rExp_g5 rExp_g6 rExp_set rExp_sl rExp_sll rExp_ok rSig_len rSig_take rSig_g0 rSig_g1 rSig_g2 rSig_s3_5 rSig_g3 rSig_g4 rSig_g5 rSig_g6 rSig_g7 rSig_set rSig_sl rSig_sll rSig_ok rDef_len rDef_take rDef_s0_8 rDef_g0 rDef_g1 rDef_g2 rDef_s3_5 rDef_g3 rDef_g4 rDef_g5 rDef_g6 rDef_g7 rDef_s8_7 rDef_g8 rDef_g9 rDef_g10 rDef_g11 rDef_g12 rDef_g13 rDef_g14 rDef_set rDef_sl rDef_sll rDef_ok rStr_eq rInt_eq rByte_eq
end Go.PE
namespace Go.PE
open Go Go.RowKit Go.Proofs
set_option linter.unusedVariables false
set_option linter.unusedSimpArgs false
set_option maxRecDepth 100000
theorem digF_len : ∀ (f n : Nat), (digF f n).length ≤ f
  | 0, n => by simp [digF]
  | f + 1, n => by
    unfold digF
    split
    · simp
    · have := digF_len f (n / 10)
      simp; omega
theorem digF_one {f n : Nat} (h : n < 10) : digF (f + 1) n = [UInt8.ofNat (48 + n)] := by rw [digF, if_pos h]
theorem digF_more {f n : Nat} (h : ¬ n < 10) : digF (f + 1) n = digF f (n / 10) ++ [UInt8.ofNat (48 + n % 10)] := by rw [digF, if_neg h]
theorem byte_one {k : Nat} (h : k < 256) : bytesOf [[.int .u8 (k : Int)]] = some [UInt8.ofNat k] := by
  have h' : (0 : Int) ≤ (k : Int) ∧ (k : Int) < 256 := by omega
  simp [bytesOf, h']

theorem numS_21 (n : Int) : (numS n).size ≤ 21 := by
  unfold numS numL
  have a1 := digF_len 20 n.natAbs
  have a2 := digF_len 20 n.toNat
  split <;> simp [ByteArray.size] <;> omega
section
variable {ot : TypeId} {oz : EP}
theorem itoa_call (n : Int) (h : In64 n) (m : Nat) (S : St) : (lvl (env ot oz) (m + 1)).call 93 [.int .i64 n] S = some (.str (numS n), S) := by
  rw [call_known (F := itF) rfl (args' := [.int .i64 n]) (by simp only [askD, sealL, sealW, Option.map_some, Option.bind_some])]
  simp only [itF]
  exact if_pos h
theorem itoa_ok (n : Int) (h : In64 n) : Ans (env ot oz) 93 [.int .i64 n] (.str (numS n)) := ⟨1, itoa_call n h 0⟩
theorem itoa_w (n : Int) (h : In64 n) (S : St) : cal (env ot oz) 93 [.int .i64 n] S = some (.str (numS n), S) := cal_at (itoa_call n h 0 S)
end
end Go.PE
namespace Go.PE
open Go Go.RowKit Go.Proofs
set_option linter.unusedVariables false
set_option linter.unusedSimpArgs false
set_option maxRecDepth 100000
section
variable {ot : TypeId} {oz : EP}
theorem ws0_w (S : St) (os : List Ob) (s : ByteArray) (hl : s.size ≤ 140737488355328) : cal (env ot oz) 104 [.ref S.obs.length 0, .str s] (B0 S os) = some (.tup [.int .i64 (s.size : Int), .nilifc], BX S s.data.toList os) := cal_at (ws0 S os s hl 0)
theorem ws_w (S : St) (bs : List UInt8) (os : List Ob) (s : ByteArray) (hl : bs.length + s.size ≤ 140737488355328) : cal (env ot oz) 104 [.ref S.obs.length 0, .str s] (BX S bs os) = some (.tup [.int .i64 (s.size : Int), .nilifc], BX S (bs ++ s.data.toList) os) := cal_at (ws S bs os s hl 0)
theorem str0_w (S : St) (os : List Ob) : cal (env ot oz) 105 [.ref S.obs.length 0] (B0 S os) = some (.str (txt []), B0 S os) := cal_at (str0 S os 0)
theorem strX_w (S : St) (bs : List UInt8) (os : List Ob) (hl : bs.length ≤ 140737488355328) : cal (env ot oz) 105 [.ref S.obs.length 0] (BX S bs os) = some (.str (txt bs), BZ S bs os) := cal_at (strX S bs os hl 0)
theorem bx_len (S : St) (bs : List UInt8) (os : List Ob) : (BX S bs os).obs.length = S.obs.length + 1 + os.length := by cases bs <;> simp [BX] <;> omega
theorem bx_app (S : St) (bs : List UInt8) (os : List Ob) (o : Ob) : (⟨(BX S bs os).obs ++ [o], (BX S bs os).own⟩ : St) = BX S bs (os ++ [o]) := by cases bs <;> simp [BX]
theorem bx_get (S : St) (bs : List UInt8) (os : List Ob) (o : Ob) : (BX S bs (os ++ [o])).obs[S.obs.length + 1 + os.length]? = some o := by
  have h : ∀ x : Ob, (S.obs ++ x :: (os ++ [o]))[S.obs.length + 1 + os.length]? = some o := fun x => by
    rw [List.getElem?_append_right (by omega), show S.obs.length + 1 + os.length - S.obs.length = os.length + 1 by omega, List.getElem?_cons_succ]
    simp
  cases bs <;> exact h _
theorem bx_set (S : St) (bs : List UInt8) (os : List Ob) (o p : Ob) : (⟨(BX S bs (os ++ [o])).obs.set (S.obs.length + 1 + os.length) p, (BX S bs (os ++ [o])).own⟩ : St) = BX S bs (os ++ [p]) := by
  have h : ∀ x : Ob, (S.obs ++ x :: (os ++ [o])).set (S.obs.length + 1 + os.length) p = S.obs ++ x :: (os ++ [p]) := fun x => by
    rw [List.set_append_right _ _ (by omega), show S.obs.length + 1 + os.length - S.obs.length = os.length + 1 by omega, List.set_cons_succ]
    simp
  cases bs <;> simp only [BX, h]
theorem b0_len (S : St) (os : List Ob) : (B0 S os).obs.length = S.obs.length + 1 + os.length := by simp [B0]; omega
theorem b0_app (S : St) (os : List Ob) (o : Ob) : (⟨(B0 S os).obs ++ [o], (B0 S os).own⟩ : St) = B0 S (os ++ [o]) := by simp [B0]
theorem b0_get (S : St) (os : List Ob) (o : Ob) : (B0 S (os ++ [o])).obs[S.obs.length + 1 + os.length]? = some o := by
  show (S.obs ++ _ :: (os ++ [o]))[S.obs.length + 1 + os.length]? = some o
  rw [List.getElem?_append_right (by omega), show S.obs.length + 1 + os.length - S.obs.length = os.length + 1 by omega, List.getElem?_cons_succ]
  simp
theorem b0_set (S : St) (os : List Ob) (o p : Ob) : (⟨(B0 S (os ++ [o])).obs.set (S.obs.length + 1 + os.length) p, (B0 S (os ++ [o])).own⟩ : St) = B0 S (os ++ [p]) := by
  simp only [B0]
  rw [List.set_append_right _ _ (by omega), show S.obs.length + 1 + os.length - S.obs.length = os.length + 1 by omega, List.set_cons_succ]
  simp
theorem b0_start (S : St) : (⟨S.obs ++ [.cells 90 [.nilp, .sl .null []]], S.own⟩ : St) = B0 S [] := rfl
end

/-- Texts, one behind the other, a sign between. -/
def joinR (b : List UInt8) : List ByteArray → List UInt8
  | [] => []
  | t :: r => b ++ (t.data.toList ++ joinR b r)
def joinL (b : List UInt8) : List ByteArray → List UInt8
  | [] => []
  | t :: r => t.data.toList ++ joinR b r
end Go.PE
namespace Go.PE
open Go Go.RowKit Go.Proofs
set_option linter.unusedVariables false
set_option linter.unusedSimpArgs false
set_option maxRecDepth 100000
section
variable {ot : TypeId} {oz : EP}

abbrev w64 (n : Int) : Int := IntKind.i64.wrap n
def labF : Int → List ByteArray → Int
  | n, [] => n
  | n, s :: r => labF (w64 (n + w64 ((s.size : Int).tdiv 8))) r
mutual
def muchT : GTy → Int
  | .mk K N Name Labels Args => muchTs (labF (w64 (w64 (1 + w64 ((Name.size : Int).tdiv 8)) + (Labels.length : Int))) (Labels.take 1000)) Args
def muchTs : Int → List GTy → Int
  | n, [] => n
  | n, a :: r => if n < 3000 then muchTs (w64 (n + muchT a)) r else n
end

theorem muchT_l0 (t : GTy) (ht : Short t.Labels.length) : ∀ (rest : List ByteArray) (i : Nat) (n : Int), t.Labels.drop i = rest → ∃ i' : Int, ∀ f, rest.length + 2 ≤ f → ∀ (S : St) (fin : Kont (PV × St)) (st : List Fr),
    (lvl (env ot oz) f).ev c21_l0 [(1, some (.at_ (rTy t))), (3, some (.int .i64 n)), (4, some (.int .i64 (i : Int)))] S (kont (env ot oz) fin st) =
      kont (env ot oz) fin st (.exit 0) [(1, some (.at_ (rTy t))), (3, some (.int .i64 (labF n (rest.take (1000 - i))))), (4, some (.int .i64 i')), (23, some (.bool false))] S
  | [], i, n, h => by
    refine ⟨i, fun f hf S fin st => ?_⟩
    obtain ⟨k, rfl⟩ : ∃ k, f = k + 1 := ⟨f - 1, by omega⟩
    have hlt := lt_no (drop_nil h)
    (rw [c21_l0_step]; simp only [c21_l0_b, c21_r3, c21_r7, go_sem, hlt, List.take_nil, labF])
  | s :: r, i, n, h => by
    obtain ⟨h1, h2, h3⟩ := drop_cons h
    unfold Short maxLen at ht
    have hlt : (i : Int) < (t.Labels.length : Int) := by omega
    by_cases hi : i < 1000
    · obtain ⟨i', ih⟩ := muchT_l0 t ht r (i + 1) (w64 (n + w64 ((s.size : Int).tdiv 8))) h2
      refine ⟨i', fun f hf S fin st => ?_⟩
      obtain ⟨k, rfl⟩ : ∃ k, f = k + 1 := ⟨f - 1, by omega⟩
      have ih := ih k (by simp only [List.length_cons] at hf; omega) S fin st
      have hi' : (i : Int) < 1000 := by omega
      have w := wrap_succ (i := i) (n := t.Labels.length) h3 (by omega)
      have e : (s :: r).take (1000 - i) = s :: r.take (1000 - (i + 1)) := by rw [show 1000 - i = (1000 - (i + 1)) + 1 by omega, List.take_succ_cons]
      rw [e, labF]
      (rw [c21_l0_step]; simp only [c21_l0_b, c21_r3, c21_r7, go_sem, hlt, hi', h1, w])
      exact ih
    · refine ⟨i, fun f hf S fin st => ?_⟩
      obtain ⟨k, rfl⟩ : ∃ k, f = k + 1 := ⟨f - 1, by omega⟩
      have hi' : ¬ (i : Int) < 1000 := by omega
      have e : (s :: r).take (1000 - i) = [] := by rw [show 1000 - i = 0 by omega]; rfl
      rw [e, labF]
      (rw [c21_l0_step]; simp only [c21_l0_b, c21_r3, c21_r7, go_sem, hlt, hi', h1])

theorem muchT_l1 (t : GTy) (ht : Short t.Args.length) (N : Nat) : ∀ (rest : List GTy) (i : Nat) (n : Int), t.Args.drop i = rest → (∀ a ∈ rest, ∀ m, N ≤ m → ∀ S, (lvl (env ot oz) m).call 21 [.agg (rTy a)] S = some (.int .i64 (muchT a), S)) → ∃ i' : Int, ∀ f, rest.length + N + 2 ≤ f → ∀ (S : St) (fin : Kont (PV × St)) (st : List Fr),
    (lvl (env ot oz) f).ev c21_l1 [(1, some (.at_ (rTy t))), (3, some (.int .i64 n)), (5, some (.int .i64 (i : Int)))] S (kont (env ot oz) fin st) =
      kont (env ot oz) fin st (.exit 2) [(1, some (.at_ (rTy t))), (3, some (.int .i64 (muchTs n rest))), (5, some (.int .i64 i')), (43, some (.bool false))] S
  | [], i, n, h, hc => by
    refine ⟨i, fun f hf S fin st => ?_⟩
    obtain ⟨k, rfl⟩ : ∃ k, f = k + 1 := ⟨f - 1, by omega⟩
    have hlt := lt_no (drop_nil h)
    (rw [c21_l1_step]; simp only [c21_l1_b, c21_r3, c21_r7, go_sem, hlt, muchTs])
  | a :: r, i, n, h, hc => by
    obtain ⟨h1, h2, h3⟩ := drop_cons h
    unfold Short maxLen at ht
    have hlt : (i : Int) < (t.Args.length : Int) := by omega
    by_cases hi : n < 3000
    · obtain ⟨i', ih⟩ := muchT_l1 t ht N r (i + 1) (w64 (n + muchT a)) h2 fun b hb => hc b (List.mem_cons_of_mem _ hb)
      refine ⟨i', fun f hf S fin st => ?_⟩
      obtain ⟨k, rfl⟩ : ∃ k, f = k + 1 := ⟨f - 1, by omega⟩
      have ih := ih k (by simp only [List.length_cons] at hf; omega) S fin st
      have ca := hc a (by simp) k (by omega)
      have w := wrap_succ (i := i) (n := t.Args.length) h3 (by omega)
      rw [muchTs, if_pos hi]
      (rw [c21_l1_step]; simp only [c21_l1_b, c21_r3, c21_r7, go_sem, hlt, hi, h1, w, ca])
      exact ih
    · refine ⟨i, fun f hf S fin st => ?_⟩
      obtain ⟨k, rfl⟩ : ∃ k, f = k + 1 := ⟨f - 1, by omega⟩
      rw [muchTs, if_neg hi]
      (rw [c21_l1_step]; simp only [c21_l1_b, c21_r3, c21_r7, go_sem, hlt, hi, h1])

theorem muchT_ok : ∀ (t : GTy), OkTy t → Ans (env ot oz) 21 [.agg (rTy t)] (.int .i64 (muchT t)) := by
  refine GTy.ind fun t ih ok => ?_
  have ok' := ok
  obtain ⟨K, N, Name, Labels, Args, hK, hN, hName, hLabels, hArgs, hArgs'⟩ := ok'
  obtain ⟨M, hM⟩ := all_le (p := fun n (a : GTy) => ∀ S, (lvl (env ot oz) n).call 21 [.agg (rTy a)] S = some (.int .i64 (muchT a), S)) (fun n m k hm h S => call_mono hm (h S)) (l := Args) (fun a ha => ih a ha (hArgs' a ha))
  obtain ⟨i1, f1⟩ := muchT_l0 (ot := ot) (oz := oz) (.mk K N Name Labels Args) hLabels.1 Labels 0 (w64 (w64 (1 + w64 ((Name.size : Int).tdiv 8)) + (Labels.length : Int))) rfl
  obtain ⟨i2, f2⟩ := muchT_l1 (ot := ot) (oz := oz) (.mk K N Name Labels Args) hArgs M Args 0 (labF (w64 (w64 (1 + w64 ((Name.size : Int).tdiv 8)) + (Labels.length : Int))) (Labels.take 1000)) rfl (fun a ha m hm S => call_mono hm (hM a ha S))
  refine ⟨Labels.length + Args.length + M + 4, fun S => ?_⟩
  have f1 := f1 (Labels.length + Args.length + M + 3) (by omega)
  have f2 := f2 (Labels.length + Args.length + M + 3) (by omega)
  have e : muchT (.mk K N Name Labels Args) = muchTs (labF (w64 (w64 (1 + w64 ((Name.size : Int).tdiv 8)) + (Labels.length : Int))) (Labels.take 1000)) Args := by rw [muchT]
  simp only [Int.cast_ofNat_Int, Nat.sub_zero, rTy_mk] at f1 f2
  (rw [call_plain (fn := c21) rfl rfl (by simp only [go_sem, f1, f2, e]) rfl (by decide)]; simp only [c21, c21_b, c21_r3, c21_r7, go_sem, f1, f2, e])
end
end Go.PE
