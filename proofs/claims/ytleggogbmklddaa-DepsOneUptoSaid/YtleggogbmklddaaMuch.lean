/-
  How much a type, or a value, has. Conditions: each law's own.
-/
import Derived.Test.YtleggogbmklddaaPR
namespace Go.PE
open Go Go.RowKit Go.Proofs
set_option linter.unusedVariables false
set_option linter.unusedSimpArgs false
set_option maxRecDepth 100000
section
variable {ot : TypeId} {oz : EP}

abbrev w64 (n : Int) : Int := IntKind.i64.wrap n
def labF : Int → List ByteArray → Int
  | n, [] => n
  | n, s :: r => labF (w64 (n + w64 ((s.size : Int).tdiv 8))) r
mutual
def muchT : GTy → Int
  | .mk K N Name Labels Args => muchTs (labF (w64 (w64 (1 + w64 ((Name.size : Int).tdiv 8)) + (Labels.length : Int))) (Labels.take 1000)) Args
def muchTs : Int → List GTy → Int
  | n, [] => n
  | n, a :: r => if n < 3000 then muchTs (w64 (n + muchT a)) r else n
end

theorem muchT_l0 (t : GTy) (ht : Short t.Labels.length) : ∀ (rest : List ByteArray) (i : Nat) (n : Int), t.Labels.drop i = rest → ∃ i' : Int, ∀ f, rest.length + 2 ≤ f → ∀ (S : St) (fin : Kont (PV × St)) (st : List Fr),
    (lvl (env ot oz) f).ev c36_l0 [(1, some (.at_ (rTy t))), (3, some (.int .i64 n)), (4, some (.int .i64 (i : Int)))] S (kont (env ot oz) fin st) =
      kont (env ot oz) fin st (.exit 0) [(1, some (.at_ (rTy t))), (3, some (.int .i64 (labF n (rest.take (1000 - i))))), (4, some (.int .i64 i')), (23, some (.bool false))] S
  | [], i, n, h => by
    refine ⟨i, fun f hf S fin st => ?_⟩
    obtain ⟨k, rfl⟩ : ∃ k, f = k + 1 := ⟨f - 1, by omega⟩
    have hlt := lt_no (drop_nil h)
    (rw [c36_l0_step]; simp only [c36_l0_b, c36_r3, c36_r7, go_sem, hlt, List.take_nil, labF])
  | s :: r, i, n, h => by
    obtain ⟨h1, h2, h3⟩ := drop_cons h
    unfold Short maxLen at ht
    have hlt : (i : Int) < (t.Labels.length : Int) := by omega
    by_cases hi : i < 1000
    · obtain ⟨i', ih⟩ := muchT_l0 t ht r (i + 1) (w64 (n + w64 ((s.size : Int).tdiv 8))) h2
      refine ⟨i', fun f hf S fin st => ?_⟩
      obtain ⟨k, rfl⟩ : ∃ k, f = k + 1 := ⟨f - 1, by omega⟩
      have ih := ih k (by simp only [List.length_cons] at hf; omega) S fin st
      have hi' : (i : Int) < 1000 := by omega
      have w := wrap_succ (i := i) (n := t.Labels.length) h3 (by omega)
      have e : (s :: r).take (1000 - i) = s :: r.take (1000 - (i + 1)) := by rw [show 1000 - i = (1000 - (i + 1)) + 1 by omega, List.take_succ_cons]
      rw [e, labF]
      (rw [c36_l0_step]; simp only [c36_l0_b, c36_r3, c36_r7, go_sem, hlt, hi', h1, w])
      exact ih
    · refine ⟨i, fun f hf S fin st => ?_⟩
      obtain ⟨k, rfl⟩ : ∃ k, f = k + 1 := ⟨f - 1, by omega⟩
      have hi' : ¬ (i : Int) < 1000 := by omega
      have e : (s :: r).take (1000 - i) = [] := by rw [show 1000 - i = 0 by omega]; rfl
      rw [e, labF]
      (rw [c36_l0_step]; simp only [c36_l0_b, c36_r3, c36_r7, go_sem, hlt, hi', h1])

theorem muchT_l1 (t : GTy) (ht : Short t.Args.length) (N : Nat) : ∀ (rest : List GTy) (i : Nat) (n : Int), t.Args.drop i = rest → (∀ a ∈ rest, ∀ m, N ≤ m → ∀ S, (lvl (env ot oz) m).call 36 [.agg (rTy a)] S = some (.int .i64 (muchT a), S)) → ∃ i' : Int, ∀ f, rest.length + N + 2 ≤ f → ∀ (S : St) (fin : Kont (PV × St)) (st : List Fr),
    (lvl (env ot oz) f).ev c36_l1 [(1, some (.at_ (rTy t))), (3, some (.int .i64 n)), (5, some (.int .i64 (i : Int)))] S (kont (env ot oz) fin st) =
      kont (env ot oz) fin st (.exit 2) [(1, some (.at_ (rTy t))), (3, some (.int .i64 (muchTs n rest))), (5, some (.int .i64 i')), (43, some (.bool false))] S
  | [], i, n, h, hc => by
    refine ⟨i, fun f hf S fin st => ?_⟩
    obtain ⟨k, rfl⟩ : ∃ k, f = k + 1 := ⟨f - 1, by omega⟩
    have hlt := lt_no (drop_nil h)
    (rw [c36_l1_step]; simp only [c36_l1_b, c36_r3, c36_r7, go_sem, hlt, muchTs])
  | a :: r, i, n, h, hc => by
    obtain ⟨h1, h2, h3⟩ := drop_cons h
    unfold Short maxLen at ht
    have hlt : (i : Int) < (t.Args.length : Int) := by omega
    by_cases hi : n < 3000
    · obtain ⟨i', ih⟩ := muchT_l1 t ht N r (i + 1) (w64 (n + muchT a)) h2 fun b hb => hc b (List.mem_cons_of_mem _ hb)
      refine ⟨i', fun f hf S fin st => ?_⟩
      obtain ⟨k, rfl⟩ : ∃ k, f = k + 1 := ⟨f - 1, by omega⟩
      have ih := ih k (by simp only [List.length_cons] at hf; omega) S fin st
      have ca := hc a (by simp) k (by omega)
      have w := wrap_succ (i := i) (n := t.Args.length) h3 (by omega)
      rw [muchTs, if_pos hi]
      (rw [c36_l1_step]; simp only [c36_l1_b, c36_r3, c36_r7, go_sem, hlt, hi, h1, w, ca])
      exact ih
    · refine ⟨i, fun f hf S fin st => ?_⟩
      obtain ⟨k, rfl⟩ : ∃ k, f = k + 1 := ⟨f - 1, by omega⟩
      rw [muchTs, if_neg hi]
      (rw [c36_l1_step]; simp only [c36_l1_b, c36_r3, c36_r7, go_sem, hlt, hi, h1])

theorem muchT_ok : ∀ (t : GTy), OkTy t → Ans (env ot oz) 36 [.agg (rTy t)] (.int .i64 (muchT t)) := by
  refine GTy.ind fun t ih ok => ?_
  have ok' := ok
  obtain ⟨K, N, Name, Labels, Args, hK, hN, hName, hLabels, hArgs, hArgs'⟩ := ok'
  obtain ⟨M, hM⟩ := all_le (p := fun n (a : GTy) => ∀ S, (lvl (env ot oz) n).call 36 [.agg (rTy a)] S = some (.int .i64 (muchT a), S)) (fun n m k hm h S => call_mono hm (h S)) (l := Args) (fun a ha => ih a ha (hArgs' a ha))
  obtain ⟨i1, f1⟩ := muchT_l0 (ot := ot) (oz := oz) (.mk K N Name Labels Args) hLabels.1 Labels 0 (w64 (w64 (1 + w64 ((Name.size : Int).tdiv 8)) + (Labels.length : Int))) rfl
  obtain ⟨i2, f2⟩ := muchT_l1 (ot := ot) (oz := oz) (.mk K N Name Labels Args) hArgs M Args 0 (labF (w64 (w64 (1 + w64 ((Name.size : Int).tdiv 8)) + (Labels.length : Int))) (Labels.take 1000)) rfl (fun a ha m hm S => call_mono hm (hM a ha S))
  refine ⟨Labels.length + Args.length + M + 4, fun S => ?_⟩
  have f1 := f1 (Labels.length + Args.length + M + 3) (by omega)
  have f2 := f2 (Labels.length + Args.length + M + 3) (by omega)
  have e : muchT (.mk K N Name Labels Args) = muchTs (labF (w64 (w64 (1 + w64 ((Name.size : Int).tdiv 8)) + (Labels.length : Int))) (Labels.take 1000)) Args := by rw [muchT]
  simp only [Int.cast_ofNat_Int, Nat.sub_zero, rTy_mk] at f1 f2
  (rw [call_plain (fn := c36) rfl rfl (by simp only [go_sem, f1, f2, e]) rfl (by decide)]; simp only [c36, c36_b, c36_r3, c36_r7, go_sem, f1, f2, e])
end
end Go.PE
