/-
  slices.Sort and slices.Compact at []string, as functions that are known: the row that is handed in is sorted, compacted. Conditions: each law's own.
-/
import Derived.Test.YtleggogbmklddaaPE18
import Derived.Test.YtleggogbmklddaaPE20
import Derived.Test.YtleggogbmklddaaShelf
namespace Go.PE
open Go Go.RowKit Go.Proofs
set_option linter.unusedVariables false
set_option linter.unusedSimpArgs false

/-- The texts that a row holds. -/
def strsOf : List PV → Option (List (List UInt8))
  | [] => some []
  | .str s :: r => (strsOf r).map (s.data.toList :: ·)
  | _ :: _ => none
def insL (x : List UInt8) : List (List UInt8) → List (List UInt8)
  | [] => [x]
  | y :: r => if Op.bytesLess y x then y :: insL x r else x :: y :: r
def srtL : List (List UInt8) → List (List UInt8)
  | [] => []
  | x :: r => insL x (srtL r)
theorem insL_perm (x : List UInt8) : ∀ l, (insL x l).Perm (x :: l)
  | [] => .refl _
  | y :: r => by
    unfold insL
    split
    · exact ((insL_perm x r).cons y).trans (.swap x y r)
    · exact .refl _
theorem srtL_perm : ∀ l, (srtL l).Perm l
  | [] => .refl _
  | x :: r => (insL_perm x _).trans ((srtL_perm r).cons x)
theorem bl_lt : ∀ (x y : List UInt8), Op.bytesLess x y = decide (x < y)
  | _, [] => by simp [Op.bytesLess]
  | [], _ :: _ => by simp [Op.bytesLess]
  | a :: x, b :: y => by
    rw [Op.bytesLess, bl_lt x y]
    apply Bool.eq_iff_iff.2
    simp [List.cons_lt_cons_iff]
theorem insL_sorted (x : List UInt8) : ∀ l, l.Pairwise (· ≤ ·) → (insL x l).Pairwise (· ≤ ·)
  | [], _ => by simp [insL]
  | y :: r, h => by
    unfold insL
    rw [List.pairwise_cons] at h
    split
    · rename_i q
      rw [bl_lt, decide_eq_true_eq] at q
      rw [List.pairwise_cons]
      refine ⟨fun z hz => ?_, insL_sorted x r h.2⟩
      rcases List.mem_cons.1 ((insL_perm x r).mem_iff.1 hz) with e | hz
      · subst e; exact List.le_of_lt q
      · exact h.1 z hz
    · rename_i q
      rw [bl_lt, decide_eq_true_eq, List.not_lt] at q
      rw [List.pairwise_cons]
      refine ⟨fun z hz => ?_, List.pairwise_cons.2 h⟩
      rcases List.mem_cons.1 hz with e | hz
      · subst e; exact q
      · exact List.le_trans q (h.1 z hz)
theorem srtL_sorted : ∀ l, (srtL l).Pairwise (· ≤ ·)
  | [] => .nil
  | x :: r => insL_sorted x _ (srtL_sorted r)
theorem srtL_eq (l : List (List UInt8)) : (l.mergeSort fun x y => decide (x ≤ y)) = srtL l := by
  have h1 := List.pairwise_mergeSort (le := fun x y : List UInt8 => decide (x ≤ y)) (fun a b c h k => by simp only [decide_eq_true_eq] at *; exact List.le_trans h k) (fun a b => by simp only [Bool.or_eq_true, decide_eq_true_eq]; exact List.le_total a b) l
  exact List.Perm.eq_of_pairwise (le := (· ≤ ·)) (fun a b _ _ h k => List.le_antisymm h k) (h1.imp fun h => by simpa using h) (srtL_sorted l) ((List.mergeSort_perm l _).trans (srtL_perm l).symm)
def strP (l : List UInt8) : PV := .str ⟨l.toArray⟩
def srF : List PV → St → Option (PV × St)
  | [.sl _ []], S => some (.un, S)
  | [.msl l o n sz], S => if n = 0 then some (.un, S) else if sz = 1 ∧ n < 4611686018427387904 then
      match S.obs[l]? with
      | some (.row t cs) => if o + n ≤ cs.length then match strsOf ((cs.drop o).take n) with
          | some ss => some (.un, { S with obs := S.obs.set l (.row t (setRow cs o ((srtL ss).map strP))) })
          | none => none
        else none
      | _ => none
    else none
  | _, _ => none
theorem strsOf_get : ∀ {l : List PV} {ss : List (List UInt8)}, strsOf l = some ss → ss.length = l.length ∧ ∀ (i : Nat) s, ss[i]? = some s → l[i]? = some (strP s)
  | [], ss, h => by simp only [strsOf, Option.some.injEq] at h; subst h; simp
  | .str s :: r, ss, h => by
    simp only [strsOf, Option.map_eq_some_iff] at h
    obtain ⟨t, ht, rfl⟩ := h
    obtain ⟨h1, h2⟩ := strsOf_get ht
    refine ⟨by simp [h1], fun i x hx => ?_⟩
    match i with
    | 0 => simp at hx; subst hx; simp [strP]
    | i + 1 => exact h2 i x (by simpa using hx)
  | .bool _ :: _, _, h | .int _ _ :: _, _, h | .nilp :: _, _, h | .ref _ _ :: _, _, h | .at_ _ :: _, _, h | .sl _ _ :: _, _, h | .row _ _ :: _, _, h | .fn _ _ _ :: _, _, h | .nilfn :: _, _, h | .ifc _ _ :: _, _, h | .nilifc :: _, _, h
  | .agg _ :: _, _, h | .tup _ :: _, _, h | .yld _ :: _, _, h | .mp _ :: _, _, h | .nilm :: _, _, h | .msl _ _ _ _ :: _, _, h => by simp [strsOf] at h
theorem srtL_len (l : List (List UInt8)) : (srtL l).length = l.length := (srtL_perm l).length_eq
theorem enter_sr : Enter Try.prog 29 := ⟨_, Try.func29, by kernel_rfl, by kernel_rfl⟩
theorem putCells_list (off : Nat) (d : Array (List UInt8)) (arr : Array Value) : off + d.size ≤ arr.size → (Sort.putCells Go.Proofs.encStr off d arr).toList = setRowV arr.toList off (d.toList.map Go.Proofs.encStr) := by
  intro h
  apply List.ext_getElem?
  intro k
  rw [setRowV_eq _ _ off (by simpa using h)]
  simp only [Sort.putCells, Array.getElem?_toList, Array.getElem?_mapIdx]
  simp only [List.append_assoc, List.getElem?_append, List.length_take, Array.length_toList, List.length_map, List.getElem?_take, List.getElem?_map, List.getElem?_drop, Array.getElem?_toList]
  by_cases h1 : k < off
  · rw [if_pos (by omega), if_pos h1]
    have : k < arr.size := by omega
    rw [Array.getElem?_eq_getElem this]
    simp only [Option.map_some]; rw [if_neg (by omega)]
  · rw [if_neg (by omega)]
    by_cases h2 : k < off + d.size
    · have : k < arr.size := by omega
      rw [Array.getElem?_eq_getElem this, if_pos (by omega)]
      have e : k - min off arr.size = k - off := by omega
      simp only [Option.map_some]; rw [if_pos (by omega), e]
      have h3 : k - off < d.size := by omega
      rw [Array.getElem?_eq_getElem h3, getElem!_pos d _ h3]; rfl
    · rw [if_neg (by omega)]
      cases h3 : arr[k]? with
      | none =>
        have : arr.size ≤ k := by rw [Array.getElem?_eq_none_iff] at h3; exact h3
        simp only [Option.map_none]
        rw [Array.getElem?_eq_none (by omega)]
      | some y =>
        simp only [Option.map_some]
        rw [if_neg (by omega)]
        have e : off + d.size + (k - min off arr.size - d.size) = k := by omega
        rw [e, h3]
/-- A row of texts in memory: what the contracts ask of it, and what turning it comes to. -/
theorem row_holds {G : Glob} {C : Ctx} {S : St} {w : World} (hW : WRel G C S w) {l b off n : Nat} {ct : TypeId} {cs : List PV} {ss : List (List UInt8)} (hob : S.obs[l]? = some (.row ct cs)) (hm' : C.m l = some b ∨ C.d l = true) (hle : off + n ≤ cs.length) (hss : strsOf ((cs.drop off).take n) = some ss) :
    b < w.heap.size ∧ ss.length = n ∧ Sort.Holds Go.Proofs.encStr w b off ss.toArray := by
  obtain ⟨hm, hblt, arr, h1, h20, h2, h3, h4⟩ := hW.live hob (by simp) hm'
  obtain ⟨hsl, hsg⟩ := strsOf_get hss
  have hlen : ss.length = n := by rw [hsl]; simp; omega
  refine ⟨hblt, hlen, fun j hj => ?_⟩
  have hj' : j < ss.length := by simpa using hj
  have hg := hsg j ss[j] (List.getElem?_eq_getElem hj')
  rw [List.getElem?_take, if_pos (by omega), List.getElem?_drop] at hg
  have hi : off + j < arr.size := by omega
  have hr := h4 (off + j) _ arr[off + j] hg (Array.getElem?_eq_getElem hi)
  have hv : arr[off + j] = Go.Proofs.encStr ss[j] := by
    generalize arr[off + j] = u at hr
    unfold strP at hr
    cases hr; rfl
  refine ⟨?_, by simp [World.frozen?, h1]⟩
  rw [cell?_of h1 (Array.getElem?_eq_getElem hi), hv, getElem!_pos _ j hj]
  simp
theorem row_turn {G : Glob} {C : Ctx} {S : St} {w : World} (hW : WRel G C S w) {l b off n : Nat} {ct : TypeId} {cs : List PV} (d : List (List UInt8)) (hob : S.obs[l]? = some (.row ct cs)) (hm' : C.m l = some b ∨ C.d l = true) (hle : off + n ≤ cs.length) (hdl : d.length = n) (k : Nat) (os : Array Obj) :
    WRel G C { S with obs := S.obs.set l (.row ct (setRow cs off (d.map strP))) } (Sort.grow (Sort.putRow Go.Proofs.encStr (Sort.ahead w k) b off d.toArray) os) ∧ Step C w C (Sort.grow (Sort.putRow Go.Proofs.encStr (Sort.ahead w k) b off d.toArray) os) := by
  obtain ⟨hm, hblt, arr, h1, h20, h2, h3, h4⟩ := hW.live hob (by simp) hm'
  have hw1 : Sort.putRow Go.Proofs.encStr (Sort.ahead w k) b off d.toArray = Sort.ahead (Sort.putRow Go.Proofs.encStr w b off d.toArray) k := rfl
  have hh : (Sort.putRow Go.Proofs.encStr w b off d.toArray).heap[b]? = some (.cells (Sort.putCells Go.Proofs.encStr off d.toArray arr) ct (0, 0)) := by
    simp [Sort.putRow, Sort.mapBlock, Array.getElem?_modify, h1, Sort.onCells]
  have h5 : ∀ k, k ≠ b → (Sort.putRow Go.Proofs.encStr w b off d.toArray).heap[k]? = w.heap[k]? := fun k hk => by
    simp only [Sort.putRow, Sort.mapBlock, Array.getElem?_modify]
    rw [if_neg (fun e => hk e.symm)]
  have hsize : (Sort.putRow Go.Proofs.encStr w b off d.toArray).heap.size = w.heap.size := Sort.size_putRow _ _ _ _ _
  have hs : Step C w C (Sort.putRow Go.Proofs.encStr w b off d.toArray) := step_turn hW hm rfl rfl rfl hsize h5
  have hpl := putCells_list off d.toArray arr (by simp; omega)
  have hbel : Below (Sort.putRow Go.Proofs.encStr w b off d.toArray).heap.size (Sort.putRow Go.Proofs.encStr w b off d.toArray) (Sort.grow (Sort.ahead (Sort.putRow Go.Proofs.encStr w b off d.toArray) k) os) :=
    ⟨rfl, rfl, rfl, by simp [Sort.grow, Sort.ahead], fun q hq => by
      simp only [Sort.grow, Sort.ahead]
      rw [Array.getElem?_append, if_pos hq]⟩
  have hW1 : WRel G C { S with obs := S.obs.set l (.row ct (setRow cs off (d.map strP))) } (Sort.putRow Go.Proofs.encStr w b off d.toArray) := by
    refine wrel_turn hW hm hs hsize h5 (by simp) ?_
    have hrc : RepC C w cs (arr.toList.take cs.length) := ⟨by simp; omega, h3, fun i p v hp hv => by
      rw [List.getElem?_take] at hv; split at hv
      · exact h4 i p v hp (by simpa using hv)
      · cases hv⟩
    have rq : RepC C w (d.map strP) (d.map Go.Proofs.encStr) := ⟨by simp, fun i p hp => by
        simp only [List.getElem?_map, Option.map_eq_some_iff] at hp
        obtain ⟨x, _, rfl⟩ := hp; rfl, fun i p v hp hv => by
        simp only [List.getElem?_map, Option.map_eq_some_iff] at hp hv
        obtain ⟨x, hx, rfl⟩ := hp
        obtain ⟨y, hy, rfl⟩ := hv
        rw [hx] at hy; injection hy with hy; subst hy
        exact .str _⟩
    have hrr := (RepC.setRow off hrc rq).step hs
    have htk : ∀ (us vs : List Value) (off : Nat), off + us.length ≤ cs.length → (setRowV (vs.take cs.length) off us) = (setRowV vs off us).take cs.length := by
      intro us
      induction us with
      | nil => intro vs off _; rfl
      | cons u us ih =>
        intro vs off h
        simp only [List.length_cons] at h
        simp only [setRowV]
        rw [← ih _ (off + 1) (by omega)]
        congr 1
        rw [List.take_set]
    rw [htk _ _ _ (by simp; omega)] at hrr
    have hsl : (setRowV arr.toList off (d.map Go.Proofs.encStr)).length = arr.size := by
      rw [setRowV_eq _ _ _ (by simp; omega)]; simp; omega
    refine ⟨_, hh, by rw [← Array.length_toList, hpl, hsl]; exact h20, by rw [← Array.length_toList, hpl, hsl, setRow_length]; exact h2, hrr.2.1, fun i p v hp hv => hrr.2.2 i p v hp ?_⟩
    rw [List.getElem?_take, if_pos (by have := getElem?_lt hp; rwa [setRow_length] at this)]
    rw [← Array.getElem?_toList, hpl] at hv
    exact hv
  rw [hw1]
  exact ⟨hW1.of_below hbel, hs.trans (.of_below hbel C)⟩
theorem srF_spec (G : Glob) (args : List PV) (S : St) (r : PV) (S' : St) (h : srF args S = some (r, S')) : CallSpec Try.prog G 29 args S r S' := by
  intro C w vs hW hR
  unfold srF at h
  split at h
  · rename_i g
    injection h with h; injection h with e1 e2; subst e1 e2
    match vs, hR with
    | [], hR => have := hR.1; simp at this
    | _ :: _ :: _, hR => have := hR.1; simp at this
    | [v], hR =>
    have rp := hR.2 0 _ v rfl rfl
    cases rp with | sl _ _ a n cap sz hn =>
    simp only [List.length_nil] at hn
    subst hn
    refine (Try.slices_Sort_string_none a cap w).mono ?_
    rintro e w' ⟨rfl, rfl⟩
    exact ⟨C, _, rfl, .un C _, hW, .refl C _⟩
  · rename_i l o n sz
    match vs, hR with
    | [], hR => have := hR.1; simp at this
    | _ :: _ :: _, hR => have := hR.1; simp at this
    | [v], hR =>
    have rp := hR.2 0 _ v rfl rfl
    cases rp with | msl _ _ _ _ b off cap hn hoff hm =>
    split at h
    · rename_i hn0
      subst hn0
      injection h with h; injection h with e1 e2; subst e1 e2
      refine (Try.slices_Sort_string_none (some ⟨b, off, none⟩) cap w).mono ?_
      rintro e w' ⟨rfl, rfl⟩
      exact ⟨C, _, rfl, .un C _, hW, .refl C _⟩
    · rename_i hn0
      obtain rfl := hoff hn0
      split at h
      · rename_i hc
        obtain ⟨rfl, hlt⟩ := hc
        split at h
        · rename_i ct cs hob
          split at h
          · rename_i hle
            split at h
            · rename_i ss hss
              injection h with h; injection h with e1 e2; subst e1 e2
              have hm' : C.m l = some b ∨ C.d l = true := by rcases hm with ⟨h, _⟩ | h; exact .inl h; exact .inr h
              obtain ⟨hblt, hlen, hH⟩ := row_holds hW hob hm' hle hss
              have := Try.slices_Sort_string b off cap ss w hH hblt (by omega)
              rw [hlen] at this
              refine this.mono ?_
              rintro e w' ⟨rfl, k, os, rfl⟩
              rw [srtL_eq]
              obtain ⟨h1, h2⟩ := row_turn hW (srtL ss) hob hm' hle (by rw [srtL_len, hlen]) k os
              exact ⟨C, _, rfl, .un C _, h1, h2⟩
            · cases h
          · cases h
        · cases h
      · cases h
  · cases h
--IF slices.Compact[[]string,string]
def cpA (p : List UInt8) : List (List UInt8) → List (List UInt8)
  | [] => []
  | x :: r => if x = p then cpA p r else x :: cpA x r
/-- Each that is not the one ahead of it. -/
def cpL : List (List UInt8) → List (List UInt8)
  | [] => []
  | x :: r => x :: cpA x r
def cpF : List PV → St → Option (PV × St)
  | [.sl g []], S => some (.sl g [], S)
  | [.msl l o n sz], S => if n = 0 then some (.msl l o n sz, S) else if sz = 1 ∧ n < 4611686018427387904 then
      match S.obs[l]? with
      | some (.row t cs) => if o + n ≤ cs.length then match strsOf ((cs.drop o).take n) with
          | some ss => some (.msl l o (cpL ss).length sz, { S with obs := S.obs.set l (.row t (setRow cs o ((cpL ss ++ List.replicate (ss.length - (cpL ss).length) []).map strP))) })
          | none => none
        else none
      | _ => none
    else none
  | _, _ => none
theorem cpA_len (p : List UInt8) : ∀ l, (cpA p l).length ≤ l.length
  | [] => by simp [cpA]
  | x :: r => by
    unfold cpA
    split
    · have := cpA_len p r; simp; omega
    · have := cpA_len x r; simp; omega
theorem cpL_len : ∀ l, (cpL l).length ≤ l.length
  | [] => by simp [cpL]
  | x :: r => by have := cpA_len x r; simp [cpL]; omega
theorem keeps_app (a : List (List UInt8)) (p : List UInt8) (b : List (List UInt8)) (j : Nat) (h : j < a.length) : Lib.keeps (a ++ b).toArray j = Lib.keeps a.toArray j := by
  have e1 : (a ++ b).toArray[j]! = a.toArray[j]! := by
    rw [getElem!_pos _ j (by simp; omega), getElem!_pos _ j (by simpa using h)]
    simp [List.getElem_append_left h]
  have e2 : (a ++ b).toArray[j - 1]! = a.toArray[j - 1]! := by
    rw [getElem!_pos _ (j - 1) (by simp; omega), getElem!_pos _ (j - 1) (by simp; omega)]
    simp [List.getElem_append_left (show j - 1 < a.length by omega)]
  unfold Lib.keeps
  rw [e1, e2]
theorem compact_snoc (a : List (List UInt8)) (x : List UInt8) : Lib.compact (a ++ [x]) = Lib.compact a ++ (if Lib.keeps (a ++ [x]).toArray a.length then [x] else []) := by
  unfold Lib.compact
  rw [List.length_append, List.length_singleton, Lib.compactUpTo_succ]
  congr 1
  · unfold Lib.compactUpTo
    have e1 : (List.range a.length).filter (Lib.keeps (a ++ [x]).toArray) = (List.range a.length).filter (Lib.keeps a.toArray) := List.filter_congr fun j hj => keeps_app a [] [x] j (by simpa using hj)
    rw [e1]
    apply List.map_congr_left
    intro j hj
    have hj : j < a.length := by simpa using (List.mem_filter.1 hj).1
    rw [getElem!_pos _ j (by simp; omega), getElem!_pos _ j (by simpa using hj)]
    simp [List.getElem_append_left hj]
  · rw [getElem!_pos _ a.length (by simp)]
    simp
theorem cpA_snoc (x : List UInt8) : ∀ (a : List (List UInt8)) (p : List UInt8), cpA p (a ++ [x]) = cpA p a ++ (if (p :: a)[a.length]? = some x then [] else [x])
  | [], p => by
    simp only [List.nil_append, cpA, List.length_nil, List.getElem?_cons_zero, Option.some.injEq]
    by_cases h : x = p
    · subst h; simp
    · have h2 : ¬ p = x := fun e => h e.symm
      simp [h, h2]
  | y :: a, p => by
    simp only [List.cons_append, cpA]
    split
    · rename_i e
      subst e
      rw [cpA_snoc x a y]
      simp
    · rw [cpA_snoc x a y]
      simp
theorem cpL_eq : ∀ (n : Nat) (l : List (List UInt8)), l.length = n → Lib.compact l = cpL l
  | 0, l, h => by
    have : l = [] := List.eq_nil_of_length_eq_zero h
    subst this; rfl
  | n + 1, l, h => by
    obtain ⟨a, x, rfl⟩ : ∃ a x, l = a ++ [x] := ⟨l.dropLast, l.getLast (by intro e; subst e; simp at h), (List.dropLast_concat_getLast _).symm⟩
    simp at h
    rw [compact_snoc, cpL_eq n a h]
    cases a with
    | nil =>
      simp [cpL, cpA, Lib.keeps]
    | cons y a =>
      simp only [List.cons_append, cpL]
      rw [cpA_snoc]
      have e : Lib.keeps (y :: (a ++ [x])).toArray (y :: a).length = !decide ((y :: a)[a.length]? = some x) := by
        unfold Lib.keeps
        rw [getElem!_pos _ (y :: a).length (by simp), getElem!_pos _ ((y :: a).length - 1) (by simp; omega)]
        have h1 : ((y :: (a ++ [x])).toArray)[(y :: a).length]'(by simp) = x := by
          simp
        have h2 : ((y :: (a ++ [x])).toArray)[(y :: a).length - 1]'(by simp; omega) = (y :: a)[a.length]'(by simp) := by
          simp only [List.getElem_toArray, List.length_cons, Nat.add_sub_cancel]
          have := List.getElem_append_left («as» := y :: a) (bs := [x]) (i := a.length) (h' := by simp; omega) (by simp)
          simpa using this
        rw [h1, h2, List.getElem?_eq_getElem (by simp)]
        simp only [List.length_cons, Option.some.injEq]
        by_cases q : (y :: a)[a.length]'(by simp) = x
        · simp [q]
        · have q2 : ¬ x = (y :: a)[a.length]'(by simp) := fun e => q e.symm
          simp [q, q2]
      have e' : Lib.keeps ((y :: a) ++ [x]).toArray (y :: a).length = !decide ((y :: a)[a.length]? = some x) := e
      have e3 : ∀ (b : Bool) (c : Prop) [Decidable c], b = !decide c → (if b = true then [x] else []) = (if c then [] else [x]) := fun b c _ hb => by subst hb; by_cases c <;> simp [*]
      have := e3 _ _ e'
      exact congrArg (fun z => y :: (cpA y a ++ z)) this
theorem enter_cp : Enter Try.prog 30 := ⟨_, Try.func30, by kernel_rfl, by kernel_rfl⟩
theorem cpF_spec (G : Glob) (args : List PV) (S : St) (r : PV) (S' : St) (h : cpF args S = some (r, S')) : CallSpec Try.prog G 30 args S r S' := by
  intro C w vs hW hR
  unfold cpF at h
  split at h
  · rename_i g
    injection h with h; injection h with e1 e2; subst e1 e2
    match vs, hR with
    | [], hR => have := hR.1; simp at this
    | _ :: _ :: _, hR => have := hR.1; simp at this
    | [v], hR =>
    have rp := hR.2 0 _ v rfl rfl
    have rp' := rp
    cases rp with | sl _ _ a n cap sz hn =>
    simp only [List.length_nil] at hn
    subst hn
    refine (Try.slices_Compact_string_empty a cap w).mono ?_
    rintro e w' ⟨rfl, rfl⟩
    exact ⟨C, _, rfl, rp', hW, .refl C _⟩
  · rename_i l o n sz
    match vs, hR with
    | [], hR => have := hR.1; simp at this
    | _ :: _ :: _, hR => have := hR.1; simp at this
    | [v], hR =>
    have rp := hR.2 0 _ v rfl rfl
    have rp' := rp
    cases rp with | msl _ _ _ _ b off cap hn hoff hm =>
    split at h
    · rename_i hn0
      subst hn0
      injection h with h; injection h with e1 e2; subst e1 e2
      refine (Try.slices_Compact_string_empty (some ⟨b, off, none⟩) cap w).mono ?_
      rintro e w' ⟨rfl, rfl⟩
      exact ⟨C, _, rfl, rp', hW, .refl C _⟩
    · rename_i hn0
      obtain rfl := hoff hn0
      split at h
      · rename_i hc
        obtain ⟨rfl, hlt⟩ := hc
        split at h
        · rename_i ct cs hob
          split at h
          · rename_i hle
            split at h
            · rename_i ss hss
              injection h with h; injection h with e1 e2; subst e1 e2
              have hm' : C.m l = some b ∨ C.d l = true := by rcases hm with ⟨h, _⟩ | h; exact .inl h; exact .inr h
              obtain ⟨hblt, hlen, hH⟩ := row_holds hW hob hm' hle hss
              have := Try.slices_Compact_string b off cap ss w hH (by omega) (by omega)
              rw [hlen] at this
              refine this.mono ?_
              rintro e w' ⟨rfl, k, rfl⟩
              rw [cpL_eq _ ss rfl]
              have hcl := cpL_len ss
              obtain ⟨h1, h2⟩ := row_turn hW (cpL ss ++ List.replicate (ss.length - (cpL ss).length) []) hob hm' hle (by simp; omega) k #[]
              have hg : ∀ w : World, Sort.grow w #[] = w := fun w => by simp [Sort.grow]
              rw [hg, hlen] at h1 h2
              rw [hlen]
              refine ⟨C, _, rfl, .msl l off _ 1 b off cap (by omega) (fun _ => rfl) ?_, h1, h2⟩
              exact hm
            · cases h
          · cases h
        · cases h
      · cases h
  · cases h
theorem strsOf_mv (B : St) : ∀ l : List PV, strsOf (mBL B l) = strsOf l
  | [] => rfl
  | .str s :: r => by
    show (strsOf (mBL B r)).map _ = _
    rw [strsOf_mv B r]; rfl
  | .bool _ :: _ | .int _ _ :: _ | .nilp :: _ | .ref _ _ :: _ | .at_ _ :: _ | .sl _ _ :: _ | .row _ _ :: _ | .fn _ _ _ :: _ | .nilfn :: _ | .ifc _ _ :: _ | .nilifc :: _ | .agg _ :: _ | .tup _ :: _ | .yld _ :: _ | .mp _ :: _ | .nilm :: _ | .msl _ _ _ _ :: _ => rfl
theorem strP_mv (B : St) : ∀ l : List (List UInt8), mBL B (l.map strP) = l.map strP
  | [] => rfl
  | s :: l => by
    show strP s :: mBL B (l.map strP) = _
    rw [strP_mv B l]; rfl
theorem srF_mv (B : St) (args : List PV) (S : St) (r : PV) (S' : St) (h : srF args S = some (r, S')) : srF (mBL B args) (mS B S) = some (mB B r, mS B S') := by
  unfold srF at h
  split at h
  · injection h with h; injection h with h1 h2; subst h1 h2; rfl
  · rename_i l o n sz
    show srF [.msl (B.obs.length + l) o n sz] (mS B S) = _
    unfold srF
    simp only
    split at h
    · rename_i hn0
      rw [if_pos hn0]
      injection h with h; injection h with h1 h2; subst h1 h2; rfl
    · rename_i hn0
      rw [if_neg hn0]
      split at h
      · rename_i hc
        rw [if_pos hc]
        simp only [mS_ob]
        split at h
        · rename_i t cs hob
          rw [hob]
          simp only [Option.map_some, mBO, mvO]
          split at h
          · rename_i hle
            have hl : (mvL B.obs.length B.own.length cs).length = cs.length := mBL_len (B := B) cs
            rw [if_pos (by rw [hl]; exact hle)]
            have e : ((mvL B.obs.length B.own.length cs).drop o).take n = mBL B ((cs.drop o).take n) := by
              show ((mBL B cs).drop o).take n = _
              rw [mBL_drop, mBL_take]
            rw [e, strsOf_mv]
            split at h
            · rename_i ss hss
              injection h with h; injection h with h1 h2; subst h1 h2
              simp only [mS_obs_set, mBO, mvO]
              have e2 : setRow (mBL B cs) o ((srtL ss).map strP) = mBL B (setRow cs o ((srtL ss).map strP)) := by
                conv => lhs; rw [← strP_mv B (srtL ss)]
                rw [setRow_mv]
              show some (_, _) = _
              rw [show mvL B.obs.length B.own.length cs = mBL B cs from rfl, e2]
              rfl
            · cases h
          · cases h
        · cases h
      · cases h
  · cases h
theorem cpF_mv (B : St) (args : List PV) (S : St) (r : PV) (S' : St) (h : cpF args S = some (r, S')) : cpF (mBL B args) (mS B S) = some (mB B r, mS B S') := by
  unfold cpF at h
  split at h
  · injection h with h; injection h with h1 h2; subst h1 h2; rfl
  · rename_i l o n sz
    show cpF [.msl (B.obs.length + l) o n sz] (mS B S) = _
    unfold cpF
    simp only
    split at h
    · rename_i hn0
      rw [if_pos hn0]
      injection h with h; injection h with h1 h2; subst h1 h2; rfl
    · rename_i hn0
      rw [if_neg hn0]
      split at h
      · rename_i hc
        rw [if_pos hc]
        simp only [mS_ob]
        split at h
        · rename_i t cs hob
          rw [hob]
          simp only [Option.map_some, mBO, mvO]
          split at h
          · rename_i hle
            have hl : (mvL B.obs.length B.own.length cs).length = cs.length := mBL_len (B := B) cs
            rw [if_pos (by rw [hl]; exact hle)]
            have e : ((mvL B.obs.length B.own.length cs).drop o).take n = mBL B ((cs.drop o).take n) := by
              show ((mBL B cs).drop o).take n = _
              rw [mBL_drop, mBL_take]
            rw [e, strsOf_mv]
            split at h
            · rename_i ss hss
              injection h with h; injection h with h1 h2; subst h1 h2
              simp only [mS_obs_set, mBO, mvO]
              have e2 : setRow (mBL B cs) o ((cpL ss ++ List.replicate (ss.length - (cpL ss).length) []).map strP) = mBL B (setRow cs o ((cpL ss ++ List.replicate (ss.length - (cpL ss).length) []).map strP)) := by
                conv => lhs; rw [← strP_mv B (cpL ss ++ List.replicate (ss.length - (cpL ss).length) [])]
                rw [setRow_mv]
              show some (_, _) = _
              rw [show mvL B.obs.length B.own.length cs = mBL B cs from rfl, e2]
              rfl
            · cases h
          · cases h
        · cases h
      · cases h
  · cases h
--ENDIF
end Go.PE
