/-
  Contracts of package fault over this seat's translation: what errors.Is, errors.As and the functions of package fault return at errors that the program makes. Conditions: each contract's own.
-/
import Derived.Test.YtedgebnmllinlaaDoorProg
import Derived.WalkKit
import Derived.LaidEql
import Derived.Stop.Asserts
import Derived.RowKitTokens
import Derived.Below
import Derived.Lib.Hide
import Derived.Deep.LoopGhost
import Derived.Test.YtedgebnmllinlaaDoorFault6
import Derived.Test.YtedgebnmllinlaaDoorWWords
import Derived.Lib.QuietBelow
open Go Go.RowKit Go.Extern.Stop Go.Stop Go.Extern
namespace Go.Proofs.YtedgebnmllinlaaDoor.Fault

open Go.Proofs.YtedgebnmllinlaaDoorW.PrintWords Go.Sort
set_option linter.unusedVariables false
set_option linter.unusedSimpArgs false
def strE (s : ByteArray) : Value := .string s
abbrev NamesR (w : World) (A : Option Addr) (n : Nat) (ns : List ByteArray) : Prop := ReadsOf strE (⟨#[]⟩ : ByteArray) w A n ns
def rCode (c : Int) (o : Bool) : Int := if o then 23 else c
def rAt (c a : Int) (o : Bool) : Int := if o ∨ c = 0 then -1 else a
def rDef (c : Int) (ns : List ByteArray) (o : Bool) : ByteArray := if (o = false ∧ c = 0) ∨ ns = [] then ⟨#[]⟩ else ns.getD (ns.length - 1) ⟨#[]⟩
def rIs (c : Int) (o : Bool) (x : Int) : Bool := if o then false else c == x
theorem rCode_any (c a : Int) (nv : Value) (o : Bool) (w : World) : Calls Tryd.prog 15 #[.agg #[.int .i64 c, .int .i64 a, nv, .bool o]] w fun e w' => e = .returned (.int .i64 (rCode c o)) ∧ Below w.heap.size w w' := by
  have hB := Lib.hid ((Below.refl w.heap.size w).alloc (Nat.le_refl _) (.cells #[.int .i64 c, .int .i64 a, nv, .bool o] 29))
  cases o
  all_goals
    go_enter Tryd.func15, Tryd.ntmps15
    go_wp2
    go_ret
    exact ⟨rfl, hB.out⟩
theorem rAt_any (c a : Int) (nv : Value) (o : Bool) (w : World) : Calls Tryd.prog 17 #[.agg #[.int .i64 c, .int .i64 a, nv, .bool o]] w fun e w' => e = .returned (.int .i64 (rAt c a o)) ∧ Below w.heap.size w w' := by
  have hB := Lib.hid ((Below.refl w.heap.size w).alloc (Nat.le_refl _) (.cells #[.int .i64 c, .int .i64 a, nv, .bool o] 29))
  cases o
  · by_cases hc : c = 0
    · have h0 : (c == 0) = true := by simpa using hc
      have hr : rAt c a false = -1 := by simp [rAt, hc]
      rw [hr]
      clear hc hr
      go_enter Tryd.func17, Tryd.ntmps17
      go_wp2
      go_ret
      exact ⟨rfl, hB.out⟩
    · have h0 : (c == 0) = false := by simpa using hc
      have hr : rAt c a false = a := by simp [rAt, hc]
      rw [hr]
      clear hc hr
      go_enter Tryd.func17, Tryd.ntmps17
      go_wp2
      go_ret
      exact ⟨rfl, hB.out⟩
  · go_enter Tryd.func17, Tryd.ntmps17
    go_wp2
    go_ret
    exact ⟨by simp [rAt], hB.out⟩
theorem rIs_any (c a : Int) (nv : Value) (o : Bool) (x : Int) (w : World) : Calls Tryd.prog 20 #[.agg #[.int .i64 c, .int .i64 a, nv, .bool o], .int .i64 x] w fun e w' => e = .returned (.bool (rIs c o x)) ∧ Below w.heap.size w w' := by
  have hB := Lib.hid ((Below.refl w.heap.size w).alloc (Nat.le_refl _) (.cells #[.int .i64 c, .int .i64 a, nv, .bool o] 29))
  cases o
  all_goals
    go_enter Tryd.func20, Tryd.ntmps20
    go_wp2
    go_ret
    exact ⟨rfl, hB.out⟩
theorem rDef_any (c a : Int) (A : Option Addr) (n cap : Nat) (ns : List ByteArray) (o : Bool) (w : World) (hn : n ≤ 9223372036854775807) (hN : NamesR w A n ns) : Calls Tryd.prog 19 #[.agg #[.int .i64 c, .int .i64 a, .slice A n cap, .bool o]] w fun e w' => e = .returned (.string (rDef c ns o)) ∧ Below w.heap.size w w' := by
  have hB := Lib.hid ((Below.refl w.heap.size w).alloc (Nat.le_refl _) (.cells #[.int .i64 c, .int .i64 a, .slice A n cap, .bool o] 29))
  by_cases hz : o = false ∧ c = 0
  · obtain ⟨rfl, rfl⟩ := hz
    go_enter Tryd.func19, Tryd.ntmps19
    go_wp2
    go_ret
    exact ⟨by simp [rDef], hB.out⟩
  · have hlen := hN.1
    by_cases h0 : n = 0
    · subst h0
      obtain rfl := List.eq_nil_of_length_eq_zero hlen
      cases o
      · have h1 : (c == 0) = false := by simpa using hz
        clear hN hz
        go_enter Tryd.func19, Tryd.ntmps19
        go_wp2
        go_ret
        exact ⟨by simp [rDef], hB.out⟩
      · clear hN hz
        go_enter Tryd.func19, Tryd.ntmps19
        go_wp2
        go_ret
        exact ⟨by simp [rDef], hB.out⟩
    · obtain ⟨ad, rfl, hc⟩ := hN.2.2 (by omega)
      have hc' := hc (n - 1) (by omega)
      have hc2 : (w.alloc (.cells #[.int .i64 c, .int .i64 a, .slice (some ad) n cap, .bool o] 29)).cell? (ad.add (n - 1)) = some (.string (rDef c ns o)) := by
        rw [World.cell?_alloc_lt _ _ _ (World.block_lt_of_cell? w _ hc'), hc']
        have : ns ≠ [] := by rintro rfl; simp at hlen; omega
        simp only [rDef, strE, hlen]
        rw [if_neg (fun h => h.elim hz this)]
      have hi : ((n : Int) - 1).toNat = n - 1 := by omega
      have hi1 : (0 : Int) ≤ (n : Int) - 1 := by omega
      have hi2 : (n : Int) - 1 < (n : Int) := by omega
      have h2 : ((n : Int) == 0) = false := by simpa using h0
      generalize rDef c ns o = r at hc2 ⊢
      cases o
      · have h1 : (c == 0) = false := by simpa using hz
        clear hN hz hc hc' hlen
        go_enter Tryd.func19, Tryd.ntmps19
        go_wp2
        go_ret
        exact ⟨rfl, hB.out⟩
      · clear hN hz hc hc' hlen
        go_enter Tryd.func19, Tryd.ntmps19
        go_wp2
        go_ret
        exact ⟨rfl, hB.out⟩

def stepE (e : Option Er) (x : ByteArray × Bool) : Option Er := if x.2 then e.map Er.strange else inOf x.1 e
def stepN (l : List ByteArray) (x : ByteArray × Bool) : List ByteArray := if x.2 then l else x.1 :: l
def bErr (c a : Int) (o : Bool) (ws : List (ByteArray × Bool)) : Option Er := ws.foldl stepE (if o then some .strange0 else newOf c a)
def bNames (ws : List (ByteArray × Bool)) : List ByteArray := ws.foldl stepN []
theorem infoStr : (Tryd.prog.info? 9).map (fun i => (i.zero, i.size, i.bytes)) = some (some (.string ⟨#[]⟩), 1, 16) := by kernel_rfl
theorem take_next {ws : List (ByteArray × Bool)} {k : Nat} (h : k < ws.length) : ws.take (k + 1) = ws.take k ++ [ws.getD k (⟨#[]⟩, false)] := by
  rw [List.take_succ_eq_append_getElem h]
  simp [List.getD, h]
theorem bErr_next {c a : Int} {o : Bool} {ws : List (ByteArray × Bool)} {k : Nat} (h : k < ws.length) : bErr c a o (ws.take (k + 1)) = stepE (bErr c a o (ws.take k)) (ws.getD k (⟨#[]⟩, false)) := by
  rw [take_next h, bErr, List.foldl_append]; rfl
theorem bNames_next {ws : List (ByteArray × Bool)} {k : Nat} (h : k < ws.length) : bNames (ws.take (k + 1)) = stepN (bNames (ws.take k)) (ws.getD k (⟨#[]⟩, false)) := by
  rw [take_next h, bNames, List.foldl_append]; rfl
theorem bNames_len (ws : List (ByteArray × Bool)) : (bNames ws).length ≤ ws.length := by
  have : ∀ (l : List (ByteArray × Bool)) (m : List ByteArray), (l.foldl stepN m).length ≤ m.length + l.length := by
    intro l
    induction l with
    | nil => intro m; simp
    | cons x l ih =>
      intro m
      have h := ih (stepN m x)
      have h2 : (stepN m x).length ≤ m.length + 1 := by unfold stepN; split <;> simp
      simp only [List.foldl_cons, List.length_cons]
      omega
  simpa [bNames] using this ws []
theorem Er.At.kept' {w w' : World} {t : Nat} {cs : Array Value} {ty : TypeId} (hk : ∀ (b : Nat) (o : Obj), b ≠ t → w.heap[b]? = some o → w'.heap[b]? = some o) (ht : w.heap[t]? = some (.cells cs ty (0,0))) (h1 : ty ≠ 86) (h2 : ty ≠ 90) (h3 : ty ≠ 47) {e : Er} : ∀ {u : Value}, e.At w u → e.At w' u := by
  have key : ∀ (g : Nat) (ds : Array Value) (ty' : TypeId), ty ≠ ty' → w.heap[g]? = some (.cells ds ty' (0,0)) → w'.heap[g]? = some (.cells ds ty' (0,0)) := by
    intro g ds ty' hty hg
    refine hk g _ ?_ hg
    rintro rfl
    rw [ht] at hg
    injection hg with hg
    injection hg with _ hg
    exact hty hg
  induction e with
  | place c n => rintro u ⟨g, hv, hg⟩; exact ⟨g, hv, key _ _ _ h1 hg⟩
  | named s e ih => rintro u ⟨g, u', hv, hg, h⟩; exact ⟨g, u', hv, key _ _ _ h2 hg, ih h⟩
  | strange0 => rintro u ⟨g, hv, hg⟩; exact ⟨g, hv, key _ _ _ h3 hg⟩
  | strange e ih => rintro u ⟨g, u', hv, hg, h⟩; exact ⟨g, u', hv, key _ _ _ h3 hg, ih h⟩
/-- What holds at the loop's head, behind the wraps 'l'. -/
structure LoopI (c a : Int) (o : Bool) (w : World) (f : Nat) (l : List (ByteArray × Bool)) (v nv : Value) (w' : World) : Prop where
  err : ErAt w' (bErr c a o l) v
  own : w'.ownsRow (f + 1) 9 1 nv (bNames l).length (encs strE (bNames l))
  res : w'.heap[w.heap.size]? = some (.cells #[.int .i64 0, .int .i64 0, .slice none 0 0, .bool false] 29 (0,0))
  flt : w'.heap[f]? = some (.cells #[.int .i64 c, .int .i64 a, .slice none 0 0, .bool o] 29 (0,0))
  lt : w.heap.size < f
  below : Below w.heap.size w w'
theorem LoopI.kept {c a : Int} {o : Bool} {w : World} {f : Nat} {l : List (ByteArray × Bool)} {v nv : Value} {w1 w2 : World} (h : LoopI c a o w f l v nv w1) (hb : Below w1.heap.size w1 w2) : LoopI c a o w f l v nv w2 where
  err := h.err.below hb
  own := pw_own_below h.own hb
  res := (hb.block _ (Array.getElem?_eq_some_iff.1 h.res).1).trans h.res
  flt := (hb.block _ (Array.getElem?_eq_some_iff.1 h.flt).1).trans h.flt
  lt := h.lt
  below := h.below.trans (hb.mono h.below.size)
theorem loopI_of {c a : Int} {o : Bool} {w w1 : World} {v : Value} (hB0 : Below w.heap.size w (w.alloc (.cells #[.int .i64 0, .int .i64 0, .slice none 0 0, .bool false] 29)))
    (hR0 : (w.alloc (.cells #[.int .i64 0, .int .i64 0, .slice none 0 0, .bool false] 29)).heap[w.heap.size]? = some (.cells #[.int .i64 0, .int .i64 0, .slice none 0 0, .bool false] 29 (0,0)))
    (hb : Below (w.alloc (.cells #[.int .i64 0, .int .i64 0, .slice none 0 0, .bool false] 29)).heap.size (w.alloc (.cells #[.int .i64 0, .int .i64 0, .slice none 0 0, .bool false] 29)) w1)
    (hv : ErAt w1 (bErr c a o []) v) : LoopI c a o w w1.heap.size [] v (.slice none 0 0) (w1.alloc (.cells #[.int .i64 c, .int .i64 a, .slice none 0 0, .bool o] 29)) := by
  have hs := hb.size
  have h1 := (Below.refl w1.heap.size w1).alloc (Nat.le_refl _) (.cells #[.int .i64 c, .int .i64 a, .slice none 0 0, .bool o] 29)
  exact { err := hv.below h1
          own := own_nil _ _ _ _
          res := (Below.heap_alloc _ _ _ (by simp at hs; omega)).trans ((hb.block _ (by simp)).trans hR0)
          flt := heap_new _ _
          lt := by simp at hs; omega
          below := (hB0.trans (hb.mono hB0.size)).trans (h1.mono (by simp at hs; omega)) }
theorem loopI_true {c a : Int} {w w1 : World} (hB0 : Below w.heap.size w (w.alloc (.cells #[.int .i64 0, .int .i64 0, .slice none 0 0, .bool false] 29)))
    (hR0 : (w.alloc (.cells #[.int .i64 0, .int .i64 0, .slice none 0 0, .bool false] 29)).heap[w.heap.size]? = some (.cells #[.int .i64 0, .int .i64 0, .slice none 0 0, .bool false] 29 (0,0)))
    (hb : Below (w.alloc (.cells #[.int .i64 0, .int .i64 0, .slice none 0 0, .bool false] 29)).heap.size (w.alloc (.cells #[.int .i64 0, .int .i64 0, .slice none 0 0, .bool false] 29)) w1) :
    LoopI c a true w w1.heap.size [] (.iface 45 (.pointer (some ⟨w1.heap.size + 1, 0, none⟩))) (.slice none 0 0) ((w1.alloc (.cells #[.int .i64 c, .int .i64 a, .slice none 0 0, .bool true] 29)).alloc (.cells #[.nilIface] 47)) := by
  have hs := hb.size
  have h1 := (Below.refl w1.heap.size w1).alloc (Nat.le_refl _) (.cells #[.int .i64 c, .int .i64 a, .slice none 0 0, .bool true] 29)
  have h2 := h1.alloc (by simp) (.cells #[.nilIface] 47)
  exact { err := ⟨_, rfl, by simpa using heap_new (w1.alloc (.cells #[.int .i64 c, .int .i64 a, .slice none 0 0, .bool true] 29)) _⟩
          own := own_nil _ _ _ _
          res := (h2.block _ (by simp at hs; omega)).trans ((hb.block _ (by simp)).trans hR0)
          flt := (Below.heap_alloc _ _ _ (by simp)).trans (heap_new _ _)
          lt := by simp at hs; omega
          below := (hB0.trans (hb.mono hB0.size)).trans (h2.mono (by simp at hs; omega)) }
theorem set4 {W V : World} {R : Nat} {c a : Int} {o : Bool} {nv z0 z1 z2 z3 : Value} {ty : TypeId} (hR : W.heap[R]? = some (.cells #[z0, z1, z2, z3] ty (0,0)))
    (hV : V = ((((W.setCell ⟨R, 0, none⟩ (.int .i64 c)).setCell ⟨R, 1, none⟩ (.int .i64 a)).setCell ⟨R, 2, none⟩ nv).setCell ⟨R, 3, none⟩ (.bool o)).drew) :
    V.heap[R]? = some (.cells #[.int .i64 c, .int .i64 a, nv, .bool o] ty (0,0)) ∧ (V.heap.size = W.heap.size ∧ V.os = W.os ∧ V.tape = W.tape ∧ V.output = W.output) ∧ ∀ (b : Nat), b ≠ R → V.heap[b]? = W.heap[b]? := by
  subst hV
  refine ⟨?_, ?_, fun b hb => ?_⟩
  · simp only [World.drew, World.setCell, Array.getElem?_modify, if_true, hR]
    rfl
  · exact ⟨by simp [World.drew], rfl, rfl, rfl⟩
  · simp only [World.drew, World.setCell, Array.getElem?_modify, if_neg (Ne.symm hb)]
theorem loopI_fin {c a : Int} {o : Bool} {w wr : World} {f cap : Nat} {ws : List (ByteArray × Bool)} {v : Value} {A : Option Addr} (h : LoopI c a o w f ws v (.slice A (bNames ws).length cap) wr) (hN : NamesR wr A (bNames ws).length (bNames ws)) :
    let W := wr.setCell ⟨f, 2, none⟩ (.slice A (bNames ws).length cap)
    W.cell? ⟨f, 0, none⟩ = some (.int .i64 c) ∧ W.cell? ⟨f, 1, none⟩ = some (.int .i64 a) ∧ W.cell? ⟨f, 2, none⟩ = some (.slice A (bNames ws).length cap) ∧ W.cell? ⟨f, 3, none⟩ = some (.bool o) ∧
    W.cell? ⟨w.heap.size, 0, none⟩ = some (.int .i64 0) ∧ W.cell? ⟨w.heap.size, 1, none⟩ = some (.int .i64 0) ∧ W.cell? ⟨w.heap.size, 2, none⟩ = some (.slice none 0 0) ∧ W.cell? ⟨w.heap.size, 3, none⟩ = some (.bool false) ∧
    W.frozen? ⟨w.heap.size, 0, none⟩ = false ∧ W.frozen? ⟨w.heap.size, 1, none⟩ = false ∧ W.frozen? ⟨w.heap.size, 2, none⟩ = false ∧ W.frozen? ⟨w.heap.size, 3, none⟩ = false ∧
    (∀ V : World, V = ((((W.setCell ⟨w.heap.size, 0, none⟩ (.int .i64 c)).setCell ⟨w.heap.size, 1, none⟩ (.int .i64 a)).setCell ⟨w.heap.size, 2, none⟩ (.slice A (bNames ws).length cap)).setCell ⟨w.heap.size, 3, none⟩ (.bool o)).drew →
     V.heap[w.heap.size]? = some (.cells #[.int .i64 c, .int .i64 a, .slice A (bNames ws).length cap, .bool o] 29 (0,0)) ∧ ErAt V (bErr c a o ws) v ∧ NamesR V A (bNames ws).length (bNames ws) ∧ Below w.heap.size w V) := by
  intro W
  have hF : W.heap[f]? = some (.cells #[.int .i64 c, .int .i64 a, .slice A (bNames ws).length cap, .bool o] 29 (0,0)) := by
    simp only [W, World.setCell, Array.getElem?_modify, if_true, h.flt]
    rfl
  have hO : ∀ (b : Nat) (ob : Obj), b ≠ f → wr.heap[b]? = some ob → W.heap[b]? = some ob := by
    intro b ob hb he
    simp only [W, World.setCell, Array.getElem?_modify, if_neg (Ne.symm hb), he]
  have hR := hO w.heap.size _ (by have := h.lt; omega) h.res
  refine ⟨cell_blk hF rfl, cell_blk hF rfl, cell_blk hF rfl, cell_blk hF rfl, cell_blk hR rfl, cell_blk hR rfl, cell_blk hR rfl, cell_blk hR rfl, by simp [World.frozen?, hR], by simp [World.frozen?, hR], by simp [World.frozen?, hR], by simp [World.frozen?, hR], fun V hVe => ?_⟩
  obtain ⟨hV1, ⟨hVs, hVo, hVt, hVp⟩, hV2⟩ := set4 hR hVe
  clear hVe
  refine ⟨hV1, ?_, ?_, ?_⟩
  · have h1 := h.err
    cases hb : bErr c a o ws with
    | none => rw [hb] at h1; exact h1
    | some e =>
      rw [hb] at h1
      have h2 : e.At W v := Er.At.kept' (t := f) (fun b ob hne he => hO b ob hne he) h.flt (by decide) (by decide) (by decide) h1
      exact Er.At.kept' (t := w.heap.size) (fun b ob hne he => (hV2 b hne).trans he) hR (by decide) (by decide) (by decide) h2
  · refine ⟨hN.1, hN.2.1, fun h0 => ?_⟩
    obtain ⟨ad, rfl, hc⟩ := hN.2.2 h0
    refine ⟨ad, rfl, fun j hj => ?_⟩
    have hne : f < ad.block := by
      rcases h.own.2 with ⟨e, _⟩ | ⟨g, cap', cur, e, hg, hb, _⟩
      · cases e
      · injection e with e
        injection e with e
        subst e
        exact (show f < g by omega)
    have hlt := h.lt
    have hbl : (ad.add j).block = ad.block := by unfold Addr.add; split <;> rfl
    rw [← hc j hj]
    have e1 : W.heap[ad.block]? = wr.heap[ad.block]? := by
      simp only [W, World.setCell, Array.getElem?_modify]
      rw [if_neg (by omega)]
    unfold World.cell?
    rw [hbl, hV2 _ (by omega), e1]
  · refine h.below.trans ?_
    have hlt := h.lt
    refine ⟨hVo, hVt, hVp, by rw [hVs]; simp [W], fun k hk => ?_⟩
    rw [hV2 k (by omega)]
    simp only [W, World.setCell, Array.getElem?_modify]
    rw [if_neg (by omega)]
theorem loopI_skip {c a : Int} {o : Bool} {w w2 : World} {f k : Nat} {ws : List (ByteArray × Bool)} {s : ByteArray} {u nv : Value} (h : LoopI c a o w f (ws.take k) u nv w2)
    (he : bErr c a o (ws.take (k + 1)) = stepE (bErr c a o (ws.take k)) (s, true)) (hn : bNames (ws.take (k + 1)) = stepN (bNames (ws.take k)) (s, true)) (hr : bErr c a o (ws.take k) = none) :
    LoopI c a o w f (ws.take (k + 1)) u nv w2 := by
  have h1 : bErr c a o (ws.take (k + 1)) = bErr c a o (ws.take k) := by rw [he, hr]; rfl
  have h2 : bNames (ws.take (k + 1)) = bNames (ws.take k) := by rw [hn]; rfl
  exact { err := by rw [h1]; exact h.err
          own := by rw [h2]; exact h.own
          res := h.res, flt := h.flt, lt := h.lt, below := h.below }
theorem loopI_strange {c a : Int} {o : Bool} {w w2 : World} {f k : Nat} {ws : List (ByteArray × Bool)} {s : ByteArray} {u nv : Value} {er : Er} (h : LoopI c a o w f (ws.take k) u nv w2)
    (he : bErr c a o (ws.take (k + 1)) = stepE (bErr c a o (ws.take k)) (s, true)) (hn : bNames (ws.take (k + 1)) = stepN (bNames (ws.take k)) (s, true)) (hr : bErr c a o (ws.take k) = some er) :
    LoopI c a o w f (ws.take (k + 1)) (.iface 45 (.pointer (some ⟨w2.heap.size, 0, none⟩))) nv (w2.alloc (.cells #[u] 47)) := by
  have hb := (Below.refl w2.heap.size w2).alloc (Nat.le_refl _) (.cells #[u] 47)
  have h1 : bErr c a o (ws.take (k + 1)) = some (.strange er) := by rw [he, hr]; rfl
  have h2 : bNames (ws.take (k + 1)) = bNames (ws.take k) := by rw [hn]; rfl
  have h3 := h.kept hb
  have h4 := h.err
  rw [hr] at h4
  exact { err := by rw [h1]; exact ⟨_, _, rfl, heap_new _ _, Er.At.below hb h4⟩
          own := by rw [h2]; exact h3.own
          res := h3.res, flt := h3.flt, lt := h3.lt, below := h3.below }
theorem loopI_name {c a : Int} {o : Bool} {w w2 wx : World} {f k : Nat} {ws : List (ByteArray × Bool)} {s : ByteArray} {u v' nv v1 : Value} (h : LoopI c a o w f (ws.take k) u nv w2)
    (he : bErr c a o (ws.take (k + 1)) = stepE (bErr c a o (ws.take k)) (s, false)) (hn : bNames (ws.take (k + 1)) = stepN (bNames (ws.take k)) (s, false))
    (hv : ErAt w2 (inOf s (bErr c a o (ws.take k))) v') (hb : Below w2.heap.size w2 wx) (ho : wx.ownsRow w2.heap.size 9 1 v1 ([s] ++ bNames (ws.take k)).length (encs strE ([s] ++ bNames (ws.take k)))) :
    LoopI c a o w f (ws.take (k + 1)) v' v1 wx := by
  have h2 := h.kept hb
  have hf := (Array.getElem?_eq_some_iff.1 h.flt).1
  exact { err := by rw [he]; exact hv.below hb
          own := by rw [hn]; exact own_weaken ho (by omega)
          res := h2.res, flt := h2.flt, lt := h2.lt, below := h2.below }
set_option maxRecDepth 100000 in
set_option maxHeartbeats 4000000 in
theorem build_any (c a : Int) (o : Bool) (A : Option Addr) (n cap : Nat) (ws : List (ByteArray × Bool)) (w : World) (hn : n ≤ 40) (hw : Wraps w A n ws) :
    Calls Tryd.prog 12 #[.int .i64 c, .int .i64 a, .bool o, .slice A n cap] w fun e w' => ∃ v nA nc ns, e = .returned (.tuple #[v, .agg #[.int .i64 c, .int .i64 a, .slice nA ns.length nc, .bool o]]) ∧ ErAt w' (bErr c a o ws) v ∧ NamesR w' nA ns.length ns ∧ ns = bNames ws ∧ Below w.heap.size w w' := by
  have HW := Lib.hid hw
  clear hw
  have hB0 := (Below.refl w.heap.size w).alloc (Nat.le_refl _) (.cells #[.int .i64 0, .int .i64 0, .slice none 0 0, .bool false] 29)
  have hR0 := heap_new w (.cells #[.int .i64 0, .int .i64 0, .slice none 0 0, .bool false] 29)
  cases o
  · go_enter Tryd.func12, Tryd.ntmps12
    go_wp2_with fail
    refine (New_any c a _).mono ?_
    rintro e w1 ⟨v, rfl, hv, hb⟩
    have HL := Lib.hid (loopI_of (o := false) hB0 hR0 hb hv)
    clear hv hb hB0 hR0
    go_wp2_with fail
    go_loopw [10, 12, 13] (fun v10 v12 v13 w' => ∃ k : Nat, v13 = .int .i64 k ∧ k ≤ n ∧ LoopI c a false w w1.heap.size (ws.take k) v10 v12 w') (fun _ _ v _ => n - (intOf v).toNat)
    case atStart => exact ⟨0, rfl, Nat.zero_le _, HL.out⟩
    case round =>
      clear HL
      obtain ⟨k, rfl, hk, hI⟩ := hrel
      by_cases hlt : k < n
      · have hlw : k < ws.length := by rw [HW.out.1]; exact hlt
        obtain ⟨ad, rfl, h1, h2⟩ := HW.out.2 k hlt
        have c1 := (hI.below.cell (World.block_lt_of_cell? w _ h1)).trans h1
        have c2 := (hI.below.cell (World.block_lt_of_cell? w _ h2)).trans h2
        have HE := Lib.hid (bErr_next (c := c) (a := a) (o := false) hlw)
        have HN := Lib.hid (bNames_next hlw)
        have hln : (bNames (ws.take k)).length ≤ 40 := by
          have := bNames_len (ws.take k)
          simp at this
          omega
        have HI := Lib.hid hI
        clear h1 h2 hI hlw
        generalize hx : ws.getD k (⟨#[]⟩, false) = x at c1 c2 HE HN
        obtain ⟨s, ot⟩ := x
        clear hx
        dsimp only at c1 c2
        cases ot
        · go_wp2_with fail
          refine (In_any s _ _ _ HI.out.err).mono ?_
          rintro e w2 ⟨v', rfl, hv, hb⟩
          have HI2 := Lib.hid (HI.out.kept hb)
          have HV := Lib.hid hv
          replace c1 := (hb.cell (World.block_lt_of_cell? _ _ c1)).trans c1
          clear hb hv c2
          obtain ⟨nA, nc, rfl, hR⟩ := own_reads_of (enc := strE) (d := (⟨#[]⟩ : ByteArray)) HI2.out.own
          have HRd := Lib.hid (hR.below ((Below.refl w2.heap.size w2).alloc (Nat.le_refl _) (.cells #[.string s] 9)))
          clear hR
          have hLit := Lib.hid (own_lit_of (enc := strE) w2 w2.heap.size 9 [s] (Nat.le_refl _) (by simp))
          go_wp2_with (at_builtin; refine print_append_row_of (w0 := w2) strE (⟨#[]⟩ : ByteArray) w2.heap.size rfl _ _ 27 9 (.string ⟨#[]⟩) 16 rfl Tryd.underlying27 infoStr rfl (by omega) (fun _ => rfl) _ [s] (bNames (ws.take k)) nA (bNames (ws.take k)).length nc rfl rfl hLit.out HRd.out ((Below.refl _ _).alloc (Nat.le_refl _) _) (by simp) ?c1 ?_; (case c1 => simp; omega); intro v1 wx hown hbx _ _; have HO := Lib.hid hown; have HX := Lib.hid hbx; clear hown hbx)
          go_roundw
          case rel => exact ⟨k + 1, by go_num, by omega, loopI_name HI2.out HE.out HN.out HV.out HX.out HO.out⟩
          case measure => simp [intOf]; omega
        · obtain ⟨er, her⟩ : ∃ er, bErr c a false (ws.take k) = er := ⟨_, rfl⟩
          have he := HI.out.err
          rw [her] at he
          cases er with
          | none =>
            obtain rfl : u10 = .nilIface := he
            go_wp2
            go_roundw
            case rel => exact ⟨k + 1, by go_num, by omega, loopI_skip HI.out HE.out HN.out her⟩
            case measure => simp [intOf]; omega
          | some er =>
            obtain ⟨T, x, rfl, _⟩ := Er.At.shape he
            have HER := Lib.hid her
            clear her he
            go_wp2
            go_roundw
            case rel => exact ⟨k + 1, by go_num, by omega, loopI_strange HI.out HE.out HN.out HER.out⟩
            case measure => simp [intOf]; omega
      · have hkn : ws.take k = ws := by rw [List.take_of_length_le (by rw [HW.out.1]; omega)]
        rw [hkn] at hI
        have hR := hI.res
        have hF := hI.flt
        have hlt2 := hI.lt
        have f0 : wr.cell? ⟨w1.heap.size, 0, none⟩ = some (.int .i64 c) := cell_blk hF rfl
        have f1 : wr.cell? ⟨w1.heap.size, 1, none⟩ = some (.int .i64 a) := cell_blk hF rfl
        have f2 : wr.cell? ⟨w1.heap.size, 2, none⟩ = some (.slice none 0 0) := cell_blk hF rfl
        have f3 : wr.cell? ⟨w1.heap.size, 3, none⟩ = some (.bool false) := cell_blk hF rfl
        have r0 : wr.cell? ⟨w.heap.size, 0, none⟩ = some (.int .i64 0) := cell_blk hR rfl
        have r1 : wr.cell? ⟨w.heap.size, 1, none⟩ = some (.int .i64 0) := cell_blk hR rfl
        have r2 : wr.cell? ⟨w.heap.size, 2, none⟩ = some (.slice none 0 0) := cell_blk hR rfl
        have r3 : wr.cell? ⟨w.heap.size, 3, none⟩ = some (.bool false) := cell_blk hR rfl
        have g1 : wr.frozen? ⟨w1.heap.size, 2, none⟩ = false := by simp [World.frozen?, hF]
        have hO := hI.own
        have HI := Lib.hid hI
        clear hR hF hI
        obtain ⟨nA, nc, rfl, hN⟩ := own_reads_of (enc := strE) (d := (⟨#[]⟩ : ByteArray)) hO
        have HN := Lib.hid hN
        clear hO hN
        go_wp2
        obtain ⟨g0, g1, g2, g3, s0, s1, s2, s3, z0, z1, z2, z3, hX⟩ := loopI_fin HI.out HN.out
        obtain ⟨hVh, hEr, hNm, hBl⟩ := hX _ rfl
        clear hX
        have HVh := Lib.hid hVh
        have HEr := Lib.hid hEr
        have HNm := Lib.hid hNm
        have HBl := Lib.hid hBl
        clear hVh hEr hNm hBl f0 f1 f2 f3 r0 r1 r2 r3
        generalize wr.setCell ⟨w1.heap.size, 2, none⟩ (.slice nA (bNames ws).length nc) = W at *
        go_region
        all_goals
          go_wp2
          have v0 := cell_blk (i := 0) HVh.out rfl
          have v1 := cell_blk (i := 1) HVh.out rfl
          have v2 := cell_blk (i := 2) HVh.out rfl
          have v3 := cell_blk (i := 3) HVh.out rfl
          generalize ((((W.setCell ⟨w.heap.size, 0, none⟩ (.int .i64 c)).setCell ⟨w.heap.size, 1, none⟩ (.int .i64 a)).setCell ⟨w.heap.size, 2, none⟩ (.slice nA (bNames ws).length nc)).setCell ⟨w.heap.size, 3, none⟩ (.bool false)).drew = V at *
          exact bodyPost_ret (v := .tuple #[u10, .agg #[.int .i64 c, .int .i64 a, .slice nA (bNames ws).length nc, .bool false]]) (by simp [results, Tryd.results12, go_sem, v0, v1, v2, v3]) rfl ⟨_, _, _, _, rfl, HEr.out, HNm.out, rfl, HBl.out⟩
  · go_enter Tryd.func12, Tryd.ntmps12
    go_wp2_with fail
    refine (New_any c a _).mono ?_
    rintro e w1 ⟨v, rfl, hv, hb⟩
    have HL := Lib.hid (loopI_true (c := c) (a := a) hB0 hR0 hb)
    clear hv hb hB0 hR0
    go_wp2_with fail
    go_loopw [10, 12, 13] (fun v10 v12 v13 w' => ∃ k : Nat, v13 = .int .i64 k ∧ k ≤ n ∧ LoopI c a true w w1.heap.size (ws.take k) v10 v12 w') (fun _ _ v _ => n - (intOf v).toNat)
    case atStart => exact ⟨0, rfl, Nat.zero_le _, HL.out⟩
    case round =>
      clear HL
      obtain ⟨k, rfl, hk, hI⟩ := hrel
      by_cases hlt : k < n
      · have hlw : k < ws.length := by rw [HW.out.1]; exact hlt
        obtain ⟨ad, rfl, h1, h2⟩ := HW.out.2 k hlt
        have c1 := (hI.below.cell (World.block_lt_of_cell? w _ h1)).trans h1
        have c2 := (hI.below.cell (World.block_lt_of_cell? w _ h2)).trans h2
        have HE := Lib.hid (bErr_next (c := c) (a := a) (o := true) hlw)
        have HN := Lib.hid (bNames_next hlw)
        have hln : (bNames (ws.take k)).length ≤ 40 := by
          have := bNames_len (ws.take k)
          simp at this
          omega
        have HI := Lib.hid hI
        clear h1 h2 hI hlw
        generalize hx : ws.getD k (⟨#[]⟩, false) = x at c1 c2 HE HN
        obtain ⟨s, ot⟩ := x
        clear hx
        dsimp only at c1 c2
        cases ot
        · go_wp2_with fail
          refine (In_any s _ _ _ HI.out.err).mono ?_
          rintro e w2 ⟨v', rfl, hv, hb⟩
          have HI2 := Lib.hid (HI.out.kept hb)
          have HV := Lib.hid hv
          replace c1 := (hb.cell (World.block_lt_of_cell? _ _ c1)).trans c1
          clear hb hv c2
          obtain ⟨nA, nc, rfl, hR⟩ := own_reads_of (enc := strE) (d := (⟨#[]⟩ : ByteArray)) HI2.out.own
          have HRd := Lib.hid (hR.below ((Below.refl w2.heap.size w2).alloc (Nat.le_refl _) (.cells #[.string s] 9)))
          clear hR
          have hLit := Lib.hid (own_lit_of (enc := strE) w2 w2.heap.size 9 [s] (Nat.le_refl _) (by simp))
          go_wp2_with (at_builtin; refine print_append_row_of (w0 := w2) strE (⟨#[]⟩ : ByteArray) w2.heap.size rfl _ _ 27 9 (.string ⟨#[]⟩) 16 rfl Tryd.underlying27 infoStr rfl (by omega) (fun _ => rfl) _ [s] (bNames (ws.take k)) nA (bNames (ws.take k)).length nc rfl rfl hLit.out HRd.out ((Below.refl _ _).alloc (Nat.le_refl _) _) (by simp) ?c1 ?_; (case c1 => simp; omega); intro v1 wx hown hbx _ _; have HO := Lib.hid hown; have HX := Lib.hid hbx; clear hown hbx)
          go_roundw
          case rel => exact ⟨k + 1, by go_num, by omega, loopI_name HI2.out HE.out HN.out HV.out HX.out HO.out⟩
          case measure => simp [intOf]; omega
        · obtain ⟨er, her⟩ : ∃ er, bErr c a true (ws.take k) = er := ⟨_, rfl⟩
          have he := HI.out.err
          rw [her] at he
          cases er with
          | none =>
            obtain rfl : u10 = .nilIface := he
            go_wp2
            go_roundw
            case rel => exact ⟨k + 1, by go_num, by omega, loopI_skip HI.out HE.out HN.out her⟩
            case measure => simp [intOf]; omega
          | some er =>
            obtain ⟨T, x, rfl, _⟩ := Er.At.shape he
            have HER := Lib.hid her
            clear her he
            go_wp2
            go_roundw
            case rel => exact ⟨k + 1, by go_num, by omega, loopI_strange HI.out HE.out HN.out HER.out⟩
            case measure => simp [intOf]; omega
      · have hkn : ws.take k = ws := by rw [List.take_of_length_le (by rw [HW.out.1]; omega)]
        rw [hkn] at hI
        have hR := hI.res
        have hF := hI.flt
        have hlt2 := hI.lt
        have f0 : wr.cell? ⟨w1.heap.size, 0, none⟩ = some (.int .i64 c) := cell_blk hF rfl
        have f1 : wr.cell? ⟨w1.heap.size, 1, none⟩ = some (.int .i64 a) := cell_blk hF rfl
        have f2 : wr.cell? ⟨w1.heap.size, 2, none⟩ = some (.slice none 0 0) := cell_blk hF rfl
        have f3 : wr.cell? ⟨w1.heap.size, 3, none⟩ = some (.bool true) := cell_blk hF rfl
        have r0 : wr.cell? ⟨w.heap.size, 0, none⟩ = some (.int .i64 0) := cell_blk hR rfl
        have r1 : wr.cell? ⟨w.heap.size, 1, none⟩ = some (.int .i64 0) := cell_blk hR rfl
        have r2 : wr.cell? ⟨w.heap.size, 2, none⟩ = some (.slice none 0 0) := cell_blk hR rfl
        have r3 : wr.cell? ⟨w.heap.size, 3, none⟩ = some (.bool false) := cell_blk hR rfl
        have g1 : wr.frozen? ⟨w1.heap.size, 2, none⟩ = false := by simp [World.frozen?, hF]
        have hO := hI.own
        have HI := Lib.hid hI
        clear hR hF hI
        obtain ⟨nA, nc, rfl, hN⟩ := own_reads_of (enc := strE) (d := (⟨#[]⟩ : ByteArray)) hO
        have HN := Lib.hid hN
        clear hO hN
        go_wp2
        obtain ⟨g0, g1, g2, g3, s0, s1, s2, s3, z0, z1, z2, z3, hX⟩ := loopI_fin HI.out HN.out
        obtain ⟨hVh, hEr, hNm, hBl⟩ := hX _ rfl
        clear hX
        have HVh := Lib.hid hVh
        have HEr := Lib.hid hEr
        have HNm := Lib.hid hNm
        have HBl := Lib.hid hBl
        clear hVh hEr hNm hBl f0 f1 f2 f3 r0 r1 r2 r3
        generalize wr.setCell ⟨w1.heap.size, 2, none⟩ (.slice nA (bNames ws).length nc) = W at *
        go_region
        all_goals
          go_wp2
          have v0 := cell_blk (i := 0) HVh.out rfl
          have v1 := cell_blk (i := 1) HVh.out rfl
          have v2 := cell_blk (i := 2) HVh.out rfl
          have v3 := cell_blk (i := 3) HVh.out rfl
          generalize ((((W.setCell ⟨w.heap.size, 0, none⟩ (.int .i64 c)).setCell ⟨w.heap.size, 1, none⟩ (.int .i64 a)).setCell ⟨w.heap.size, 2, none⟩ (.slice nA (bNames ws).length nc)).setCell ⟨w.heap.size, 3, none⟩ (.bool true)).drew = V at *
          exact bodyPost_ret (v := .tuple #[u10, .agg #[.int .i64 c, .int .i64 a, .slice nA (bNames ws).length nc, .bool true]]) (by simp [results, Tryd.results12, go_sem, v0, v1, v2, v3]) rfl ⟨_, _, _, _, rfl, HEr.out, HNm.out, rfl, HBl.out⟩
theorem lastD_getD : ∀ (ns : List ByteArray) (d d0 : ByteArray), ns ≠ [] → ns.getD (ns.length - 1) d0 = ns.getLastD d
  | [], _, _, h => absurd rfl h
  | [x], _, _, _ => rfl
  | x :: y :: l, d, d0, _ => by
    have := lastD_getD (y :: l) x d0 (by simp)
    simp only [List.length_cons, Nat.add_sub_cancel, List.getLastD_cons, List.getD_cons_succ] at this ⊢
    exact this
/-- What the document says of an error that was built, and what there is. -/
structure BuiltI (c a : Int) (o : Bool) (er : Option Er) (ns : List ByteArray) : Prop where
  none_ : er = none → o = false ∧ c = 0
  some_ : ∀ e, er = some e → (o = true ∧ e.root = none ∨ o = false ∧ c ≠ 0 ∧ e.root = some (c, a)) ∧ ∀ d, e.defOf d = ns.getLastD d
theorem built_step {c a : Int} {o : Bool} {er : Option Er} {ns : List ByteArray} (x : ByteArray × Bool) (h : BuiltI c a o er ns) : BuiltI c a o (stepE er x) (stepN ns x) := by
  obtain ⟨s, ot⟩ := x
  cases er with
  | none =>
    cases ot
    · exact ⟨fun _ => h.none_ rfl, fun e he => by cases he⟩
    · exact ⟨fun _ => h.none_ rfl, fun e he => by cases he⟩
  | some e0 =>
    obtain ⟨h1, h2⟩ := h.some_ e0 rfl
    cases ot
    · refine ⟨(fun he => by cases he), fun e he => ?_⟩
      obtain rfl : Er.named s e0 = e := Option.some.inj he
      refine ⟨h1, fun d => ?_⟩
      show e0.defOf s = (s :: ns).getLastD d
      rw [h2 s, List.getLastD_cons]
    · refine ⟨(fun he => by cases he), fun e he => ?_⟩
      obtain rfl : Er.strange e0 = e := Option.some.inj he
      exact ⟨h1, h2⟩
theorem built_all (c a : Int) (o : Bool) (ws : List (ByteArray × Bool)) : BuiltI c a o (bErr c a o ws) (bNames ws) := by
  have : ∀ (l : List (ByteArray × Bool)) (er : Option Er) (ns : List ByteArray), BuiltI c a o er ns → BuiltI c a o (l.foldl stepE er) (l.foldl stepN ns) := by
    intro l
    induction l with
    | nil => intro er ns h; exact h
    | cons x l ih => intro er ns h; exact ih _ _ (built_step x h)
  refine this ws _ _ ?_
  cases o
  · by_cases hc : c = 0
    · refine ⟨fun _ => ⟨rfl, hc⟩, fun e he => ?_⟩
      simp [newOf, hc] at he
    · refine ⟨fun he => by simp [newOf, hc] at he, fun e he => ?_⟩
      obtain rfl : Er.place c a = e := by simpa [newOf, hc] using he
      exact ⟨.inr ⟨rfl, hc, rfl⟩, fun d => rfl⟩
  · refine ⟨fun he => by simp at he, fun e he => ?_⟩
    obtain rfl : Er.strange0 = e := by simpa using he
    exact ⟨.inl ⟨rfl, rfl⟩, fun d => rfl⟩
theorem built_nil {c a : Int} {o : Bool} {er : Option Er} {ns : List ByteArray} (h : BuiltI c a o er ns) : er.isNone = ((c == 0) && !o) := by
  cases er with
  | none => obtain ⟨rfl, rfl⟩ := h.none_ rfl; rfl
  | some e => obtain ⟨⟨rfl, _⟩ | ⟨rfl, hc, _⟩, _⟩ := h.some_ e rfl <;> simp [*]
theorem built_code {c a : Int} {o : Bool} {er : Option Er} {ns : List ByteArray} (h : BuiltI c a o er ns) : codeOf er = rCode c o := by
  cases er with
  | none => obtain ⟨rfl, rfl⟩ := h.none_ rfl; rfl
  | some e => obtain ⟨⟨rfl, hr⟩ | ⟨rfl, hc, hr⟩, _⟩ := h.some_ e rfl <;> simp [codeOf, rCode, hr]
theorem built_at {c a : Int} {o : Bool} {er : Option Er} {ns : List ByteArray} (h : BuiltI c a o er ns) : atOf er = rAt c a o := by
  cases er with
  | none => obtain ⟨rfl, rfl⟩ := h.none_ rfl; rfl
  | some e => obtain ⟨⟨rfl, hr⟩ | ⟨rfl, hc, hr⟩, _⟩ := h.some_ e rfl <;> simp [atOf, rAt, hr, *]
theorem built_def {c a : Int} {o : Bool} {er : Option Er} {ns : List ByteArray} (h : BuiltI c a o er ns) : defOf er = rDef c ns o := by
  cases er with
  | none => obtain ⟨rfl, rfl⟩ := h.none_ rfl; simp [defOf, rDef]
  | some e =>
    obtain ⟨h1, h2⟩ := h.some_ e rfl
    have hz : ¬ (o = false ∧ c = 0) := by rcases h1 with ⟨rfl, _⟩ | ⟨_, hc, _⟩ <;> simp [*]
    show e.defOf _ = _
    rw [h2]
    unfold rDef
    by_cases hn : ns = []
    · subst hn; simp
    · rw [if_neg (fun q => q.elim hz hn), lastD_getD ns ⟨#[]⟩ ⟨#[]⟩ hn]
theorem built_is {c a : Int} {o : Bool} {er : Option Er} {ns : List ByteArray} (h : BuiltI c a o er ns) (x : Int) : isOf er x = rIs c o x := by
  cases er with
  | none => obtain ⟨rfl, rfl⟩ := h.none_ rfl; show (x == 0) = ((0 : Int) == x); rw [Bool.eq_iff_iff, beq_iff_eq, beq_iff_eq]; exact eq_comm
  | some e => obtain ⟨⟨rfl, hr⟩ | ⟨rfl, hc, hr⟩, _⟩ := h.some_ e rfl <;> simp [isOf, Er.is, rIs, hr]
set_option maxRecDepth 100000 in
set_option maxHeartbeats 4000000 in
theorem FaultTells_walk (c a : Int) (o : Bool) (A : Option Addr) (n cap : Nat) (ws : List (ByteArray × Bool)) (x : Int) (w : World) (hn : n ≤ 9223372036854775807) (hw : Wraps w A n ws) (hE : EV w) :
    Calls Tryd.prog 3 #[.int .i64 c, .int .i64 a, .bool o, .slice A n cap, .int .i64 x] w fun e w' => e = .returned (.bool true) ∧ Below w.heap.size w w' := by
  have HE := Lib.hid hE
  clear hE
  by_cases hg : ((n : Int) > 40)
  · clear hw
    go_enter Tryd.func3, Tryd.ntmps3
    go_wp2_with (go_at_call 11; refine (awake_any _ HE.out).mono ?_; rintro e w' ⟨rfl, hb⟩; have HB2 := Lib.hid hb; clear hb)
    go_ret
    exact ⟨rfl, HB2.out⟩
  · have hI := built_all c a o ws
    have hC := Lib.hid (build_any c a o A n cap ws w (by omega) hw)
    have E0 := built_nil hI
    have E1 := Lib.hid (built_code hI)
    have E2 := Lib.hid (built_at hI)
    have E3 := Lib.hid (built_def hI)
    have E4 := Lib.hid (built_is hI x)
    have hlen : (bNames ws).length ≤ 40 := by have h1 := bNames_len ws; have h2 := hw.1; omega
    clear hI hw
    generalize bErr c a o ws = er at *
    generalize hns : bNames ws = ns at *
    go_enter Tryd.func3, Tryd.ntmps3
    go_wp2_with fail
    refine hC.out.mono ?_
    rintro e w1 ⟨v, nA, nc, ns', rfl, hv, hN, rfl, hb⟩
    have HV := Lib.hid hv
    have HN := Lib.hid hN
    have HB := Lib.hid hb
    clear hv hN hb
    go_wp2_with (go_at_call 13; refine (Is_any' _ _ _ _ (HV.out.below ((Below.refl _ _).alloc (Nat.le_refl _) _))).mono ?_; rintro e w' ⟨rfl, rfl⟩)
    have hB2 := (Below.refl w1.heap.size w1).alloc (Nat.le_refl _) (.cells #[.int .i64 c, .int .i64 a, .slice nA ns'.length nc, .bool o] 29)
    have hF := heap_new w1 (.cells #[.int .i64 c, .int .i64 a, .slice nA ns'.length nc, .bool o] 29)
    have hE2 : EV (w1.alloc (.cells #[.int .i64 c, .int .i64 a, .slice nA ns'.length nc, .bool o] 29)) := (HE.out.below HB.out).below hB2
    have hV2 : ErAt (w1.alloc (.cells #[.int .i64 c, .int .i64 a, .slice nA ns'.length nc, .bool o] 29)) er v := HV.out.below hB2
    have hN2 : NamesR (w1.alloc (.cells #[.int .i64 c, .int .i64 a, .slice nA ns'.length nc, .bool o] 29)) nA ns'.length ns' := HN.out.below hB2
    have hBB : Below w.heap.size w (w1.alloc (.cells #[.int .i64 c, .int .i64 a, .slice nA ns'.length nc, .bool o] 29)) := HB.out.trans (hB2.mono HB.out.size)
    generalize hW : w1.alloc (.cells #[.int .i64 c, .int .i64 a, .slice nA ns'.length nc, .bool o] 29) = W at *
    have f0 := fun d os => cell_regrown (cell_blk (i := 0) hF rfl) d os
    have f1 := fun d os => cell_regrown (cell_blk (i := 1) hF rfl) d os
    have f2 := fun d os => cell_regrown (cell_blk (i := 2) hF rfl) d os
    have f3 := fun d os => cell_regrown (cell_blk (i := 3) hF rfl) d os
    have k1 : ∀ d os, Calls Tryd.prog 14 #[v] (grow (redrawn W d) os) fun e w'' => e = .returned (.int .i64 (rCode c o)) ∧ ∃ p : Regrown, w'' = grow (redrawn W p.d) p.os := fun d os => Calls.regrown_of (by rw [← E1.out]; exact Code_any er v _ (hV2.below (below_regrown W d os)) (hE2.below (below_regrown W d os)))
    have k2 : ∀ d os, Calls Tryd.prog 16 #[v] (grow (redrawn W d) os) fun e w'' => e = .returned (.int .i64 (rAt c a o)) ∧ ∃ p : Regrown, w'' = grow (redrawn W p.d) p.os := fun d os => Calls.regrown_of (by rw [← E2.out]; exact At_any er v _ (hV2.below (below_regrown W d os)) (hE2.below (below_regrown W d os)))
    have k3 : ∀ d os, Calls Tryd.prog 18 #[v] (grow (redrawn W d) os) fun e w'' => e = .returned (.string (rDef c ns' o)) ∧ ∃ p : Regrown, w'' = grow (redrawn W p.d) p.os := fun d os => Calls.regrown_of (by rw [← E3.out]; exact Def_any er v _ (hV2.below (below_regrown W d os)) (hE2.below (below_regrown W d os)))
    have k4 : ∀ d os, Calls Tryd.prog 11 #[] (grow (redrawn W d) os) fun e w'' => e = .returned (.bool true) ∧ ∃ p : Regrown, w'' = grow (redrawn W p.d) p.os := fun d os => Calls.regrown_of (awake_any _ (hE2.below (below_regrown W d os)))
    have r1 : ∀ d os, Calls Tryd.prog 15 #[.agg #[.int .i64 c, .int .i64 a, .slice nA ns'.length nc, .bool o]] (grow (redrawn W d) os) fun e w'' => e = .returned (.int .i64 (rCode c o)) ∧ ∃ p : Regrown, w'' = grow (redrawn W p.d) p.os := fun d os => Calls.regrown_of (rCode_any c a _ o _)
    have r2 : ∀ d os, Calls Tryd.prog 17 #[.agg #[.int .i64 c, .int .i64 a, .slice nA ns'.length nc, .bool o]] (grow (redrawn W d) os) fun e w'' => e = .returned (.int .i64 (rAt c a o)) ∧ ∃ p : Regrown, w'' = grow (redrawn W p.d) p.os := fun d os => Calls.regrown_of (rAt_any c a _ o _)
    have r3 : ∀ d os, Calls Tryd.prog 19 #[.agg #[.int .i64 c, .int .i64 a, .slice nA ns'.length nc, .bool o]] (grow (redrawn W d) os) fun e w'' => e = .returned (.string (rDef c ns' o)) ∧ ∃ p : Regrown, w'' = grow (redrawn W p.d) p.os := fun d os => Calls.regrown_of (rDef_any c a nA ns'.length nc ns' o _ (by omega) (hN2.below (below_regrown W d os)))
    have r4 : ∀ d os, Calls Tryd.prog 20 #[.agg #[.int .i64 c, .int .i64 a, .slice nA ns'.length nc, .bool o], .int .i64 x] (grow (redrawn W d) os) fun e w'' => e = .returned (.bool (rIs c o x)) ∧ ∃ p : Regrown, w'' = grow (redrawn W p.d) p.os := fun d os => Calls.regrown_of (rIs_any c a _ o x _)
    rw [E4.out]
    have q1 : (rCode c o == rCode c o) = true := by simp
    have q2 : (rAt c a o == rAt c a o) = true := by simp
    have q3 : ((rDef c ns' o).toList == (rDef c ns' o).toList) = true := by simp
    have q4 : (rIs c o x == rIs c o x) = true := by simp
    have HBB := Lib.hid hBB
    cases er with
    | none =>
      obtain rfl : v = .nilIface := hV2
      obtain ⟨hc, ho⟩ : c = 0 ∧ o = false := by simpa using E0.symm
      subst hc ho
      clear HV HN HB HE hF hW hE2 hN2 hBB hC E0 E1 E2 E3 E4 hB2
      refine wp_region_quiet_below (by kernel_rfl) (by kernel_rfl) ?_
      repeat (quiet_step (first | (with_reducible exact k1 _ _) | (with_reducible exact k2 _ _) | (with_reducible exact k3 _ _) | (with_reducible exact k4 _ _) | (with_reducible exact r1 _ _) | (with_reducible exact r2 _ _) | (with_reducible exact r3 _ _) | (with_reducible exact r4 _ _)))
      refine wpQuiet_nil ?_
      rintro w' ⟨p, rfl⟩
      go_wp2
      go_ret
      exact ⟨rfl, HBB.out.trans ((below_regrown W p.d p.os).mono HBB.out.size)⟩
    | some er =>
      obtain ⟨T, ax, rfl, _⟩ := Er.At.shape hV2
      clear HV HN HB HE hF hW hE2 hN2 hBB hC E1 E2 E3 E4 hB2 hV2
      by_cases hc : c = 0
      · obtain rfl : o = true := by subst hc; cases o <;> simp at E0 ⊢
        have hz : (c == 0) = true := by simpa using hc
        clear E0 hc
        refine wp_region_quiet_below (by kernel_rfl) (by kernel_rfl) ?_
        repeat (quiet_step (first | (with_reducible exact k1 _ _) | (with_reducible exact k2 _ _) | (with_reducible exact k3 _ _) | (with_reducible exact k4 _ _) | (with_reducible exact r1 _ _) | (with_reducible exact r2 _ _) | (with_reducible exact r3 _ _) | (with_reducible exact r4 _ _)))
        refine wpQuiet_nil ?_
        rintro w' ⟨p, rfl⟩
        go_wp2
        go_ret
        exact ⟨rfl, HBB.out.trans ((below_regrown W p.d p.os).mono HBB.out.size)⟩
      · have hz : (c == 0) = false := by simpa using hc
        clear E0 hc
        cases o
        all_goals
          refine wp_region_quiet_below (by kernel_rfl) (by kernel_rfl) ?_
          repeat (quiet_step (first | (with_reducible exact k1 _ _) | (with_reducible exact k2 _ _) | (with_reducible exact k3 _ _) | (with_reducible exact k4 _ _) | (with_reducible exact r1 _ _) | (with_reducible exact r2 _ _) | (with_reducible exact r3 _ _) | (with_reducible exact r4 _ _)))
          refine wpQuiet_nil ?_
          rintro w' ⟨p, rfl⟩
          go_wp2
          go_ret
          exact ⟨rfl, HBB.out.trans ((below_regrown W p.d p.os).mono HBB.out.size)⟩
end Go.Proofs.YtedgebnmllinlaaDoor.Fault
