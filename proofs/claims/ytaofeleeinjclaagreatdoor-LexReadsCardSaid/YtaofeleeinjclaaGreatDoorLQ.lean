/-
  The reader, on what Quote wrote. Conditions: each law's own.
-/
import Derived.Test.YtaofeleeinjclaaGreatDoorLT
namespace Go.PE
open Go Go.RowKit Go.Proofs
set_option linter.unusedVariables false
set_option linter.unusedSimpArgs false
set_option maxRecDepth 100000
section
variable {ot : TypeId} {oz : EP}
/-- A reader. -/
abbrev rdr (q : ByteArray) (a : Int) (out err : PV) : Ob := .cells 65 [.str q, .int .i64 a, out, err]
theorem obs_set_ne (T : St) (l : Nat) (o o' : Ob) (ow : List Nat) (more : List Ob) (h : T.obs[l]? = some o) (hne : o' ≠ o) (v : PV) : close T ⟨(T.obs ++ more).set l o', ow⟩ v = (v, ⟨(T.obs ++ more).set l o', ow⟩) := by
  have hl := getElem?_lt h
  refine close_turn hl ?_
  rw [h, List.getElem?_set_self (by simp; omega)]
  exact fun e => hne (Option.some.inj e)
theorem obs_set_ne0 (T : St) (l : Nat) (o o' : Ob) (ow : List Nat) (h : T.obs[l]? = some o) (hne : o' ≠ o) (v : PV) : close T ⟨T.obs.set l o', ow⟩ v = (v, ⟨T.obs.set l o', ow⟩) := by
  have := obs_set_ne T l o o' ow [] h hne v
  simpa using this
theorem fail_ok (T : St) (q : ByteArray) (a : Int) (out : PV) (l : Nat) (c p : Int) (hc : c ≠ 0) (h : T.obs[l]? = some (rdr q a out .nilifc)) :
    cal (env ot oz) 94 [.ref l 0, .int .i64 c, .int .i64 p] T = some (.bool false, ⟨T.obs.set l (rdr q a out (plc c p)), T.own⟩) := by
  have f := fnew (ot := ot) (oz := oz) c p hc
  have cl := obs_set_ne0 T l _ (rdr q a out (plc c p)) T.own h (by simp) (.bool false)
  (rw [w_plain (fn := c94) rfl rfl (by simp only [go_sem, h, f, cl]) rfl (by decide)]; simp only [c94, c94_b, go_sem, h, f, cl]; repeat' (first | (rw [guardO_t]; split <;> rename_i h <;> (try rw [Bool.not_eq_true] at h) <;> (try simp only [go_sem, h, f, cl, *])) | (rw [guardO_f]; split <;> rename_i h <;> (try rw [Bool.not_eq_true] at h) <;> (try simp only [go_sem, h, f, cl, *])) | (rw [cw_bool]; split <;> rename_i h <;> (try rw [Bool.not_eq_true] at h) <;> (try simp only [go_sem, h, f, cl, *]))))
theorem put_ok (T : St) (q s : ByteArray) (l : Nat) (to : Int) (h : T.obs[l]? = some (rdr q 0 (.sl .null []) .nilifc)) :
    cal (env ot oz) 96 [.ref l 0, .agg [.int .i64 2, .int .i64 0, .str s, .int .i64 0], .int .i64 0, .int .i64 to] T =
      some (.bool true, ⟨(T.obs ++ [Ob.cells 53 [.int .i64 2, .int .i64 0, .str s, .int .i64 0]]).set l (rdr q to (.sl (.own T.own.length 53) [[.int .i64 2, .int .i64 0, .str s, .int .i64 0]]) .nilifc), T.own ++ [4]⟩) := by
  have hl := getElem?_lt h
  have g : (T.obs ++ [.cells 53 [.int .i64 2, .int .i64 0, .str s, .int .i64 0]])[l]? = some (rdr q 0 (.sl .null []) .nilifc) := by rw [List.getElem?_append_left hl]; exact h
  have g2 : (T.obs ++ [.cells 53 [.int .i64 2, .int .i64 0, .str s, .int .i64 0]])[T.obs.length]? = some (.cells 53 [.int .i64 2, .int .i64 0, .str s, .int .i64 0]) := by simp
  have ap : ∀ (T' : St) (r : List PV), r.length = 4 → appP T' 53 4 40 .null [] [r] = some (.sl (.own T'.own.length 53) [r], ⟨T'.obs, T'.own ++ [4]⟩) := fun T' r hr => by
    simp [appP, headOk, hr]
  have ap := ap ⟨T.obs ++ [Ob.cells 53 [.int .i64 2, .int .i64 0, .str s, .int .i64 0]], T.own⟩ [.int .i64 2, .int .i64 0, .str s, .int .i64 0] rfl
  have g3 : ∀ o, ((T.obs ++ [Ob.cells 53 [.int .i64 2, .int .i64 0, .str s, .int .i64 0]]).set l o)[l]? = some o := fun o => by rw [List.getElem?_set_self (by simp; omega)]
  have cl := obs_set_ne T l _ (rdr q to (.sl (.own T.own.length 53) [[.int .i64 2, .int .i64 0, .str s, .int .i64 0]]) .nilifc) (T.own ++ [4]) [Ob.cells 53 [.int .i64 2, .int .i64 0, .str s, .int .i64 0]] h (by simp) (.bool true)
  (rw [w_plain (fn := c96) rfl rfl (by simp only [go_sem, h, g, g2, ap, g3, List.set_set, cl]) rfl (by decide)]; simp only [c96, c96_b, go_sem, h, g, g2, ap, g3, List.set_set, cl]; repeat' (first | (rw [guardO_t]; split <;> rename_i h <;> (try rw [Bool.not_eq_true] at h) <;> (try simp only [go_sem, h, g, g2, ap, g3, List.set_set, cl, *])) | (rw [guardO_f]; split <;> rename_i h <;> (try rw [Bool.not_eq_true] at h) <;> (try simp only [go_sem, h, g, g2, ap, g3, List.set_set, cl, *])) | (rw [cw_bool]; split <;> rename_i h <;> (try rw [Bool.not_eq_true] at h) <;> (try simp only [go_sem, h, g, g2, ap, g3, List.set_set, cl, *]))))
theorem closeT (S0 S : St) (l : Nat) (o o' : Ob) (h : S0.obs[l]? = some o) (h' : S.obs[l]? = some o') (hne : o' ≠ o) (v : PV) : close S0 S v = (v, S) := by
  refine close_turn (getElem?_lt h) ?_
  rw [h, h']
  exact fun e => hne (Option.some.inj e)
abbrev tokS (s : ByteArray) : List PV := [.int .i64 2, .int .i64 0, .str s, .int .i64 0]
/-- Behind a quoted text. -/
def PT (R : St) (q s : ByteArray) (l : Nat) : St := ⟨((BU R s.data.toList).obs ++ [Ob.cells 53 (tokS s)]).set l (rdr q (q.size : Int) (.sl (.own (BU R s.data.toList).own.length 53) [tokS s]) .nilifc), (BU R s.data.toList).own ++ [4]⟩
theorem buLen (S : St) (d : List UInt8) : (BU S d).obs.length = S.obs.length + 1 := by cases d <;> simp [BU, B0, BZ]
theorem quote_data (s : ByteArray) : (quoteS s).data.toList = 34 :: (s.data.toList.flatMap qc ++ [34]) := by unfold quoteS; rw [txt_data]; rfl
theorem text_ok (R : St) (s : ByteArray) (hs : s.size ≤ 40) (hq : (quoteS s).size ≤ 100000) (l : Nat) (h : R.obs[l]? = some (rdr (quoteS s) 0 (.sl .null []) .nilifc)) :
    cal (env ot oz) 60 [.ref l 0] R = some (.bool true, PT R (quoteS s) s l) := by
  have hl := getElem?_lt h
  have hd := quote_data s
  have hz : (quoteS s).size = (s.data.toList.flatMap qc).length + 2 := by rw [← size_data, hd]; simp
  have hp := put_ok (ot := ot) (oz := oz) (BU R s.data.toList) (quoteS s) s l ((quoteS s).size : Int) ((buGet R _ l hl).trans h)
  have f := fun fin st => text_l0 (ot := ot) (oz := oz) (quoteS s) hq R l _ _ hl h (PT R (quoteS s) s l) fin st s.data.toList [] 1 [] (by rw [hd]; rfl) (by rw [size_data]; simpa using hs)
    (by rw [List.nil_append, txt_toList, show 1 + (s.data.toList.flatMap qc).length + 1 = (quoteS s).size by omega]; exact hp)
  have b0 : (⟨R.obs ++ [.cells 77 [.nilp, .sl .null []]], R.own⟩ : St) = BT R [] := rfl
  have g := (btGet R [] l hl).trans h
  have cl := closeT R (PT R (quoteS s) s l) l _ (rdr (quoteS s) ((quoteS s).size : Int) (.sl (.own (BU R s.data.toList).own.length 53) [tokS s]) .nilifc) h (by unfold PT; rw [List.getElem?_set_self (by rw [List.length_append, buLen]; omega)]) (by simp) (.bool true)
  simp only [Int.cast_ofNat_Int] at f
  generalize PT R (quoteS s) s l = P at *
  (rw [w_plain (fn := c60) rfl rfl (by simp only [go_sem, h, b0, f, cl]) rfl (by decide)]; simp only [c60, c60_b, c60_r10, go_sem, h, b0, f, cl]; repeat' (first | (rw [guardO_t]; split <;> rename_i h <;> (try rw [Bool.not_eq_true] at h) <;> (try simp only [go_sem, c60_r10, h, b0, f, cl, *])) | (rw [guardO_f]; split <;> rename_i h <;> (try rw [Bool.not_eq_true] at h) <;> (try simp only [go_sem, c60_r10, h, b0, f, cl, *])) | (rw [cw_bool]; split <;> rename_i h <;> (try rw [Bool.not_eq_true] at h) <;> (try simp only [go_sem, c60_r10, h, b0, f, cl, *]))))
theorem pass_l0 (R : St) (q : ByteArray) (out err : PV) (l : Nat) (h : R.obs[l]? = some (rdr q 0 out err)) (h0 : q.data.toList[0]? = some 34) (fin : Kont (PV × St)) (st : List Fw) :
    run (env ot oz) fin st c55_l0 [(0, some (.ref l 0))] R = aft (env ot oz) fin st (.exit 0) [(0, some (.ref l 0)), (31, some (.bool false))] R := by
  have hz : 0 < q.size := by rw [← size_data]; exact getElem?_lt h0
  have lt : decide ((0 : Int) < (q.size : Int)) = true := by simp; omega
  have hb : (0 : Int) < (q.size : Int) := by omega
  have ib := ibyte (ot := ot) (oz := oz) ⟨#[32, 9, 10, 13]⟩ 34
  have e : Lib.indexByte [32, 9, 10, 13] 34 = -1 := by decide
  simp only [e, UInt8.reduceToNat, Int.cast_ofNat_Int] at ib
  (rw [c55_l0_w]; simp only [c55_l0_b, c55_l0_a, go_sem, h, lt, hb, h0, ib, UInt8.reduceToNat]; repeat' (first | (rw [guardO_t]; split <;> rename_i h <;> (try rw [Bool.not_eq_true] at h) <;> (try simp only [go_sem, c55_l0_a, h, lt, hb, h0, ib, UInt8.reduceToNat, *])) | (rw [guardO_f]; split <;> rename_i h <;> (try rw [Bool.not_eq_true] at h) <;> (try simp only [go_sem, c55_l0_a, h, lt, hb, h0, ib, UInt8.reduceToNat, *])) | (rw [cw_bool]; split <;> rename_i h <;> (try rw [Bool.not_eq_true] at h) <;> (try simp only [go_sem, c55_l0_a, h, lt, hb, h0, ib, UInt8.reduceToNat, *]))))
theorem pass_q (R : St) (q : ByteArray) (out err : PV) (l : Nat) (h : R.obs[l]? = some (rdr q 0 out err)) (h0 : q.data.toList[0]? = some 34) : cal (env ot oz) 55 [.ref l 0] R = some (.un, R) := by
  have f := pass_l0 (ot := ot) (oz := oz) R q out err l h h0
  (rw [w_plain (fn := c55) rfl rfl (by simp only [go_sem, f]) rfl (by decide)]; simp only [c55, c55_b, go_sem, f]; repeat' (first | (rw [guardO_t]; split <;> rename_i h <;> (try rw [Bool.not_eq_true] at h) <;> (try simp only [go_sem, f, *])) | (rw [guardO_f]; split <;> rename_i h <;> (try rw [Bool.not_eq_true] at h) <;> (try simp only [go_sem, f, *])) | (rw [cw_bool]; split <;> rename_i h <;> (try rw [Bool.not_eq_true] at h) <;> (try simp only [go_sem, f, *]))))
theorem pass_l1 (R : St) (q : ByteArray) (out err : PV) (l : Nat) (h : R.obs[l]? = some (rdr q (q.size : Int) out err)) (fin : Kont (PV × St)) (st : List Fw) :
    run (env ot oz) fin st c55_l0 [(0, some (.ref l 0))] R = aft (env ot oz) fin st (.exit 0) [(0, some (.ref l 0)), (11, some (.bool false))] R := by
  have lt : decide ((q.size : Int) < (q.size : Int)) = false := by simp
  (rw [c55_l0_w]; simp only [c55_l0_b, c55_l0_a, go_sem, h, lt]; repeat' (first | (rw [guardO_t]; split <;> rename_i h <;> (try rw [Bool.not_eq_true] at h) <;> (try simp only [go_sem, c55_l0_a, h, lt, *])) | (rw [guardO_f]; split <;> rename_i h <;> (try rw [Bool.not_eq_true] at h) <;> (try simp only [go_sem, c55_l0_a, h, lt, *])) | (rw [cw_bool]; split <;> rename_i h <;> (try rw [Bool.not_eq_true] at h) <;> (try simp only [go_sem, c55_l0_a, h, lt, *]))))
theorem pass_e (R : St) (q : ByteArray) (out err : PV) (l : Nat) (h : R.obs[l]? = some (rdr q (q.size : Int) out err)) : cal (env ot oz) 55 [.ref l 0] R = some (.un, R) := by
  have f := pass_l1 (ot := ot) (oz := oz) R q out err l h
  (rw [w_plain (fn := c55) rfl rfl (by simp only [go_sem, f]) rfl (by decide)]; simp only [c55, c55_b, go_sem, f]; repeat' (first | (rw [guardO_t]; split <;> rename_i h <;> (try rw [Bool.not_eq_true] at h) <;> (try simp only [go_sem, f, *])) | (rw [guardO_f]; split <;> rename_i h <;> (try rw [Bool.not_eq_true] at h) <;> (try simp only [go_sem, f, *])) | (rw [cw_bool]; split <;> rename_i h <;> (try rw [Bool.not_eq_true] at h) <;> (try simp only [go_sem, f, *]))))
theorem digit34 (S : St) : cal (env ot oz) 56 [.int .u8 34] S = some (.bool false, S) := by
  (rw [w_plain (fn := c56) rfl rfl (by simp only [go_sem]) rfl (by decide)]; simp only [c56, c56_b, c56_r1, go_sem]; repeat' (first | (rw [guardO_t]; split <;> rename_i h <;> (try rw [Bool.not_eq_true] at h) <;> (try simp only [go_sem, c56_r1, *])) | (rw [guardO_f]; split <;> rename_i h <;> (try rw [Bool.not_eq_true] at h) <;> (try simp only [go_sem, c56_r1, *])) | (rw [cw_bool]; split <;> rename_i h <;> (try rw [Bool.not_eq_true] at h) <;> (try simp only [go_sem, c56_r1, *]))))
theorem letter34 (S : St) : cal (env ot oz) 58 [.int .u8 34] S = some (.bool false, S) := by
  (rw [w_plain (fn := c58) rfl rfl (by simp only [go_sem]) rfl (by decide)]; simp only [c58, c58_b, c58_r1, go_sem]; repeat' (first | (rw [guardO_t]; split <;> rename_i h <;> (try rw [Bool.not_eq_true] at h) <;> (try simp only [go_sem, c58_r1, *])) | (rw [guardO_f]; split <;> rename_i h <;> (try rw [Bool.not_eq_true] at h) <;> (try simp only [go_sem, c58_r1, *])) | (rw [cw_bool]; split <;> rename_i h <;> (try rw [Bool.not_eq_true] at h) <;> (try simp only [go_sem, c58_r1, *]))))
/-- The next token, that is a quoted text. -/
theorem next_q (R R' : St) (q : ByteArray) (out : PV) (l : Nat) (b : Bool) (h : R.obs[l]? = some (rdr q 0 out .nilifc)) (o' : Ob) (h' : R'.obs[l]? = some o') (hne : o' ≠ rdr q 0 out .nilifc) (h0 : q.data.toList[0]? = some 34)
    (ht : cal (env ot oz) 60 [.ref l 0] R = some (.bool b, R')) : cal (env ot oz) 31 [.ref l 0] R = some (.bool b, R') := by
  have hz : 0 < q.size := by rw [← size_data]; exact getElem?_lt h0
  have lt : decide ((q.size : Int) ≤ (0 : Int)) = false := decide_eq_false (by omega)
  have hb : (0 : Int) < (q.size : Int) := by omega
  have p := pass_q (ot := ot) (oz := oz) R q out .nilifc l h h0
  have d1 := digit34 (ot := ot) (oz := oz)
  have d2 := letter34 (ot := ot) (oz := oz)
  have cl := closeT R R' l _ _ h h' hne (.bool b)
  (rw [w_plain (fn := c31) rfl rfl (by simp only [go_sem, h, p, lt, hb, h0, d1, d2, ht, cl, UInt8.reduceToNat]) rfl (by decide)]; simp only [c31, c31_b, go_sem, h, p, lt, hb, h0, d1, d2, ht, cl, UInt8.reduceToNat]; repeat' (first | (rw [guardO_t]; split <;> rename_i h <;> (try rw [Bool.not_eq_true] at h) <;> (try simp only [go_sem, h, p, lt, hb, h0, d1, d2, ht, cl, UInt8.reduceToNat, *])) | (rw [guardO_f]; split <;> rename_i h <;> (try rw [Bool.not_eq_true] at h) <;> (try simp only [go_sem, h, p, lt, hb, h0, d1, d2, ht, cl, UInt8.reduceToNat, *])) | (rw [cw_bool]; split <;> rename_i h <;> (try rw [Bool.not_eq_true] at h) <;> (try simp only [go_sem, h, p, lt, hb, h0, d1, d2, ht, cl, UInt8.reduceToNat, *]))))
theorem next_e (R : St) (q : ByteArray) (out err : PV) (l : Nat) (h : R.obs[l]? = some (rdr q (q.size : Int) out err)) : cal (env ot oz) 31 [.ref l 0] R = some (.bool false, R) := by
  have lt : decide ((q.size : Int) ≤ (q.size : Int)) = true := by simp
  have p := pass_e (ot := ot) (oz := oz) R q out err l h
  (rw [w_plain (fn := c31) rfl rfl (by simp only [go_sem, h, p, lt]) rfl (by decide)]; simp only [c31, c31_b, go_sem, h, p, lt]; repeat' (first | (rw [guardO_t]; split <;> rename_i h <;> (try rw [Bool.not_eq_true] at h) <;> (try simp only [go_sem, h, p, lt, *])) | (rw [guardO_f]; split <;> rename_i h <;> (try rw [Bool.not_eq_true] at h) <;> (try simp only [go_sem, h, p, lt, *])) | (rw [cw_bool]; split <;> rename_i h <;> (try rw [Bool.not_eq_true] at h) <;> (try simp only [go_sem, h, p, lt, *]))))
theorem all_l1 (q : PV) (R : St) (l : Nat) (h : cal (env ot oz) 31 [.ref l 0] R = some (.bool false, R)) (fin : Kont (PV × St)) (st : List Fw) :
    run (env ot oz) fin st c9_l0 [(0, some q), (4, some (.ref l 0))] R = aft (env ot oz) fin st (.exit 0) [(0, some q), (4, some (.ref l 0)), (13, some (.bool false))] R := by
  (rw [c9_l0_w]; simp only [c9_l0_b, c9_l0_a, go_sem, h]; repeat' (first | (rw [guardO_t]; split <;> rename_i h <;> (try rw [Bool.not_eq_true] at h) <;> (try simp only [go_sem, c9_l0_a, h, *])) | (rw [guardO_f]; split <;> rename_i h <;> (try rw [Bool.not_eq_true] at h) <;> (try simp only [go_sem, c9_l0_a, h, *])) | (rw [cw_bool]; split <;> rename_i h <;> (try rw [Bool.not_eq_true] at h) <;> (try simp only [go_sem, c9_l0_a, h, *]))))
theorem all_l2 (q : PV) (R R' : St) (l : Nat) (h : cal (env ot oz) 31 [.ref l 0] R = some (.bool true, R')) (h' : cal (env ot oz) 31 [.ref l 0] R' = some (.bool false, R')) (fin : Kont (PV × St)) (st : List Fw) :
    run (env ot oz) fin st c9_l0 [(0, some q), (4, some (.ref l 0))] R = aft (env ot oz) fin st (.exit 0) [(0, some q), (4, some (.ref l 0)), (13, some (.bool false))] R' := by
  have f := all_l1 (ot := ot) (oz := oz) q R' l h'
  (rw [c9_l0_w]; simp only [c9_l0_b, c9_l0_a, go_sem, h, f]; repeat' (first | (rw [guardO_t]; split <;> rename_i h <;> (try rw [Bool.not_eq_true] at h) <;> (try simp only [go_sem, c9_l0_a, h, f, *])) | (rw [guardO_f]; split <;> rename_i h <;> (try rw [Bool.not_eq_true] at h) <;> (try simp only [go_sem, c9_l0_a, h, f, *])) | (rw [cw_bool]; split <;> rename_i h <;> (try rw [Bool.not_eq_true] at h) <;> (try simp only [go_sem, c9_l0_a, h, f, *]))))
theorem all_q (s : ByteArray) (hs : s.size ≤ 40) (S : St) :
    cal (env ot oz) 9 [.str (quoteS s)] S = some (.tup [.sl .ro [tokS s, [.int .i64 0, .int .i64 0, .str ⟨#[]⟩, .int .i64 ((quoteS s).size : Int)]], .nilifc], S) := by
  have hd := quote_data s
  have hq4 : (s.data.toList.flatMap qc).length ≤ 4 * s.data.toList.length := by
    generalize s.data.toList = l
    induction l with
    | nil => simp
    | cons c l ih =>
      have : (qc c).length ≤ 4 := by unfold qc; split <;> (try split) <;> (try split) <;> simp
      simp only [List.flatMap_cons, List.length_append, List.length_cons]; omega
  have hz : (quoteS s).size = (s.data.toList.flatMap qc).length + 2 := by rw [← size_data, hd]; simp
  rw [size_data] at hq4
  have h0 : (quoteS s).data.toList[0]? = some 34 := by rw [hd]; rfl
  have l1 : decide ((65536 : Int) < ((quoteS s).size : Int)) = false := decide_eq_false (by omega)
  have hR : (⟨S.obs ++ [rdr (quoteS s) 0 (.sl .null []) .nilifc], S.own⟩ : St).obs[S.obs.length]? = some (rdr (quoteS s) 0 (.sl .null []) .nilifc) := by simp
  have tx := text_ok (ot := ot) (oz := oz) ⟨S.obs ++ [rdr (quoteS s) 0 (.sl .null []) .nilifc], S.own⟩ s hs (by omega) S.obs.length hR
  have hP : (PT ⟨S.obs ++ [rdr (quoteS s) 0 (.sl .null []) .nilifc], S.own⟩ (quoteS s) s S.obs.length).obs[S.obs.length]? = some (rdr (quoteS s) ((quoteS s).size : Int) (.sl (.own (BU ⟨S.obs ++ [rdr (quoteS s) 0 (.sl .null []) .nilifc], S.own⟩ s.data.toList).own.length 53) [tokS s]) .nilifc) := by
    unfold PT; rw [List.getElem?_set_self (by rw [List.length_append, buLen]; simp; omega)]
  have n1 := next_q (ot := ot) (oz := oz) _ _ (quoteS s) (.sl .null []) S.obs.length true hR _ hP (by simp) h0 tx
  have n2 := next_e (ot := ot) (oz := oz) _ (quoteS s) _ .nilifc S.obs.length hP
  have ow : (PT ⟨S.obs ++ [rdr (quoteS s) 0 (.sl .null []) .nilifc], S.own⟩ (quoteS s) s S.obs.length).own[(BU ⟨S.obs ++ [rdr (quoteS s) 0 (.sl .null []) .nilifc], S.own⟩ s.data.toList).own.length]? = some 4 := by unfold PT; simp
  have kS : S.own.length ≤ (BU ⟨S.obs ++ [rdr (quoteS s) 0 (.sl .null []) .nilifc], S.own⟩ s.data.toList).own.length := by cases s.data.toList <;> simp [BU, B0, BZ]
  have pre : ∃ more ow', PT ⟨S.obs ++ [rdr (quoteS s) 0 (.sl .null []) .nilifc], S.own⟩ (quoteS s) s S.obs.length = ⟨S.obs ++ more, S.own ++ ow'⟩ := by
    unfold PT
    cases s.data.toList with
    | nil => exact ⟨_, _, by simp [BU, B0, List.set_append]; exact ⟨rfl, rfl⟩⟩
    | cons a l => exact ⟨_, _, by simp [BU, BZ, List.set_append]; exact ⟨rfl, rfl⟩⟩
  have f := all_l2 (ot := ot) (oz := oz) (.str (quoteS s)) _ _ _ n1 n2
  obtain ⟨more, ow', pre⟩ := pre
  generalize (BU ⟨S.obs ++ [rdr (quoteS s) 0 (.sl .null []) .nilifc], S.own⟩ s.data.toList).own.length = k at *
  generalize PT ⟨S.obs ++ [rdr (quoteS s) 0 (.sl .null []) .nilifc], S.own⟩ (quoteS s) s S.obs.length = P at *
  have hk : k < P.own.length := getElem?_lt ow
  have ap : appP P 53 4 40 (.own k 53) [tokS s] [[.int .i64 0, .int .i64 0, .str ⟨#[]⟩, .int .i64 ((quoteS s).size : Int)]] = some (.sl (.own k 53) [tokS s, [.int .i64 0, .int .i64 0, .str ⟨#[]⟩, .int .i64 ((quoteS s).size : Int)]], ⟨P.obs, P.own.set k 8⟩) := by
    simp [appP, headOk, ow]
  have cl : close S ⟨P.obs, P.own.set k 8⟩ (.tup [.sl (.own k 53) [tokS s, [.int .i64 0, .int .i64 0, .str ⟨#[]⟩, .int .i64 ((quoteS s).size : Int)]], .nilifc]) = (.tup [.sl .ro [tokS s, [.int .i64 0, .int .i64 0, .str ⟨#[]⟩, .int .i64 ((quoteS s).size : Int)]], .nilifc], S) := by
    have e : (⟨P.obs, P.own.set k 8⟩ : St) = ⟨S.obs ++ more, S.own ++ ow'.set (k - S.own.length) 8⟩ := by
      rw [pre, List.set_append, if_neg (by omega)]
    rw [e, close_junk]
    simp [sealW, sealL, sealLL]
  simp only [tokS] at ap cl hP
  (rw [w_plain (fn := c9) rfl rfl (by simp only [go_sem, l1, f, hP, ap, cl]) rfl (by decide)]; simp only [c9, c9_b, go_sem, l1, f, hP, ap, cl]; repeat' (first | (rw [guardO_t]; split <;> rename_i h <;> (try rw [Bool.not_eq_true] at h) <;> (try simp only [go_sem, l1, f, hP, ap, cl, *])) | (rw [guardO_f]; split <;> rename_i h <;> (try rw [Bool.not_eq_true] at h) <;> (try simp only [go_sem, l1, f, hP, ap, cl, *])) | (rw [cw_bool]; split <;> rename_i h <;> (try rw [Bool.not_eq_true] at h) <;> (try simp only [go_sem, l1, f, hP, ap, cl, *]))))
theorem qz (s : ByteArray) : (quoteS s).size = (s.data.toList.flatMap qc).length + 2 ∧ (s.data.toList.flatMap qc).length ≤ 4 * s.size := by
  constructor
  · rw [← size_data, quote_data]; simp
  · rw [← size_data]
    generalize s.data.toList = l
    induction l with
    | nil => simp
    | cons c l ih =>
      have : (qc c).length ≤ 4 := by unfold qc; split <;> (try split) <;> (try split) <;> simp
      simp only [List.flatMap_cons, List.length_append, List.length_cons]; omega
theorem text_big (R : St) (s : ByteArray) (hs : 40 < s.size) (hq : (quoteS s).size ≤ 100000) (l : Nat) (h : R.obs[l]? = some (rdr (quoteS s) 0 (.sl .null []) .nilifc)) :
    cal (env ot oz) 60 [.ref l 0] R = some (.bool false, ⟨(BT R (s.data.toList.take 41)).obs.set l (rdr (quoteS s) 0 (.sl .null []) (plc 6 0)), (BT R (s.data.toList.take 41)).own⟩) := by
  have hl := getElem?_lt h
  have hd := quote_data s
  have hp := fail_ok (ot := ot) (oz := oz) (BT R (s.data.toList.take 41)) (quoteS s) 0 (.sl .null []) l 6 0 (by decide) ((btGet R _ l hl).trans h)
  have f := fun fin st => text_l1 (ot := ot) (oz := oz) (quoteS s) hq R l _ _ hl h _ fin st s.data.toList [] 1 [34] (by rw [hd]; rfl) (by simp) (by rw [size_data]; simp; omega)
    (by rw [List.nil_append]; exact hp)
  have b0 : (⟨R.obs ++ [.cells 77 [.nilp, .sl .null []]], R.own⟩ : St) = BT R [] := rfl
  have g := (btGet R [] l hl).trans h
  have hP : (⟨(BT R (s.data.toList.take 41)).obs.set l (rdr (quoteS s) 0 (.sl .null []) (plc 6 0)), (BT R (s.data.toList.take 41)).own⟩ : St).obs[l]? = some (rdr (quoteS s) 0 (.sl .null []) (plc 6 0)) := by
    have := getElem?_lt ((btGet R (s.data.toList.take 41) l hl).trans h)
    rw [List.getElem?_set_self this]
  have cl := closeT R _ l _ _ h hP (by simp) (.bool false)
  simp only [Int.cast_ofNat_Int] at f
  generalize (⟨(BT R (s.data.toList.take 41)).obs.set l (rdr (quoteS s) 0 (.sl .null []) (plc 6 0)), (BT R (s.data.toList.take 41)).own⟩ : St) = P at *
  (rw [w_plain (fn := c60) rfl rfl (by simp only [go_sem, h, b0, f, cl]) rfl (by decide)]; simp only [c60, c60_b, c60_r10, go_sem, h, b0, f, cl]; repeat' (first | (rw [guardO_t]; split <;> rename_i h <;> (try rw [Bool.not_eq_true] at h) <;> (try simp only [go_sem, c60_r10, h, b0, f, cl, *])) | (rw [guardO_f]; split <;> rename_i h <;> (try rw [Bool.not_eq_true] at h) <;> (try simp only [go_sem, c60_r10, h, b0, f, cl, *])) | (rw [cw_bool]; split <;> rename_i h <;> (try rw [Bool.not_eq_true] at h) <;> (try simp only [go_sem, c60_r10, h, b0, f, cl, *]))))
theorem all_big (s : ByteArray) (hs : 40 < s.size) (hs2 : s.size ≤ 3000) (S : St) :
    cal (env ot oz) 9 [.str (quoteS s)] S = some (.tup [.sl .ro [], plc 6 0], S) := by
  have hd := quote_data s
  obtain ⟨hz, hq4⟩ := qz s
  have h0 : (quoteS s).data.toList[0]? = some 34 := by rw [hd]; rfl
  have l1 : decide ((65536 : Int) < ((quoteS s).size : Int)) = false := decide_eq_false (by omega)
  have hR : (⟨S.obs ++ [rdr (quoteS s) 0 (.sl .null []) .nilifc], S.own⟩ : St).obs[S.obs.length]? = some (rdr (quoteS s) 0 (.sl .null []) .nilifc) := by simp
  have tx := text_big (ot := ot) (oz := oz) ⟨S.obs ++ [rdr (quoteS s) 0 (.sl .null []) .nilifc], S.own⟩ s hs (by omega) S.obs.length hR
  have hP : (⟨(BT ⟨S.obs ++ [rdr (quoteS s) 0 (.sl .null []) .nilifc], S.own⟩ (s.data.toList.take 41)).obs.set S.obs.length (rdr (quoteS s) 0 (.sl .null []) (plc 6 0)), (BT ⟨S.obs ++ [rdr (quoteS s) 0 (.sl .null []) .nilifc], S.own⟩ (s.data.toList.take 41)).own⟩ : St).obs[S.obs.length]? = some (rdr (quoteS s) 0 (.sl .null []) (plc 6 0)) := by
    have := getElem?_lt ((btGet ⟨S.obs ++ [rdr (quoteS s) 0 (.sl .null []) .nilifc], S.own⟩ (s.data.toList.take 41) S.obs.length (by simp)).trans hR)
    rw [List.getElem?_set_self this]
  have pre : ∃ more ow', (⟨(BT ⟨S.obs ++ [rdr (quoteS s) 0 (.sl .null []) .nilifc], S.own⟩ (s.data.toList.take 41)).obs.set S.obs.length (rdr (quoteS s) 0 (.sl .null []) (plc 6 0)), (BT ⟨S.obs ++ [rdr (quoteS s) 0 (.sl .null []) .nilifc], S.own⟩ (s.data.toList.take 41)).own⟩ : St) = ⟨S.obs ++ more, S.own ++ ow'⟩ := by
    cases s.data.toList.take 41 with
    | nil => exact ⟨_, [], by simp [BT, B0, List.set_append]; rfl⟩
    | cons a l => exact ⟨_, _, by simp [BT, BX, List.set_append]; exact ⟨rfl, rfl⟩⟩
  have n1 := next_q (ot := ot) (oz := oz) _ _ (quoteS s) (.sl .null []) S.obs.length false hR _ hP (by simp) h0 tx
  have f : ∀ fin st, run (env ot oz) fin st c9_l0 [(0, some (.str (quoteS s))), (4, some (.ref S.obs.length 0))] ⟨S.obs ++ [rdr (quoteS s) 0 (.sl .null []) .nilifc], S.own⟩ = aft (env ot oz) fin st (.exit 0) [(0, some (.str (quoteS s))), (4, some (.ref S.obs.length 0)), (13, some (.bool false))] _ := fun fin st => by
    (rw [c9_l0_w]; simp only [c9_l0_b, c9_l0_a, go_sem, n1]; repeat' (first | (rw [guardO_t]; split <;> rename_i h <;> (try rw [Bool.not_eq_true] at h) <;> (try simp only [go_sem, c9_l0_a, n1, *])) | (rw [guardO_f]; split <;> rename_i h <;> (try rw [Bool.not_eq_true] at h) <;> (try simp only [go_sem, c9_l0_a, n1, *])) | (rw [cw_bool]; split <;> rename_i h <;> (try rw [Bool.not_eq_true] at h) <;> (try simp only [go_sem, c9_l0_a, n1, *]))))
    rfl
  obtain ⟨more, ow', pre⟩ := pre
  generalize (⟨(BT ⟨S.obs ++ [rdr (quoteS s) 0 (.sl .null []) .nilifc], S.own⟩ (s.data.toList.take 41)).obs.set S.obs.length (rdr (quoteS s) 0 (.sl .null []) (plc 6 0)), (BT ⟨S.obs ++ [rdr (quoteS s) 0 (.sl .null []) .nilifc], S.own⟩ (s.data.toList.take 41)).own⟩ : St) = P at *
  have cl : close S P (.tup [.sl .null [], plc 6 0]) = (.tup [.sl .ro [], plc 6 0], S) := by
    rw [pre, close_junk]
    simp [sealW, sealL, sealLL]
  (rw [w_plain (fn := c9) rfl rfl (by simp only [go_sem, l1, f, hP, cl]) rfl (by decide)]; simp only [c9, c9_b, go_sem, l1, f, hP, cl]; repeat' (first | (rw [guardO_t]; split <;> rename_i h <;> (try rw [Bool.not_eq_true] at h) <;> (try simp only [go_sem, l1, f, hP, cl, *])) | (rw [guardO_f]; split <;> rename_i h <;> (try rw [Bool.not_eq_true] at h) <;> (try simp only [go_sem, l1, f, hP, cl, *])) | (rw [cw_bool]; split <;> rename_i h <;> (try rw [Bool.not_eq_true] at h) <;> (try simp only [go_sem, l1, f, hP, cl, *]))))
end
end Go.PE
