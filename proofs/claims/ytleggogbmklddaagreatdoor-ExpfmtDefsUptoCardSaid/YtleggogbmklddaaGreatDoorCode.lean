/-
  The functions of this seat, as the evaluator's code (printed by a program out of the translation), and that each is what the compiler makes of it. No conditions.
-/
import Derived.Test.YtleggogbmklddaaGreatDoorPQ
import Derived.Test.YtleggogbmklddaaGreatDoorProg
import Derived.KernelRfl
namespace Go.PE
open Go Go.Proofs
set_option linter.unusedVariables false
set_option maxRecDepth 100000
-- limbeck/limbecklaw15.ExpfmtDefs
def c4_r1 : List EI := [qD 3 15 1, qI 4 (.call (qF 12) [(qt 3)]), qI 5 (.bin .gtr (qt 4) (qN 800)), qM 6 5, qJ 7 (.fA 0 (qt 1)) 6 false, qJ 8 (.fA 1 (qt 7)) 6 false,
  qJ 9 (.ld none (qt 8)) 6 false, qJ 10 (.len false (qt 9)) 6 false, qJ 11 (.bin .gtr (qt 10) (qN 20)) 6 false, qI 12 (.pick (qt 6) (.con (.bool true)) (qt 11)),
  qM 13 12, qJ 14 (.fA 0 (qt 1)) 13 false, qJ 15 (.fA 2 (qt 14)) 13 false, qJ 16 (.ld none (qt 15)) 13 false, qJ 17 (.len false (qt 16)) 13 false, qJ 18 (.bin .gtr (qt 17) (qN 20)) 13 false,
  qI 19 (.pick (qt 13) (.con (.bool true)) (qt 18))]
def c4_r3 : List EI := [⟨some 21, .ld (some 15) (qt 1), none, ⟨.lds [(some 15, (qt 1))], false⟩⟩,
  ⟨some 22, .call (qF 13) [(qt 21)], none, ⟨.lds [(some 15, (qt 1))], false⟩⟩,
  ⟨some 23, .ld (some 15) (qt 1), none, Q1⟩, qI 24 (.call (qF 14) [(qt 23)]), qI 25 (.bin .eql (qt 22) (qt 24)), qM 26 25,
  ⟨some 27, .fA 0 (qt 1), some (26, true), ⟨.no, false⟩⟩,
  ⟨some 28, .ld (some 8) (qt 27), some (26, true), ⟨.still, false⟩⟩,
  ⟨some 29, .call (qF 15) [(qt 28)], some (26, true), ⟨.still, false⟩⟩, qJ 30 (.fA 0 (qt 1)) 26 true,
  ⟨some 31, .ld (some 8) (qt 30), some (26, true), Q1⟩, qJ 32 (.call (qF 16) [(qt 31)]) 26 true, qJ 33 (.bin .eql (qt 29) (qt 32)) 26 true, qI 34 (.pick (qt 26) (qt 33) (.con (.bool false))),
  qM 35 34, qJ 36 (.call (qF 7) []) 35 true, qI 37 (.pick (qt 35) (qt 36) (.con (.bool false))), qM 2 37]
def c4_b : EC := (.seq (.reg 0 [qI 1 (.boxI 38 (qt 0)), qI 2 (.mv (.con (.bool false)))] false (some [1]))
  (.seq (.seq (.reg 1 c4_r1 false (some [1, 19]))
  (.cond (qt 19) (.seq (.regP 2 [qI 20 (.call (qF 7) []), qM 2 20] false (some [2]))
  .ret) .skip))
  (.seq (.regP 3 c4_r3 true (some [2]))
  .ret)))
def c4 : EFn := ⟨1, 38, [.tmp 2], c4_b, none, true⟩
theorem c4_ok : cFn Tryz.prog Tryz.f4 = some c4.strip := by kernel_rfl
-- limbeck/limbecklaw14.Much
def c6_r3 : List EI := [qM 16 4, qA 17 5 1, qL 18 17, qI 19 (.len false (qt 18)), qI 20 (.bin .lss (qt 16) (qt 19)), qM 21 20, qJ 22 (.mv (qt 4)) 21 true,
  qJ 23 (.bin .lss (qt 22) (qN 1000)) 21 true, qI 24 (.pick (qt 21) (qt 23) (.con (.bool false)))]
def c6_r7 : List EI := [qM 36 5, qA 37 4 1, qL 38 37, qI 39 (.len false (qt 38)), qI 40 (.bin .lss (qt 36) (qt 39)), qM 41 40, qJ 42 (.mv (qt 3)) 41 true,
  qJ 43 (.bin .lss (qt 42) (qN 3000)) 41 true, qI 44 (.pick (qt 41) (qt 43) (.con (.bool false)))]
def c6_r11 : List EI := [qM 55 6, qA 56 6 1, qL 57 56, qI 58 (.len false (qt 57)), qI 59 (.bin .lss (qt 55) (qt 58)), qM 60 59, qJ 61 (.mv (qt 3)) 60 true,
  qJ 62 (.bin .lss (qt 61) (qN 3000)) 60 true, qI 63 (.pick (qt 60) (qt 62) (.con (.bool false)))]
def c6_l0_b : EC := (.seq (.seq (.reg 3 c6_r3 false (some [1, 3, 4, 24]))
  (.cond (qt 24) .skip (.exit 0)))
  (.seq (.block 1 (.reg 5 [qM 27 3, qA 28 5 1, qL 29 28, qM 30 4, qI 31 (.ixL 1 (qt 29) (qt 30)), qL 32 31, qI 33 (.len true (qt 32)), qI 34 (.bin .quo (qt 33) (qN 8)),
  qI 35 (.bin .add (qt 27) (qt 34)), qM 3 35] false (some [1, 3, 4])))
  (.reg 4 [qM 25 4, qI 26 (.bin .add (qt 25) (qN 1)), qM 4 26] false (some [1, 3, 4]))))
def c6_l0 : EC := .loop (some [1, 3, 4]) c6_l0_b
def c6_l1_b : EC := (.seq (.seq (.reg 7 c6_r7 false (some [1, 3, 5, 44]))
  (.cond (qt 44) .skip (.exit 2)))
  (.seq (.block 3 (.reg 9 [qM 47 3, qA 48 4 1, qL 49 48, qM 50 5, qI 51 (.ixL 5 (qt 49) (qt 50)), qD 52 5 51, qI 53 (.call (qF 21) [(qt 52)]), qI 54 (.bin .add (qt 47) (qt 53)),
  qM 3 54] false (some [1, 3, 5])))
  (.reg 8 [qM 45 5, qI 46 (.bin .add (qt 45) (qN 1)), qM 5 46] false (some [1, 3, 5]))))
def c6_l1 : EC := .loop (some [1, 3, 5]) c6_l1_b
def c6_l2_b : EC := (.seq (.seq (.reg 11 c6_r11 false (some [1, 3, 6, 63]))
  (.cond (qt 63) .skip (.exit 4)))
  (.seq (.block 5 (.reg 13 [qM 66 3, qA 67 6 1, qL 68 67, qM 69 6, qI 70 (.ixL 7 (qt 68) (qt 69)), qD 71 7 70, qI 72 (.call (qF 6) [(qt 71)]), qI 73 (.bin .add (qt 66) (qt 72)),
  qM 3 73] false (some [1, 3, 6])))
  (.reg 12 [qM 64 6, qI 65 (.bin .add (qt 64) (qN 1)), qM 6 65] false (some [1, 3, 6]))))
def c6_l2 : EC := .loop (some [1, 3, 6]) c6_l2_b
def c6_b : EC := (.seq (.reg 0 [qI 1 (.boxI 26 (qt 0)), qI 2 (.mv (qN 0))] false (some [1]))
  (.seq (.reg 1 [qA 7 2 1, qL 8 7, qI 9 (.len true (qt 8)), qI 10 (.bin .quo (qt 9) (qN 8)), qI 11 (.bin .add (qN 1) (qt 10)), qA 12 5 1, qL 13 12, qI 14 (.len false (qt 13)),
  qI 15 (.bin .add (qt 11) (qt 14)), qM 3 15] false (some [1, 3]))
  (.seq (.seq (.reg 2 [qI 4 (.mv (qN 0))] false (some [1, 3, 4]))
  (.block 0 c6_l0))
  (.seq (.seq (.reg 6 [qI 5 (.mv (qN 0))] false (some [1, 3, 5]))
  (.block 2 c6_l1))
  (.seq (.seq (.reg 10 [qI 6 (.mv (qN 0))] false (some [1, 3, 6]))
  (.block 4 c6_l2))
  (.seq (.reg 14 [qM 74 3, qM 2 74] false (some [2]))
  .ret))))))
def c6 : EFn := ⟨1, 75, [.tmp 2], c6_b, none, true⟩
theorem c6_l0_w {E : Env} {fin : Kont (PV × St)} {st : List Fw} {ts : Tmps} {S : St} : run E fin st c6_l0 ts S = run E fin (.again c6_l0 :: st) c6_l0_b (sel (some [1, 3, 4]) ts) S := w_loop
theorem c6_l0_a {E : Env} {fin : Kont (PV × St)} {st : List Fw} {ts : Tmps} {S : St} : aft E fin (.again c6_l0 :: st) .normal ts S = run E fin st c6_l0 (sel (some [1, 3, 4]) ts) S := a_again_s
theorem c6_l1_w {E : Env} {fin : Kont (PV × St)} {st : List Fw} {ts : Tmps} {S : St} : run E fin st c6_l1 ts S = run E fin (.again c6_l1 :: st) c6_l1_b (sel (some [1, 3, 5]) ts) S := w_loop
theorem c6_l1_a {E : Env} {fin : Kont (PV × St)} {st : List Fw} {ts : Tmps} {S : St} : aft E fin (.again c6_l1 :: st) .normal ts S = run E fin st c6_l1 (sel (some [1, 3, 5]) ts) S := a_again_s
theorem c6_l2_w {E : Env} {fin : Kont (PV × St)} {st : List Fw} {ts : Tmps} {S : St} : run E fin st c6_l2 ts S = run E fin (.again c6_l2 :: st) c6_l2_b (sel (some [1, 3, 6]) ts) S := w_loop
theorem c6_l2_a {E : Env} {fin : Kont (PV × St)} {st : List Fw} {ts : Tmps} {S : St} : aft E fin (.again c6_l2 :: st) .normal ts S = run E fin st c6_l2 (sel (some [1, 3, 6]) ts) S := a_again_s
theorem c6_ok : cFn Tryz.prog Tryz.f6 = some c6.strip := by kernel_rfl
-- limbeck/limbecklaw15.awake
def c7_r3 : List EI := [qD 11 7 2, qI 12 (.call (qF 8) [(qt 11)]), qI 13 (.bin .eql (qt 12) (.con (.str ⟨#[120, 32, 42, 32, 40, 120, 32, 43, 32, 120, 41]⟩))),
  qM 14 13, qJ 15 (.call (qF 10) [(qN 5)]) 14 true, qJ 16 (.bin .eql (qt 15) (.con (.str ⟨#[43, 43]⟩))) 14 true, qI 17 (.pick (qt 14) (qt 16) (.con (.bool false))),
  qM 0 17]
def c7_b : EC := (.seq (.reg 0 [qI 0 (.mv (.con (.bool false)))] false (some []))
  (.seq (.reg 1 [qI 3 (.build qz0 [(0, 1, (qN 4)), (2, 1, (.con (.str ⟨#[120]⟩)))]), qI 1 (.new 26 qz0),
  ⟨none, .st 7 (qt 1) (qt 3), none, Q0⟩] false (some [1]))
  (.seq (.reg 2 [qD 4 7 1, qD 5 7 1, qD 6 7 1, qI 7 (.rows 2 7 qz0 [(0, (qt 5)), (1, (qt 6))]), qI 8 (.build qz0 [(0, 1, (qN 11)), (1, 1, (qN 1)), (6, 1, (qt 7))]),
  qI 9 (.rows 2 7 qz0 [(0, (qt 4)), (1, (qt 8))]), qI 10 (.build qz0 [(0, 1, (qN 11)), (1, 1, (qN 3)), (6, 1, (qt 9))]), qI 2 (.new 26 qz0),
  ⟨none, .st 7 (qt 2) (qt 10), none, Q0⟩] false (some [2]))
  (.seq (.regP 3 c7_r3 false (some [0]))
  .ret))))
def c7 : EFn := ⟨0, 18, [.tmp 0], c7_b, none, true⟩
theorem c7_ok : cFn Tryz.prog Tryz.f7 = some c7.strip := by kernel_rfl
-- limbeck/expfmt.Show
def c8_b : EC := (.seq (.reg 0 [qI 1 (.boxI 26 (qt 0)), qI 2 (.mv (.con (.str ⟨#[]⟩)))] false (some [1]))
  (.seq (.seq (.reg 1 [qD 3 7 1, qI 4 (.call (qF 22) [(qt 3)]), qI 5 (.un .not (qt 4))] false (some [1, 5]))
  (.cond (qt 5) (.seq (.reg 2 [qI 2 (.mv (.con (.str ⟨#[]⟩)))] false (some [2]))
  .ret) .skip))
  (.seq (.regP 3 [qD 6 7 1, qI 7 (.call (qF 23) [(qt 6)]), qM 2 7] false (some [2]))
  .ret)))
def c8 : EFn := ⟨1, 8, [.tmp 2], c8_b, none, true⟩
theorem c8_ok : cFn Tryz.prog Tryz.f8 = some c8.strip := by kernel_rfl
-- limbeck/expfmt.Op
def c10_b : EC := (.seq (.reg 0 [qI 2 (.mv (.con (.str ⟨#[]⟩)))] false (some [0]))
  (.seq (.seq (.reg 1 [qM 3 0] false (some [3]))
  (.block 0 (.seq (.reg 2 [qI 5 (.bin .eql (qt 3) (qN 1)), qM 4 5] false (some [3, 4]))
  (.cond (qt 4) (.seq (.reg 3 [qI 2 (.mv (.con (.str ⟨#[43]⟩)))] false (some [2]))
  .ret) (.seq (.reg 4 [qI 7 (.bin .eql (qt 3) (qN 2)), qM 6 7] false (some [3, 6]))
  (.cond (qt 6) (.seq (.reg 5 [qI 2 (.mv (.con (.str ⟨#[45]⟩)))] false (some [2]))
  .ret) (.seq (.reg 6 [qI 9 (.bin .eql (qt 3) (qN 3)), qM 8 9] false (some [3, 8]))
  (.cond (qt 8) (.seq (.reg 7 [qI 2 (.mv (.con (.str ⟨#[42]⟩)))] false (some [2]))
  .ret) (.seq (.reg 8 [qI 11 (.bin .eql (qt 3) (qN 4)), qM 10 11] false (some [3, 10]))
  (.cond (qt 10) (.seq (.reg 9 [qI 2 (.mv (.con (.str ⟨#[47]⟩)))] false (some [2]))
  .ret) (.seq (.reg 10 [qI 13 (.bin .eql (qt 3) (qN 5)), qM 12 13] false (some [3, 12]))
  (.cond (qt 12) (.seq (.reg 11 [qI 2 (.mv (.con (.str ⟨#[43, 43]⟩)))] false (some [2]))
  .ret) (.seq (.reg 12 [qI 15 (.bin .eql (qt 3) (qN 6)), qM 14 15] false (some [3, 14]))
  (.cond (qt 14) (.seq (.reg 13 [qI 2 (.mv (.con (.str ⟨#[60]⟩)))] false (some [2]))
  .ret) (.seq (.reg 14 [qI 17 (.bin .eql (qt 3) (qN 7)), qM 16 17] false (some [16]))
  (.cond (qt 16) (.seq (.reg 15 [qI 2 (.mv (.con (.str ⟨#[61, 61]⟩)))] false (some [2]))
  .ret) .skip))))))))))))))))
  (.seq (.reg 16 [qI 2 (.mv (.con (.str ⟨#[]⟩)))] false (some [2]))
  .ret)))
def c10 : EFn := ⟨1, 18, [.tmp 2], c10_b, none, true⟩
theorem c10_ok : cFn Tryz.prog Tryz.f10 = some c10.strip := by kernel_rfl
-- limbeck/limbeckref15.Op
def c11_r2 : List EI := [qM 5 0, qI 6 (.bin .lss (qt 5) (qN 0)), qM 7 6, qJ 8 (.mv (qt 0)) 7 false, qJ 9 (.mv (qt 3)) 7 false, qJ 10 (.len false (qt 9)) 7 false,
  qJ 11 (.bin .geq (qt 8) (qt 10)) 7 false, qI 12 (.pick (qt 7) (.con (.bool true)) (qt 11))]
def c11_b : EC := (.seq (.reg 0 [qI 2 (.mv (.con (.str ⟨#[]⟩)))] false (some [0]))
  (.seq (.reg 1 [qI 4 (.rows 8 1 [(.str ⟨#[]⟩)] [(0, (.con (.str ⟨#[]⟩))), (1, (.con (.str ⟨#[43]⟩))), (2, (.con (.str ⟨#[45]⟩))), (3, (.con (.str ⟨#[42]⟩))), (4, (.con (.str ⟨#[47]⟩))), (5, (.con (.str ⟨#[43, 43]⟩))), (6, (.con (.str ⟨#[60]⟩))), (7, (.con (.str ⟨#[61, 61]⟩)))]),
  qM 3 4] false (some [0, 3]))
  (.seq (.seq (.reg 2 c11_r2 false (some [0, 3, 12]))
  (.cond (qt 12) (.seq (.reg 3 [qI 2 (.mv (.con (.str ⟨#[]⟩)))] false (some [2]))
  .ret) .skip))
  (.seq (.reg 4 [qM 13 3, qM 14 0, qI 15 (.ixL 1 (qt 13) (qt 14)), qL 16 15, qM 2 16] false (some [2]))
  .ret))))
def c11 : EFn := ⟨1, 17, [.tmp 2], c11_b, none, true⟩
theorem c11_ok : cFn Tryz.prog Tryz.f11 = some c11.strip := by kernel_rfl
-- limbeck/limbecklaw14.All
def c12_b : EC := (.seq (.reg 0 [qI 1 (.boxI 38 (qt 0)), qI 2 (.mv (qN 0))] false (some [1]))
  (.seq (.reg 1 [⟨some 3, .fA 8 (qt 1), none, ⟨.no, false⟩⟩,
  ⟨some 4, .ld (some 7) (qt 3), none, ⟨.still, false⟩⟩,
  ⟨some 5, .call (qF 6) [(qt 4)], none, ⟨.still, false⟩⟩,
  ⟨some 6, .fA 0 (qt 1), none, ⟨.no, false⟩⟩,
  ⟨some 7, .fA 1 (qt 6), none, ⟨.no, false⟩⟩,
  ⟨some 8, .ld none (qt 7), none, ⟨.still, false⟩⟩,
  ⟨some 9, .call (qF 25) [(qt 8)], none, ⟨.still, false⟩⟩,
  ⟨some 10, .bin .add (qt 5) (qt 9), none, ⟨.no, false⟩⟩,
  ⟨some 11, .fA 0 (qt 1), none, ⟨.no, false⟩⟩,
  ⟨some 12, .fA 2 (qt 11), none, ⟨.no, false⟩⟩,
  ⟨some 13, .ld none (qt 12), none, ⟨.still, false⟩⟩,
  ⟨some 14, .call (qF 25) [(qt 13)], none, ⟨.still, false⟩⟩,
  ⟨some 15, .bin .add (qt 10) (qt 14), none, ⟨.no, false⟩⟩,
  ⟨some 16, .fA 0 (qt 1), none, ⟨.no, false⟩⟩,
  ⟨some 17, .fA 3 (qt 16), none, ⟨.no, false⟩⟩,
  ⟨some 18, .ld (some 5) (qt 17), none, ⟨.still, false⟩⟩,
  ⟨some 19, .call (qF 21) [(qt 18)], none, ⟨.still, false⟩⟩,
  ⟨some 20, .bin .add (qt 15) (qt 19), none, ⟨.no, false⟩⟩, qA 21 0 1, qA 22 0 21,
  ⟨some 23, .ld none (qt 22), none, Q1⟩, qI 24 (.len true (qt 23)), qI 25 (.bin .quo (qt 24) (qN 8)), qI 26 (.bin .add (qt 20) (qt 25)), qM 2 26] true (some [2]))
  .ret))
def c12 : EFn := ⟨1, 27, [.tmp 2], c12_b, none, true⟩
theorem c12_ok : cFn Tryz.prog Tryz.f12 = some c12.strip := by kernel_rfl
-- limbeck/expfmt.Def
def c13_b : EC := (.seq (.reg 0 [qI 1 (.boxI 38 (qt 0)), qI 2 (.mv (.con (.str ⟨#[]⟩)))] false (some [1]))
  (.seq (.seq (.reg 1 [qD 3 15 1, qI 4 (.call (qF 26) [(qt 3)]), qI 5 (.un .not (qt 4))] false (some [1, 5]))
  (.cond (qt 5) (.seq (.reg 2 [qI 2 (.mv (.con (.str ⟨#[]⟩)))] false (some [2]))
  .ret) .skip))
  (.seq (.regP 3 [⟨some 6, .fA 0 (qt 1), none, ⟨.no, false⟩⟩,
  ⟨some 7, .ld (some 8) (qt 6), none, ⟨.still, false⟩⟩,
  ⟨some 8, .call (qF 15) [(qt 7)], none, ⟨.still, false⟩⟩,
  ⟨some 9, .bin .add (qt 8) (.con (.str ⟨#[32, 61, 32]⟩)), none, ⟨.no, false⟩⟩, qA 10 8 1,
  ⟨some 11, .ld (some 7) (qt 10), none, Q1⟩, qI 12 (.call (qF 23) [(qt 11)]), qI 13 (.bin .add (qt 9) (qt 12)), qM 2 13] true (some [2]))
  .ret)))
def c13 : EFn := ⟨1, 14, [.tmp 2], c13_b, none, true⟩
theorem c13_ok : cFn Tryz.prog Tryz.f13 = some c13.strip := by kernel_rfl
-- limbeck/limbeckref15.Def
def c14_b : EC := (.seq (.reg 0 [qI 1 (.boxI 38 (qt 0)), qI 2 (.mv (.con (.str ⟨#[]⟩)))] false (some [1]))
  (.seq (.seq (.reg 1 [qD 3 15 1, qI 4 (.call (qF 17) [(qt 3)]), qI 5 (.un .not (qt 4))] false (some [1, 5]))
  (.cond (qt 5) (.seq (.reg 2 [qI 2 (.mv (.con (.str ⟨#[]⟩)))] false (some [2]))
  .ret) .skip))
  (.seq (.reg 3 [⟨some 6, .fA 0 (qt 1), none, ⟨.no, false⟩⟩,
  ⟨some 7, .ld (some 8) (qt 6), none, ⟨.still, false⟩⟩,
  ⟨some 8, .call (qF 16) [(qt 7)], none, ⟨.still, false⟩⟩,
  ⟨some 9, .bin .add (qt 8) (.con (.str ⟨#[32, 61, 32]⟩)), none, ⟨.no, false⟩⟩, qA 10 8 1,
  ⟨some 11, .ld (some 7) (qt 10), none, Q1⟩, qI 12 (.call (qF 24) [(qt 11)]), qI 13 (.bin .add (qt 9) (qt 12)), qM 2 13] true (some [2]))
  .ret)))
def c14 : EFn := ⟨1, 14, [.tmp 2], c14_b, none, true⟩
theorem c14_ok : cFn Tryz.prog Tryz.f14 = some c14.strip := by kernel_rfl
-- limbeck/expfmt.Sig
def c15_b : EC := (.seq (.reg 0 [qI 1 (.boxI 36 (qt 0)), qI 2 (.mv (.con (.str ⟨#[]⟩)))] false (some [1]))
  (.seq (.reg 1 [qI 3 (.mv (.con (.str ⟨#[]⟩)))] false (some [1, 3]))
  (.seq (.seq (.reg 2 [qA 4 1 1, qL 5 4, qI 6 (.len false (qt 5)), qI 7 (.bin .gtr (qt 6) (qN 0))] false (some [1, 3, 7]))
  (.cond (qt 7) (.reg 3 [qA 8 1 1, qL 9 8, qI 10 (.call (qF 27) [(qt 9), (.con (.str ⟨#[32, 60, 58, 32]⟩))]), qI 11 (.bin .add (.con (.str ⟨#[91]⟩)) (qt 10)),
  qI 12 (.bin .add (qt 11) (.con (.str ⟨#[93]⟩))), qM 3 12] false (some [1, 3])) .skip))
  (.seq (.reg 4 [⟨some 13, .fA 0 (qt 1), none, ⟨.no, false⟩⟩,
  ⟨some 14, .ld none (qt 13), none, ⟨.still, false⟩⟩,
  ⟨some 15, .bin .add (.con (.str ⟨#[100, 101, 102, 32]⟩)) (qt 14), none, ⟨.no, false⟩⟩,
  ⟨some 16, .mv (qt 3), none, ⟨.no, false⟩⟩,
  ⟨some 17, .bin .add (qt 15) (qt 16), none, ⟨.no, false⟩⟩,
  ⟨some 18, .bin .add (qt 17) (.con (.str ⟨#[40]⟩)), none, ⟨.no, false⟩⟩,
  ⟨some 19, .fA 2 (qt 1), none, ⟨.no, false⟩⟩,
  ⟨some 20, .ld none (qt 19), none, ⟨.still, false⟩⟩,
  ⟨some 21, .call (qF 27) [(qt 20), (.con (.str ⟨#[58, 32]⟩))], none, ⟨.still, false⟩⟩,
  ⟨some 22, .bin .add (qt 18) (qt 21), none, ⟨.no, false⟩⟩,
  ⟨some 23, .bin .add (qt 22) (.con (.str ⟨#[41, 58, 32]⟩)), none, ⟨.no, false⟩⟩, qA 24 3 1,
  ⟨some 25, .ld (some 5) (qt 24), none, Q1⟩,
  ⟨some 26, .call (qF 28) [(qt 25)], none, Q1⟩, qI 27 (.bin .add (qt 23) (qt 26)), qM 2 27] true (some [2]))
  .ret))))
def c15 : EFn := ⟨1, 28, [.tmp 2], c15_b, none, true⟩
theorem c15_ok : cFn Tryz.prog Tryz.f15 = some c15.strip := by kernel_rfl
-- limbeck/limbeckref15.Sig
def c16_b : EC := (.seq (.reg 0 [qI 1 (.boxI 36 (qt 0)), qI 2 (.mv (.con (.str ⟨#[]⟩)))] false (some [1]))
  (.seq (.reg 1 [qA 4 0 1, qL 5 4, qI 6 (.bin .add (.con (.str ⟨#[100, 101, 102, 32]⟩)) (qt 5)), qM 3 6] false (some [1, 3]))
  (.seq (.seq (.reg 2 [qA 7 1 1, qL 8 7, qI 9 (.len false (qt 8)), qI 10 (.bin .gtr (qt 9) (qN 0))] false (some [1, 3, 10]))
  (.cond (qt 10) (.reg 3 [qM 11 3, qI 12 (.bin .add (qt 11) (.con (.str ⟨#[91]⟩))), qA 13 1 1, qL 14 13, qI 15 (.call (qF 29) [(qt 14), (.con (.str ⟨#[32, 60, 58, 32]⟩))]),
  qI 16 (.bin .add (qt 12) (qt 15)), qI 17 (.bin .add (qt 16) (.con (.str ⟨#[93]⟩))), qM 3 17] false (some [1, 3])) .skip))
  (.seq (.reg 4 [⟨some 18, .mv (qt 3), none, ⟨.no, false⟩⟩,
  ⟨some 19, .bin .add (qt 18) (.con (.str ⟨#[40]⟩)), none, ⟨.no, false⟩⟩,
  ⟨some 20, .fA 2 (qt 1), none, ⟨.no, false⟩⟩,
  ⟨some 21, .ld none (qt 20), none, ⟨.still, false⟩⟩,
  ⟨some 22, .call (qF 29) [(qt 21), (.con (.str ⟨#[58, 32]⟩))], none, ⟨.still, false⟩⟩,
  ⟨some 23, .bin .add (qt 19) (qt 22), none, ⟨.no, false⟩⟩,
  ⟨some 24, .bin .add (qt 23) (.con (.str ⟨#[41, 58, 32]⟩)), none, ⟨.no, false⟩⟩, qA 25 3 1,
  ⟨some 26, .ld (some 5) (qt 25), none, Q1⟩, qI 27 (.call (qF 30) [(qt 26)]), qI 28 (.bin .add (qt 24) (qt 27)), qM 2 28] true (some [2]))
  .ret))))
def c16 : EFn := ⟨1, 29, [.tmp 2], c16_b, none, true⟩
theorem c16_ok : cFn Tryz.prog Tryz.f16 = some c16.strip := by kernel_rfl
-- limbeck/limbeckref14.Def
def c17_r1 : List EI := [qA 5 0 1, qD 6 8 5, qI 7 (.call (qF 31) [(qt 6)]), qI 8 (.un .not (qt 7)), qM 9 8, qJ 10 (.fA 8 (qt 1)) 9 false, qJ 11 (.ld (some 7) (qt 10)) 9 false,
  qJ 12 (.call (qF 19) [(qt 11)]) 9 false, qJ 13 (.un .not (qt 12)) 9 false, qI 14 (.pick (qt 9) (.con (.bool true)) (qt 13))]
def c17_r4 : List EI := [qM 20 3, qI 21 (.bin .leq (qt 20) (qN 240)), qM 22 21, qJ 23 (.mv (qt 4)) 22 true, qJ 24 (.bin .leq (qt 23) (qN 40)) 22 true,
  qI 25 (.pick (qt 22) (qt 24) (.con (.bool false))), qM 2 25]
def c17_b : EC := (.seq (.reg 0 [qI 1 (.boxI 38 (qt 0)), qI 2 (.mv (.con (.bool false)))] false (some [1]))
  (.seq (.seq (.reg 1 c17_r1 false (some [1, 14]))
  (.cond (qt 14) (.seq (.reg 2 [qI 2 (.mv (.con (.bool false)))] false (some [2]))
  .ret) .skip))
  (.seq (.reg 3 [qD 16 15 1, qI 17 (.call (qF 32) [(qt 16)]), qM 15 17, qI 18 (.ext (qt 15) 0), qI 19 (.ext (qt 15) 1), qM 3 18, qM 4 19] false (some [3, 4]))
  (.seq (.reg 4 c17_r4 false (some [2]))
  .ret))))
def c17 : EFn := ⟨1, 26, [.tmp 2], c17_b, none, true⟩
theorem c17_ok : cFn Tryz.prog Tryz.f17 = some c17.strip := by kernel_rfl
-- limbeck/limbeckref14.Right
def c19_l0_b : EC := (.seq (.seq (.reg 4 [qM 7 3, qA 8 6 1, qL 9 8, qI 10 (.len false (qt 9)), qI 11 (.bin .lss (qt 7) (qt 10))] false (some [1, 3, 11]))
  (.cond (qt 11) .skip (.exit 0)))
  (.seq (.block 1 (.seq (.reg 6 [qA 14 6 1, qL 15 14, qM 16 3, qI 17 (.ixL 7 (qt 15) (qt 16)), qD 18 7 17, qI 19 (.call (qF 19) [(qt 18)]), qI 20 (.un .not (qt 19))] false (some [1, 3, 20]))
  (.cond (qt 20) (.seq (.reg 7 [qI 2 (.mv (.con (.bool false)))] false (some [2]))
  .ret) .skip)))
  (.reg 5 [qM 12 3, qI 13 (.bin .add (qt 12) (qN 1)), qM 3 13] false (some [1, 3]))))
def c19_l0 : EC := .loop (some [1, 3]) c19_l0_b
def c19_b : EC := (.seq (.reg 0 [qI 1 (.boxI 26 (qt 0)), qI 2 (.mv (.con (.bool false)))] false (some [1]))
  (.seq (.seq (.reg 1 [qD 4 7 1, qI 5 (.call (qF 34) [(qt 4)]), qI 6 (.un .not (qt 5))] false (some [1, 6]))
  (.cond (qt 6) (.seq (.reg 2 [qI 2 (.mv (.con (.bool false)))] false (some [2]))
  .ret) .skip))
  (.seq (.seq (.reg 3 [qI 3 (.mv (qN 0))] false (some [1, 3]))
  (.block 0 c19_l0))
  (.seq (.reg 8 [qI 2 (.mv (.con (.bool true)))] false (some [2]))
  .ret))))
def c19 : EFn := ⟨1, 21, [.tmp 2], c19_b, none, true⟩
theorem c19_l0_w {E : Env} {fin : Kont (PV × St)} {st : List Fw} {ts : Tmps} {S : St} : run E fin st c19_l0 ts S = run E fin (.again c19_l0 :: st) c19_l0_b (sel (some [1, 3]) ts) S := w_loop
theorem c19_l0_a {E : Env} {fin : Kont (PV × St)} {st : List Fw} {ts : Tmps} {S : St} : aft E fin (.again c19_l0 :: st) .normal ts S = run E fin st c19_l0 (sel (some [1, 3]) ts) S := a_again_s
theorem c19_ok : cFn Tryz.prog Tryz.f19 = some c19.strip := by kernel_rfl
-- limbeck/limbecklaw04.Much
def c21_r3 : List EI := [qM 15 4, qA 16 3 1, qL 17 16, qI 18 (.len false (qt 17)), qI 19 (.bin .lss (qt 15) (qt 18)), qM 20 19, qJ 21 (.mv (qt 4)) 20 true,
  qJ 22 (.bin .lss (qt 21) (qN 1000)) 20 true, qI 23 (.pick (qt 20) (qt 22) (.con (.bool false)))]
def c21_r7 : List EI := [qM 35 5, qA 36 4 1, qL 37 36, qI 38 (.len false (qt 37)), qI 39 (.bin .lss (qt 35) (qt 38)), qM 40 39, qJ 41 (.mv (qt 3)) 40 true,
  qJ 42 (.bin .lss (qt 41) (qN 3000)) 40 true, qI 43 (.pick (qt 40) (qt 42) (.con (.bool false)))]
def c21_l0_b : EC := (.seq (.seq (.reg 3 c21_r3 false (some [1, 3, 4, 23]))
  (.cond (qt 23) .skip (.exit 0)))
  (.seq (.block 1 (.reg 5 [qM 26 3, qA 27 3 1, qL 28 27, qM 29 4, qI 30 (.ixL 1 (qt 28) (qt 29)), qL 31 30, qI 32 (.len true (qt 31)), qI 33 (.bin .quo (qt 32) (qN 8)),
  qI 34 (.bin .add (qt 26) (qt 33)), qM 3 34] false (some [1, 3, 4])))
  (.reg 4 [qM 24 4, qI 25 (.bin .add (qt 24) (qN 1)), qM 4 25] false (some [1, 3, 4]))))
def c21_l0 : EC := .loop (some [1, 3, 4]) c21_l0_b
def c21_l1_b : EC := (.seq (.seq (.reg 7 c21_r7 false (some [1, 3, 5, 43]))
  (.cond (qt 43) .skip (.exit 2)))
  (.seq (.block 3 (.reg 9 [qM 46 3, qA 47 4 1, qL 48 47, qM 49 5, qI 50 (.ixL 5 (qt 48) (qt 49)), qD 51 5 50, qI 52 (.call (qF 21) [(qt 51)]), qI 53 (.bin .add (qt 46) (qt 52)),
  qM 3 53] false (some [1, 3, 5])))
  (.reg 8 [qM 44 5, qI 45 (.bin .add (qt 44) (qN 1)), qM 5 45] false (some [1, 3, 5]))))
def c21_l1 : EC := .loop (some [1, 3, 5]) c21_l1_b
def c21_b : EC := (.seq (.reg 0 [qI 1 (.boxI 34 (qt 0)), qI 2 (.mv (qN 0))] false (some [1]))
  (.seq (.reg 1 [qA 6 2 1, qL 7 6, qI 8 (.len true (qt 7)), qI 9 (.bin .quo (qt 8) (qN 8)), qI 10 (.bin .add (qN 1) (qt 9)), qA 11 3 1, qL 12 11, qI 13 (.len false (qt 12)),
  qI 14 (.bin .add (qt 10) (qt 13)), qM 3 14] false (some [1, 3]))
  (.seq (.seq (.reg 2 [qI 4 (.mv (qN 0))] false (some [1, 3, 4]))
  (.block 0 c21_l0))
  (.seq (.seq (.reg 6 [qI 5 (.mv (qN 0))] false (some [1, 3, 5]))
  (.block 2 c21_l1))
  (.seq (.reg 10 [qM 54 3, qM 2 54] false (some [2]))
  .ret)))))
def c21 : EFn := ⟨1, 55, [.tmp 2], c21_b, none, true⟩
theorem c21_l0_step {E : Env} {fin : Kont (PV × St)} {st : List Fr} {ts : Tmps} {S : St} {n : Nat} : (lvl E (n + 1)).ev c21_l0 ts S (kont E fin st) = (lvl E (n + 1)).ev c21_l0_b (sel (some [1, 3, 4]) ts) S (kont E fin (.again n c21_l0 :: st)) := rfl
theorem c21_l0_w {E : Env} {fin : Kont (PV × St)} {st : List Fw} {ts : Tmps} {S : St} : run E fin st c21_l0 ts S = run E fin (.again c21_l0 :: st) c21_l0_b (sel (some [1, 3, 4]) ts) S := w_loop
theorem c21_l0_a {E : Env} {fin : Kont (PV × St)} {st : List Fw} {ts : Tmps} {S : St} : aft E fin (.again c21_l0 :: st) .normal ts S = run E fin st c21_l0 (sel (some [1, 3, 4]) ts) S := a_again_s
theorem c21_l1_step {E : Env} {fin : Kont (PV × St)} {st : List Fr} {ts : Tmps} {S : St} {n : Nat} : (lvl E (n + 1)).ev c21_l1 ts S (kont E fin st) = (lvl E (n + 1)).ev c21_l1_b (sel (some [1, 3, 5]) ts) S (kont E fin (.again n c21_l1 :: st)) := rfl
theorem c21_l1_w {E : Env} {fin : Kont (PV × St)} {st : List Fw} {ts : Tmps} {S : St} : run E fin st c21_l1 ts S = run E fin (.again c21_l1 :: st) c21_l1_b (sel (some [1, 3, 5]) ts) S := w_loop
theorem c21_l1_a {E : Env} {fin : Kont (PV × St)} {st : List Fw} {ts : Tmps} {S : St} : aft E fin (.again c21_l1 :: st) .normal ts S = run E fin st c21_l1 (sel (some [1, 3, 5]) ts) S := a_again_s
theorem c21_ok : cFn Tryz.prog Tryz.f21 = some c21.strip := by kernel_rfl
-- limbeck/exp.Right
def c22_r1 : List EI := [qA 3 0 1, qL 4 3, qI 5 (.bin .neq (qt 4) (qN 9)), qM 6 5, qJ 7 (.fA 5 (qt 1)) 6 true, qJ 8 (.ld none (qt 7)) 6 true, qJ 9 (.len false (qt 8)) 6 true,
  qJ 10 (.bin .gtr (qt 9) (qN 0)) 6 true, qI 11 (.pick (qt 6) (qt 10) (.con (.bool false))), qM 12 11, qJ 13 (.fA 0 (qt 1)) 12 false, qJ 14 (.ld none (qt 13)) 12 false,
  qJ 15 (.bin .neq (qt 14) (qN 13)) 12 false, qJ 16 (.mv (qt 15)) 12 false, qJ 17 (.fA 3 (qt 1)) 16 true, qJ 18 (.ld none (qt 17)) 16 true, qJ 19 (.pick (qt 16) (qt 18) (.con (.bool false))) 12 false,
  qI 20 (.pick (qt 12) (.con (.bool true)) (qt 19))]
def c22_r3 : List EI := [qD 21 7 1, qI 22 (.call (qF 37) [(qt 21)]), qM 23 22, qJ 24 (.ld (some 7) (qt 1)) 23 true, qJ 25 (.call (qF 38) [(qt 24)]) 23 true,
  qI 26 (.pick (qt 23) (qt 25) (.con (.bool false))), qM 27 26, qJ 28 (.ld (some 7) (qt 1)) 27 true, qJ 29 (.call (qF 39) [(qt 28)]) 27 true, qI 30 (.pick (qt 27) (qt 29) (.con (.bool false))),
  qM 31 30, qJ 32 (.ld (some 7) (qt 1)) 31 true, qJ 33 (.call (qF 40) [(qt 32)]) 31 true, qI 34 (.pick (qt 31) (qt 33) (.con (.bool false))), qM 35 34,
  qJ 36 (.fA 4 (qt 1)) 35 true, qJ 37 (.ld none (qt 36)) 35 true, qJ 38 (.call (qF 41) [(qt 37), (qF 42)]) 35 true, qI 39 (.pick (qt 35) (qt 38) (.con (.bool false))),
  qM 40 39, qJ 41 (.fA 6 (qt 1)) 40 true, qJ 42 (.ld none (qt 41)) 40 true, qJ 43 (.call (qF 43) [(qt 42), (qF 22)]) 40 true, qI 44 (.pick (qt 40) (qt 43) (.con (.bool false))),
  qM 2 44]
def c22_b : EC := (.seq (.reg 0 [qI 1 (.boxI 26 (qt 0)), qI 2 (.mv (.con (.bool false)))] false (some [1]))
  (.seq (.seq (.reg 1 c22_r1 false (some [1, 20]))
  (.cond (qt 20) (.seq (.reg 2 [qI 2 (.mv (.con (.bool false)))] false (some [2]))
  .ret) .skip))
  (.seq (.reg 3 c22_r3 false (some [2]))
  .ret)))
def c22 : EFn := ⟨1, 45, [.tmp 2], c22_b, none, true⟩
theorem c22_ok : cFn Tryz.prog Tryz.f22 = some c22.strip := by kernel_rfl
-- limbeck/expfmt.shown
def c23_b : EC := (.seq (.reg 0 [qI 1 (.boxI 26 (qt 0)), qI 2 (.mv (.con (.str ⟨#[]⟩)))] false (some [1]))
  (.seq (.seq (.reg 1 [qA 3 0 1, qL 4 3] false (some [1, 4]))
  (.block 0 (.seq (.reg 2 [qI 6 (.bin .eql (qt 4) (qN 5)), qM 5 6] false (some [1, 4, 5]))
  (.cond (qt 5) (.seq (.regP 3 [⟨some 7, .ld (some 7) (qt 1), none, ⟨.still, false⟩⟩,
  ⟨some 8, .call (qF 44) [(qt 7)], none, ⟨.still, false⟩⟩,
  ⟨some 9, .bin .add (.con (.str ⟨#[108, 101, 116, 32]⟩)) (qt 8), none, ⟨.no, false⟩⟩,
  ⟨some 10, .bin .add (qt 9) (.con (.str ⟨#[32, 61, 32]⟩)), none, ⟨.no, false⟩⟩,
  ⟨some 11, .fA 6 (qt 1), none, ⟨.no, false⟩⟩,
  ⟨some 12, .ld none (qt 11), none, ⟨.still, false⟩⟩,
  ⟨some 13, .ixL 7 (qt 12) (qN 0), none, ⟨.no, false⟩⟩,
  ⟨some 14, .ld (some 7) (qt 13), none, ⟨.still, false⟩⟩,
  ⟨some 15, .call (qF 23) [(qt 14)], none, ⟨.still, false⟩⟩,
  ⟨some 16, .bin .add (qt 10) (qt 15), none, ⟨.no, false⟩⟩,
  ⟨some 17, .bin .add (qt 16) (.con (.str ⟨#[32, 105, 110, 32]⟩)), none, ⟨.no, false⟩⟩, qA 18 6 1,
  ⟨some 19, .ld none (qt 18), none, Q1⟩, qI 20 (.ixL 7 (qt 19) (qN 1)),
  ⟨some 21, .ld (some 7) (qt 20), none, Q1⟩, qI 22 (.call (qF 23) [(qt 21)]), qI 23 (.bin .add (qt 17) (qt 22)), qM 2 23] true (some [2]))
  .ret) (.seq (.reg 4 [qI 25 (.bin .eql (qt 4) (qN 6)), qM 24 25] false (some [1, 4, 24]))
  (.cond (qt 24) (.seq (.regP 5 [⟨some 26, .fA 6 (qt 1), none, ⟨.no, false⟩⟩,
  ⟨some 27, .ld none (qt 26), none, ⟨.still, false⟩⟩,
  ⟨some 28, .ixL 7 (qt 27) (qN 0), none, ⟨.no, false⟩⟩,
  ⟨some 29, .ld (some 7) (qt 28), none, ⟨.still, false⟩⟩,
  ⟨some 30, .call (qF 23) [(qt 29)], none, ⟨.still, false⟩⟩,
  ⟨some 31, .bin .add (.con (.str ⟨#[105, 102, 32]⟩)) (qt 30), none, ⟨.no, false⟩⟩,
  ⟨some 32, .bin .add (qt 31) (.con (.str ⟨#[32, 116, 104, 101, 110, 32]⟩)), none, ⟨.no, false⟩⟩,
  ⟨some 33, .fA 6 (qt 1), none, ⟨.no, false⟩⟩,
  ⟨some 34, .ld none (qt 33), none, ⟨.still, false⟩⟩,
  ⟨some 35, .ixL 7 (qt 34) (qN 1), none, ⟨.no, false⟩⟩,
  ⟨some 36, .ld (some 7) (qt 35), none, ⟨.still, false⟩⟩,
  ⟨some 37, .call (qF 23) [(qt 36)], none, ⟨.still, false⟩⟩,
  ⟨some 38, .bin .add (qt 32) (qt 37), none, ⟨.no, false⟩⟩,
  ⟨some 39, .bin .add (qt 38) (.con (.str ⟨#[32, 101, 108, 115, 101, 32]⟩)), none, ⟨.no, false⟩⟩, qA 40 6 1,
  ⟨some 41, .ld none (qt 40), none, Q1⟩, qI 42 (.ixL 7 (qt 41) (qN 2)),
  ⟨some 43, .ld (some 7) (qt 42), none, Q1⟩, qI 44 (.call (qF 23) [(qt 43)]), qI 45 (.bin .add (qt 39) (qt 44)), qM 2 45] true (some [2]))
  .ret) (.seq (.reg 6 [qI 47 (.bin .eql (qt 4) (qN 7)), qM 46 47] false (some [1, 4, 46]))
  (.cond (qt 46) (.seq (.regP 7 [⟨some 48, .ld (some 7) (qt 1), none, ⟨.still, false⟩⟩,
  ⟨some 49, .call (qF 44) [(qt 48)], none, ⟨.still, false⟩⟩,
  ⟨some 50, .bin .add (.con (.str ⟨#[102, 110, 32]⟩)) (qt 49), none, ⟨.no, false⟩⟩,
  ⟨some 51, .bin .add (qt 50) (.con (.str ⟨#[32, 61, 62, 32]⟩)), none, ⟨.no, false⟩⟩, qA 52 6 1,
  ⟨some 53, .ld none (qt 52), none, Q1⟩, qI 54 (.ixL 7 (qt 53) (qN 0)),
  ⟨some 55, .ld (some 7) (qt 54), none, Q1⟩, qI 56 (.call (qF 23) [(qt 55)]), qI 57 (.bin .add (qt 51) (qt 56)), qM 2 57] true (some [2]))
  .ret) (.seq (.reg 8 [qI 59 (.bin .eql (qt 4) (qN 8)), qM 58 59] false (some [1, 4, 58]))
  (.cond (qt 58) (.seq (.regP 9 [⟨some 60, .fA 6 (qt 1), none, ⟨.no, false⟩⟩,
  ⟨some 61, .ld none (qt 60), none, ⟨.still, false⟩⟩,
  ⟨some 62, .ixL 7 (qt 61) (qN 0), none, ⟨.no, false⟩⟩,
  ⟨some 63, .ld (some 7) (qt 62), none, ⟨.still, false⟩⟩,
  ⟨some 64, .call (qF 45) [(qt 63), (qN 4)], none, ⟨.still, false⟩⟩,
  ⟨some 65, .bin .add (qt 64) (.con (.str ⟨#[40]⟩)), none, ⟨.no, false⟩⟩, qA 66 6 1,
  ⟨some 67, .ld none (qt 66), none, Q1⟩, qI 68 (.ixL 7 (qt 67) (qN 1)),
  ⟨some 69, .ld (some 7) (qt 68), none, Q1⟩, qI 70 (.call (qF 23) [(qt 69)]), qI 71 (.bin .add (qt 65) (qt 70)), qI 72 (.bin .add (qt 71) (.con (.str ⟨#[41]⟩))),
  qM 2 72] true (some [2]))
  .ret) (.seq (.reg 10 [qI 74 (.bin .eql (qt 4) (qN 10)), qM 73 74] false (some [1, 4, 73]))
  (.cond (qt 73) (.seq (.regP 11 [⟨some 75, .fA 6 (qt 1), none, ⟨.no, false⟩⟩,
  ⟨some 76, .ld none (qt 75), none, ⟨.still, false⟩⟩,
  ⟨some 77, .ixL 7 (qt 76) (qN 0), none, ⟨.no, false⟩⟩,
  ⟨some 78, .ld (some 7) (qt 77), none, ⟨.still, false⟩⟩,
  ⟨some 79, .call (qF 45) [(qt 78), (qN 4)], none, ⟨.still, false⟩⟩,
  ⟨some 80, .bin .add (qt 79) (.con (.str ⟨#[46]⟩)), none, ⟨.no, false⟩⟩, qA 81 2 1,
  ⟨some 82, .ld none (qt 81), none, Q1⟩, qI 83 (.bin .add (qt 80) (qt 82)), qM 2 83] true (some [2]))
  .ret) (.seq (.reg 12 [qI 85 (.bin .eql (qt 4) (qN 11)), qM 84 85] false (some [1, 4, 84]))
  (.cond (qt 84) (.seq (.regP 13 [qD 86 7 1, qI 87 (.call (qF 46) [(qt 86)]), qM 2 87] false (some [2]))
  .ret) (.seq (.reg 14 [qI 89 (.bin .eql (qt 4) (qN 9)), qM 88 89] false (some [1, 4, 88]))
  (.cond (qt 88) (.seq (.regP 15 [qD 90 7 1, qI 91 (.fnv 48 [] [(qt 1)]), qI 92 (.call (qF 47) [(qt 90), (qt 91)]), qI 93 (.bin .add (.con (.str ⟨#[123]⟩)) (qt 92)),
  qI 94 (.bin .add (qt 93) (.con (.str ⟨#[125]⟩))), qM 2 94] false (some [2]))
  .ret) (.seq (.reg 16 [qI 96 (.bin .eql (qt 4) (qN 12)), qM 95 96] false (some [1, 4, 95]))
  (.cond (qt 95) (.seq (.regP 17 [⟨some 97, .fA 6 (qt 1), none, ⟨.no, false⟩⟩,
  ⟨some 98, .ld none (qt 97), none, ⟨.still, false⟩⟩,
  ⟨some 99, .ixL 7 (qt 98) (qN 0), none, ⟨.no, false⟩⟩,
  ⟨some 100, .ld (some 7) (qt 99), none, ⟨.still, false⟩⟩,
  ⟨some 101, .call (qF 23) [(qt 100)], none, ⟨.still, false⟩⟩,
  ⟨some 102, .bin .add (.con (.str ⟨#[40]⟩)) (qt 101), none, ⟨.no, false⟩⟩,
  ⟨some 103, .bin .add (qt 102) (.con (.str ⟨#[32, 58, 32]⟩)), none, ⟨.no, false⟩⟩, qA 104 4 1,
  ⟨some 105, .ld none (qt 104), none, Q1⟩, qI 106 (.ixL 5 (qt 105) (qN 0)),
  ⟨some 107, .ld (some 5) (qt 106), none, Q1⟩, qI 108 (.call (qF 28) [(qt 107)]), qI 109 (.bin .add (qt 103) (qt 108)), qI 110 (.bin .add (qt 109) (.con (.str ⟨#[41]⟩))),
  qM 2 110] true (some [2]))
  .ret) (.seq (.reg 18 [qI 112 (.bin .eql (qt 4) (qN 13)), qM 111 112] false (some [1, 111]))
  (.cond (qt 111) (.seq (.regP 19 [qD 113 7 1, qI 114 (.call (qF 49) [(qt 113)]), qM 2 114] false (some [2]))
  .ret) .skip))))))))))))))))))))
  (.seq (.reg 20 [qD 115 7 1, qI 116 (.call (qF 50) [(qt 115)]), qM 2 116] false (some [2]))
  .ret)))
def c23 : EFn := ⟨1, 117, [.tmp 2], c23_b, none, true⟩
theorem c23_ok : cFn Tryz.prog Tryz.f23 = some c23.strip := by kernel_rfl
-- limbeck/limbeckref15.show
def c24_b : EC := (.seq (.reg 0 [qI 1 (.boxI 26 (qt 0)), qI 2 (.mv (.con (.str ⟨#[]⟩)))] false (some [1]))
  (.seq (.seq (.reg 1 [qA 4 0 1, qL 5 4] false (some [1, 5]))
  (.block 0 (.seq (.reg 2 [qI 7 (.bin .eql (qt 5) (qN 1)), qM 6 7] false (some [1, 5, 6]))
  (.cond (qt 6) (.seq (.reg 3 [qA 8 1 1, qL 9 8, qI 10 (.call (qF 51) [(qt 9)]), qM 2 10] false (some [2]))
  .ret) (.seq (.reg 4 [qI 12 (.bin .eql (qt 5) (qN 2)), qM 11 12] false (some [1, 5, 11]))
  (.cond (qt 11) (.seq (.reg 5 [qI 13 (.rows 2 1 [(.str ⟨#[]⟩)] [(0, (.con (.str ⟨#[102, 97, 108, 115, 101]⟩))), (1, (.con (.str ⟨#[116, 114, 117, 101]⟩)))]),
  qA 14 1 1, qL 15 14, qI 16 (.ixL 1 (qt 13) (qt 15)), qL 17 16, qM 2 17] false (some [2]))
  .ret) (.seq (.reg 6 [qI 19 (.bin .eql (qt 5) (qN 3)), qM 18 19] false (some [1, 5, 18]))
  (.cond (qt 18) (.seq (.reg 7 [qA 20 2 1, qL 21 20, qI 22 (.call (qF 52) [(qt 21)]), qM 2 22] false (some [2]))
  .ret) (.seq (.reg 8 [qI 24 (.bin .eql (qt 5) (qN 5)), qM 23 24] false (some [1, 5, 23]))
  (.cond (qt 23) (.seq (.reg 9 [⟨some 25, .ld (some 7) (qt 1), none, ⟨.still, false⟩⟩,
  ⟨some 26, .call (qF 53) [(qt 25)], none, ⟨.still, false⟩⟩,
  ⟨some 27, .bin .add (.con (.str ⟨#[108, 101, 116, 32]⟩)) (qt 26), none, ⟨.no, false⟩⟩,
  ⟨some 28, .bin .add (qt 27) (.con (.str ⟨#[32, 61, 32]⟩)), none, ⟨.no, false⟩⟩,
  ⟨some 29, .fA 6 (qt 1), none, ⟨.no, false⟩⟩,
  ⟨some 30, .ld none (qt 29), none, ⟨.still, false⟩⟩,
  ⟨some 31, .ixL 7 (qt 30) (qN 0), none, ⟨.no, false⟩⟩,
  ⟨some 32, .ld (some 7) (qt 31), none, ⟨.still, false⟩⟩,
  ⟨some 33, .call (qF 24) [(qt 32)], none, ⟨.still, false⟩⟩,
  ⟨some 34, .bin .add (qt 28) (qt 33), none, ⟨.no, false⟩⟩,
  ⟨some 35, .bin .add (qt 34) (.con (.str ⟨#[32, 105, 110, 32]⟩)), none, ⟨.no, false⟩⟩, qA 36 6 1,
  ⟨some 37, .ld none (qt 36), none, Q1⟩, qI 38 (.ixL 7 (qt 37) (qN 1)),
  ⟨some 39, .ld (some 7) (qt 38), none, Q1⟩, qI 40 (.call (qF 24) [(qt 39)]), qI 41 (.bin .add (qt 35) (qt 40)), qM 2 41] true (some [2]))
  .ret) (.seq (.reg 10 [qI 43 (.bin .eql (qt 5) (qN 6)), qM 42 43] false (some [1, 5, 42]))
  (.cond (qt 42) (.seq (.reg 11 [⟨some 44, .fA 6 (qt 1), none, ⟨.no, false⟩⟩,
  ⟨some 45, .ld none (qt 44), none, ⟨.still, false⟩⟩,
  ⟨some 46, .ixL 7 (qt 45) (qN 0), none, ⟨.no, false⟩⟩,
  ⟨some 47, .ld (some 7) (qt 46), none, ⟨.still, false⟩⟩,
  ⟨some 48, .call (qF 24) [(qt 47)], none, ⟨.still, false⟩⟩,
  ⟨some 49, .bin .add (.con (.str ⟨#[105, 102, 32]⟩)) (qt 48), none, ⟨.no, false⟩⟩,
  ⟨some 50, .bin .add (qt 49) (.con (.str ⟨#[32, 116, 104, 101, 110, 32]⟩)), none, ⟨.no, false⟩⟩,
  ⟨some 51, .fA 6 (qt 1), none, ⟨.no, false⟩⟩,
  ⟨some 52, .ld none (qt 51), none, ⟨.still, false⟩⟩,
  ⟨some 53, .ixL 7 (qt 52) (qN 1), none, ⟨.no, false⟩⟩,
  ⟨some 54, .ld (some 7) (qt 53), none, ⟨.still, false⟩⟩,
  ⟨some 55, .call (qF 24) [(qt 54)], none, ⟨.still, false⟩⟩,
  ⟨some 56, .bin .add (qt 50) (qt 55), none, ⟨.no, false⟩⟩,
  ⟨some 57, .bin .add (qt 56) (.con (.str ⟨#[32, 101, 108, 115, 101, 32]⟩)), none, ⟨.no, false⟩⟩, qA 58 6 1,
  ⟨some 59, .ld none (qt 58), none, Q1⟩, qI 60 (.ixL 7 (qt 59) (qN 2)),
  ⟨some 61, .ld (some 7) (qt 60), none, Q1⟩, qI 62 (.call (qF 24) [(qt 61)]), qI 63 (.bin .add (qt 57) (qt 62)), qM 2 63] true (some [2]))
  .ret) (.seq (.reg 12 [qI 65 (.bin .eql (qt 5) (qN 7)), qM 64 65] false (some [1, 5, 64]))
  (.cond (qt 64) (.seq (.reg 13 [⟨some 66, .ld (some 7) (qt 1), none, ⟨.still, false⟩⟩,
  ⟨some 67, .call (qF 53) [(qt 66)], none, ⟨.still, false⟩⟩,
  ⟨some 68, .bin .add (.con (.str ⟨#[102, 110, 32]⟩)) (qt 67), none, ⟨.no, false⟩⟩,
  ⟨some 69, .bin .add (qt 68) (.con (.str ⟨#[32, 61, 62, 32]⟩)), none, ⟨.no, false⟩⟩, qA 70 6 1,
  ⟨some 71, .ld none (qt 70), none, Q1⟩, qI 72 (.ixL 7 (qt 71) (qN 0)),
  ⟨some 73, .ld (some 7) (qt 72), none, Q1⟩, qI 74 (.call (qF 24) [(qt 73)]), qI 75 (.bin .add (qt 69) (qt 74)), qM 2 75] true (some [2]))
  .ret) (.seq (.reg 14 [qI 77 (.bin .eql (qt 5) (qN 8)), qM 76 77] false (some [1, 5, 76]))
  (.cond (qt 76) (.seq (.reg 15 [⟨some 78, .fA 6 (qt 1), none, ⟨.no, false⟩⟩,
  ⟨some 79, .ld none (qt 78), none, ⟨.still, false⟩⟩,
  ⟨some 80, .ixL 7 (qt 79) (qN 0), none, ⟨.no, false⟩⟩,
  ⟨some 81, .ld (some 7) (qt 80), none, ⟨.still, false⟩⟩,
  ⟨some 82, .call (qF 54) [(qt 81), (qN 4)], none, ⟨.still, false⟩⟩,
  ⟨some 83, .bin .add (qt 82) (.con (.str ⟨#[40]⟩)), none, ⟨.no, false⟩⟩, qA 84 6 1,
  ⟨some 85, .ld none (qt 84), none, Q1⟩, qI 86 (.ixL 7 (qt 85) (qN 1)),
  ⟨some 87, .ld (some 7) (qt 86), none, Q1⟩, qI 88 (.call (qF 24) [(qt 87)]), qI 89 (.bin .add (qt 83) (qt 88)), qI 90 (.bin .add (qt 89) (.con (.str ⟨#[41]⟩))),
  qM 2 90] true (some [2]))
  .ret) (.seq (.reg 16 [qI 92 (.bin .eql (qt 5) (qN 10)), qM 91 92] false (some [1, 5, 91]))
  (.cond (qt 91) (.seq (.reg 17 [⟨some 93, .fA 6 (qt 1), none, ⟨.no, false⟩⟩,
  ⟨some 94, .ld none (qt 93), none, ⟨.still, false⟩⟩,
  ⟨some 95, .ixL 7 (qt 94) (qN 0), none, ⟨.no, false⟩⟩,
  ⟨some 96, .ld (some 7) (qt 95), none, ⟨.still, false⟩⟩,
  ⟨some 97, .call (qF 54) [(qt 96), (qN 4)], none, ⟨.still, false⟩⟩,
  ⟨some 98, .bin .add (qt 97) (.con (.str ⟨#[46]⟩)), none, ⟨.no, false⟩⟩, qA 99 2 1,
  ⟨some 100, .ld none (qt 99), none, Q1⟩, qI 101 (.bin .add (qt 98) (qt 100)), qM 2 101] true (some [2]))
  .ret) (.seq (.reg 18 [qI 103 (.bin .eql (qt 5) (qN 11)), qM 102 103] false (some [1, 5, 102]))
  (.cond (qt 102) (.seq (.reg 19 [qD 104 7 1, qI 105 (.call (qF 55) [(qt 104)]), qM 2 105] false (some [2]))
  .ret) (.seq (.reg 20 [qI 107 (.bin .eql (qt 5) (qN 9)), qM 106 107] false (some [1, 5, 106]))
  (.cond (qt 106) (.seq (.reg 21 [qD 108 7 1, qI 109 (.call (qF 56) [(qt 108)]), qI 110 (.bin .add (.con (.str ⟨#[123]⟩)) (qt 109)), qI 111 (.bin .add (qt 110) (.con (.str ⟨#[125]⟩))),
  qM 2 111] false (some [2]))
  .ret) (.seq (.reg 22 [qI 113 (.bin .eql (qt 5) (qN 12)), qM 112 113] false (some [1, 5, 112]))
  (.cond (qt 112) (.seq (.reg 23 [⟨some 114, .fA 6 (qt 1), none, ⟨.no, false⟩⟩,
  ⟨some 115, .ld none (qt 114), none, ⟨.still, false⟩⟩,
  ⟨some 116, .ixL 7 (qt 115) (qN 0), none, ⟨.no, false⟩⟩,
  ⟨some 117, .ld (some 7) (qt 116), none, ⟨.still, false⟩⟩,
  ⟨some 118, .call (qF 24) [(qt 117)], none, ⟨.still, false⟩⟩,
  ⟨some 119, .bin .add (.con (.str ⟨#[40]⟩)) (qt 118), none, ⟨.no, false⟩⟩,
  ⟨some 120, .bin .add (qt 119) (.con (.str ⟨#[32, 58, 32]⟩)), none, ⟨.no, false⟩⟩, qA 121 4 1,
  ⟨some 122, .ld none (qt 121), none, Q1⟩, qI 123 (.ixL 5 (qt 122) (qN 0)),
  ⟨some 124, .ld (some 5) (qt 123), none, Q1⟩, qI 125 (.call (qF 30) [(qt 124)]), qI 126 (.bin .add (qt 120) (qt 125)), qI 127 (.bin .add (qt 126) (.con (.str ⟨#[41]⟩))),
  qM 2 127] true (some [2]))
  .ret) (.seq (.reg 24 [qI 129 (.bin .eql (qt 5) (qN 13)), qM 128 129] false (some [1, 128]))
  (.cond (qt 128) (.seq (.reg 25 [qA 130 2 1, qL 131 130, qI 132 (.bin .add (.con (.str ⟨#[99, 97, 108, 108, 32]⟩)) (qt 131)), qM 3 132] false (some [1, 3]))
  (.seq (.seq (.reg 26 [qA 133 3 1, qL 134 133] false (some [1, 3, 134]))
  (.cond (qt 134) (.reg 27 [qM 135 3, qI 136 (.bin .add (qt 135) (.con (.str ⟨#[91]⟩))), qA 137 4 1, qL 138 137, qI 139 (.call (qF 57) [(qt 138)]), qI 140 (.bin .add (qt 136) (qt 139)),
  qI 141 (.bin .add (qt 140) (.con (.str ⟨#[93]⟩))), qM 3 141] false (some [1, 3])) .skip))
  (.seq (.reg 28 [qM 142 3, qI 143 (.bin .add (qt 142) (.con (.str ⟨#[40]⟩))), qD 144 7 1, qI 145 (.call (qF 56) [(qt 144)]), qI 146 (.bin .add (qt 143) (qt 145)),
  qI 147 (.bin .add (qt 146) (.con (.str ⟨#[41]⟩))), qM 2 147] false (some [2]))
  .ret))) .skip))))))))))))))))))))))))))
  (.seq (.reg 29 [qA 148 2 1, qL 149 148, qM 2 149] false (some [2]))
  .ret)))
def c24 : EFn := ⟨1, 150, [.tmp 2], c24_b, none, true⟩
theorem c24_ok : cFn Tryz.prog Tryz.f24 = some c24.strip := by kernel_rfl
-- limbeck/limbecklaw14.Binds
def c25_r3 : List EI := [qM 7 4, qM 8 0, qI 9 (.len false (qt 8)), qI 10 (.bin .lss (qt 7) (qt 9)), qM 11 10, qJ 12 (.mv (qt 3)) 11 true, qJ 13 (.bin .lss (qt 12) (qN 3000)) 11 true,
  qI 14 (.pick (qt 11) (qt 13) (.con (.bool false)))]
def c25_l0_b : EC := (.seq (.seq (.reg 3 c25_r3 false (some [0, 3, 4, 14]))
  (.cond (qt 14) .skip (.exit 0)))
  (.seq (.block 1 (.reg 5 [⟨some 17, .mv (qt 3), none, ⟨.no, false⟩⟩,
  ⟨some 18, .mv (qt 0), none, ⟨.no, false⟩⟩,
  ⟨some 19, .mv (qt 4), none, ⟨.no, false⟩⟩,
  ⟨some 20, .ixL 6 (qt 18) (qt 19), none, ⟨.no, false⟩⟩,
  ⟨some 21, .fA 1 (qt 20), none, ⟨.no, false⟩⟩,
  ⟨some 22, .ld (some 5) (qt 21), none, ⟨.still, false⟩⟩,
  ⟨some 23, .call (qF 21) [(qt 22)], none, ⟨.still, false⟩⟩,
  ⟨some 24, .bin .add (qt 17) (qt 23), none, ⟨.no, false⟩⟩,
  ⟨some 25, .mv (qt 0), none, ⟨.no, false⟩⟩, qM 26 4, qI 27 (.ixL 6 (qt 25) (qt 26)), qA 28 0 27,
  ⟨some 29, .ld none (qt 28), none, Q1⟩, qI 30 (.len true (qt 29)), qI 31 (.bin .quo (qt 30) (qN 8)), qI 32 (.bin .add (qt 24) (qt 31)), qM 3 32] true (some [0, 3, 4])))
  (.reg 4 [qM 15 4, qI 16 (.bin .add (qt 15) (qN 1)), qM 4 16] false (some [0, 3, 4]))))
def c25_l0 : EC := .loop (some [0, 3, 4]) c25_l0_b
def c25_b : EC := (.seq (.reg 0 [qI 2 (.mv (qN 0))] false (some [0]))
  (.seq (.reg 1 [qM 5 0, qI 6 (.len false (qt 5)), qM 3 6] false (some [0, 3]))
  (.seq (.seq (.reg 2 [qI 4 (.mv (qN 0))] false (some [0, 3, 4]))
  (.block 0 c25_l0))
  (.seq (.reg 6 [qM 33 3, qM 2 33] false (some [2]))
  .ret))))
def c25 : EFn := ⟨1, 34, [.tmp 2], c25_b, none, true⟩
theorem c25_l0_w {E : Env} {fin : Kont (PV × St)} {st : List Fw} {ts : Tmps} {S : St} : run E fin st c25_l0 ts S = run E fin (.again c25_l0 :: st) c25_l0_b (sel (some [0, 3, 4]) ts) S := w_loop
theorem c25_l0_a {E : Env} {fin : Kont (PV × St)} {st : List Fw} {ts : Tmps} {S : St} : aft E fin (.again c25_l0 :: st) .normal ts S = run E fin st c25_l0 (sel (some [0, 3, 4]) ts) S := a_again_s
theorem c25_ok : cFn Tryz.prog Tryz.f25 = some c25.strip := by kernel_rfl
-- limbeck/exp.Def
def c26_r1 : List EI := [qA 5 0 1, qA 6 0 5, qL 7 6, qI 8 (.call (qF 58) [(qt 7)]), qI 9 (.un .not (qt 8)), qM 10 9, qJ 11 (.fA 0 (qt 1)) 10 false, qJ 12 (.fA 1 (qt 11)) 10 false,
  qJ 13 (.ld none (qt 12)) 10 false, qJ 14 (.call (qF 59) [(qt 13), (qN 3), (qF 60)]) 10 false, qJ 15 (.un .not (qt 14)) 10 false, qI 16 (.pick (qt 10) (.con (.bool true)) (qt 15)),
  qM 17 16, qJ 18 (.fA 0 (qt 1)) 17 false, qJ 19 (.fA 2 (qt 18)) 17 false, qJ 20 (.ld none (qt 19)) 17 false, qJ 21 (.call (qF 59) [(qt 20), (qN 4), (qF 58)]) 17 false,
  qJ 22 (.un .not (qt 21)) 17 false, qI 23 (.pick (qt 17) (.con (.bool true)) (qt 22))]
def c26_r4 : List EI := [qM 29 3, qI 30 (.bin .leq (qt 29) (qN 240)), qM 31 30, qJ 32 (.mv (qt 4)) 31 true, qJ 33 (.bin .leq (qt 32) (qN 40)) 31 true,
  qI 34 (.pick (qt 31) (qt 33) (.con (.bool false))), qM 35 34, qJ 36 (.fA 0 (qt 1)) 35 true, qJ 37 (.ld (some 8) (qt 36)) 35 true, qJ 38 (.call (qF 62) [(qt 37)]) 35 true,
  qJ 39 (.call (qF 41) [(qt 38), (qF 42)]) 35 true, qI 40 (.pick (qt 35) (qt 39) (.con (.bool false))), qM 41 40, qJ 42 (.fA 8 (qt 1)) 41 true, qJ 43 (.ld (some 7) (qt 42)) 41 true,
  qJ 44 (.call (qF 22) [(qt 43)]) 41 true, qI 45 (.pick (qt 41) (qt 44) (.con (.bool false))), qM 2 45]
def c26_b : EC := (.seq (.reg 0 [qI 1 (.boxI 38 (qt 0)), qI 2 (.mv (.con (.bool false)))] false (some [1]))
  (.seq (.seq (.reg 1 c26_r1 false (some [1, 23]))
  (.cond (qt 23) (.seq (.reg 2 [qI 2 (.mv (.con (.bool false)))] false (some [2]))
  .ret) .skip))
  (.seq (.reg 3 [qD 25 15 1, qI 26 (.call (qF 61) [(qt 25)]), qM 24 26, qI 27 (.ext (qt 24) 0), qI 28 (.ext (qt 24) 1), qM 3 27, qM 4 28] false (some [1, 3, 4]))
  (.seq (.reg 4 c26_r4 false (some [2]))
  .ret))))
def c26 : EFn := ⟨1, 46, [.tmp 2], c26_b, none, true⟩
theorem c26_ok : cFn Tryz.prog Tryz.f26 = some c26.strip := by kernel_rfl
-- limbeck/tyfmt.Binds
def c27_b : EC := (.seq (.reg 0 [qI 3 (.boxI 9 (qt 1)), qI 4 (.mv (.con (.str ⟨#[]⟩)))] false (some [0, 3]))
  (.seq (.reg 1 [qM 5 0, qI 6 (.fnv 64 [] [(qt 3)]), qI 7 (.call (qF 63) [(qt 5), (qt 6)]), qM 4 7] false (some [4]))
  .ret))
def c27 : EFn := ⟨2, 8, [.tmp 4], c27_b, none, true⟩
theorem c27_ok : cFn Tryz.prog Tryz.f27 = some c27.strip := by kernel_rfl
-- limbeck/tyfmt.Show
def c28_b : EC := (.seq (.reg 0 [qI 1 (.boxI 34 (qt 0)), qI 2 (.mv (.con (.str ⟨#[]⟩)))] false (some [1]))
  (.seq (.seq (.reg 1 [qD 3 5 1, qI 4 (.call (qF 65) [(qt 3)]), qI 5 (.un .not (qt 4))] false (some [1, 5]))
  (.cond (qt 5) (.seq (.reg 2 [qI 2 (.mv (.con (.str ⟨#[]⟩)))] false (some [2]))
  .ret) .skip))
  (.seq (.reg 3 [qD 6 5 1, qI 7 (.call (qF 66) [(qt 6)]), qM 2 7] false (some [2]))
  .ret)))
def c28 : EFn := ⟨1, 8, [.tmp 2], c28_b, none, true⟩
theorem c28_ok : cFn Tryz.prog Tryz.f28 = some c28.strip := by kernel_rfl
-- limbeck/limbeckref05.Binds
def c29_l0_b : EC := (.seq (.seq (.reg 3 [qM 7 6, qM 8 0, qI 9 (.len false (qt 8)), qI 10 (.bin .lss (qt 7) (qt 9))] false (some [0, 1, 5, 6, 10]))
  (.cond (qt 10) .skip (.exit 0)))
  (.seq (.block 1 (.seq (.seq (.reg 5 [qM 13 6, qI 14 (.bin .gtr (qt 13) (qN 0))] false (some [0, 1, 5, 6, 14]))
  (.cond (qt 14) (.reg 6 [qM 15 5, qI 16 (.bin .add (qt 15) (.con (.str ⟨#[44, 32]⟩))), qM 5 16] false (some [0, 1, 5, 6])) .skip))
  (.reg 7 [⟨some 17, .mv (qt 5), none, ⟨.no, false⟩⟩,
  ⟨some 18, .mv (qt 0), none, ⟨.no, false⟩⟩,
  ⟨some 19, .mv (qt 6), none, ⟨.no, false⟩⟩,
  ⟨some 20, .ixL 6 (qt 18) (qt 19), none, ⟨.no, false⟩⟩,
  ⟨some 21, .fA 0 (qt 20), none, ⟨.no, false⟩⟩,
  ⟨some 22, .ld none (qt 21), none, ⟨.still, false⟩⟩,
  ⟨some 23, .bin .add (qt 17) (qt 22), none, ⟨.no, false⟩⟩,
  ⟨some 24, .mv (qt 1), none, ⟨.no, false⟩⟩,
  ⟨some 25, .bin .add (qt 23) (qt 24), none, ⟨.no, false⟩⟩,
  ⟨some 26, .mv (qt 0), none, ⟨.no, false⟩⟩, qM 27 6, qI 28 (.ixL 6 (qt 26) (qt 27)), qA 29 1 28,
  ⟨some 30, .ld (some 5) (qt 29), none, Q1⟩,
  ⟨some 31, .call (qF 30) [(qt 30)], none, Q1⟩, qI 32 (.bin .add (qt 25) (qt 31)), qM 5 32] true (some [0, 1, 5, 6]))))
  (.reg 4 [qM 11 6, qI 12 (.bin .add (qt 11) (qN 1)), qM 6 12] false (some [0, 1, 5, 6]))))
def c29_l0 : EC := .loop (some [0, 1, 5, 6]) c29_l0_b
def c29_b : EC := (.seq (.reg 0 [qI 4 (.mv (.con (.str ⟨#[]⟩)))] false (some [0, 1]))
  (.seq (.reg 1 [qI 5 (.mv (.con (.str ⟨#[]⟩)))] false (some [0, 1, 5]))
  (.seq (.seq (.reg 2 [qI 6 (.mv (qN 0))] false (some [0, 1, 5, 6]))
  (.block 0 c29_l0))
  (.seq (.reg 8 [qM 33 5, qM 4 33] false (some [4]))
  .ret))))
def c29 : EFn := ⟨2, 34, [.tmp 4], c29_b, none, true⟩
theorem c29_l0_w {E : Env} {fin : Kont (PV × St)} {st : List Fw} {ts : Tmps} {S : St} : run E fin st c29_l0 ts S = run E fin (.again c29_l0 :: st) c29_l0_b (sel (some [0, 1, 5, 6]) ts) S := w_loop
theorem c29_l0_a {E : Env} {fin : Kont (PV × St)} {st : List Fw} {ts : Tmps} {S : St} : aft E fin (.again c29_l0 :: st) .normal ts S = run E fin st c29_l0 (sel (some [0, 1, 5, 6]) ts) S := a_again_s
theorem c29_ok : cFn Tryz.prog Tryz.f29 = some c29.strip := by kernel_rfl
-- limbeck/limbeckref05.Show
def c30_b : EC := (.seq (.reg 0 [qI 1 (.boxI 34 (qt 0)), qI 2 (.mv (.con (.str ⟨#[]⟩)))] false (some [1]))
  (.seq (.seq (.reg 1 [qD 3 5 1, qI 4 (.call (qF 67) [(qt 3)]), qI 5 (.un .not (qt 4))] false (some [1, 5]))
  (.cond (qt 5) (.seq (.reg 2 [qI 2 (.mv (.con (.str ⟨#[]⟩)))] false (some [2]))
  .ret) .skip))
  (.seq (.reg 3 [qD 6 5 1, qI 7 (.call (qF 68) [(qt 6)]), qM 2 7] false (some [2]))
  .ret)))
def c30 : EFn := ⟨1, 8, [.tmp 2], c30_b, none, true⟩
theorem c30_ok : cFn Tryz.prog Tryz.f30 = some c30.strip := by kernel_rfl
-- limbeck/limbeckref14.Sig
def c31_r1 : List EI := [qA 5 0 1, qL 6 5, qI 7 (.call (qF 69) [(qt 6)]), qI 8 (.un .not (qt 7)), qM 9 8, qJ 10 (.fA 1 (qt 1)) 9 false, qJ 11 (.ld none (qt 10)) 9 false,
  qJ 12 (.len false (qt 11)) 9 false, qJ 13 (.bin .gtr (qt 12) (qN 3)) 9 false, qI 14 (.pick (qt 9) (.con (.bool true)) (qt 13)), qM 15 14, qJ 16 (.fA 2 (qt 1)) 15 false,
  qJ 17 (.ld none (qt 16)) 15 false, qJ 18 (.len false (qt 17)) 15 false, qJ 19 (.bin .gtr (qt 18) (qN 4)) 15 false, qI 20 (.pick (qt 15) (.con (.bool true)) (qt 19)),
  qM 21 20, qJ 22 (.ld (some 8) (qt 1)) 21 false, qJ 23 (.call (qF 71) [(qt 22)]) 21 false, qJ 24 (.call (qF 70) [(qt 23)]) 21 false, qJ 25 (.un .not (qt 24)) 21 false,
  qI 26 (.pick (qt 21) (.con (.bool true)) (qt 25))]
def c31_r6 : List EI := [⟨some 34, .fA 1 (qt 1), none, ⟨.no, false⟩⟩,
  ⟨some 35, .ld none (qt 34), none, ⟨.no, false⟩⟩, qM 36 3, qI 37 (.ixL 6 (qt 35) (qt 36)), qA 38 0 37, qL 39 38, qI 40 (.call (qF 72) [(qt 39)]), qI 41 (.un .not (qt 40)),
  qM 42 41,
  ⟨some 43, .fA 1 (qt 1), some (42, false), ⟨.no, false⟩⟩,
  ⟨some 44, .ld none (qt 43), some (42, false), ⟨.still, false⟩⟩,
  ⟨some 45, .mv (qt 3), some (42, false), ⟨.no, false⟩⟩,
  ⟨some 46, .slL 6 (qt 44) none (some (qt 45)) none, some (42, false), ⟨.no, false⟩⟩,
  ⟨some 47, .call (qF 74) [(qt 46)], some (42, false), ⟨.still, false⟩⟩,
  ⟨some 48, .fA 1 (qt 1), some (42, false), ⟨.no, false⟩⟩,
  ⟨some 49, .ld none (qt 48), some (42, false), ⟨.still, false⟩⟩, qJ 50 (.mv (qt 3)) 42 false, qJ 51 (.ixL 6 (qt 49) (qt 50)) 42 false, qJ 52 (.fA 0 (qt 51)) 42 false,
  ⟨some 53, .ld none (qt 52), some (42, false), Q1⟩, qJ 54 (.call (qF 73) [(qt 47), (qt 53)]) 42 false, qJ 55 (.bin .geq (qt 54) (qN 0)) 42 false, qI 56 (.pick (qt 42) (.con (.bool true)) (qt 55))]
def c31_r11 : List EI := [⟨some 64, .fA 2 (qt 1), none, ⟨.no, false⟩⟩,
  ⟨some 65, .ld none (qt 64), none, ⟨.no, false⟩⟩, qM 66 4, qI 67 (.ixL 6 (qt 65) (qt 66)), qA 68 0 67, qL 69 68, qI 70 (.call (qF 69) [(qt 69)]), qI 71 (.un .not (qt 70)),
  qM 72 71,
  ⟨some 73, .fA 2 (qt 1), some (72, false), ⟨.no, false⟩⟩,
  ⟨some 74, .ld none (qt 73), some (72, false), ⟨.still, false⟩⟩,
  ⟨some 75, .mv (qt 4), some (72, false), ⟨.no, false⟩⟩,
  ⟨some 76, .slL 6 (qt 74) none (some (qt 75)) none, some (72, false), ⟨.no, false⟩⟩,
  ⟨some 77, .call (qF 74) [(qt 76)], some (72, false), ⟨.still, false⟩⟩,
  ⟨some 78, .fA 2 (qt 1), some (72, false), ⟨.no, false⟩⟩,
  ⟨some 79, .ld none (qt 78), some (72, false), ⟨.still, false⟩⟩, qJ 80 (.mv (qt 4)) 72 false, qJ 81 (.ixL 6 (qt 79) (qt 80)) 72 false, qJ 82 (.fA 0 (qt 81)) 72 false,
  ⟨some 83, .ld none (qt 82), some (72, false), Q1⟩, qJ 84 (.call (qF 73) [(qt 77), (qt 83)]) 72 false, qJ 85 (.bin .geq (qt 84) (qN 0)) 72 false, qI 86 (.pick (qt 72) (.con (.bool true)) (qt 85))]
def c31_l0_b : EC := (.seq (.seq (.reg 4 [qM 27 3, qA 28 1 1, qL 29 28, qI 30 (.len false (qt 29)), qI 31 (.bin .lss (qt 27) (qt 30))] false (some [1, 3, 31]))
  (.cond (qt 31) .skip (.exit 0)))
  (.seq (.block 1 (.seq (.reg 6 c31_r6 true (some [1, 3, 56]))
  (.cond (qt 56) (.seq (.reg 7 [qI 2 (.mv (.con (.bool false)))] false (some [2]))
  .ret) .skip)))
  (.reg 5 [qM 32 3, qI 33 (.bin .add (qt 32) (qN 1)), qM 3 33] false (some [1, 3]))))
def c31_l0 : EC := .loop (some [1, 3]) c31_l0_b
def c31_l1_b : EC := (.seq (.seq (.reg 9 [qM 57 4, qA 58 2 1, qL 59 58, qI 60 (.len false (qt 59)), qI 61 (.bin .lss (qt 57) (qt 60))] false (some [1, 4, 61]))
  (.cond (qt 61) .skip (.exit 2)))
  (.seq (.block 3 (.seq (.reg 11 c31_r11 true (some [1, 4, 86]))
  (.cond (qt 86) (.seq (.reg 12 [qI 2 (.mv (.con (.bool false)))] false (some [2]))
  .ret) .skip)))
  (.reg 10 [qM 62 4, qI 63 (.bin .add (qt 62) (qN 1)), qM 4 63] false (some [1, 4]))))
def c31_l1 : EC := .loop (some [1, 4]) c31_l1_b
def c31_b : EC := (.seq (.reg 0 [qI 1 (.boxI 36 (qt 0)), qI 2 (.mv (.con (.bool false)))] false (some [1]))
  (.seq (.seq (.reg 1 c31_r1 false (some [1, 26]))
  (.cond (qt 26) (.seq (.reg 2 [qI 2 (.mv (.con (.bool false)))] false (some [2]))
  .ret) .skip))
  (.seq (.seq (.reg 3 [qI 3 (.mv (qN 0))] false (some [1, 3]))
  (.block 0 c31_l0))
  (.seq (.seq (.reg 8 [qI 4 (.mv (qN 0))] false (some [1, 4]))
  (.block 2 c31_l1))
  (.seq (.reg 13 [qI 2 (.mv (.con (.bool true)))] false (some [2]))
  .ret)))))
def c31 : EFn := ⟨1, 87, [.tmp 2], c31_b, none, true⟩
theorem c31_l0_w {E : Env} {fin : Kont (PV × St)} {st : List Fw} {ts : Tmps} {S : St} : run E fin st c31_l0 ts S = run E fin (.again c31_l0 :: st) c31_l0_b (sel (some [1, 3]) ts) S := w_loop
theorem c31_l0_a {E : Env} {fin : Kont (PV × St)} {st : List Fw} {ts : Tmps} {S : St} : aft E fin (.again c31_l0 :: st) .normal ts S = run E fin st c31_l0 (sel (some [1, 3]) ts) S := a_again_s
theorem c31_l1_w {E : Env} {fin : Kont (PV × St)} {st : List Fw} {ts : Tmps} {S : St} : run E fin st c31_l1 ts S = run E fin (.again c31_l1 :: st) c31_l1_b (sel (some [1, 4]) ts) S := w_loop
theorem c31_l1_a {E : Env} {fin : Kont (PV × St)} {st : List Fw} {ts : Tmps} {S : St} : aft E fin (.again c31_l1 :: st) .normal ts S = run E fin st c31_l1 (sel (some [1, 4]) ts) S := a_again_s
theorem c31_ok : cFn Tryz.prog Tryz.f31 = some c31.strip := by kernel_rfl
-- limbeck/limbeckref14.Size
def c32_l0_b : EC := (.seq (.seq (.reg 5 [qM 17 7, qM 18 6, qI 19 (.len false (qt 18)), qI 20 (.bin .lss (qt 17) (qt 19))] false (some [4, 5, 6, 7, 20]))
  (.cond (qt 20) .skip (.exit 0)))
  (.seq (.block 1 (.seq (.reg 7 [qM 23 4, qM 24 6, qM 25 7, qI 26 (.ixL 5 (qt 24) (qt 25)), qD 27 5 26, qI 28 (.call (qF 77) [(qt 27)]), qI 29 (.bin .add (qt 23) (qt 28)),
  qM 4 29] false (some [4, 5, 6, 7]))
  (.reg 8 [qM 30 5, qM 31 6, qM 32 7, qI 33 (.ixL 5 (qt 31) (qt 32)), qD 34 5 33, qI 35 (.call (qF 78) [(qt 34)]), qI 36 (.mx false (qt 30) (qt 35)),
  qM 5 36] false (some [4, 5, 6, 7]))))
  (.reg 6 [qM 21 7, qI 22 (.bin .add (qt 21) (qN 1)), qM 7 22] false (some [4, 5, 6, 7]))))
def c32_l0 : EC := .loop (some [4, 5, 6, 7]) c32_l0_b
def c32_b : EC := (.seq (.reg 0 [qI 1 (.boxI 38 (qt 0)), qI 2 (.mv (qN 0)), qI 3 (.mv (qN 0))] false (some [1]))
  (.seq (.reg 1 [qA 8 8 1, qD 9 7 8, qI 10 (.call (qF 75) [(qt 9)]), qM 4 10] false (some [1, 4]))
  (.seq (.reg 2 [qA 11 8 1, qD 12 7 11, qI 13 (.call (qF 76) [(qt 12)]), qM 5 13] false (some [1, 4, 5]))
  (.seq (.reg 3 [qA 14 0 1, qD 15 8 14, qI 16 (.call (qF 71) [(qt 15)]), qM 6 16] false (some [4, 5, 6]))
  (.seq (.seq (.reg 4 [qI 7 (.mv (qN 0))] false (some [4, 5, 6, 7]))
  (.block 0 c32_l0))
  (.seq (.reg 9 [qM 37 4, qM 38 5, qM 2 37, qM 3 38] false (some [2, 3]))
  .ret))))))
def c32 : EFn := ⟨1, 39, [.tmp 2, .tmp 3], c32_b, none, true⟩
theorem c32_l0_w {E : Env} {fin : Kont (PV × St)} {st : List Fw} {ts : Tmps} {S : St} : run E fin st c32_l0 ts S = run E fin (.again c32_l0 :: st) c32_l0_b (sel (some [4, 5, 6, 7]) ts) S := w_loop
theorem c32_l0_a {E : Env} {fin : Kont (PV × St)} {st : List Fw} {ts : Tmps} {S : St} : aft E fin (.again c32_l0 :: st) .normal ts S = run E fin st c32_l0 (sel (some [4, 5, 6, 7]) ts) S := a_again_s
theorem c32_ok : cFn Tryz.prog Tryz.f32 = some c32.strip := by kernel_rfl
-- limbeck/limbeckref14.own
def c34_r1 : List EI := [qA 8 0 1, qL 9 8, qI 10 (.bin .lss (qt 9) (qN 1)), qM 11 10, qJ 12 (.fA 0 (qt 1)) 11 false, qJ 13 (.ld none (qt 12)) 11 false,
  qJ 14 (.bin .gtr (qt 13) (qN 13)) 11 false, qI 15 (.pick (qt 11) (.con (.bool true)) (qt 14))]
def c34_r3 : List EI := [qA 16 0 1, qL 17 16, qI 18 (.bin .eql (qt 17) (qN 4)), qM 19 18, qJ 20 (.fA 0 (qt 1)) 19 false, qJ 21 (.ld none (qt 20)) 19 false,
  qJ 22 (.bin .eql (qt 21) (qN 5)) 19 false, qI 23 (.pick (qt 19) (.con (.bool true)) (qt 22)), qM 24 23, qJ 25 (.fA 0 (qt 1)) 24 false, qJ 26 (.ld none (qt 25)) 24 false,
  qJ 27 (.bin .eql (qt 26) (qN 7)) 24 false, qI 28 (.pick (qt 24) (.con (.bool true)) (qt 27)), qM 29 28, qJ 30 (.fA 0 (qt 1)) 29 false, qJ 31 (.ld none (qt 30)) 29 false,
  qJ 32 (.bin .eql (qt 31) (qN 10)) 29 false, qI 33 (.pick (qt 29) (.con (.bool true)) (qt 32)), qM 34 33, qJ 35 (.fA 0 (qt 1)) 34 false, qJ 36 (.ld none (qt 35)) 34 false,
  qJ 37 (.bin .eql (qt 36) (qN 13)) 34 false, qI 38 (.pick (qt 34) (.con (.bool true)) (qt 37)), qM 3 38]
def c34_r4 : List EI := [qM 39 3, qM 40 39, qJ 41 (.fA 2 (qt 1)) 40 true, qJ 42 (.ld none (qt 41)) 40 true, qJ 43 (.call (qF 69) [(qt 42)]) 40 true, qJ 44 (.un .not (qt 43)) 40 true,
  qI 45 (.pick (qt 40) (qt 44) (.con (.bool false))), qM 46 45, qJ 47 (.mv (qt 3)) 46 false, qJ 48 (.un .not (qt 47)) 46 false, qJ 49 (.mv (qt 48)) 46 false,
  qJ 50 (.fA 0 (qt 1)) 49 true, qJ 51 (.ld none (qt 50)) 49 true, qJ 52 (.bin .neq (qt 51) (qN 3)) 49 true, qJ 53 (.pick (qt 49) (qt 52) (.con (.bool false))) 46 false,
  qJ 54 (.mv (qt 53)) 46 false, qJ 55 (.fA 2 (qt 1)) 54 true, qJ 56 (.ld none (qt 55)) 54 true, qJ 57 (.bin .neq (qt 56) (.con (.str ⟨#[]⟩))) 54 true,
  qJ 58 (.pick (qt 54) (qt 57) (.con (.bool false))) 46 false, qI 59 (.pick (qt 46) (.con (.bool true)) (qt 58)), qM 60 59, qJ 61 (.fA 0 (qt 1)) 60 false,
  qJ 62 (.ld none (qt 61)) 60 false, qJ 63 (.bin .eql (qt 62) (qN 3)) 60 false, qJ 64 (.mv (qt 63)) 60 false, qJ 65 (.fA 2 (qt 1)) 64 true, qJ 66 (.ld none (qt 65)) 64 true,
  qJ 67 (.len true (qt 66)) 64 true, qJ 68 (.bin .gtr (qt 67) (qN 40)) 64 true, qJ 69 (.pick (qt 64) (qt 68) (.con (.bool false))) 60 false, qI 70 (.pick (qt 60) (.con (.bool true)) (qt 69))]
def c34_r6 : List EI := [qA 71 0 1, qL 72 71, qI 73 (.bin .eql (qt 72) (qN 1)), qM 74 73, qJ 75 (.fA 1 (qt 1)) 74 true, qJ 76 (.ld none (qt 75)) 74 true,
  qJ 77 (.bin .lss (qt 76) (qN 0)) 74 true, qI 78 (.pick (qt 74) (qt 77) (.con (.bool false))), qM 79 78, qJ 80 (.fA 0 (qt 1)) 79 false, qJ 81 (.ld none (qt 80)) 79 false,
  qJ 82 (.bin .eql (qt 81) (qN 2)) 79 false, qJ 83 (.mv (qt 82)) 79 false, qJ 84 (.fA 1 (qt 1)) 83 true, qJ 85 (.ld none (qt 84)) 83 true, qJ 86 (.bin .neq (qt 85) (qN 0)) 83 true,
  qJ 87 (.pick (qt 83) (qt 86) (.con (.bool false))) 79 false, qJ 88 (.mv (qt 87)) 79 false, qJ 89 (.fA 1 (qt 1)) 88 true, qJ 90 (.ld none (qt 89)) 88 true,
  qJ 91 (.bin .neq (qt 90) (qN 1)) 88 true, qJ 92 (.pick (qt 88) (qt 91) (.con (.bool false))) 79 false, qI 93 (.pick (qt 79) (.con (.bool true)) (qt 92)),
  qM 94 93, qJ 95 (.fA 0 (qt 1)) 94 false, qJ 96 (.ld none (qt 95)) 94 false, qJ 97 (.bin .eql (qt 96) (qN 11)) 94 false, qJ 98 (.mv (qt 97)) 94 false,
  qJ 99 (.fA 1 (qt 1)) 98 true, qJ 100 (.ld none (qt 99)) 98 true, qJ 101 (.bin .lss (qt 100) (qN 1)) 98 true, qJ 102 (.mv (qt 101)) 98 true, qJ 103 (.fA 1 (qt 1)) 102 false,
  qJ 104 (.ld none (qt 103)) 102 false, qJ 105 (.bin .gtr (qt 104) (qN 7)) 102 false, qJ 106 (.pick (qt 102) (.con (.bool true)) (qt 105)) 98 true, qJ 107 (.pick (qt 98) (qt 106) (.con (.bool false))) 94 false,
  qI 108 (.pick (qt 94) (.con (.bool true)) (qt 107))]
def c34_r8 : List EI := [qA 109 0 1, qL 110 109, qI 111 (.bin .neq (qt 110) (qN 1)), qM 112 111, qJ 113 (.fA 0 (qt 1)) 112 true, qJ 114 (.ld none (qt 113)) 112 true,
  qJ 115 (.bin .neq (qt 114) (qN 2)) 112 true, qI 116 (.pick (qt 112) (qt 115) (.con (.bool false))), qM 117 116, qJ 118 (.fA 0 (qt 1)) 117 true, qJ 119 (.ld none (qt 118)) 117 true,
  qJ 120 (.bin .neq (qt 119) (qN 11)) 117 true, qI 121 (.pick (qt 117) (qt 120) (.con (.bool false))), qM 122 121, qJ 123 (.fA 1 (qt 1)) 122 true, qJ 124 (.ld none (qt 123)) 122 true,
  qJ 125 (.bin .neq (qt 124) (qN 0)) 122 true, qI 126 (.pick (qt 122) (qt 125) (.con (.bool false))), qM 127 126, qJ 128 (.fA 0 (qt 1)) 127 false, qJ 129 (.ld none (qt 128)) 127 false,
  qJ 130 (.bin .neq (qt 129) (qN 13)) 127 false, qJ 131 (.mv (qt 130)) 127 false, qJ 132 (.fA 3 (qt 1)) 131 true, qJ 133 (.ld none (qt 132)) 131 true,
  qJ 134 (.pick (qt 131) (qt 133) (.con (.bool false))) 127 false, qI 135 (.pick (qt 127) (.con (.bool true)) (qt 134))]
def c34_r10 : List EI := [qA 136 0 1, qL 137 136, qI 138 (.bin .neq (qt 137) (qN 9)), qM 139 138, qJ 140 (.fA 5 (qt 1)) 139 true, qJ 141 (.ld none (qt 140)) 139 true,
  qJ 142 (.len false (qt 141)) 139 true, qJ 143 (.bin .gtr (qt 142) (qN 0)) 139 true, qI 144 (.pick (qt 139) (qt 143) (.con (.bool false))), qM 145 144,
  qJ 146 (.fA 5 (qt 1)) 145 false, qJ 147 (.ld none (qt 146)) 145 false, qJ 148 (.call (qF 81) [(qt 147)]) 145 false, qJ 149 (.un .not (qt 148)) 145 false,
  qI 150 (.pick (qt 145) (.con (.bool true)) (qt 149)), qM 151 150, qJ 152 (.fA 5 (qt 1)) 151 false, qJ 153 (.ld none (qt 152)) 151 false, qJ 154 (.len false (qt 153)) 151 false,
  qJ 155 (.bin .gtr (qt 154) (qN 6)) 151 false, qI 156 (.pick (qt 151) (.con (.bool true)) (qt 155))]
def c34_r13 : List EI := [qA 164 4 1, qL 165 164, qI 166 (.len false (qt 165)), qM 167 4, qI 168 (.bin .geq (qt 166) (qt 167)), qM 169 168, qJ 170 (.fA 4 (qt 1)) 169 true,
  qJ 171 (.ld none (qt 170)) 169 true, qJ 172 (.len false (qt 171)) 169 true, qJ 173 (.mv (qt 5)) 169 true, qJ 174 (.bin .leq (qt 172) (qt 173)) 169 true,
  qI 175 (.pick (qt 169) (qt 174) (.con (.bool false))), qM 176 175, qJ 177 (.fA 6 (qt 1)) 176 true, qJ 178 (.ld none (qt 177)) 176 true, qJ 179 (.len false (qt 178)) 176 true,
  qJ 180 (.mv (qt 6)) 176 true, qJ 181 (.bin .geq (qt 179) (qt 180)) 176 true, qI 182 (.pick (qt 176) (qt 181) (.con (.bool false))), qM 183 182, qJ 184 (.fA 6 (qt 1)) 183 true,
  qJ 185 (.ld none (qt 184)) 183 true, qJ 186 (.len false (qt 185)) 183 true, qJ 187 (.mv (qt 7)) 183 true, qJ 188 (.bin .leq (qt 186) (qt 187)) 183 true,
  qI 189 (.pick (qt 183) (qt 188) (.con (.bool false))), qM 190 189, qJ 191 (.fA 4 (qt 1)) 190 true, qJ 192 (.ld none (qt 191)) 190 true, qJ 193 (.call (qF 70) [(qt 192)]) 190 true,
  qI 194 (.pick (qt 190) (qt 193) (.con (.bool false))), qM 2 194]
def c34_b : EC := (.seq (.reg 0 [qI 1 (.boxI 26 (qt 0)), qI 2 (.mv (.con (.bool false)))] false (some [1]))
  (.seq (.seq (.reg 1 c34_r1 false (some [1, 15]))
  (.cond (qt 15) (.seq (.reg 2 [qI 2 (.mv (.con (.bool false)))] false (some [2]))
  .ret) .skip))
  (.seq (.reg 3 c34_r3 false (some [1, 3]))
  (.seq (.seq (.reg 4 c34_r4 false (some [1, 70]))
  (.cond (qt 70) (.seq (.reg 5 [qI 2 (.mv (.con (.bool false)))] false (some [2]))
  .ret) .skip))
  (.seq (.seq (.reg 6 c34_r6 false (some [1, 108]))
  (.cond (qt 108) (.seq (.reg 7 [qI 2 (.mv (.con (.bool false)))] false (some [2]))
  .ret) .skip))
  (.seq (.seq (.reg 8 c34_r8 false (some [1, 135]))
  (.cond (qt 135) (.seq (.reg 9 [qI 2 (.mv (.con (.bool false)))] false (some [2]))
  .ret) .skip))
  (.seq (.seq (.reg 10 c34_r10 false (some [1, 156]))
  (.cond (qt 156) (.seq (.reg 11 [qI 2 (.mv (.con (.bool false)))] false (some [2]))
  .ret) .skip))
  (.seq (.reg 12 [qD 158 7 1, qI 159 (.call (qF 82) [(qt 158)]), qM 157 159, qI 160 (.ext (qt 157) 0), qI 161 (.ext (qt 157) 1), qI 162 (.ext (qt 157) 2),
  qI 163 (.ext (qt 157) 3), qM 4 160, qM 5 161, qM 6 162, qM 7 163] false (some [1, 4, 5, 6, 7]))
  (.seq (.reg 13 c34_r13 false (some [2]))
  .ret)))))))))
def c34 : EFn := ⟨1, 195, [.tmp 2], c34_b, none, true⟩
theorem c34_ok : cFn Tryz.prog Tryz.f34 = some c34.strip := by kernel_rfl
-- limbeck/exp.worded
def c37_b : EC := (.seq (.reg 0 [qI 1 (.boxI 26 (qt 0)), qI 2 (.mv (.con (.bool false)))] false (some [1]))
  (.seq (.seq (.reg 1 [qA 3 0 1, qL 4 3] false (some [1, 4]))
  (.block 0 (.seq (.seq (.reg 2 [qI 6 (.bin .eql (qt 4) (qN 4)), qM 5 6] false (some [1, 4, 5]))
  (.cond (qt 5) .skip (.seq (.reg 3 [qI 7 (.bin .eql (qt 4) (qN 5)), qM 5 7] false (some [1, 4, 5]))
  (.cond (qt 5) .skip (.seq (.reg 4 [qI 8 (.bin .eql (qt 4) (qN 7)), qM 5 8] false (some [1, 4, 5]))
  (.cond (qt 5) .skip (.seq (.reg 5 [qI 9 (.bin .eql (qt 4) (qN 10)), qM 5 9] false (some [1, 4, 5]))
  (.cond (qt 5) .skip (.reg 6 [qI 10 (.bin .eql (qt 4) (qN 13)), qM 5 10] false (some [1, 4, 5]))))))))))
  (.cond (qt 5) (.seq (.reg 7 [qA 11 2 1, qL 12 11, qI 13 (.call (qF 58) [(qt 12)]), qM 2 13] false (some [2]))
  .ret) (.seq (.reg 8 [qI 15 (.bin .eql (qt 4) (qN 3)), qM 14 15] false (some [1, 14]))
  (.cond (qt 14) (.seq (.reg 9 [qA 16 2 1, qL 17 16, qI 18 (.len true (qt 17)), qI 19 (.bin .leq (qt 18) (qN 40)), qM 2 19] false (some [2]))
  .ret) .skip))))))
  (.seq (.reg 10 [qA 20 2 1, qL 21 20, qI 22 (.bin .eql (qt 21) (.con (.str ⟨#[]⟩))), qM 2 22] false (some [2]))
  .ret)))
def c37 : EFn := ⟨1, 23, [.tmp 2], c37_b, none, true⟩
theorem c37_ok : cFn Tryz.prog Tryz.f37 = some c37.strip := by kernel_rfl
-- limbeck/exp.numbered
def c38_r5 : List EI := [qA 12 1 1, qL 13 12, qI 14 (.bin .eql (qt 13) (qN 0)), qM 15 14, qJ 16 (.fA 1 (qt 1)) 15 false, qJ 17 (.ld none (qt 16)) 15 false,
  qJ 18 (.bin .eql (qt 17) (qN 1)) 15 false, qI 19 (.pick (qt 15) (.con (.bool true)) (qt 18)), qM 2 19]
def c38_r7 : List EI := [qA 22 1 1, qL 23 22, qI 24 (.bin .geq (qt 23) (qN 1)), qM 25 24, qJ 26 (.fA 1 (qt 1)) 25 true, qJ 27 (.ld none (qt 26)) 25 true,
  qJ 28 (.bin .leq (qt 27) (qN 7)) 25 true, qI 29 (.pick (qt 25) (qt 28) (.con (.bool false))), qM 2 29]
def c38_b : EC := (.seq (.reg 0 [qI 1 (.boxI 26 (qt 0)), qI 2 (.mv (.con (.bool false)))] false (some [1]))
  (.seq (.seq (.reg 1 [qA 3 0 1, qL 4 3] false (some [1, 4]))
  (.block 0 (.seq (.reg 2 [qI 6 (.bin .eql (qt 4) (qN 1)), qM 5 6] false (some [1, 4, 5]))
  (.cond (qt 5) (.seq (.reg 3 [qA 7 1 1, qL 8 7, qI 9 (.bin .geq (qt 8) (qN 0)), qM 2 9] false (some [2]))
  .ret) (.seq (.reg 4 [qI 11 (.bin .eql (qt 4) (qN 2)), qM 10 11] false (some [1, 4, 10]))
  (.cond (qt 10) (.seq (.reg 5 c38_r5 false (some [2]))
  .ret) (.seq (.reg 6 [qI 21 (.bin .eql (qt 4) (qN 11)), qM 20 21] false (some [1, 20]))
  (.cond (qt 20) (.seq (.reg 7 c38_r7 false (some [2]))
  .ret) .skip))))))))
  (.seq (.reg 8 [qA 30 1 1, qL 31 30, qI 32 (.bin .eql (qt 31) (qN 0)), qM 2 32] false (some [2]))
  .ret)))
def c38 : EFn := ⟨1, 33, [.tmp 2], c38_b, none, true⟩
theorem c38_ok : cFn Tryz.prog Tryz.f38 = some c38.strip := by kernel_rfl
-- limbeck/exp.typed
def c39_r9 : List EI := [qA 20 3 1, qL 21 20, qI 22 (.un .not (qt 21)), qM 23 22, qJ 24 (.mv (qt 3)) 23 true, qJ 25 (.bin .eql (qt 24) (qN 0)) 23 true,
  qI 26 (.pick (qt 23) (qt 25) (.con (.bool false))), qM 27 26, qJ 28 (.fA 3 (qt 1)) 27 false, qJ 29 (.ld none (qt 28)) 27 false, qJ 30 (.mv (qt 29)) 27 false,
  qJ 31 (.mv (qt 3)) 30 true, qJ 32 (.bin .geq (qt 31) (qN 1)) 30 true, qJ 33 (.pick (qt 30) (qt 32) (.con (.bool false))) 27 false, qJ 34 (.mv (qt 33)) 27 false,
  qJ 35 (.mv (qt 3)) 34 true, qJ 36 (.bin .leq (qt 35) (qN 3)) 34 true, qJ 37 (.pick (qt 34) (qt 36) (.con (.bool false))) 27 false, qI 38 (.pick (qt 27) (.con (.bool true)) (qt 37)),
  qM 2 38]
def c39_b : EC := (.seq (.reg 0 [qI 1 (.boxI 26 (qt 0)), qI 2 (.mv (.con (.bool false)))] false (some [1]))
  (.seq (.reg 1 [qA 4 4 1, qL 5 4, qI 6 (.len false (qt 5)), qM 3 6] false (some [1, 3]))
  (.seq (.seq (.reg 2 [qA 7 0 1, qL 8 7] false (some [1, 3, 8]))
  (.block 0 (.seq (.seq (.reg 3 [qI 10 (.bin .eql (qt 8) (qN 5)), qM 9 10] false (some [1, 3, 8, 9]))
  (.cond (qt 9) .skip (.reg 4 [qI 11 (.bin .eql (qt 8) (qN 7)), qM 9 11] false (some [1, 3, 8, 9]))))
  (.cond (qt 9) (.seq (.reg 5 [qM 12 3, qI 13 (.bin .leq (qt 12) (qN 1)), qM 2 13] false (some [2]))
  .ret) (.seq (.reg 6 [qI 15 (.bin .eql (qt 8) (qN 12)), qM 14 15] false (some [1, 3, 8, 14]))
  (.cond (qt 14) (.seq (.reg 7 [qM 16 3, qI 17 (.bin .eql (qt 16) (qN 1)), qM 2 17] false (some [2]))
  .ret) (.seq (.reg 8 [qI 19 (.bin .eql (qt 8) (qN 13)), qM 18 19] false (some [1, 3, 18]))
  (.cond (qt 18) (.seq (.reg 9 c39_r9 false (some [2]))
  .ret) .skip))))))))
  (.seq (.reg 10 [qM 39 3, qI 40 (.bin .eql (qt 39) (qN 0)), qM 2 40] false (some [2]))
  .ret))))
def c39 : EFn := ⟨1, 41, [.tmp 2], c39_b, none, true⟩
theorem c39_ok : cFn Tryz.prog Tryz.f39 = some c39.strip := by kernel_rfl
-- limbeck/exp.bearing
def c40_r19 : List EI := [qM 34 3, qA 35 5 1, qL 36 35, qI 37 (.len false (qt 36)), qI 38 (.bin .eql (qt 34) (qt 37)), qM 39 38, qJ 40 (.mv (qt 3)) 39 true,
  qJ 41 (.bin .leq (qt 40) (qN 6)) 39 true, qI 42 (.pick (qt 39) (qt 41) (.con (.bool false))), qM 43 42, qJ 44 (.fA 5 (qt 1)) 43 true, qJ 45 (.ld none (qt 44)) 43 true,
  qJ 46 (.call (qF 83) [(qt 45)]) 43 true, qI 47 (.pick (qt 43) (qt 46) (.con (.bool false))), qM 2 47]
def c40_b : EC := (.seq (.reg 0 [qI 1 (.boxI 26 (qt 0)), qI 2 (.mv (.con (.bool false)))] false (some [1]))
  (.seq (.reg 1 [qA 4 6 1, qL 5 4, qI 6 (.len false (qt 5)), qM 3 6] false (some [1, 3]))
  (.seq (.seq (.reg 2 [qA 7 0 1, qL 8 7] false (some [1, 3, 8]))
  (.block 0 (.seq (.seq (.reg 3 [qI 10 (.bin .eql (qt 8) (qN 1)), qM 9 10] false (some [1, 3, 8, 9]))
  (.cond (qt 9) .skip (.seq (.reg 4 [qI 11 (.bin .eql (qt 8) (qN 2)), qM 9 11] false (some [1, 3, 8, 9]))
  (.cond (qt 9) .skip (.seq (.reg 5 [qI 12 (.bin .eql (qt 8) (qN 3)), qM 9 12] false (some [1, 3, 8, 9]))
  (.cond (qt 9) .skip (.reg 6 [qI 13 (.bin .eql (qt 8) (qN 4)), qM 9 13] false (some [1, 3, 8, 9]))))))))
  (.cond (qt 9) (.seq (.reg 7 [qM 14 3, qI 15 (.bin .eql (qt 14) (qN 0)), qM 2 15] false (some [2]))
  .ret) (.seq (.seq (.reg 8 [qI 17 (.bin .eql (qt 8) (qN 7)), qM 16 17] false (some [1, 3, 8, 16]))
  (.cond (qt 16) .skip (.seq (.reg 9 [qI 18 (.bin .eql (qt 8) (qN 10)), qM 16 18] false (some [1, 3, 8, 16]))
  (.cond (qt 16) .skip (.reg 10 [qI 19 (.bin .eql (qt 8) (qN 12)), qM 16 19] false (some [1, 3, 8, 16]))))))
  (.cond (qt 16) (.seq (.reg 11 [qM 20 3, qI 21 (.bin .eql (qt 20) (qN 1)), qM 2 21] false (some [2]))
  .ret) (.seq (.seq (.reg 12 [qI 23 (.bin .eql (qt 8) (qN 5)), qM 22 23] false (some [1, 3, 8, 22]))
  (.cond (qt 22) .skip (.seq (.reg 13 [qI 24 (.bin .eql (qt 8) (qN 8)), qM 22 24] false (some [1, 3, 8, 22]))
  (.cond (qt 22) .skip (.reg 14 [qI 25 (.bin .eql (qt 8) (qN 11)), qM 22 25] false (some [1, 3, 8, 22]))))))
  (.cond (qt 22) (.seq (.reg 15 [qM 26 3, qI 27 (.bin .eql (qt 26) (qN 2)), qM 2 27] false (some [2]))
  .ret) (.seq (.reg 16 [qI 29 (.bin .eql (qt 8) (qN 6)), qM 28 29] false (some [1, 3, 8, 28]))
  (.cond (qt 28) (.seq (.reg 17 [qM 30 3, qI 31 (.bin .eql (qt 30) (qN 3)), qM 2 31] false (some [2]))
  .ret) (.seq (.reg 18 [qI 33 (.bin .eql (qt 8) (qN 9)), qM 32 33] false (some [1, 3, 8, 32]))
  (.cond (qt 32) (.seq (.reg 19 c40_r19 false (some [2]))
  .ret) (.seq (.reg 20 [qI 49 (.bin .eql (qt 8) (qN 13)), qM 48 49] false (some [3, 48]))
  (.cond (qt 48) (.seq (.reg 21 [qM 50 3, qI 51 (.bin .leq (qt 50) (qN 4)), qM 2 51] false (some [2]))
  .ret) .skip))))))))))))))
  (.seq (.reg 22 [qI 2 (.mv (.con (.bool false)))] false (some [2]))
  .ret))))
def c40 : EFn := ⟨1, 52, [.tmp 2], c40_b, none, true⟩
theorem c40_ok : cFn Tryz.prog Tryz.f40 = some c40.strip := by kernel_rfl
-- limbeck/exp.all[limbeck/api.Ty]
def c41_b : EC := (.seq (.reg 0 [qI 3 (.boxI 58 (qt 1)), qI 4 (.mv (.con (.bool false)))] false (some [0, 3]))
  (.seq (.reg 1 [qM 5 0, qI 6 (.fnv 85 [] [(qt 3)]), qI 7 (.call (qF 84) [(qt 5), (qt 6)]), qI 8 (.un .not (qt 7)), qM 4 8] false (some [4]))
  .ret))
def c41 : EFn := ⟨2, 9, [.tmp 4], c41_b, none, true⟩
theorem c41_ok : cFn Tryz.prog Tryz.f41 = some c41.strip := by kernel_rfl
-- limbeck/exp.fine
def c42_r1 : List EI := [qD 3 5 1, qI 4 (.call (qF 65) [(qt 3)]), qM 5 4, qJ 6 (.ld (some 5) (qt 1)) 5 true, qJ 7 (.call (qF 86) [(qt 6), (qN 9)]) 5 true,
  qJ 8 (.un .not (qt 7)) 5 true, qI 9 (.pick (qt 5) (qt 8) (.con (.bool false))), qM 2 9]
def c42_b : EC := (.seq (.reg 0 [qI 1 (.boxI 34 (qt 0)), qI 2 (.mv (.con (.bool false)))] false (some [1]))
  (.seq (.reg 1 c42_r1 false (some [2]))
  .ret))
def c42 : EFn := ⟨1, 10, [.tmp 2], c42_b, none, true⟩
theorem c42_ok : cFn Tryz.prog Tryz.f42 = some c42.strip := by kernel_rfl
-- limbeck/exp.all[limbeck/api.Exp]
def c43_b : EC := (.seq (.reg 0 [qI 3 (.boxI 44 (qt 1)), qI 4 (.mv (.con (.bool false)))] false (some [0, 3]))
  (.seq (.reg 1 [qM 5 0, qI 6 (.fnv 88 [] [(qt 3)]), qI 7 (.call (qF 87) [(qt 5), (qt 6)]), qI 8 (.un .not (qt 7)), qM 4 8] false (some [4]))
  .ret))
def c43 : EFn := ⟨2, 9, [.tmp 4], c43_b, none, true⟩
theorem c43_ok : cFn Tryz.prog Tryz.f43 = some c43.strip := by kernel_rfl
-- limbeck/expfmt.bound
def c44_b : EC := (.seq (.reg 0 [qI 1 (.boxI 26 (qt 0)), qI 2 (.mv (.con (.str ⟨#[]⟩)))] false (some [1]))
  (.seq (.seq (.reg 1 [qA 3 4 1, qL 4 3, qI 5 (.len false (qt 4)), qI 6 (.bin .eql (qt 5) (qN 0))] false (some [1, 6]))
  (.cond (qt 6) (.seq (.reg 2 [qA 7 2 1, qL 8 7, qM 2 8] false (some [2]))
  .ret) .skip))
  (.seq (.reg 3 [⟨some 9, .fA 2 (qt 1), none, ⟨.no, false⟩⟩,
  ⟨some 10, .ld none (qt 9), none, ⟨.still, false⟩⟩,
  ⟨some 11, .bin .add (qt 10) (.con (.str ⟨#[58, 32]⟩)), none, ⟨.no, false⟩⟩, qA 12 4 1,
  ⟨some 13, .ld none (qt 12), none, Q1⟩, qI 14 (.ixL 5 (qt 13) (qN 0)),
  ⟨some 15, .ld (some 5) (qt 14), none, Q1⟩,
  ⟨some 16, .call (qF 28) [(qt 15)], none, Q1⟩, qI 17 (.bin .add (qt 11) (qt 16)), qM 2 17] true (some [2]))
  .ret)))
def c44 : EFn := ⟨1, 18, [.tmp 2], c44_b, none, true⟩
theorem c44_ok : cFn Tryz.prog Tryz.f44 = some c44.strip := by kernel_rfl
-- limbeck/expfmt.at
def c45_b : EC := (.seq (.reg 0 [qI 2 (.boxI 26 (qt 0)), qI 4 (.mv (.con (.str ⟨#[]⟩)))] false (some [1, 2]))
  (.seq (.seq (.reg 1 [qD 5 7 2, qI 6 (.call (qF 89) [(qt 5)]), qM 7 1, qI 8 (.bin .lss (qt 6) (qt 7))] false (some [2, 8]))
  (.cond (qt 8) (.seq (.regP 2 [qD 9 7 2, qI 10 (.call (qF 23) [(qt 9)]), qI 11 (.bin .add (.con (.str ⟨#[40]⟩)) (qt 10)), qI 12 (.bin .add (qt 11) (.con (.str ⟨#[41]⟩))),
  qM 4 12] false (some [4]))
  .ret) .skip))
  (.seq (.regP 3 [qD 13 7 2, qI 14 (.call (qF 23) [(qt 13)]), qM 4 14] false (some [4]))
  .ret)))
def c45 : EFn := ⟨2, 15, [.tmp 4], c45_b, none, true⟩
theorem c45_ok : cFn Tryz.prog Tryz.f45 = some c45.strip := by kernel_rfl
-- limbeck/expfmt.operation
def c46_b : EC := (.seq (.reg 0 [qI 1 (.boxI 26 (qt 0)), qI 2 (.mv (.con (.str ⟨#[]⟩)))] false (some [1]))
  (.seq (.reg 1 [qD 4 7 1, qI 5 (.call (qF 89) [(qt 4)]), qM 3 5] false (some [1, 3]))
  (.seq (.regP 2 [⟨some 6, .fA 6 (qt 1), none, ⟨.no, false⟩⟩,
  ⟨some 7, .ld none (qt 6), none, ⟨.still, false⟩⟩,
  ⟨some 8, .ixL 7 (qt 7) (qN 0), none, ⟨.no, false⟩⟩,
  ⟨some 9, .ld (some 7) (qt 8), none, ⟨.still, false⟩⟩,
  ⟨some 10, .mv (qt 3), none, ⟨.no, false⟩⟩,
  ⟨some 11, .mx false (qt 10) (qN 2), none, ⟨.no, false⟩⟩,
  ⟨some 12, .call (qF 45) [(qt 9), (qt 11)], none, ⟨.still, false⟩⟩,
  ⟨some 13, .bin .add (qt 12) (.con (.str ⟨#[32]⟩)), none, ⟨.no, false⟩⟩,
  ⟨some 14, .fA 1 (qt 1), none, ⟨.no, false⟩⟩,
  ⟨some 15, .ld none (qt 14), none, ⟨.still, false⟩⟩,
  ⟨some 16, .call (qF 10) [(qt 15)], none, ⟨.still, false⟩⟩,
  ⟨some 17, .bin .add (qt 13) (qt 16), none, ⟨.no, false⟩⟩,
  ⟨some 18, .bin .add (qt 17) (.con (.str ⟨#[32]⟩)), none, ⟨.no, false⟩⟩,
  ⟨some 19, .fA 6 (qt 1), none, ⟨.no, false⟩⟩,
  ⟨some 20, .ld none (qt 19), none, ⟨.still, false⟩⟩,
  ⟨some 21, .ixL 7 (qt 20) (qN 1), none, ⟨.no, false⟩⟩,
  ⟨some 22, .ld (some 7) (qt 21), none, ⟨.still, false⟩⟩, qM 23 3, qI 24 (.bin .add (qt 23) (qN 1)), qI 25 (.call (qF 45) [(qt 22), (qt 24)]), qI 26 (.bin .add (qt 18) (qt 25)),
  qM 2 26] true (some [2]))
  .ret)))
def c46 : EFn := ⟨1, 27, [.tmp 2], c46_b, none, true⟩
theorem c46_ok : cFn Tryz.prog Tryz.f46 = some c46.strip := by kernel_rfl
-- limbeck/expfmt.kids
def c47_l0_b : EC := (.seq (.reg 3 [qI 12 (.bin .lss (qt 11) (qt 10))] false (some [1, 5, 9, 10, 11, 12]))
  (.seq (.cond (qt 12) .skip (.exit 0))
  (.seq (.block 1 (.seq (.reg 4 [qM 13 11, qI 14 (.ixL 7 (qt 9) (qt 11)), qD 15 7 14, qI 7 (.new 26 qz0), qM 6 13,
  ⟨none, .st 7 (qt 7) (qt 15), none, Q0⟩] false (some [1, 5, 6, 7, 9, 10, 11]))
  (.reg 5 [qM 16 5, qM 17 1, qM 18 6, qD 19 7 7, qI 20 (.call (qt 17) [(qt 18), (qt 19)]), qI 21 (.rows 1 1 [(.str ⟨#[]⟩)] [(0, (qt 20))]), qI 22 (.app 9 1 16 (qt 16) (qt 21)),
  qM 5 22] false (some [1, 5, 9, 10, 11]))))
  (.reg 6 [qI 23 (.bin .add (qt 11) (qN 1)), qM 11 23] false (some [1, 5, 9, 10, 11])))))
def c47_l0 : EC := .loop (some [1, 5, 9, 10, 11]) c47_l0_b
def c47_b : EC := (.seq (.reg 0 [qI 2 (.boxI 26 (qt 0)), qI 4 (.mv (.con (.str ⟨#[]⟩)))] false (some [1, 2]))
  (.seq (.reg 1 [qI 5 (.mv (.con (.sl .null [])))] false (some [1, 2, 5]))
  (.seq (.seq (.reg 2 [qA 8 6 2, qL 9 8, qI 10 (.len false (qt 9)), qI 11 (.mv (qN 0))] false (some [1, 5, 9, 10, 11]))
  (.block 0 c47_l0))
  (.seq (.regP 7 [qM 24 5, qI 25 (.call (qF 90) [(qt 24), (.con (.str ⟨#[44, 32]⟩))]), qM 4 25] false (some [4]))
  .ret))))
def c47 : EFn := ⟨2, 26, [.tmp 4], c47_b, none, true⟩
theorem c47_l0_w {E : Env} {fin : Kont (PV × St)} {st : List Fw} {ts : Tmps} {S : St} : run E fin st c47_l0 ts S = run E fin (.again c47_l0 :: st) c47_l0_b (sel (some [1, 5, 9, 10, 11]) ts) S := w_loop
theorem c47_l0_a {E : Env} {fin : Kont (PV × St)} {st : List Fw} {ts : Tmps} {S : St} : aft E fin (.again c47_l0 :: st) .normal ts S = run E fin st c47_l0 (sel (some [1, 5, 9, 10, 11]) ts) S := a_again_s
theorem c47_ok : cFn Tryz.prog Tryz.f47 = some c47.strip := by kernel_rfl
-- limbeck/expfmt.shown$1
def c48_b : EC := (.seq (.reg 0 [qI 4 (.boxI 26 (qt 1)), qI 5 (.mv (.con (.str ⟨#[]⟩)))] false (some [0, 2, 4]))
  (.seq (.regP 1 [⟨some 6, .fA 5 (qt 2), none, ⟨.no, false⟩⟩,
  ⟨some 7, .ld none (qt 6), none, ⟨.still, false⟩⟩,
  ⟨some 8, .mv (qt 0), none, ⟨.no, false⟩⟩,
  ⟨some 9, .ixL 1 (qt 7) (qt 8), none, ⟨.no, false⟩⟩,
  ⟨some 10, .ld none (qt 9), none, ⟨.still, false⟩⟩,
  ⟨some 11, .bin .add (qt 10) (.con (.str ⟨#[32, 61, 32]⟩)), none, ⟨.no, false⟩⟩,
  ⟨some 12, .ld (some 7) (qt 4), none, Q1⟩,
  ⟨some 13, .call (qF 23) [(qt 12)], none, Q1⟩, qI 14 (.bin .add (qt 11) (qt 13)), qM 5 14] true (some [5]))
  .ret))
def c48 : EFn := ⟨3, 15, [.tmp 5], c48_b, none, true⟩
theorem c48_ok : cFn Tryz.prog Tryz.f48 = some c48.strip := by kernel_rfl
-- limbeck/expfmt.call
def c49_b : EC := (.seq (.reg 0 [qI 1 (.boxI 26 (qt 0)), qI 2 (.mv (.con (.str ⟨#[]⟩)))] false (some [1]))
  (.seq (.reg 1 [qI 3 (.mv (.con (.str ⟨#[]⟩)))] false (some [1, 3]))
  (.seq (.seq (.reg 2 [qA 4 3 1, qL 5 4] false (some [1, 3, 5]))
  (.cond (qt 5) (.reg 3 [qA 6 4 1, qL 7 6, qI 8 (.call (qF 91) [(qt 7)]), qI 9 (.bin .add (.con (.str ⟨#[91]⟩)) (qt 8)), qI 10 (.bin .add (qt 9) (.con (.str ⟨#[93]⟩))),
  qM 3 10] false (some [1, 3])) .skip))
  (.seq (.regP 4 [⟨some 11, .fA 2 (qt 1), none, ⟨.no, false⟩⟩,
  ⟨some 12, .ld none (qt 11), none, ⟨.still, false⟩⟩,
  ⟨some 13, .bin .add (.con (.str ⟨#[99, 97, 108, 108, 32]⟩)) (qt 12), none, ⟨.no, false⟩⟩,
  ⟨some 14, .mv (qt 3), none, ⟨.no, false⟩⟩,
  ⟨some 15, .bin .add (qt 13) (qt 14), none, ⟨.no, false⟩⟩,
  ⟨some 16, .bin .add (qt 15) (.con (.str ⟨#[40]⟩)), none, ⟨.no, false⟩⟩,
  ⟨some 17, .ld (some 7) (qt 1), none, Q1⟩,
  ⟨some 18, .call (qF 47) [(qt 17), (qF 92)], none, Q1⟩, qI 19 (.bin .add (qt 16) (qt 18)), qI 20 (.bin .add (qt 19) (.con (.str ⟨#[41]⟩))), qM 2 20] true (some [2]))
  .ret))))
def c49 : EFn := ⟨1, 21, [.tmp 2], c49_b, none, true⟩
theorem c49_ok : cFn Tryz.prog Tryz.f49 = some c49.strip := by kernel_rfl
-- limbeck/expfmt.value
def c50_b : EC := (.seq (.reg 0 [qI 1 (.boxI 26 (qt 0)), qI 2 (.mv (.con (.str ⟨#[]⟩)))] false (some [1]))
  (.seq (.seq (.reg 1 [qA 3 0 1, qL 4 3] false (some [1, 4]))
  (.block 0 (.seq (.reg 2 [qI 6 (.bin .eql (qt 4) (qN 1)), qM 5 6] false (some [1, 4, 5]))
  (.cond (qt 5) (.seq (.reg 3 [qA 7 1 1, qL 8 7, qI 9 (.call (qF 93) [(qt 8)]), qM 2 9] false (some [2]))
  .ret) (.seq (.reg 4 [qI 11 (.bin .eql (qt 4) (qN 2)), qM 10 11] false (some [1, 4, 10]))
  (.cond (qt 10) (.seq (.reg 5 [qA 12 1 1, qL 13 12, qI 14 (.bin .eql (qt 13) (qN 1)), qI 15 (.call (qF 94) [(qt 14)]), qM 2 15] false (some [2]))
  .ret) (.seq (.reg 6 [qI 17 (.bin .eql (qt 4) (qN 3)), qM 16 17] false (some [1, 16]))
  (.cond (qt 16) (.seq (.reg 7 [qA 18 2 1, qL 19 18, qI 20 (.call (qF 95) [(qt 19)]), qM 2 20] false (some [2]))
  .ret) .skip))))))))
  (.seq (.reg 8 [qA 21 2 1, qL 22 21, qM 2 22] false (some [2]))
  .ret)))
def c50 : EFn := ⟨1, 23, [.tmp 2], c50_b, none, true⟩
theorem c50_ok : cFn Tryz.prog Tryz.f50 = some c50.strip := by kernel_rfl
-- limbeck/limbeckref15.Digits
def c51_b : EC := (.seq (.reg 0 [qI 2 (.mv (.con (.str ⟨#[]⟩)))] false (some [0]))
  (.seq (.seq (.reg 1 [qM 3 0, qI 4 (.bin .lss (qt 3) (qN 10))] false (some [0, 4]))
  (.cond (qt 4) (.seq (.reg 2 [qM 5 0, qI 6 (.bin .add (qN 48) (qt 5)), qI 7 (.cvI .u8 (qt 6)), qI 8 (.rows 1 1 [(.int .u8 0)] [(0, (qt 7))]), qI 9 (.b2s (qt 8)),
  qM 2 9] false (some [2]))
  .ret) .skip))
  (.seq (.reg 3 [⟨some 10, .mv (qt 0), none, ⟨.no, false⟩⟩,
  ⟨some 11, .bin .quo (qt 10) (qN 10), none, ⟨.no, false⟩⟩,
  ⟨some 12, .call (qF 51) [(qt 11)], none, ⟨.still, false⟩⟩, qM 13 0, qI 14 (.bin .rem (qt 13) (qN 10)), qI 15 (.bin .add (qN 48) (qt 14)), qI 16 (.cvI .u8 (qt 15)),
  qI 17 (.rows 1 1 [(.int .u8 0)] [(0, (qt 16))]),
  ⟨some 18, .b2s (qt 17), none, Q1⟩, qI 19 (.bin .add (qt 12) (qt 18)), qM 2 19] true (some [2]))
  .ret)))
def c51 : EFn := ⟨1, 20, [.tmp 2], c51_b, none, true⟩
theorem c51_ok : cFn Tryz.prog Tryz.f51 = some c51.strip := by kernel_rfl
-- limbeck/limbeckref03.Quote
def c52_r6 : List EI := [qM 16 5, qI 17 (.bin .eql (qt 16) (.con (.int .u8 34))), qM 18 17, qJ 19 (.mv (qt 5)) 18 false, qJ 20 (.bin .eql (qt 19) (.con (.int .u8 92))) 18 false,
  qI 21 (.pick (qt 18) (.con (.bool true)) (qt 20))]
def c52_r10 : List EI := [qM 31 5, qI 32 (.bin .geq (qt 31) (.con (.int .u8 32))), qM 33 32, qJ 34 (.mv (qt 5)) 33 true, qJ 35 (.bin .leq (qt 34) (.con (.int .u8 126))) 33 true,
  qI 36 (.pick (qt 33) (qt 35) (.con (.bool false)))]
def c52_l0_b : EC := (.seq (.seq (.reg 3 [qM 7 4, qM 8 0, qI 9 (.len true (qt 8)), qI 10 (.bin .lss (qt 7) (qt 9))] false (some [0, 3, 4, 10]))
  (.cond (qt 10) .skip (.exit 0)))
  (.seq (.block 1 (.seq (.reg 5 [qM 13 0, qM 14 4, qI 15 (.ixS (qt 13) (qt 14)), qM 5 15] false (some [0, 3, 4, 5]))
  (.seq (.reg 6 c52_r6 false (some [0, 3, 4, 5, 21]))
  (.cond (qt 21) (.reg 7 [qM 22 3, qM 23 5, qI 24 (.rows 2 1 [(.int .u8 0)] [(0, (.con (.int .u8 92))), (1, (qt 23))]), qI 25 (.app 5 1 1 (qt 22) (qt 24)),
  qM 3 25] false (some [0, 3, 4])) (.seq (.reg 8 [qM 26 5, qI 27 (.bin .eql (qt 26) (.con (.int .u8 10)))] false (some [0, 3, 4, 5, 27]))
  (.cond (qt 27) (.reg 9 [qM 28 3, qI 29 (.rows 2 1 [(.int .u8 0)] [(0, (.con (.int .u8 92))), (1, (.con (.int .u8 110)))]), qI 30 (.app 5 1 1 (qt 28) (qt 29)),
  qM 3 30] false (some [0, 3, 4])) (.seq (.reg 10 c52_r10 false (some [0, 3, 4, 5, 36]))
  (.cond (qt 36) (.reg 11 [qM 37 3, qM 38 5, qI 39 (.rows 1 1 [(.int .u8 0)] [(0, (qt 38))]), qI 40 (.app 5 1 1 (qt 37) (qt 39)), qM 3 40] false (some [0, 3, 4])) (.reg 12 [qM 41 3,
  qM 42 5, qI 43 (.bin .quo (qt 42) (.con (.int .u8 16))), qI 44 (.call (qF 96) [(qt 43)]), qM 45 5, qI 46 (.bin .rem (qt 45) (.con (.int .u8 16))), qI 47 (.call (qF 96) [(qt 46)]),
  qI 48 (.rows 4 1 [(.int .u8 0)] [(0, (.con (.int .u8 92))), (1, (.con (.int .u8 120))), (2, (qt 44)), (3, (qt 47))]), qI 49 (.app 5 1 1 (qt 41) (qt 48)),
  qM 3 49] false (some [0, 3, 4]))))))))))
  (.reg 4 [qM 11 4, qI 12 (.bin .add (qt 11) (qN 1)), qM 4 12] false (some [0, 3, 4]))))
def c52_l0 : EC := .loop (some [0, 3, 4]) c52_l0_b
def c52_b : EC := (.seq (.reg 0 [qI 2 (.mv (.con (.str ⟨#[]⟩)))] false (some [0]))
  (.seq (.reg 1 [qI 6 (.rows 1 1 [(.int .u8 0)] [(0, (.con (.int .u8 34)))]), qM 3 6] false (some [0, 3]))
  (.seq (.seq (.reg 2 [qI 4 (.mv (qN 0))] false (some [0, 3, 4]))
  (.block 0 c52_l0))
  (.seq (.reg 13 [qM 50 3, qI 51 (.rows 1 1 [(.int .u8 0)] [(0, (.con (.int .u8 34)))]), qI 52 (.app 5 1 1 (qt 50) (qt 51)), qI 53 (.b2s (qt 52)), qM 2 53] false (some [2]))
  .ret))))
def c52 : EFn := ⟨1, 54, [.tmp 2], c52_b, none, true⟩
theorem c52_l0_step {E : Env} {fin : Kont (PV × St)} {st : List Fr} {ts : Tmps} {S : St} {n : Nat} : (lvl E (n + 1)).ev c52_l0 ts S (kont E fin st) = (lvl E (n + 1)).ev c52_l0_b (sel (some [0, 3, 4]) ts) S (kont E fin (.again n c52_l0 :: st)) := rfl
theorem c52_l0_w {E : Env} {fin : Kont (PV × St)} {st : List Fw} {ts : Tmps} {S : St} : run E fin st c52_l0 ts S = run E fin (.again c52_l0 :: st) c52_l0_b (sel (some [0, 3, 4]) ts) S := w_loop
theorem c52_l0_a {E : Env} {fin : Kont (PV × St)} {st : List Fw} {ts : Tmps} {S : St} : aft E fin (.again c52_l0 :: st) .normal ts S = run E fin st c52_l0 (sel (some [0, 3, 4]) ts) S := a_again_s
theorem c52_ok : cFn Tryz.prog Tryz.f52 = some c52.strip := by kernel_rfl
-- limbeck/limbeckref15.bound
def c53_b : EC := (.seq (.reg 0 [qI 1 (.boxI 26 (qt 0)), qI 2 (.mv (.con (.str ⟨#[]⟩)))] false (some [1]))
  (.seq (.seq (.reg 1 [qA 3 4 1, qL 4 3, qI 5 (.len false (qt 4)), qI 6 (.bin .eql (qt 5) (qN 0))] false (some [1, 6]))
  (.cond (qt 6) (.seq (.reg 2 [qA 7 2 1, qL 8 7, qM 2 8] false (some [2]))
  .ret) .skip))
  (.seq (.reg 3 [⟨some 9, .fA 2 (qt 1), none, ⟨.no, false⟩⟩,
  ⟨some 10, .ld none (qt 9), none, ⟨.still, false⟩⟩,
  ⟨some 11, .bin .add (qt 10) (.con (.str ⟨#[58, 32]⟩)), none, ⟨.no, false⟩⟩, qA 12 4 1,
  ⟨some 13, .ld none (qt 12), none, Q1⟩, qI 14 (.ixL 5 (qt 13) (qN 0)),
  ⟨some 15, .ld (some 5) (qt 14), none, Q1⟩,
  ⟨some 16, .call (qF 30) [(qt 15)], none, Q1⟩, qI 17 (.bin .add (qt 11) (qt 16)), qM 2 17] true (some [2]))
  .ret)))
def c53 : EFn := ⟨1, 18, [.tmp 2], c53_b, none, true⟩
theorem c53_ok : cFn Tryz.prog Tryz.f53 = some c53.strip := by kernel_rfl
-- limbeck/limbeckref15.at
def c54_b : EC := (.seq (.reg 0 [qI 2 (.boxI 26 (qt 0)), qI 4 (.mv (.con (.str ⟨#[]⟩)))] false (some [1, 2]))
  (.seq (.seq (.reg 1 [qD 5 7 2, qI 6 (.call (qF 97) [(qt 5)]), qM 7 1, qI 8 (.bin .lss (qt 6) (qt 7))] false (some [2, 8]))
  (.cond (qt 8) (.seq (.reg 2 [qD 9 7 2, qI 10 (.call (qF 24) [(qt 9)]), qI 11 (.bin .add (.con (.str ⟨#[40]⟩)) (qt 10)), qI 12 (.bin .add (qt 11) (.con (.str ⟨#[41]⟩))),
  qM 4 12] false (some [4]))
  .ret) .skip))
  (.seq (.reg 3 [qD 13 7 2, qI 14 (.call (qF 24) [(qt 13)]), qM 4 14] false (some [4]))
  .ret)))
def c54 : EFn := ⟨2, 15, [.tmp 4], c54_b, none, true⟩
theorem c54_ok : cFn Tryz.prog Tryz.f54 = some c54.strip := by kernel_rfl
-- limbeck/limbeckref15.operation
def c55_b : EC := (.seq (.reg 0 [qI 1 (.boxI 26 (qt 0)), qI 2 (.mv (.con (.str ⟨#[]⟩)))] false (some [1]))
  (.seq (.reg 1 [qA 5 1 1, qL 6 5, qI 7 (.call (qF 98) [(qt 6)]), qM 3 7] false (some [1, 3]))
  (.seq (.reg 2 [qM 8 3, qM 4 8] false (some [1, 3, 4]))
  (.seq (.seq (.reg 3 [qM 9 3, qI 10 (.bin .eql (qt 9) (qN 1))] false (some [1, 3, 4, 10]))
  (.cond (qt 10) (.reg 4 [qI 4 (.mv (qN 2))] false (some [1, 3, 4])) .skip))
  (.seq (.reg 5 [⟨some 11, .fA 6 (qt 1), none, ⟨.no, false⟩⟩,
  ⟨some 12, .ld none (qt 11), none, ⟨.still, false⟩⟩,
  ⟨some 13, .ixL 7 (qt 12) (qN 0), none, ⟨.no, false⟩⟩,
  ⟨some 14, .ld (some 7) (qt 13), none, ⟨.still, false⟩⟩,
  ⟨some 15, .mv (qt 4), none, ⟨.no, false⟩⟩,
  ⟨some 16, .call (qF 54) [(qt 14), (qt 15)], none, ⟨.still, false⟩⟩,
  ⟨some 17, .bin .add (qt 16) (.con (.str ⟨#[32]⟩)), none, ⟨.no, false⟩⟩,
  ⟨some 18, .fA 1 (qt 1), none, ⟨.no, false⟩⟩,
  ⟨some 19, .ld none (qt 18), none, ⟨.still, false⟩⟩,
  ⟨some 20, .call (qF 11) [(qt 19)], none, ⟨.still, false⟩⟩,
  ⟨some 21, .bin .add (qt 17) (qt 20), none, ⟨.no, false⟩⟩,
  ⟨some 22, .bin .add (qt 21) (.con (.str ⟨#[32]⟩)), none, ⟨.no, false⟩⟩,
  ⟨some 23, .fA 6 (qt 1), none, ⟨.no, false⟩⟩,
  ⟨some 24, .ld none (qt 23), none, ⟨.still, false⟩⟩,
  ⟨some 25, .ixL 7 (qt 24) (qN 1), none, ⟨.no, false⟩⟩,
  ⟨some 26, .ld (some 7) (qt 25), none, ⟨.still, false⟩⟩, qM 27 3, qI 28 (.bin .add (qt 27) (qN 1)), qI 29 (.call (qF 54) [(qt 26), (qt 28)]), qI 30 (.bin .add (qt 22) (qt 29)),
  qM 2 30] true (some [2]))
  .ret)))))
def c55 : EFn := ⟨1, 31, [.tmp 2], c55_b, none, true⟩
theorem c55_ok : cFn Tryz.prog Tryz.f55 = some c55.strip := by kernel_rfl
-- limbeck/limbeckref15.list
def c56_l0_b : EC := (.seq (.seq (.reg 3 [qM 5 4, qA 6 6 1, qL 7 6, qI 8 (.len false (qt 7)), qI 9 (.bin .lss (qt 5) (qt 8))] false (some [1, 3, 4, 9]))
  (.cond (qt 9) .skip (.exit 0)))
  (.seq (.block 1 (.seq (.seq (.reg 5 [qM 12 4, qI 13 (.bin .gtr (qt 12) (qN 0))] false (some [1, 3, 4, 13]))
  (.cond (qt 13) (.reg 6 [qM 14 3, qI 15 (.bin .add (qt 14) (.con (.str ⟨#[44, 32]⟩))), qM 3 15] false (some [1, 3, 4])) .skip))
  (.seq (.seq (.reg 7 [qA 16 0 1, qL 17 16, qI 18 (.bin .eql (qt 17) (qN 9))] false (some [1, 3, 4, 18]))
  (.cond (qt 18) (.reg 8 [qM 19 3, qA 20 5 1, qL 21 20, qM 22 4, qI 23 (.ixL 1 (qt 21) (qt 22)), qL 24 23, qI 25 (.bin .add (qt 19) (qt 24)), qI 26 (.bin .add (qt 25) (.con (.str ⟨#[32, 61, 32]⟩))),
  qM 3 26] false (some [1, 3, 4])) .skip))
  (.reg 9 [qM 27 3, qA 28 6 1, qL 29 28, qM 30 4, qI 31 (.ixL 7 (qt 29) (qt 30)), qD 32 7 31, qI 33 (.call (qF 24) [(qt 32)]), qI 34 (.bin .add (qt 27) (qt 33)),
  qM 3 34] false (some [1, 3, 4])))))
  (.reg 4 [qM 10 4, qI 11 (.bin .add (qt 10) (qN 1)), qM 4 11] false (some [1, 3, 4]))))
def c56_l0 : EC := .loop (some [1, 3, 4]) c56_l0_b
def c56_b : EC := (.seq (.reg 0 [qI 1 (.boxI 26 (qt 0)), qI 2 (.mv (.con (.str ⟨#[]⟩)))] false (some [1]))
  (.seq (.reg 1 [qI 3 (.mv (.con (.str ⟨#[]⟩)))] false (some [1, 3]))
  (.seq (.seq (.reg 2 [qI 4 (.mv (qN 0))] false (some [1, 3, 4]))
  (.block 0 c56_l0))
  (.seq (.reg 10 [qM 35 3, qM 2 35] false (some [2]))
  .ret))))
def c56 : EFn := ⟨1, 36, [.tmp 2], c56_b, none, true⟩
theorem c56_l0_w {E : Env} {fin : Kont (PV × St)} {st : List Fw} {ts : Tmps} {S : St} : run E fin st c56_l0 ts S = run E fin (.again c56_l0 :: st) c56_l0_b (sel (some [1, 3, 4]) ts) S := w_loop
theorem c56_l0_a {E : Env} {fin : Kont (PV × St)} {st : List Fw} {ts : Tmps} {S : St} : aft E fin (.again c56_l0 :: st) .normal ts S = run E fin st c56_l0 (sel (some [1, 3, 4]) ts) S := a_again_s
theorem c56_ok : cFn Tryz.prog Tryz.f56 = some c56.strip := by kernel_rfl
-- limbeck/limbeckref05.List
def c57_l0_b : EC := (.seq (.seq (.reg 3 [qM 5 4, qM 6 0, qI 7 (.len false (qt 6)), qI 8 (.bin .lss (qt 5) (qt 7))] false (some [0, 3, 4, 8]))
  (.cond (qt 8) .skip (.exit 0)))
  (.seq (.block 1 (.seq (.seq (.reg 5 [qM 11 4, qI 12 (.bin .gtr (qt 11) (qN 0))] false (some [0, 3, 4, 12]))
  (.cond (qt 12) (.reg 6 [qM 13 3, qI 14 (.bin .add (qt 13) (.con (.str ⟨#[44, 32]⟩))), qM 3 14] false (some [0, 3, 4])) .skip))
  (.reg 7 [qM 15 3, qM 16 0, qM 17 4, qI 18 (.ixL 5 (qt 16) (qt 17)), qD 19 5 18, qI 20 (.call (qF 30) [(qt 19)]), qI 21 (.bin .add (qt 15) (qt 20)),
  qM 3 21] false (some [0, 3, 4]))))
  (.reg 4 [qM 9 4, qI 10 (.bin .add (qt 9) (qN 1)), qM 4 10] false (some [0, 3, 4]))))
def c57_l0 : EC := .loop (some [0, 3, 4]) c57_l0_b
def c57_b : EC := (.seq (.reg 0 [qI 2 (.mv (.con (.str ⟨#[]⟩)))] false (some [0]))
  (.seq (.reg 1 [qI 3 (.mv (.con (.str ⟨#[]⟩)))] false (some [0, 3]))
  (.seq (.seq (.reg 2 [qI 4 (.mv (qN 0))] false (some [0, 3, 4]))
  (.block 0 c57_l0))
  (.seq (.reg 8 [qM 22 3, qM 2 22] false (some [2]))
  .ret))))
def c57 : EFn := ⟨1, 23, [.tmp 2], c57_b, none, true⟩
theorem c57_l0_w {E : Env} {fin : Kont (PV × St)} {st : List Fw} {ts : Tmps} {S : St} : run E fin st c57_l0 ts S = run E fin (.again c57_l0 :: st) c57_l0_b (sel (some [0, 3, 4]) ts) S := w_loop
theorem c57_l0_a {E : Env} {fin : Kont (PV × St)} {st : List Fw} {ts : Tmps} {S : St} : aft E fin (.again c57_l0 :: st) .normal ts S = run E fin st c57_l0 (sel (some [0, 3, 4]) ts) S := a_again_s
theorem c57_ok : cFn Tryz.prog Tryz.f57 = some c57.strip := by kernel_rfl
-- limbeck/name.Fine
def c58_b : EC := (.seq (.reg 0 [qI 2 (.mv (.con (.bool false)))] false (some [0]))
  (.seq (.reg 1 [qM 3 0, qI 4 (.call (qF 99) [(qt 3)]), qI 5 (.bin .eql (qt 4) (qN 1)), qM 2 5] false (some [2]))
  .ret))
def c58 : EFn := ⟨1, 6, [.tmp 2], c58_b, none, true⟩
theorem c58_ok : cFn Tryz.prog Tryz.f58 = some c58.strip := by kernel_rfl
-- limbeck/exp.distinct
def c59_r5 : List EI := [qM 17 7, qA 18 0 9, qL 19 18, qI 20 (.lkp (.int .i64 0) false (qt 17) (qt 19)), qI 21 (.bin .gtr (qt 20) (qN 0)), qM 22 21, qJ 23 (.mv (qt 2)) 22 false,
  qJ 24 (.fA 0 (qt 9)) 22 false, qJ 25 (.ld none (qt 24)) 22 false, qJ 26 (.call (qt 23) [(qt 25)]) 22 false, qJ 27 (.un .not (qt 26)) 22 false, qI 28 (.pick (qt 22) (.con (.bool true)) (qt 27))]
def c59_l0_b : EC := (.seq (.reg 3 [qI 14 (.bin .lss (qt 13) (qt 12))] false (some [0, 1, 2, 7, 11, 12, 13, 14]))
  (.seq (.cond (qt 14) .skip (.exit 0))
  (.seq (.block 1 (.seq (.reg 4 [qI 15 (.ixL 6 (qt 11) (qt 13)), qD 16 6 15, qI 9 (.new 66 qz1),
  ⟨none, .st 6 (qt 9) (qt 16), none, Q0⟩] false (some [0, 1, 2, 7, 9, 11, 12, 13]))
  (.seq (.seq (.reg 5 c59_r5 false (some [0, 1, 2, 7, 9, 11, 12, 13, 28]))
  (.cond (qt 28) (.seq (.reg 6 [qI 6 (.mv (.con (.bool false)))] false (some [6]))
  .ret) .skip))
  (.reg 7 [qM 29 7, qA 30 0 9, qL 31 30, qI 32 (.lkp (.int .i64 0) false (qt 29) (qt 31)), qI 33 (.bin .add (qt 32) (qN 1)),
  ⟨none, .mup (qt 29) (qt 31) (qt 33), none, Q0⟩] false (some [0, 1, 2, 7, 11, 12, 13])))))
  (.reg 8 [qI 34 (.bin .add (qt 13) (qN 1)), qM 13 34] false (some [0, 1, 2, 7, 11, 12, 13])))))
def c59_l0 : EC := .loop (some [0, 1, 2, 7, 11, 12, 13]) c59_l0_b
def c59_b : EC := (.seq (.reg 0 [qI 6 (.mv (.con (.bool false)))] false (some [0, 1, 2]))
  (.seq (.reg 1 [qI 10 (.mkm), qM 7 10] false (some [0, 1, 2, 7]))
  (.seq (.seq (.reg 2 [qM 11 0, qI 12 (.len false (qt 11)), qI 13 (.mv (qN 0))] false (some [0, 1, 2, 7, 11, 12, 13]))
  (.block 0 c59_l0))
  (.seq (.reg 9 [qM 35 0, qI 36 (.len false (qt 35)), qM 37 1, qI 38 (.bin .leq (qt 36) (qt 37)), qM 6 38] false (some [6]))
  .ret))))
def c59 : EFn := ⟨3, 39, [.tmp 6], c59_b, none, true⟩
theorem c59_l0_w {E : Env} {fin : Kont (PV × St)} {st : List Fw} {ts : Tmps} {S : St} : run E fin st c59_l0 ts S = run E fin (.again c59_l0 :: st) c59_l0_b (sel (some [0, 1, 2, 7, 11, 12, 13]) ts) S := w_loop
theorem c59_l0_a {E : Env} {fin : Kont (PV × St)} {st : List Fw} {ts : Tmps} {S : St} : aft E fin (.again c59_l0 :: st) .normal ts S = run E fin st c59_l0 (sel (some [0, 1, 2, 7, 11, 12, 13]) ts) S := a_again_s
theorem c59_ok : cFn Tryz.prog Tryz.f59 = some c59.strip := by kernel_rfl
-- limbeck/name.Var
def c60_b : EC := (.seq (.reg 0 [qI 2 (.mv (.con (.bool false)))] false (some [0]))
  (.seq (.reg 1 [qM 3 0, qI 4 (.call (qF 99) [(qt 3)]), qI 5 (.bin .eql (qt 4) (qN 2)), qM 2 5] false (some [2]))
  .ret))
def c60 : EFn := ⟨1, 6, [.tmp 2], c60_b, none, true⟩
theorem c60_ok : cFn Tryz.prog Tryz.f60 = some c60.strip := by kernel_rfl
-- limbeck/exp.Size
def c61_l0_b : EC := (.seq (.reg 3 [qI 17 (.bin .lss (qt 16) (qt 15))] false (some [2, 3, 14, 15, 16, 17]))
  (.seq (.cond (qt 17) .skip (.exit 0))
  (.seq (.block 1 (.seq (.reg 4 [qI 18 (.ixL 5 (qt 14) (qt 16)), qD 19 5 18, qI 5 (.new 34 qz2),
  ⟨none, .st 5 (qt 5) (qt 19), none, Q0⟩] false (some [2, 3, 5, 14, 15, 16]))
  (.seq (.reg 5 [qM 20 2, qD 21 5 5, qI 22 (.call (qF 102) [(qt 21)]), qI 23 (.bin .add (qt 20) (qt 22)), qM 2 23] false (some [2, 3, 5, 14, 15, 16]))
  (.reg 6 [qM 24 3, qD 25 5 5, qI 26 (.call (qF 103) [(qt 25)]), qI 27 (.mx false (qt 24) (qt 26)), qM 3 27] false (some [2, 3, 14, 15, 16])))))
  (.reg 7 [qI 28 (.bin .add (qt 16) (qN 1)), qM 16 28] false (some [2, 3, 14, 15, 16])))))
def c61_l0 : EC := .loop (some [2, 3, 14, 15, 16]) c61_l0_b
def c61_b : EC := (.seq (.reg 0 [qI 1 (.boxI 38 (qt 0)), qI 2 (.mv (qN 0)), qI 3 (.mv (qN 0))] false (some [1]))
  (.seq (.reg 1 [⟨some 6, .fA 8 (qt 1), none, ⟨.no, false⟩⟩,
  ⟨some 7, .ld (some 7) (qt 6), none, ⟨.still, false⟩⟩,
  ⟨some 8, .call (qF 100) [(qt 7)], none, ⟨.still, false⟩⟩, qA 9 8 1,
  ⟨some 10, .ld (some 7) (qt 9), none, Q1⟩, qI 11 (.call (qF 101) [(qt 10)]), qM 2 8, qM 3 11] true (some [1, 2, 3]))
  (.seq (.seq (.reg 2 [qA 12 0 1, qD 13 8 12, qI 14 (.call (qF 62) [(qt 13)]), qI 15 (.len false (qt 14)), qI 16 (.mv (qN 0))] false (some [2, 3, 14, 15, 16]))
  (.block 0 c61_l0))
  (.seq (.reg 8 [qM 29 2, qM 30 3, qM 2 29, qM 3 30] false (some [2, 3]))
  .ret))))
def c61 : EFn := ⟨1, 31, [.tmp 2, .tmp 3], c61_b, none, true⟩
theorem c61_l0_w {E : Env} {fin : Kont (PV × St)} {st : List Fw} {ts : Tmps} {S : St} : run E fin st c61_l0 ts S = run E fin (.again c61_l0 :: st) c61_l0_b (sel (some [2, 3, 14, 15, 16]) ts) S := w_loop
theorem c61_l0_a {E : Env} {fin : Kont (PV × St)} {st : List Fw} {ts : Tmps} {S : St} : aft E fin (.again c61_l0 :: st) .normal ts S = run E fin st c61_l0 (sel (some [2, 3, 14, 15, 16]) ts) S := a_again_s
theorem c61_ok : cFn Tryz.prog Tryz.f61 = some c61.strip := by kernel_rfl
-- limbeck/exp.types
def c62_l0_b : EC := (.seq (.reg 3 [qI 12 (.bin .lss (qt 11) (qt 10))] false (some [1, 3, 9, 10, 11, 12]))
  (.seq (.cond (qt 12) .skip (.exit 0))
  (.seq (.block 1 (.seq (.reg 4 [qI 13 (.ixL 6 (qt 9) (qt 11)), qD 14 6 13, qI 5 (.new 66 qz1),
  ⟨none, .st 6 (qt 5) (qt 14), none, Q0⟩] false (some [1, 3, 5, 9, 10, 11]))
  (.reg 5 [qM 15 3, qA 16 1 5, qD 17 5 16, qI 18 (.rows 1 5 qz2 [(0, (qt 17))]), qI 19 (.app 34 5 80 (qt 15) (qt 18)), qM 3 19] false (some [1, 3, 9, 10, 11]))))
  (.reg 6 [qI 20 (.bin .add (qt 11) (qN 1)), qM 11 20] false (some [1, 3, 9, 10, 11])))))
def c62_l0 : EC := .loop (some [1, 3, 9, 10, 11]) c62_l0_b
def c62_l1_b : EC := (.seq (.reg 8 [qI 25 (.bin .lss (qt 24) (qt 23))] false (some [1, 3, 22, 23, 24, 25]))
  (.seq (.cond (qt 25) .skip (.exit 2))
  (.seq (.block 3 (.seq (.reg 9 [qI 26 (.ixL 6 (qt 22) (qt 24)), qD 27 6 26, qI 7 (.new 66 qz1),
  ⟨none, .st 6 (qt 7) (qt 27), none, Q0⟩] false (some [1, 3, 7, 22, 23, 24]))
  (.reg 10 [qM 28 3, qA 29 1 7, qD 30 5 29, qI 31 (.rows 1 5 qz2 [(0, (qt 30))]), qI 32 (.app 34 5 80 (qt 28) (qt 31)), qM 3 32] false (some [1, 3, 22, 23, 24]))))
  (.reg 11 [qI 33 (.bin .add (qt 24) (qN 1)), qM 24 33] false (some [1, 3, 22, 23, 24])))))
def c62_l1 : EC := .loop (some [1, 3, 22, 23, 24]) c62_l1_b
def c62_b : EC := (.seq (.reg 0 [qI 1 (.boxI 36 (qt 0)), qI 2 (.mv (.con (.sl .null [])))] false (some [1]))
  (.seq (.reg 1 [qI 3 (.mv (.con (.sl .null [])))] false (some [1, 3]))
  (.seq (.seq (.reg 2 [qA 8 1 1, qL 9 8, qI 10 (.len false (qt 9)), qI 11 (.mv (qN 0))] false (some [1, 3, 9, 10, 11]))
  (.block 0 c62_l0))
  (.seq (.seq (.reg 7 [qA 21 2 1, qL 22 21, qI 23 (.len false (qt 22)), qI 24 (.mv (qN 0))] false (some [1, 3, 22, 23, 24]))
  (.block 2 c62_l1))
  (.seq (.reg 12 [qM 34 3, qA 35 3 1, qD 36 5 35, qI 37 (.rows 1 5 qz2 [(0, (qt 36))]), qI 38 (.app 34 5 80 (qt 34) (qt 37)), qM 2 38] false (some [2]))
  .ret)))))
def c62 : EFn := ⟨1, 39, [.tmp 2], c62_b, none, true⟩
theorem c62_l0_w {E : Env} {fin : Kont (PV × St)} {st : List Fw} {ts : Tmps} {S : St} : run E fin st c62_l0 ts S = run E fin (.again c62_l0 :: st) c62_l0_b (sel (some [1, 3, 9, 10, 11]) ts) S := w_loop
theorem c62_l0_a {E : Env} {fin : Kont (PV × St)} {st : List Fw} {ts : Tmps} {S : St} : aft E fin (.again c62_l0 :: st) .normal ts S = run E fin st c62_l0 (sel (some [1, 3, 9, 10, 11]) ts) S := a_again_s
theorem c62_l1_w {E : Env} {fin : Kont (PV × St)} {st : List Fw} {ts : Tmps} {S : St} : run E fin st c62_l1 ts S = run E fin (.again c62_l1 :: st) c62_l1_b (sel (some [1, 3, 22, 23, 24]) ts) S := w_loop
theorem c62_l1_a {E : Env} {fin : Kont (PV × St)} {st : List Fw} {ts : Tmps} {S : St} : aft E fin (.again c62_l1 :: st) .normal ts S = run E fin st c62_l1 (sel (some [1, 3, 22, 23, 24]) ts) S := a_again_s
theorem c62_ok : cFn Tryz.prog Tryz.f62 = some c62.strip := by kernel_rfl
-- limbeck/tyfmt.joined[limbeck/api.Bind]
def c63_l0_b : EC := (.seq (.reg 3 [qI 11 (.bin .lss (qt 10) (qt 9))] false (some [1, 5, 8, 9, 10, 11]))
  (.seq (.cond (qt 11) .skip (.exit 0))
  (.seq (.block 1 (.seq (.reg 4 [qM 12 10, qI 13 (.ixL 6 (qt 8) (qt 10)), qD 14 6 13, qI 7 (.new 66 qz1), qM 6 12,
  ⟨none, .st 6 (qt 7) (qt 14), none, Q0⟩] false (some [1, 5, 6, 7, 8, 9, 10]))
  (.seq (.seq (.reg 5 [qM 15 6, qI 16 (.bin .gtr (qt 15) (qN 0))] false (some [1, 5, 6, 7, 8, 9, 10, 16]))
  (.cond (qt 16) (.reg 6 [qI 17 (.call (qF 104) [(qt 5), (.con (.str ⟨#[44, 32]⟩))])] false (some [1, 5, 6, 7, 8, 9, 10])) .skip))
  (.reg 7 [qM 18 1, qM 19 6, qD 20 6 7, qI 21 (.call (qt 18) [(qt 19), (qt 20)]), qI 22 (.call (qF 104) [(qt 5), (qt 21)])] false (some [1, 5, 8, 9, 10])))))
  (.reg 8 [qI 23 (.bin .add (qt 10) (qN 1)), qM 10 23] false (some [1, 5, 8, 9, 10])))))
def c63_l0 : EC := .loop (some [1, 5, 8, 9, 10]) c63_l0_b
def c63_b : EC := (.seq (.reg 0 [qI 4 (.mv (.con (.str ⟨#[]⟩)))] false (some [0, 1]))
  (.seq (.reg 1 [qI 5 (.new 90 [.nilp, (.sl .null [])])] false (some [0, 1, 5]))
  (.seq (.seq (.reg 2 [qM 8 0, qI 9 (.len false (qt 8)), qI 10 (.mv (qN 0))] false (some [1, 5, 8, 9, 10]))
  (.block 0 c63_l0))
  (.seq (.reg 9 [qI 24 (.call (qF 105) [(qt 5)]), qM 4 24] false (some [4]))
  .ret))))
def c63 : EFn := ⟨2, 25, [.tmp 4], c63_b, none, true⟩
theorem c63_l0_w {E : Env} {fin : Kont (PV × St)} {st : List Fw} {ts : Tmps} {S : St} : run E fin st c63_l0 ts S = run E fin (.again c63_l0 :: st) c63_l0_b (sel (some [1, 5, 8, 9, 10]) ts) S := w_loop
theorem c63_l0_a {E : Env} {fin : Kont (PV × St)} {st : List Fw} {ts : Tmps} {S : St} : aft E fin (.again c63_l0 :: st) .normal ts S = run E fin st c63_l0 (sel (some [1, 5, 8, 9, 10]) ts) S := a_again_s
theorem c63_ok : cFn Tryz.prog Tryz.f63 = some c63.strip := by kernel_rfl
-- limbeck/tyfmt.Binds$1
def c64_b : EC := (.seq (.reg 0 [qI 4 (.boxI 66 (qt 1)), qI 5 (.mv (.con (.str ⟨#[]⟩)))] false (some [2, 4]))
  (.seq (.reg 1 [⟨some 6, .fA 0 (qt 4), none, ⟨.no, false⟩⟩,
  ⟨some 7, .ld none (qt 6), none, ⟨.still, false⟩⟩,
  ⟨some 8, .ld none (qt 2), none, ⟨.still, false⟩⟩,
  ⟨some 9, .bin .add (qt 7) (qt 8), none, ⟨.no, false⟩⟩, qA 10 1 4,
  ⟨some 11, .ld (some 5) (qt 10), none, Q1⟩,
  ⟨some 12, .call (qF 28) [(qt 11)], none, Q1⟩, qI 13 (.bin .add (qt 9) (qt 12)), qM 5 13] true (some [5]))
  .ret))
def c64 : EFn := ⟨3, 14, [.tmp 5], c64_b, none, true⟩
theorem c64_ok : cFn Tryz.prog Tryz.f64 = some c64.strip := by kernel_rfl
-- limbeck/ty.Right
def c65_r1 : List EI := [qD 3 5 1, qI 4 (.call (qF 106) [(qt 3)]), qI 5 (.un .not (qt 4)), qM 6 5, qJ 7 (.fA 4 (qt 1)) 6 false, qJ 8 (.ld none (qt 7)) 6 false,
  qJ 9 (.call (qF 84) [(qt 8), (qF 107)]) 6 false, qI 10 (.pick (qt 6) (.con (.bool true)) (qt 9))]
def c65_r11 : List EI := [qA 25 4 1, qL 26 25, qI 27 (.len false (qt 26)), qI 28 (.bin .eql (qt 27) (qN 0)), qM 29 28, qJ 30 (.fA 2 (qt 1)) 29 true, qJ 31 (.ld none (qt 30)) 29 true,
  qJ 32 (.call (qF 60) [(qt 31)]) 29 true, qI 33 (.pick (qt 29) (qt 32) (.con (.bool false))), qM 2 33]
def c65_r13 : List EI := [qA 36 4 1, qL 37 36, qI 38 (.len false (qt 37)), qI 39 (.bin .eql (qt 38) (qN 0)), qM 40 39, qJ 41 (.fA 1 (qt 1)) 40 true, qJ 42 (.ld none (qt 41)) 40 true,
  qJ 43 (.bin .geq (qt 42) (qN 0)) 40 true, qI 44 (.pick (qt 40) (qt 43) (.con (.bool false))), qM 45 44, qJ 46 (.fA 1 (qt 1)) 45 true, qJ 47 (.ld none (qt 46)) 45 true,
  qJ 48 (.bin .leq (qt 47) (qN 1073741824)) 45 true, qI 49 (.pick (qt 45) (qt 48) (.con (.bool false))), qM 2 49]
def c65_r17 : List EI := [qA 58 4 1, qL 59 58, qI 60 (.len false (qt 59)), qA 61 3 1, qL 62 61, qI 63 (.len false (qt 62)), qI 64 (.bin .eql (qt 60) (qt 63)),
  qM 65 64, qJ 66 (.fA 3 (qt 1)) 65 true, qJ 67 (.ld none (qt 66)) 65 true, qJ 68 (.call (qF 83) [(qt 67)]) 65 true, qI 69 (.pick (qt 65) (qt 68) (.con (.bool false))),
  qM 2 69]
def c65_b : EC := (.seq (.reg 0 [qI 1 (.boxI 34 (qt 0)), qI 2 (.mv (.con (.bool false)))] false (some [1]))
  (.seq (.seq (.reg 1 c65_r1 false (some [1, 10]))
  (.cond (qt 10) (.seq (.reg 2 [qI 2 (.mv (.con (.bool false)))] false (some [2]))
  .ret) .skip))
  (.seq (.seq (.reg 3 [qA 11 0 1, qL 12 11] false (some [1, 12]))
  (.block 0 (.seq (.seq (.reg 4 [qI 14 (.bin .eql (qt 12) (qN 1)), qM 13 14] false (some [1, 12, 13]))
  (.cond (qt 13) .skip (.seq (.reg 5 [qI 15 (.bin .eql (qt 12) (qN 2)), qM 13 15] false (some [1, 12, 13]))
  (.cond (qt 13) .skip (.seq (.reg 6 [qI 16 (.bin .eql (qt 12) (qN 3)), qM 13 16] false (some [1, 12, 13]))
  (.cond (qt 13) .skip (.seq (.reg 7 [qI 17 (.bin .eql (qt 12) (qN 4)), qM 13 17] false (some [1, 12, 13]))
  (.cond (qt 13) .skip (.reg 8 [qI 18 (.bin .eql (qt 12) (qN 5)), qM 13 18] false (some [1, 12, 13]))))))))))
  (.cond (qt 13) (.seq (.reg 9 [qA 19 4 1, qL 20 19, qI 21 (.len false (qt 20)), qI 22 (.bin .eql (qt 21) (qN 0)), qM 2 22] false (some [2]))
  .ret) (.seq (.reg 10 [qI 24 (.bin .eql (qt 12) (qN 6)), qM 23 24] false (some [1, 12, 23]))
  (.cond (qt 23) (.seq (.reg 11 c65_r11 false (some [2]))
  .ret) (.seq (.reg 12 [qI 35 (.bin .eql (qt 12) (qN 9)), qM 34 35] false (some [1, 12, 34]))
  (.cond (qt 34) (.seq (.reg 13 c65_r13 false (some [2]))
  .ret) (.seq (.reg 14 [qI 51 (.bin .eql (qt 12) (qN 7)), qM 50 51] false (some [1, 12, 50]))
  (.cond (qt 50) (.seq (.reg 15 [qA 52 4 1, qL 53 52, qI 54 (.len false (qt 53)), qI 55 (.bin .eql (qt 54) (qN 2)), qM 2 55] false (some [2]))
  .ret) (.seq (.reg 16 [qI 57 (.bin .eql (qt 12) (qN 8)), qM 56 57] false (some [1, 56]))
  (.cond (qt 56) (.seq (.reg 17 c65_r17 false (some [2]))
  .ret) .skip))))))))))))
  (.seq (.reg 18 [qI 2 (.mv (.con (.bool false)))] false (some [2]))
  .ret))))
def c65 : EFn := ⟨1, 70, [.tmp 2], c65_b, none, true⟩
theorem c65_ok : cFn Tryz.prog Tryz.f65 = some c65.strip := by kernel_rfl
-- limbeck/tyfmt.shown
def c66_b : EC := (.seq (.reg 0 [qI 1 (.boxI 34 (qt 0)), qI 2 (.mv (.con (.str ⟨#[]⟩)))] false (some [1]))
  (.seq (.seq (.reg 1 [qA 3 0 1, qL 4 3] false (some [1, 4]))
  (.block 0 (.seq (.reg 2 [qI 6 (.bin .eql (qt 4) (qN 1)), qM 5 6] false (some [1, 4, 5]))
  (.cond (qt 5) (.seq (.reg 3 [qI 2 (.mv (.con (.str ⟨#[73, 110, 116]⟩)))] false (some [2]))
  .ret) (.seq (.reg 4 [qI 8 (.bin .eql (qt 4) (qN 2)), qM 7 8] false (some [1, 4, 7]))
  (.cond (qt 7) (.seq (.reg 5 [qI 2 (.mv (.con (.str ⟨#[66, 111, 111, 108]⟩)))] false (some [2]))
  .ret) (.seq (.reg 6 [qI 10 (.bin .eql (qt 4) (qN 3)), qM 9 10] false (some [1, 4, 9]))
  (.cond (qt 9) (.seq (.reg 7 [qI 2 (.mv (.con (.str ⟨#[83, 116, 114, 105, 110, 103]⟩)))] false (some [2]))
  .ret) (.seq (.reg 8 [qI 12 (.bin .eql (qt 4) (qN 4)), qM 11 12] false (some [1, 4, 11]))
  (.cond (qt 11) (.seq (.reg 9 [qI 2 (.mv (.con (.str ⟨#[84, 111, 112]⟩)))] false (some [2]))
  .ret) (.seq (.reg 10 [qI 14 (.bin .eql (qt 4) (qN 5)), qM 13 14] false (some [1, 4, 13]))
  (.cond (qt 13) (.seq (.reg 11 [qI 2 (.mv (.con (.str ⟨#[63]⟩)))] false (some [2]))
  .ret) (.seq (.reg 12 [qI 16 (.bin .eql (qt 4) (qN 6)), qM 15 16] false (some [1, 4, 15]))
  (.cond (qt 15) (.seq (.reg 13 [qA 17 2 1, qL 18 17, qM 2 18] false (some [2]))
  .ret) (.seq (.reg 14 [qI 20 (.bin .eql (qt 4) (qN 9)), qM 19 20] false (some [1, 4, 19]))
  (.cond (qt 19) (.seq (.reg 15 [qA 21 1 1, qL 22 21, qI 23 (.call (qF 93) [(qt 22)]), qI 24 (.bin .add (.con (.str ⟨#[35]⟩)) (qt 23)), qM 2 24] false (some [2]))
  .ret) (.seq (.reg 16 [qI 26 (.bin .eql (qt 4) (qN 7)), qM 25 26] false (some [1, 25]))
  (.cond (qt 25) (.seq (.reg 17 [⟨some 27, .fA 4 (qt 1), none, ⟨.no, false⟩⟩,
  ⟨some 28, .ld none (qt 27), none, ⟨.still, false⟩⟩,
  ⟨some 29, .ixL 5 (qt 28) (qN 0), none, ⟨.no, false⟩⟩,
  ⟨some 30, .ld (some 5) (qt 29), none, ⟨.still, false⟩⟩,
  ⟨some 31, .call (qF 108) [(qt 30)], none, ⟨.still, false⟩⟩,
  ⟨some 32, .bin .add (qt 31) (.con (.str ⟨#[32, 45, 62, 32]⟩)), none, ⟨.no, false⟩⟩, qA 33 4 1,
  ⟨some 34, .ld none (qt 33), none, Q1⟩, qI 35 (.ixL 5 (qt 34) (qN 1)),
  ⟨some 36, .ld (some 5) (qt 35), none, Q1⟩, qI 37 (.call (qF 66) [(qt 36)]), qI 38 (.bin .add (qt 32) (qt 37)), qM 2 38] true (some [2]))
  .ret) .skip))))))))))))))))))
  (.seq (.reg 18 [qA 39 4 1, qL 40 39, qI 41 (.fnv 110 [] [(qt 1)]), qI 42 (.call (qF 109) [(qt 40), (qt 41)]), qI 43 (.bin .add (.con (.str ⟨#[123]⟩)) (qt 42)),
  qI 44 (.bin .add (qt 43) (.con (.str ⟨#[125]⟩))), qM 2 44] false (some [2]))
  .ret)))
def c66 : EFn := ⟨1, 45, [.tmp 2], c66_b, none, true⟩
theorem c66_ok : cFn Tryz.prog Tryz.f66 = some c66.strip := by kernel_rfl
-- limbeck/limbeckref04.Right
def c67_r6 : List EI := [qA 18 0 1, qL 19 18, qI 20 (.bin .neq (qt 19) (qN 6)), qM 21 20, qJ 22 (.fA 2 (qt 1)) 21 true, qJ 23 (.ld none (qt 22)) 21 true,
  qJ 24 (.bin .neq (qt 23) (.con (.str ⟨#[]⟩))) 21 true, qI 25 (.pick (qt 21) (qt 24) (.con (.bool false))), qM 26 25, qJ 27 (.fA 0 (qt 1)) 26 false,
  qJ 28 (.ld none (qt 27)) 26 false, qJ 29 (.bin .neq (qt 28) (qN 9)) 26 false, qJ 30 (.mv (qt 29)) 26 false, qJ 31 (.fA 1 (qt 1)) 30 true, qJ 32 (.ld none (qt 31)) 30 true,
  qJ 33 (.bin .neq (qt 32) (qN 0)) 30 true, qJ 34 (.pick (qt 30) (qt 33) (.con (.bool false))) 26 false, qI 35 (.pick (qt 26) (.con (.bool true)) (qt 34)),
  qM 36 35, qJ 37 (.fA 0 (qt 1)) 36 false, qJ 38 (.ld none (qt 37)) 36 false, qJ 39 (.bin .neq (qt 38) (qN 8)) 36 false, qJ 40 (.mv (qt 39)) 36 false,
  qJ 41 (.fA 3 (qt 1)) 40 true, qJ 42 (.ld none (qt 41)) 40 true, qJ 43 (.len false (qt 42)) 40 true, qJ 44 (.bin .gtr (qt 43) (qN 0)) 40 true, qJ 45 (.pick (qt 40) (qt 44) (.con (.bool false))) 36 false,
  qI 46 (.pick (qt 36) (.con (.bool true)) (qt 45))]
def c67_r8 : List EI := [qA 47 0 1, qL 48 47, qI 49 (.bin .geq (qt 48) (qN 1)), qM 50 49, qJ 51 (.fA 0 (qt 1)) 50 true, qJ 52 (.ld none (qt 51)) 50 true,
  qJ 53 (.bin .leq (qt 52) (qN 5)) 50 true, qI 54 (.pick (qt 50) (qt 53) (.con (.bool false)))]
def c67_r11 : List EI := [qA 62 2 1, qL 63 62, qI 64 (.call (qF 72) [(qt 63)]), qM 65 64, qJ 66 (.fA 4 (qt 1)) 65 true, qJ 67 (.ld none (qt 66)) 65 true,
  qJ 68 (.len false (qt 67)) 65 true, qJ 69 (.bin .eql (qt 68) (qN 0)) 65 true, qI 70 (.pick (qt 65) (qt 69) (.con (.bool false))), qM 2 70]
def c67_r13 : List EI := [qA 74 1 1, qL 75 74, qI 76 (.bin .geq (qt 75) (qN 0)), qM 77 76, qJ 78 (.fA 1 (qt 1)) 77 true, qJ 79 (.ld none (qt 78)) 77 true,
  qJ 80 (.bin .leq (qt 79) (qN 1073741824)) 77 true, qI 81 (.pick (qt 77) (qt 80) (.con (.bool false))), qM 82 81, qJ 83 (.fA 4 (qt 1)) 82 true, qJ 84 (.ld none (qt 83)) 82 true,
  qJ 85 (.len false (qt 84)) 82 true, qJ 86 (.bin .eql (qt 85) (qN 0)) 82 true, qI 87 (.pick (qt 82) (qt 86) (.con (.bool false))), qM 2 87]
def c67_r16 : List EI := [qA 95 0 1, qL 96 95, qI 97 (.bin .eql (qt 96) (qN 8)), qM 98 97, qJ 99 (.fA 3 (qt 1)) 98 true, qJ 100 (.ld none (qt 99)) 98 true,
  qJ 101 (.call (qF 81) [(qt 100)]) 98 true, qI 102 (.pick (qt 98) (qt 101) (.con (.bool false))), qM 103 102, qJ 104 (.fA 3 (qt 1)) 103 true, qJ 105 (.ld none (qt 104)) 103 true,
  qJ 106 (.len false (qt 105)) 103 true, qJ 107 (.fA 4 (qt 1)) 103 true, qJ 108 (.ld none (qt 107)) 103 true, qJ 109 (.len false (qt 108)) 103 true, qJ 110 (.bin .eql (qt 106) (qt 109)) 103 true,
  qI 111 (.pick (qt 103) (qt 110) (.con (.bool false))), qM 2 111]
def c67_l0_b : EC := (.seq (.seq (.reg 2 [qM 4 3, qA 5 4 1, qL 6 5, qI 7 (.len false (qt 6)), qI 8 (.bin .lss (qt 4) (qt 7))] false (some [1, 3, 8]))
  (.cond (qt 8) .skip (.exit 0)))
  (.seq (.block 1 (.seq (.reg 4 [qA 11 4 1, qL 12 11, qM 13 3, qI 14 (.ixL 5 (qt 12) (qt 13)), qD 15 5 14, qI 16 (.call (qF 67) [(qt 15)]), qI 17 (.un .not (qt 16))] false (some [1, 3, 17]))
  (.cond (qt 17) (.seq (.reg 5 [qI 2 (.mv (.con (.bool false)))] false (some [2]))
  .ret) .skip)))
  (.reg 3 [qM 9 3, qI 10 (.bin .add (qt 9) (qN 1)), qM 3 10] false (some [1, 3]))))
def c67_l0 : EC := .loop (some [1, 3]) c67_l0_b
def c67_b : EC := (.seq (.reg 0 [qI 1 (.boxI 34 (qt 0)), qI 2 (.mv (.con (.bool false)))] false (some [1]))
  (.seq (.seq (.reg 1 [qI 3 (.mv (qN 0))] false (some [1, 3]))
  (.block 0 c67_l0))
  (.seq (.seq (.reg 6 c67_r6 false (some [1, 46]))
  (.cond (qt 46) (.seq (.reg 7 [qI 2 (.mv (.con (.bool false)))] false (some [2]))
  .ret) .skip))
  (.seq (.seq (.reg 8 c67_r8 false (some [1, 54]))
  (.cond (qt 54) (.seq (.reg 9 [qA 55 4 1, qL 56 55, qI 57 (.len false (qt 56)), qI 58 (.bin .eql (qt 57) (qN 0)), qM 2 58] false (some [2]))
  .ret) .skip))
  (.seq (.seq (.reg 10 [qA 59 0 1, qL 60 59, qI 61 (.bin .eql (qt 60) (qN 6))] false (some [1, 61]))
  (.cond (qt 61) (.seq (.reg 11 c67_r11 false (some [2]))
  .ret) .skip))
  (.seq (.seq (.reg 12 [qA 71 0 1, qL 72 71, qI 73 (.bin .eql (qt 72) (qN 9))] false (some [1, 73]))
  (.cond (qt 73) (.seq (.reg 13 c67_r13 false (some [2]))
  .ret) .skip))
  (.seq (.seq (.reg 14 [qA 88 0 1, qL 89 88, qI 90 (.bin .eql (qt 89) (qN 7))] false (some [1, 90]))
  (.cond (qt 90) (.seq (.reg 15 [qA 91 4 1, qL 92 91, qI 93 (.len false (qt 92)), qI 94 (.bin .eql (qt 93) (qN 2)), qM 2 94] false (some [2]))
  .ret) .skip))
  (.seq (.reg 16 c67_r16 false (some [2]))
  .ret))))))))
def c67 : EFn := ⟨1, 112, [.tmp 2], c67_b, none, true⟩
theorem c67_l0_step {E : Env} {fin : Kont (PV × St)} {st : List Fr} {ts : Tmps} {S : St} {n : Nat} : (lvl E (n + 1)).ev c67_l0 ts S (kont E fin st) = (lvl E (n + 1)).ev c67_l0_b (sel (some [1, 3]) ts) S (kont E fin (.again n c67_l0 :: st)) := rfl
theorem c67_l0_w {E : Env} {fin : Kont (PV × St)} {st : List Fw} {ts : Tmps} {S : St} : run E fin st c67_l0 ts S = run E fin (.again c67_l0 :: st) c67_l0_b (sel (some [1, 3]) ts) S := w_loop
theorem c67_l0_a {E : Env} {fin : Kont (PV × St)} {st : List Fw} {ts : Tmps} {S : St} : aft E fin (.again c67_l0 :: st) .normal ts S = run E fin st c67_l0 (sel (some [1, 3]) ts) S := a_again_s
theorem c67_ok : cFn Tryz.prog Tryz.f67 = some c67.strip := by kernel_rfl
-- limbeck/limbeckref05.show
def c68_l0_b : EC := (.seq (.seq (.reg 15 [qM 55 6, qA 56 3 1, qL 57 56, qI 58 (.len false (qt 57)), qI 59 (.bin .lss (qt 55) (qt 58))] false (some [1, 5, 6, 59]))
  (.cond (qt 59) .skip (.exit 0)))
  (.seq (.block 1 (.seq (.seq (.reg 17 [qM 62 6, qI 63 (.bin .gtr (qt 62) (qN 0))] false (some [1, 5, 6, 63]))
  (.cond (qt 63) (.reg 18 [qM 64 5, qI 65 (.bin .add (qt 64) (.con (.str ⟨#[44, 32]⟩))), qM 5 65] false (some [1, 5, 6])) .skip))
  (.reg 19 [⟨some 66, .mv (qt 5), none, ⟨.no, false⟩⟩,
  ⟨some 67, .fA 3 (qt 1), none, ⟨.no, false⟩⟩,
  ⟨some 68, .ld none (qt 67), none, ⟨.still, false⟩⟩,
  ⟨some 69, .mv (qt 6), none, ⟨.no, false⟩⟩,
  ⟨some 70, .ixL 1 (qt 68) (qt 69), none, ⟨.no, false⟩⟩,
  ⟨some 71, .ld none (qt 70), none, ⟨.still, false⟩⟩,
  ⟨some 72, .bin .add (qt 66) (qt 71), none, ⟨.no, false⟩⟩,
  ⟨some 73, .bin .add (qt 72) (.con (.str ⟨#[58, 32]⟩)), none, ⟨.no, false⟩⟩,
  ⟨some 74, .fA 4 (qt 1), none, ⟨.no, false⟩⟩,
  ⟨some 75, .ld none (qt 74), none, ⟨.still, false⟩⟩, qM 76 6, qI 77 (.ixL 5 (qt 75) (qt 76)),
  ⟨some 78, .ld (some 5) (qt 77), none, Q1⟩,
  ⟨some 79, .call (qF 68) [(qt 78)], none, Q1⟩, qI 80 (.bin .add (qt 73) (qt 79)), qM 5 80] true (some [1, 5, 6]))))
  (.reg 16 [qM 60 6, qI 61 (.bin .add (qt 60) (qN 1)), qM 6 61] false (some [1, 5, 6]))))
def c68_l0 : EC := .loop (some [1, 5, 6]) c68_l0_b
def c68_b : EC := (.seq (.reg 0 [qI 1 (.boxI 34 (qt 0)), qI 2 (.mv (.con (.str ⟨#[]⟩)))] false (some [1]))
  (.seq (.reg 1 [qI 7 (.rows 6 1 [(.str ⟨#[]⟩)] [(0, (.con (.str ⟨#[]⟩))), (1, (.con (.str ⟨#[73, 110, 116]⟩))), (2, (.con (.str ⟨#[66, 111, 111, 108]⟩))), (3, (.con (.str ⟨#[83, 116, 114, 105, 110, 103]⟩))), (4, (.con (.str ⟨#[84, 111, 112]⟩))), (5, (.con (.str ⟨#[63]⟩)))]),
  qM 3 7] false (some [1, 3]))
  (.seq (.seq (.reg 2 [qA 8 0 1, qL 9 8, qM 10 3, qI 11 (.len false (qt 10)), qI 12 (.bin .lss (qt 9) (qt 11))] false (some [1, 3, 12]))
  (.cond (qt 12) (.seq (.reg 3 [qM 13 3, qA 14 0 1, qL 15 14, qI 16 (.ixL 1 (qt 13) (qt 15)), qL 17 16, qM 2 17] false (some [2]))
  .ret) .skip))
  (.seq (.seq (.reg 4 [qA 18 0 1, qL 19 18, qI 20 (.bin .eql (qt 19) (qN 6))] false (some [1, 20]))
  (.cond (qt 20) (.seq (.reg 5 [qA 21 2 1, qL 22 21, qM 2 22] false (some [2]))
  .ret) .skip))
  (.seq (.seq (.reg 6 [qA 23 0 1, qL 24 23, qI 25 (.bin .eql (qt 24) (qN 9))] false (some [1, 25]))
  (.cond (qt 25) (.seq (.reg 7 [qA 26 1 1, qL 27 26, qI 28 (.call (qF 111) [(qt 27)]), qI 29 (.bin .add (.con (.str ⟨#[35]⟩)) (qt 28)), qM 2 29] false (some [2]))
  .ret) .skip))
  (.seq (.seq (.reg 8 [qA 30 0 1, qL 31 30, qI 32 (.bin .eql (qt 31) (qN 7))] false (some [1, 32]))
  (.cond (qt 32) (.seq (.reg 9 [qA 33 4 1, qL 34 33, qI 35 (.ixL 5 (qt 34) (qN 0)), qD 36 5 35, qI 37 (.call (qF 68) [(qt 36)]), qM 4 37] false (some [1, 4]))
  (.seq (.seq (.reg 10 [qA 38 4 1, qL 39 38, qI 40 (.ixL 5 (qt 39) (qN 0)), qA 41 0 40, qL 42 41, qI 43 (.bin .eql (qt 42) (qN 7))] false (some [1, 4, 43]))
  (.cond (qt 43) (.reg 11 [qM 44 4, qI 45 (.bin .add (.con (.str ⟨#[40]⟩)) (qt 44)), qI 46 (.bin .add (qt 45) (.con (.str ⟨#[41]⟩))), qM 4 46] false (some [1, 4])) .skip))
  (.seq (.reg 12 [qM 47 4, qI 48 (.bin .add (qt 47) (.con (.str ⟨#[32, 45, 62, 32]⟩))), qA 49 4 1, qL 50 49, qI 51 (.ixL 5 (qt 50) (qN 1)), qD 52 5 51,
  qI 53 (.call (qF 68) [(qt 52)]), qI 54 (.bin .add (qt 48) (qt 53)), qM 2 54] false (some [2]))
  .ret))) .skip))
  (.seq (.reg 13 [qI 5 (.mv (.con (.str ⟨#[123]⟩)))] false (some [1, 5]))
  (.seq (.seq (.reg 14 [qI 6 (.mv (qN 0))] false (some [1, 5, 6]))
  (.block 0 c68_l0))
  (.seq (.reg 20 [qM 81 5, qI 82 (.bin .add (qt 81) (.con (.str ⟨#[125]⟩))), qM 2 82] false (some [2]))
  .ret)))))))))
def c68 : EFn := ⟨1, 83, [.tmp 2], c68_b, none, true⟩
theorem c68_l0_w {E : Env} {fin : Kont (PV × St)} {st : List Fw} {ts : Tmps} {S : St} : run E fin st c68_l0 ts S = run E fin (.again c68_l0 :: st) c68_l0_b (sel (some [1, 5, 6]) ts) S := w_loop
theorem c68_l0_a {E : Env} {fin : Kont (PV × St)} {st : List Fw} {ts : Tmps} {S : St} : aft E fin (.again c68_l0 :: st) .normal ts S = run E fin st c68_l0 (sel (some [1, 5, 6]) ts) S := a_again_s
theorem c68_ok : cFn Tryz.prog Tryz.f68 = some c68.strip := by kernel_rfl
-- limbeck/limbeckref01.Fine
def c69_b : EC := (.seq (.reg 0 [qI 2 (.mv (.con (.bool false)))] false (some [0]))
  (.seq (.reg 1 [qM 3 0, qI 4 (.call (qF 112) [(qt 3)]), qI 5 (.bin .eql (qt 4) (qN 1)), qM 2 5] false (some [2]))
  .ret))
def c69 : EFn := ⟨1, 6, [.tmp 2], c69_b, none, true⟩
theorem c69_ok : cFn Tryz.prog Tryz.f69 = some c69.strip := by kernel_rfl
-- limbeck/limbeckref14.types
def c70_r4 : List EI := [qM 10 0, qM 11 3, qI 12 (.ixL 5 (qt 10) (qt 11)), qD 13 5 12, qI 14 (.call (qF 67) [(qt 13)]), qI 15 (.un .not (qt 14)), qM 16 15,
  qJ 17 (.mv (qt 0)) 16 false, qJ 18 (.mv (qt 3)) 16 false, qJ 19 (.ixL 5 (qt 17) (qt 18)) 16 false, qJ 20 (.ld (some 5) (qt 19)) 16 false, qJ 21 (.call (qF 113) [(qt 20), (qN 9)]) 16 false,
  qI 22 (.pick (qt 16) (.con (.bool true)) (qt 21))]
def c70_l0_b : EC := (.seq (.seq (.reg 2 [qM 4 3, qM 5 0, qI 6 (.len false (qt 5)), qI 7 (.bin .lss (qt 4) (qt 6))] false (some [0, 3, 7]))
  (.cond (qt 7) .skip (.exit 0)))
  (.seq (.block 1 (.seq (.reg 4 c70_r4 false (some [0, 3, 22]))
  (.cond (qt 22) (.seq (.reg 5 [qI 2 (.mv (.con (.bool false)))] false (some [2]))
  .ret) .skip)))
  (.reg 3 [qM 8 3, qI 9 (.bin .add (qt 8) (qN 1)), qM 3 9] false (some [0, 3]))))
def c70_l0 : EC := .loop (some [0, 3]) c70_l0_b
def c70_b : EC := (.seq (.reg 0 [qI 2 (.mv (.con (.bool false)))] false (some [0]))
  (.seq (.seq (.reg 1 [qI 3 (.mv (qN 0))] false (some [0, 3]))
  (.block 0 c70_l0))
  (.seq (.reg 6 [qI 2 (.mv (.con (.bool true)))] false (some [2]))
  .ret)))
def c70 : EFn := ⟨1, 23, [.tmp 2], c70_b, none, true⟩
theorem c70_l0_w {E : Env} {fin : Kont (PV × St)} {st : List Fw} {ts : Tmps} {S : St} : run E fin st c70_l0 ts S = run E fin (.again c70_l0 :: st) c70_l0_b (sel (some [0, 3]) ts) S := w_loop
theorem c70_l0_a {E : Env} {fin : Kont (PV × St)} {st : List Fw} {ts : Tmps} {S : St} : aft E fin (.again c70_l0 :: st) .normal ts S = run E fin st c70_l0 (sel (some [0, 3]) ts) S := a_again_s
theorem c70_ok : cFn Tryz.prog Tryz.f70 = some c70.strip := by kernel_rfl
-- limbeck/limbeckref14.SigTypes
def c71_l0_b : EC := (.seq (.seq (.reg 3 [qM 6 4, qA 7 1 1, qL 8 7, qI 9 (.len false (qt 8)), qI 10 (.bin .lss (qt 6) (qt 9))] false (some [1, 3, 4, 10]))
  (.cond (qt 10) .skip (.exit 0)))
  (.seq (.block 1 (.reg 5 [qM 13 3, qA 14 1 1, qL 15 14, qM 16 4, qI 17 (.ixL 6 (qt 15) (qt 16)), qA 18 1 17, qD 19 5 18, qI 20 (.rows 1 5 qz2 [(0, (qt 19))]),
  qI 21 (.app 34 5 80 (qt 13) (qt 20)), qM 3 21] false (some [1, 3, 4])))
  (.reg 4 [qM 11 4, qI 12 (.bin .add (qt 11) (qN 1)), qM 4 12] false (some [1, 3, 4]))))
def c71_l0 : EC := .loop (some [1, 3, 4]) c71_l0_b
def c71_l1_b : EC := (.seq (.seq (.reg 7 [qM 22 5, qA 23 2 1, qL 24 23, qI 25 (.len false (qt 24)), qI 26 (.bin .lss (qt 22) (qt 25))] false (some [1, 3, 5, 26]))
  (.cond (qt 26) .skip (.exit 2)))
  (.seq (.block 3 (.reg 9 [qM 29 3, qA 30 2 1, qL 31 30, qM 32 5, qI 33 (.ixL 6 (qt 31) (qt 32)), qA 34 1 33, qD 35 5 34, qI 36 (.rows 1 5 qz2 [(0, (qt 35))]),
  qI 37 (.app 34 5 80 (qt 29) (qt 36)), qM 3 37] false (some [1, 3, 5])))
  (.reg 8 [qM 27 5, qI 28 (.bin .add (qt 27) (qN 1)), qM 5 28] false (some [1, 3, 5]))))
def c71_l1 : EC := .loop (some [1, 3, 5]) c71_l1_b
def c71_b : EC := (.seq (.reg 0 [qI 1 (.boxI 36 (qt 0)), qI 2 (.mv (.con (.sl .null [])))] false (some [1]))
  (.seq (.reg 1 [qI 3 (.mv (.con (.sl .null [])))] false (some [1, 3]))
  (.seq (.seq (.reg 2 [qI 4 (.mv (qN 0))] false (some [1, 3, 4]))
  (.block 0 c71_l0))
  (.seq (.seq (.reg 6 [qI 5 (.mv (qN 0))] false (some [1, 3, 5]))
  (.block 2 c71_l1))
  (.seq (.reg 10 [qM 38 3, qA 39 3 1, qD 40 5 39, qI 41 (.rows 1 5 qz2 [(0, (qt 40))]), qI 42 (.app 34 5 80 (qt 38) (qt 41)), qM 2 42] false (some [2]))
  .ret)))))
def c71 : EFn := ⟨1, 43, [.tmp 2], c71_b, none, true⟩
theorem c71_l0_w {E : Env} {fin : Kont (PV × St)} {st : List Fw} {ts : Tmps} {S : St} : run E fin st c71_l0 ts S = run E fin (.again c71_l0 :: st) c71_l0_b (sel (some [1, 3, 4]) ts) S := w_loop
theorem c71_l0_a {E : Env} {fin : Kont (PV × St)} {st : List Fw} {ts : Tmps} {S : St} : aft E fin (.again c71_l0 :: st) .normal ts S = run E fin st c71_l0 (sel (some [1, 3, 4]) ts) S := a_again_s
theorem c71_l1_w {E : Env} {fin : Kont (PV × St)} {st : List Fw} {ts : Tmps} {S : St} : run E fin st c71_l1 ts S = run E fin (.again c71_l1 :: st) c71_l1_b (sel (some [1, 3, 5]) ts) S := w_loop
theorem c71_l1_a {E : Env} {fin : Kont (PV × St)} {st : List Fw} {ts : Tmps} {S : St} : aft E fin (.again c71_l1 :: st) .normal ts S = run E fin st c71_l1 (sel (some [1, 3, 5]) ts) S := a_again_s
theorem c71_ok : cFn Tryz.prog Tryz.f71 = some c71.strip := by kernel_rfl
-- limbeck/limbeckref01.Var
def c72_b : EC := (.seq (.reg 0 [qI 2 (.mv (.con (.bool false)))] false (some [0]))
  (.seq (.reg 1 [qM 3 0, qI 4 (.call (qF 112) [(qt 3)]), qI 5 (.bin .eql (qt 4) (qN 2)), qM 2 5] false (some [2]))
  .ret))
def c72 : EFn := ⟨1, 6, [.tmp 2], c72_b, none, true⟩
theorem c72_ok : cFn Tryz.prog Tryz.f72 = some c72.strip := by kernel_rfl
-- limbeck/limbeckref01.Place
def c73_l0_b : EC := (.seq (.seq (.reg 2 [qM 6 5, qM 7 0, qI 8 (.len false (qt 7)), qI 9 (.bin .lss (qt 6) (qt 8))] false (some [0, 1, 5, 9]))
  (.cond (qt 9) .skip (.exit 0)))
  (.seq (.block 1 (.seq (.reg 4 [qM 12 0, qM 13 5, qI 14 (.ixL 1 (qt 12) (qt 13)), qL 15 14, qM 16 1, qI 17 (.bin .eql (qt 15) (qt 16))] false (some [0, 1, 5, 17]))
  (.cond (qt 17) (.seq (.reg 5 [qM 18 5, qM 4 18] false (some [4]))
  .ret) .skip)))
  (.reg 3 [qM 10 5, qI 11 (.bin .add (qt 10) (qN 1)), qM 5 11] false (some [0, 1, 5]))))
def c73_l0 : EC := .loop (some [0, 1, 5]) c73_l0_b
def c73_b : EC := (.seq (.reg 0 [qI 4 (.mv (qN 0))] false (some [0, 1]))
  (.seq (.seq (.reg 1 [qI 5 (.mv (qN 0))] false (some [0, 1, 5]))
  (.block 0 c73_l0))
  (.seq (.reg 6 [qI 4 (.mv (qN (-1)))] false (some [4]))
  .ret)))
def c73 : EFn := ⟨2, 19, [.tmp 4], c73_b, none, true⟩
theorem c73_l0_w {E : Env} {fin : Kont (PV × St)} {st : List Fw} {ts : Tmps} {S : St} : run E fin st c73_l0 ts S = run E fin (.again c73_l0 :: st) c73_l0_b (sel (some [0, 1, 5]) ts) S := w_loop
theorem c73_l0_a {E : Env} {fin : Kont (PV × St)} {st : List Fw} {ts : Tmps} {S : St} : aft E fin (.again c73_l0 :: st) .normal ts S = run E fin st c73_l0 (sel (some [0, 1, 5]) ts) S := a_again_s
theorem c73_ok : cFn Tryz.prog Tryz.f73 = some c73.strip := by kernel_rfl
-- limbeck/limbeckref09.Names
def c74_l0_b : EC := (.seq (.seq (.reg 3 [qM 5 4, qM 6 0, qI 7 (.len false (qt 6)), qI 8 (.bin .lss (qt 5) (qt 7))] false (some [0, 3, 4, 8]))
  (.cond (qt 8) .skip (.exit 0)))
  (.seq (.block 1 (.reg 5 [qM 11 3, qM 12 0, qM 13 4, qI 14 (.ixL 6 (qt 12) (qt 13)), qA 15 0 14, qL 16 15, qI 17 (.rows 1 1 [(.str ⟨#[]⟩)] [(0, (qt 16))]),
  qI 18 (.app 9 1 16 (qt 11) (qt 17)), qM 3 18] false (some [0, 3, 4])))
  (.reg 4 [qM 9 4, qI 10 (.bin .add (qt 9) (qN 1)), qM 4 10] false (some [0, 3, 4]))))
def c74_l0 : EC := .loop (some [0, 3, 4]) c74_l0_b
def c74_b : EC := (.seq (.reg 0 [qI 2 (.mv (.con (.sl .null [])))] false (some [0]))
  (.seq (.reg 1 [qI 3 (.mv (.con (.sl .null [])))] false (some [0, 3]))
  (.seq (.seq (.reg 2 [qI 4 (.mv (qN 0))] false (some [0, 3, 4]))
  (.block 0 c74_l0))
  (.seq (.reg 6 [qM 19 3, qM 2 19] false (some [2]))
  .ret))))
def c74 : EFn := ⟨1, 20, [.tmp 2], c74_b, none, true⟩
theorem c74_l0_w {E : Env} {fin : Kont (PV × St)} {st : List Fw} {ts : Tmps} {S : St} : run E fin st c74_l0 ts S = run E fin (.again c74_l0 :: st) c74_l0_b (sel (some [0, 3, 4]) ts) S := w_loop
theorem c74_l0_a {E : Env} {fin : Kont (PV × St)} {st : List Fw} {ts : Tmps} {S : St} : aft E fin (.again c74_l0 :: st) .normal ts S = run E fin st c74_l0 (sel (some [0, 3, 4]) ts) S := a_again_s
theorem c74_ok : cFn Tryz.prog Tryz.f74 = some c74.strip := by kernel_rfl
-- limbeck/limbeckref14.Nodes
def c75_l0_b : EC := (.seq (.seq (.reg 3 [qM 6 4, qA 7 4 1, qL 8 7, qI 9 (.len false (qt 8)), qI 10 (.bin .lss (qt 6) (qt 9))] false (some [1, 3, 4, 10]))
  (.cond (qt 10) .skip (.exit 0)))
  (.seq (.block 1 (.reg 5 [qM 13 3, qA 14 4 1, qL 15 14, qM 16 4, qI 17 (.ixL 5 (qt 15) (qt 16)), qD 18 5 17, qI 19 (.call (qF 77) [(qt 18)]), qI 20 (.bin .add (qt 13) (qt 19)),
  qM 3 20] false (some [1, 3, 4])))
  (.reg 4 [qM 11 4, qI 12 (.bin .add (qt 11) (qN 1)), qM 4 12] false (some [1, 3, 4]))))
def c75_l0 : EC := .loop (some [1, 3, 4]) c75_l0_b
def c75_l1_b : EC := (.seq (.seq (.reg 7 [qM 21 5, qA 22 6 1, qL 23 22, qI 24 (.len false (qt 23)), qI 25 (.bin .lss (qt 21) (qt 24))] false (some [1, 3, 5, 25]))
  (.cond (qt 25) .skip (.exit 2)))
  (.seq (.block 3 (.reg 9 [qM 28 3, qA 29 6 1, qL 30 29, qM 31 5, qI 32 (.ixL 7 (qt 30) (qt 31)), qD 33 7 32, qI 34 (.call (qF 75) [(qt 33)]), qI 35 (.bin .add (qt 28) (qt 34)),
  qM 3 35] false (some [1, 3, 5])))
  (.reg 8 [qM 26 5, qI 27 (.bin .add (qt 26) (qN 1)), qM 5 27] false (some [1, 3, 5]))))
def c75_l1 : EC := .loop (some [1, 3, 5]) c75_l1_b
def c75_b : EC := (.seq (.reg 0 [qI 1 (.boxI 26 (qt 0)), qI 2 (.mv (qN 0))] false (some [1]))
  (.seq (.reg 1 [qI 3 (.mv (qN 1))] false (some [1, 3]))
  (.seq (.seq (.reg 2 [qI 4 (.mv (qN 0))] false (some [1, 3, 4]))
  (.block 0 c75_l0))
  (.seq (.seq (.reg 6 [qI 5 (.mv (qN 0))] false (some [1, 3, 5]))
  (.block 2 c75_l1))
  (.seq (.reg 10 [qM 36 3, qM 2 36] false (some [2]))
  .ret)))))
def c75 : EFn := ⟨1, 37, [.tmp 2], c75_b, none, true⟩
theorem c75_l0_w {E : Env} {fin : Kont (PV × St)} {st : List Fw} {ts : Tmps} {S : St} : run E fin st c75_l0 ts S = run E fin (.again c75_l0 :: st) c75_l0_b (sel (some [1, 3, 4]) ts) S := w_loop
theorem c75_l0_a {E : Env} {fin : Kont (PV × St)} {st : List Fw} {ts : Tmps} {S : St} : aft E fin (.again c75_l0 :: st) .normal ts S = run E fin st c75_l0 (sel (some [1, 3, 4]) ts) S := a_again_s
theorem c75_l1_w {E : Env} {fin : Kont (PV × St)} {st : List Fw} {ts : Tmps} {S : St} : run E fin st c75_l1 ts S = run E fin (.again c75_l1 :: st) c75_l1_b (sel (some [1, 3, 5]) ts) S := w_loop
theorem c75_l1_a {E : Env} {fin : Kont (PV × St)} {st : List Fw} {ts : Tmps} {S : St} : aft E fin (.again c75_l1 :: st) .normal ts S = run E fin st c75_l1 (sel (some [1, 3, 5]) ts) S := a_again_s
theorem c75_ok : cFn Tryz.prog Tryz.f75 = some c75.strip := by kernel_rfl
-- limbeck/limbeckref14.Depth
def c76_l0_b : EC := (.seq (.seq (.reg 3 [qM 6 4, qA 7 4 1, qL 8 7, qI 9 (.len false (qt 8)), qI 10 (.bin .lss (qt 6) (qt 9))] false (some [1, 3, 4, 10]))
  (.cond (qt 10) .skip (.exit 0)))
  (.seq (.block 1 (.reg 5 [qM 13 3, qA 14 4 1, qL 15 14, qM 16 4, qI 17 (.ixL 5 (qt 15) (qt 16)), qD 18 5 17, qI 19 (.call (qF 78) [(qt 18)]), qI 20 (.mx false (qt 13) (qt 19)),
  qM 3 20] false (some [1, 3, 4])))
  (.reg 4 [qM 11 4, qI 12 (.bin .add (qt 11) (qN 1)), qM 4 12] false (some [1, 3, 4]))))
def c76_l0 : EC := .loop (some [1, 3, 4]) c76_l0_b
def c76_l1_b : EC := (.seq (.seq (.reg 7 [qM 21 5, qA 22 6 1, qL 23 22, qI 24 (.len false (qt 23)), qI 25 (.bin .lss (qt 21) (qt 24))] false (some [1, 3, 5, 25]))
  (.cond (qt 25) .skip (.exit 2)))
  (.seq (.block 3 (.reg 9 [qM 28 3, qA 29 6 1, qL 30 29, qM 31 5, qI 32 (.ixL 7 (qt 30) (qt 31)), qD 33 7 32, qI 34 (.call (qF 76) [(qt 33)]), qI 35 (.mx false (qt 28) (qt 34)),
  qM 3 35] false (some [1, 3, 5])))
  (.reg 8 [qM 26 5, qI 27 (.bin .add (qt 26) (qN 1)), qM 5 27] false (some [1, 3, 5]))))
def c76_l1 : EC := .loop (some [1, 3, 5]) c76_l1_b
def c76_b : EC := (.seq (.reg 0 [qI 1 (.boxI 26 (qt 0)), qI 2 (.mv (qN 0))] false (some [1]))
  (.seq (.reg 1 [qI 3 (.mv (qN 0))] false (some [1, 3]))
  (.seq (.seq (.reg 2 [qI 4 (.mv (qN 0))] false (some [1, 3, 4]))
  (.block 0 c76_l0))
  (.seq (.seq (.reg 6 [qI 5 (.mv (qN 0))] false (some [1, 3, 5]))
  (.block 2 c76_l1))
  (.seq (.reg 10 [qM 36 3, qI 37 (.bin .add (qt 36) (qN 1)), qM 2 37] false (some [2]))
  .ret)))))
def c76 : EFn := ⟨1, 38, [.tmp 2], c76_b, none, true⟩
theorem c76_l0_w {E : Env} {fin : Kont (PV × St)} {st : List Fw} {ts : Tmps} {S : St} : run E fin st c76_l0 ts S = run E fin (.again c76_l0 :: st) c76_l0_b (sel (some [1, 3, 4]) ts) S := w_loop
theorem c76_l0_a {E : Env} {fin : Kont (PV × St)} {st : List Fw} {ts : Tmps} {S : St} : aft E fin (.again c76_l0 :: st) .normal ts S = run E fin st c76_l0 (sel (some [1, 3, 4]) ts) S := a_again_s
theorem c76_l1_w {E : Env} {fin : Kont (PV × St)} {st : List Fw} {ts : Tmps} {S : St} : run E fin st c76_l1 ts S = run E fin (.again c76_l1 :: st) c76_l1_b (sel (some [1, 3, 5]) ts) S := w_loop
theorem c76_l1_a {E : Env} {fin : Kont (PV × St)} {st : List Fw} {ts : Tmps} {S : St} : aft E fin (.again c76_l1 :: st) .normal ts S = run E fin st c76_l1 (sel (some [1, 3, 5]) ts) S := a_again_s
theorem c76_ok : cFn Tryz.prog Tryz.f76 = some c76.strip := by kernel_rfl
-- limbeck/limbeckref04.Nodes
def c77_l0_b : EC := (.seq (.seq (.reg 3 [qM 5 4, qA 6 4 1, qL 7 6, qI 8 (.len false (qt 7)), qI 9 (.bin .lss (qt 5) (qt 8))] false (some [1, 3, 4, 9]))
  (.cond (qt 9) .skip (.exit 0)))
  (.seq (.block 1 (.reg 5 [qM 12 3, qA 13 4 1, qL 14 13, qM 15 4, qI 16 (.ixL 5 (qt 14) (qt 15)), qD 17 5 16, qI 18 (.call (qF 77) [(qt 17)]), qI 19 (.bin .add (qt 12) (qt 18)),
  qM 3 19] false (some [1, 3, 4])))
  (.reg 4 [qM 10 4, qI 11 (.bin .add (qt 10) (qN 1)), qM 4 11] false (some [1, 3, 4]))))
def c77_l0 : EC := .loop (some [1, 3, 4]) c77_l0_b
def c77_b : EC := (.seq (.reg 0 [qI 1 (.boxI 34 (qt 0)), qI 2 (.mv (qN 0))] false (some [1]))
  (.seq (.reg 1 [qI 3 (.mv (qN 1))] false (some [1, 3]))
  (.seq (.seq (.reg 2 [qI 4 (.mv (qN 0))] false (some [1, 3, 4]))
  (.block 0 c77_l0))
  (.seq (.reg 6 [qM 20 3, qM 2 20] false (some [2]))
  .ret))))
def c77 : EFn := ⟨1, 21, [.tmp 2], c77_b, none, true⟩
theorem c77_l0_w {E : Env} {fin : Kont (PV × St)} {st : List Fw} {ts : Tmps} {S : St} : run E fin st c77_l0 ts S = run E fin (.again c77_l0 :: st) c77_l0_b (sel (some [1, 3, 4]) ts) S := w_loop
theorem c77_l0_a {E : Env} {fin : Kont (PV × St)} {st : List Fw} {ts : Tmps} {S : St} : aft E fin (.again c77_l0 :: st) .normal ts S = run E fin st c77_l0 (sel (some [1, 3, 4]) ts) S := a_again_s
theorem c77_ok : cFn Tryz.prog Tryz.f77 = some c77.strip := by kernel_rfl
-- limbeck/limbeckref04.Depth
def c78_l0_b : EC := (.seq (.seq (.reg 3 [qM 5 4, qA 6 4 1, qL 7 6, qI 8 (.len false (qt 7)), qI 9 (.bin .lss (qt 5) (qt 8))] false (some [1, 3, 4, 9]))
  (.cond (qt 9) .skip (.exit 0)))
  (.seq (.block 1 (.reg 5 [qM 12 3, qA 13 4 1, qL 14 13, qM 15 4, qI 16 (.ixL 5 (qt 14) (qt 15)), qD 17 5 16, qI 18 (.call (qF 78) [(qt 17)]), qI 19 (.mx false (qt 12) (qt 18)),
  qM 3 19] false (some [1, 3, 4])))
  (.reg 4 [qM 10 4, qI 11 (.bin .add (qt 10) (qN 1)), qM 4 11] false (some [1, 3, 4]))))
def c78_l0 : EC := .loop (some [1, 3, 4]) c78_l0_b
def c78_b : EC := (.seq (.reg 0 [qI 1 (.boxI 34 (qt 0)), qI 2 (.mv (qN 0))] false (some [1]))
  (.seq (.reg 1 [qI 3 (.mv (qN 0))] false (some [1, 3]))
  (.seq (.seq (.reg 2 [qI 4 (.mv (qN 0))] false (some [1, 3, 4]))
  (.block 0 c78_l0))
  (.seq (.reg 6 [qM 20 3, qI 21 (.bin .add (qt 20) (qN 1)), qM 2 21] false (some [2]))
  .ret))))
def c78 : EFn := ⟨1, 22, [.tmp 2], c78_b, none, true⟩
theorem c78_l0_w {E : Env} {fin : Kont (PV × St)} {st : List Fw} {ts : Tmps} {S : St} : run E fin st c78_l0 ts S = run E fin (.again c78_l0 :: st) c78_l0_b (sel (some [1, 3, 4]) ts) S := w_loop
theorem c78_l0_a {E : Env} {fin : Kont (PV × St)} {st : List Fw} {ts : Tmps} {S : St} : aft E fin (.again c78_l0 :: st) .normal ts S = run E fin st c78_l0 (sel (some [1, 3, 4]) ts) S := a_again_s
theorem c78_ok : cFn Tryz.prog Tryz.f78 = some c78.strip := by kernel_rfl
-- limbeck/limbeckref01.Rising
def c81_r4 : List EI := [⟨some 10, .mv (qt 0), none, ⟨.no, false⟩⟩, qM 11 3, qI 12 (.ixL 1 (qt 10) (qt 11)), qL 13 12, qI 14 (.call (qF 69) [(qt 13)]),
  qI 15 (.un .not (qt 14)), qM 16 15, qJ 17 (.mv (qt 3)) 16 false, qJ 18 (.bin .gtr (qt 17) (qN 0)) 16 false, qJ 19 (.mv (qt 18)) 16 false,
  ⟨some 20, .mv (qt 0), some (19, true), ⟨.no, false⟩⟩,
  ⟨some 21, .mv (qt 3), some (19, true), ⟨.no, false⟩⟩,
  ⟨some 22, .bin .sub (qt 21) (qN 1), some (19, true), ⟨.no, false⟩⟩,
  ⟨some 23, .ixL 1 (qt 20) (qt 22), some (19, true), ⟨.no, false⟩⟩,
  ⟨some 24, .ld none (qt 23), some (19, true), ⟨.still, false⟩⟩,
  ⟨some 25, .mv (qt 0), some (19, true), ⟨.no, false⟩⟩, qJ 26 (.mv (qt 3)) 19 true, qJ 27 (.ixL 1 (qt 25) (qt 26)) 19 true,
  ⟨some 28, .ld none (qt 27), some (19, true), Q1⟩, qJ 29 (.bin .geq (qt 24) (qt 28)) 19 true, qJ 30 (.pick (qt 19) (qt 29) (.con (.bool false))) 16 false,
  qI 31 (.pick (qt 16) (.con (.bool true)) (qt 30))]
def c81_l0_b : EC := (.seq (.seq (.reg 2 [qM 4 3, qM 5 0, qI 6 (.len false (qt 5)), qI 7 (.bin .lss (qt 4) (qt 6))] false (some [0, 3, 7]))
  (.cond (qt 7) .skip (.exit 0)))
  (.seq (.block 1 (.seq (.reg 4 c81_r4 true (some [0, 3, 31]))
  (.cond (qt 31) (.seq (.reg 5 [qI 2 (.mv (.con (.bool false)))] false (some [2]))
  .ret) .skip)))
  (.reg 3 [qM 8 3, qI 9 (.bin .add (qt 8) (qN 1)), qM 3 9] false (some [0, 3]))))
def c81_l0 : EC := .loop (some [0, 3]) c81_l0_b
def c81_b : EC := (.seq (.reg 0 [qI 2 (.mv (.con (.bool false)))] false (some [0]))
  (.seq (.seq (.reg 1 [qI 3 (.mv (qN 0))] false (some [0, 3]))
  (.block 0 c81_l0))
  (.seq (.reg 6 [qI 2 (.mv (.con (.bool true)))] false (some [2]))
  .ret)))
def c81 : EFn := ⟨1, 32, [.tmp 2], c81_b, none, true⟩
theorem c81_l0_step {E : Env} {fin : Kont (PV × St)} {st : List Fr} {ts : Tmps} {S : St} {n : Nat} : (lvl E (n + 1)).ev c81_l0 ts S (kont E fin st) = (lvl E (n + 1)).ev c81_l0_b (sel (some [0, 3]) ts) S (kont E fin (.again n c81_l0 :: st)) := rfl
theorem c81_l0_w {E : Env} {fin : Kont (PV × St)} {st : List Fw} {ts : Tmps} {S : St} : run E fin st c81_l0 ts S = run E fin (.again c81_l0 :: st) c81_l0_b (sel (some [0, 3]) ts) S := w_loop
theorem c81_l0_a {E : Env} {fin : Kont (PV × St)} {st : List Fw} {ts : Tmps} {S : St} : aft E fin (.again c81_l0 :: st) .normal ts S = run E fin st c81_l0 (sel (some [0, 3]) ts) S := a_again_s
theorem c81_ok : cFn Tryz.prog Tryz.f81 = some c81.strip := by kernel_rfl
-- limbeck/limbeckref14.shape
def c82_b : EC := (.seq (.reg 0 [qI 1 (.boxI 26 (qt 0)), qI 2 (.mv (qN 0)), qI 3 (.mv (qN 0)), qI 4 (.mv (qN 0)), qI 5 (.mv (qN 0))] false (some [1]))
  (.seq (.seq (.reg 1 [qA 6 0 1, qL 7 6] false (some [1, 7]))
  (.block 0 (.seq (.reg 2 [qI 9 (.bin .eql (qt 7) (qN 5)), qM 8 9] false (some [1, 7, 8]))
  (.cond (qt 8) (.seq (.reg 3 [qI 2 (.mv (qN 0)), qI 3 (.mv (qN 1)), qI 4 (.mv (qN 2)), qI 5 (.mv (qN 2))] false (some [2, 3, 4, 5]))
  .ret) (.seq (.reg 4 [qI 11 (.bin .eql (qt 7) (qN 6)), qM 10 11] false (some [1, 7, 10]))
  (.cond (qt 10) (.seq (.reg 5 [qI 2 (.mv (qN 0)), qI 3 (.mv (qN 0)), qI 4 (.mv (qN 3)), qI 5 (.mv (qN 3))] false (some [2, 3, 4, 5]))
  .ret) (.seq (.reg 6 [qI 13 (.bin .eql (qt 7) (qN 7)), qM 12 13] false (some [1, 7, 12]))
  (.cond (qt 12) (.seq (.reg 7 [qI 2 (.mv (qN 0)), qI 3 (.mv (qN 1)), qI 4 (.mv (qN 1)), qI 5 (.mv (qN 1))] false (some [2, 3, 4, 5]))
  .ret) (.seq (.seq (.reg 8 [qI 15 (.bin .eql (qt 7) (qN 8)), qM 14 15] false (some [1, 7, 14]))
  (.cond (qt 14) .skip (.reg 9 [qI 16 (.bin .eql (qt 7) (qN 11)), qM 14 16] false (some [1, 7, 14]))))
  (.cond (qt 14) (.seq (.reg 10 [qI 2 (.mv (qN 0)), qI 3 (.mv (qN 0)), qI 4 (.mv (qN 2)), qI 5 (.mv (qN 2))] false (some [2, 3, 4, 5]))
  .ret) (.seq (.reg 11 [qI 18 (.bin .eql (qt 7) (qN 9)), qM 17 18] false (some [1, 7, 17]))
  (.cond (qt 17) (.seq (.reg 12 [⟨some 19, .fA 5 (qt 1), none, ⟨.no, false⟩⟩,
  ⟨some 20, .ld none (qt 19), none, ⟨.still, false⟩⟩,
  ⟨some 21, .len false (qt 20), none, ⟨.no, false⟩⟩,
  ⟨some 22, .fA 5 (qt 1), none, ⟨.no, false⟩⟩,
  ⟨some 23, .ld none (qt 22), none, ⟨.still, false⟩⟩,
  ⟨some 24, .len false (qt 23), none, ⟨.no, false⟩⟩, qI 2 (.mv (qN 0)), qI 3 (.mv (qN 0)), qM 4 21, qM 5 24] true (some [2, 3, 4, 5]))
  .ret) (.seq (.reg 13 [qI 26 (.bin .eql (qt 7) (qN 10)), qM 25 26] false (some [1, 7, 25]))
  (.cond (qt 25) (.seq (.reg 14 [qI 2 (.mv (qN 0)), qI 3 (.mv (qN 0)), qI 4 (.mv (qN 1)), qI 5 (.mv (qN 1))] false (some [2, 3, 4, 5]))
  .ret) (.seq (.reg 15 [qI 28 (.bin .eql (qt 7) (qN 12)), qM 27 28] false (some [1, 7, 27]))
  (.cond (qt 27) (.seq (.reg 16 [qI 2 (.mv (qN 1)), qI 3 (.mv (qN 1)), qI 4 (.mv (qN 1)), qI 5 (.mv (qN 1))] false (some [2, 3, 4, 5]))
  .ret) (.seq (.reg 17 [qI 30 (.bin .eql (qt 7) (qN 13)), qM 29 30] false (some [1, 29]))
  (.cond (qt 29) (.seq (.seq (.reg 18 [qA 31 3 1, qL 32 31] false (some [32]))
  (.cond (qt 32) (.seq (.reg 19 [qI 2 (.mv (qN 1)), qI 3 (.mv (qN 3)), qI 4 (.mv (qN 0)), qI 5 (.mv (qN 4))] false (some [2, 3, 4, 5]))
  .ret) .skip))
  (.seq (.reg 20 [qI 2 (.mv (qN 0)), qI 3 (.mv (qN 0)), qI 4 (.mv (qN 0)), qI 5 (.mv (qN 4))] false (some [2, 3, 4, 5]))
  .ret)) .skip))))))))))))))))))
  (.seq (.reg 21 [qI 2 (.mv (qN 0)), qI 3 (.mv (qN 0)), qI 4 (.mv (qN 0)), qI 5 (.mv (qN 0))] false (some [2, 3, 4, 5]))
  .ret)))
def c82 : EFn := ⟨1, 33, [.tmp 2, .tmp 3, .tmp 4, .tmp 5], c82_b, none, true⟩
theorem c82_ok : cFn Tryz.prog Tryz.f82 = some c82.strip := by kernel_rfl
-- limbeck/name.Rising
def c83_r4 : List EI := [qM 12 4, qI 13 (.call (qF 58) [(qt 12)]), qI 14 (.un .not (qt 13)), qM 15 14, qJ 16 (.mv (qt 3)) 15 false, qJ 17 (.bin .gtr (qt 16) (qN 0)) 15 false,
  qJ 18 (.mv (qt 17)) 15 false, qJ 19 (.mv (qt 0)) 18 true, qJ 20 (.mv (qt 3)) 18 true, qJ 21 (.bin .sub (qt 20) (qN 1)) 18 true, qJ 22 (.ixL 1 (qt 19) (qt 21)) 18 true,
  qJ 23 (.ld none (qt 22)) 18 true, qJ 24 (.mv (qt 4)) 18 true, qJ 25 (.bin .geq (qt 23) (qt 24)) 18 true, qJ 26 (.pick (qt 18) (qt 25) (.con (.bool false))) 15 false,
  qI 27 (.pick (qt 15) (.con (.bool true)) (qt 26))]
def c83_l0_b : EC := (.seq (.reg 2 [qI 8 (.bin .lss (qt 7) (qt 6))] false (some [0, 5, 6, 7, 8]))
  (.seq (.cond (qt 8) .skip (.exit 0))
  (.seq (.block 1 (.seq (.reg 3 [qM 9 7, qI 10 (.ixL 1 (qt 5) (qt 7)), qL 11 10, qM 3 9, qM 4 11] false (some [0, 3, 4, 5, 6, 7]))
  (.seq (.reg 4 c83_r4 false (some [0, 5, 6, 7, 27]))
  (.cond (qt 27) (.seq (.reg 5 [qI 2 (.mv (.con (.bool false)))] false (some [2]))
  .ret) .skip))))
  (.reg 6 [qI 28 (.bin .add (qt 7) (qN 1)), qM 7 28] false (some [0, 5, 6, 7])))))
def c83_l0 : EC := .loop (some [0, 5, 6, 7]) c83_l0_b
def c83_b : EC := (.seq (.reg 0 [qI 2 (.mv (.con (.bool false)))] false (some [0]))
  (.seq (.seq (.reg 1 [qM 5 0, qI 6 (.len false (qt 5)), qI 7 (.mv (qN 0))] false (some [0, 5, 6, 7]))
  (.block 0 c83_l0))
  (.seq (.reg 7 [qI 2 (.mv (.con (.bool true)))] false (some [2]))
  .ret)))
def c83 : EFn := ⟨1, 29, [.tmp 2], c83_b, none, true⟩
theorem c83_l0_w {E : Env} {fin : Kont (PV × St)} {st : List Fw} {ts : Tmps} {S : St} : run E fin st c83_l0 ts S = run E fin (.again c83_l0 :: st) c83_l0_b (sel (some [0, 5, 6, 7]) ts) S := w_loop
theorem c83_l0_a {E : Env} {fin : Kont (PV × St)} {st : List Fw} {ts : Tmps} {S : St} : aft E fin (.again c83_l0 :: st) .normal ts S = run E fin st c83_l0 (sel (some [0, 5, 6, 7]) ts) S := a_again_s
theorem c83_ok : cFn Tryz.prog Tryz.f83 = some c83.strip := by kernel_rfl
-- slices.ContainsFunc[[]limbeck/api.Ty,limbeck/api.Ty]
def c84_b : EC := (.seq (.reg 0 [qI 4 (.mv (.con (.bool false)))] false (some [0, 1]))
  (.seq (.reg 1 [qM 5 0, qM 6 1, qI 7 (.call (qF 114) [(qt 5), (qt 6)]), qI 8 (.bin .geq (qt 7) (qN 0)), qM 4 8] false (some [4]))
  .ret))
def c84 : EFn := ⟨2, 9, [.tmp 4], c84_b, none, true⟩
theorem c84_ok : cFn Tryz.prog Tryz.f84 = some c84.strip := by kernel_rfl
-- limbeck/exp.all[limbeck/api.Ty]$1
def c85_b : EC := (.seq (.reg 0 [qI 2 (.boxI 34 (qt 0)), qI 3 (.mv (.con (.bool false)))] false (some [1, 2]))
  (.seq (.reg 1 [qL 4 1, qD 5 5 2, qI 6 (.call (qt 4) [(qt 5)]), qI 7 (.un .not (qt 6)), qM 3 7] false (some [3]))
  .ret))
def c85 : EFn := ⟨2, 8, [.tmp 3], c85_b, none, true⟩
theorem c85_ok : cFn Tryz.prog Tryz.f85 = some c85.strip := by kernel_rfl
-- limbeck/ty.Has
def c86_f0_a : EC := (.reg 2 [qI 5 (.new 34 qz2),
  ⟨none, .st 5 (qt 5) (qt 8), none, Q0⟩] false (some [3, 4, 5]))
def c86_f0_b : EC := (.block 1 (.seq (.reg 3 [qA 9 0 5, qL 10 9, qL 11 3, qI 12 (.bin .eql (qt 10) (qt 11))] false (some [4, 12]))
  (.cond (qt 12) (.seq (.reg 4 [⟨none, .st 1 (qt 4) (.con (.bool true)), none, Q0⟩] false (some []))
  .ret) .skip)))
def c86_b : EC := (.seq (.reg 0 [qI 2 (.boxI 34 (qt 0)), qI 3 (.boxI 3 (qt 1)), qI 4 (.new 4 [(.bool false)])] false (some [2, 3, 4]))
  (.seq (.seq (.reg 1 [qD 6 5 2, qI 7 (.call (qF 115) [(qt 6)])] false (some [3, 4, 7]))
  (.block 0 (.rangeF (some [3, 4]) (qt 7) [8] c86_f0_a c86_f0_b)))
  (.seq (.reg 5 [⟨none, .st 1 (qt 4) (.con (.bool false)), none, Q0⟩] false (some [4]))
  .ret)))
def c86 : EFn := ⟨2, 13, [.cell 4 none], c86_b, none, true⟩
theorem c86_ok : cFn Tryz.prog Tryz.f86 = some c86.strip := by kernel_rfl
-- slices.ContainsFunc[[]limbeck/api.Exp,limbeck/api.Exp]
def c87_b : EC := (.seq (.reg 0 [qI 4 (.mv (.con (.bool false)))] false (some [0, 1]))
  (.seq (.reg 1 [qM 5 0, qM 6 1, qI 7 (.call (qF 116) [(qt 5), (qt 6)]), qI 8 (.bin .geq (qt 7) (qN 0)), qM 4 8] false (some [4]))
  .ret))
def c87 : EFn := ⟨2, 9, [.tmp 4], c87_b, none, true⟩
theorem c87_ok : cFn Tryz.prog Tryz.f87 = some c87.strip := by kernel_rfl
-- limbeck/exp.all[limbeck/api.Exp]$1
def c88_b : EC := (.seq (.reg 0 [qI 2 (.boxI 26 (qt 0)), qI 3 (.mv (.con (.bool false)))] false (some [1, 2]))
  (.seq (.reg 1 [qL 4 1, qD 5 7 2, qI 6 (.call (qt 4) [(qt 5)]), qI 7 (.un .not (qt 6)), qM 3 7] false (some [3]))
  .ret))
def c88 : EFn := ⟨2, 8, [.tmp 3], c88_b, none, true⟩
theorem c88_ok : cFn Tryz.prog Tryz.f88 = some c88.strip := by kernel_rfl
-- limbeck/expfmt.tight
def c89_b : EC := (.seq (.reg 0 [qI 1 (.boxI 26 (qt 0)), qI 2 (.mv (qN 0))] false (some [1]))
  (.seq (.seq (.reg 1 [qA 3 0 1, qL 4 3] false (some [1, 4]))
  (.block 0 (.seq (.block 4 (.seq (.block 3 (.seq (.block 2 (.block 1 (.seq (.seq (.seq (.seq (.reg 2 [qI 6 (.bin .eql (qt 4) (qN 5)), qM 5 6] false (some [1, 4, 5]))
  (.cond (qt 5) .skip (.reg 3 [qI 7 (.bin .eql (qt 4) (qN 6)), qM 5 7] false (some [1, 4, 5]))))
  (.cond (qt 5) (.exit 1) .skip))
  (.seq (.seq (.reg 4 [qI 9 (.bin .eql (qt 4) (qN 7)), qM 8 9] false (some [1, 4, 8]))
  (.cond (qt 8) (.exit 2) .skip))
  (.seq (.seq (.reg 5 [qI 11 (.bin .eql (qt 4) (qN 11)), qM 10 11] false (some [1, 4, 10]))
  (.cond (qt 10) (.exit 3) .skip))
  (.seq (.seq (.reg 6 [qI 13 (.bin .eql (qt 4) (qN 8)), qM 12 13] false (some [4, 12]))
  (.cond (qt 12) .skip (.reg 7 [qI 14 (.bin .eql (qt 4) (qN 10)), qM 12 14] false (some [12]))))
  (.cond (qt 12) (.exit 4) .skip)))))
  (.exit 0))))
  (.seq (.seq (.reg 8 [qI 2 (.mv (qN 0))] false (some [2]))
  .ret)
  (.exit 0))))
  (.seq (.seq (.seq (.reg 9 [qA 15 1 1, qL 16 15] false (some [16]))
  (.block 5 (.seq (.seq (.reg 10 [qI 18 (.bin .eql (qt 16) (qN 6)), qM 17 18] false (some [16, 17]))
  (.cond (qt 17) .skip (.reg 11 [qI 19 (.bin .eql (qt 16) (qN 7)), qM 17 19] false (some [16, 17]))))
  (.cond (qt 17) (.seq (.reg 12 [qI 2 (.mv (qN 1))] false (some [2]))
  .ret) (.seq (.seq (.reg 13 [qI 21 (.bin .eql (qt 16) (qN 3)), qM 20 21] false (some [16, 20]))
  (.cond (qt 20) .skip (.reg 14 [qI 22 (.bin .eql (qt 16) (qN 4)), qM 20 22] false (some [20]))))
  (.cond (qt 20) (.seq (.reg 15 [qI 2 (.mv (qN 3))] false (some [2]))
  .ret) .skip))))))
  (.seq (.reg 16 [qI 2 (.mv (qN 2))] false (some [2]))
  .ret))
  (.exit 0))))
  (.seq (.seq (.reg 17 [qI 2 (.mv (qN 4))] false (some [2]))
  .ret)
  (.exit 0)))))
  (.seq (.reg 18 [qI 2 (.mv (qN 5))] false (some [2]))
  .ret)))
def c89 : EFn := ⟨1, 23, [.tmp 2], c89_b, none, true⟩
theorem c89_ok : cFn Tryz.prog Tryz.f89 = some c89.strip := by kernel_rfl
-- limbeck/tyfmt.List
def c91_b : EC := (.seq (.reg 0 [qI 2 (.mv (.con (.str ⟨#[]⟩)))] false (some [0]))
  (.seq (.reg 1 [qM 3 0, qI 4 (.call (qF 109) [(qt 3), (qF 118)]), qM 2 4] false (some [2]))
  .ret))
def c91 : EFn := ⟨1, 5, [.tmp 2], c91_b, none, true⟩
theorem c91_ok : cFn Tryz.prog Tryz.f91 = some c91.strip := by kernel_rfl
-- limbeck/expfmt.call$1
def c92_b : EC := (.seq (.reg 0 [qI 3 (.boxI 26 (qt 1)), qI 4 (.mv (.con (.str ⟨#[]⟩)))] false (some [3]))
  (.seq (.regP 1 [qD 5 7 3, qI 6 (.call (qF 23) [(qt 5)]), qM 4 6] false (some [4]))
  .ret))
def c92 : EFn := ⟨2, 7, [.tmp 4], c92_b, none, true⟩
theorem c92_ok : cFn Tryz.prog Tryz.f92 = some c92.strip := by kernel_rfl
-- strconv.FormatBool
def c94_b : EC := (.seq (.reg 0 [qI 2 (.mv (.con (.str ⟨#[]⟩)))] false (some [0]))
  (.seq (.reg 1 [qM 3 0, qI 4 (.call (qF 120) [(qt 3)]), qM 2 4] false (some [2]))
  .ret))
def c94 : EFn := ⟨1, 5, [.tmp 2], c94_b, none, true⟩
theorem c94_ok : cFn Tryz.prog Tryz.f94 = some c94.strip := by kernel_rfl
-- limbeck/lex.Quote
def c95_r7 : List EI := [qM 17 5, qI 18 (.bin .eql (qt 17) (.con (.int .u8 34))), qM 19 18, qJ 20 (.mv (qt 5)) 19 false, qJ 21 (.bin .eql (qt 20) (.con (.int .u8 92))) 19 false,
  qI 22 (.pick (qt 19) (.con (.bool true)) (qt 21)), qM 16 22]
def c95_r12 : List EI := [qM 31 5, qI 32 (.bin .lss (qt 31) (.con (.int .u8 32))), qM 33 32, qJ 34 (.mv (qt 5)) 33 false, qJ 35 (.bin .gtr (qt 34) (.con (.int .u8 126))) 33 false,
  qI 36 (.pick (qt 33) (.con (.bool true)) (qt 35)), qM 30 36]
def c95_l0_b : EC := (.seq (.reg 4 [qI 11 (.bin .lss (qt 10) (qt 9))] false (some [3, 8, 9, 10, 11]))
  (.seq (.cond (qt 11) .skip (.exit 0))
  (.seq (.block 1 (.seq (.reg 5 [qI 12 (.ixL 1 (qt 8) (qt 10)), qL 13 12, qM 5 13] false (some [3, 5, 8, 9, 10]))
  (.block 2 (.seq (.reg 7 c95_r7 false (some [3, 5, 8, 9, 10, 16]))
  (.cond (qt 16) (.seq (.reg 8 [qI 23 (.call (qF 121) [(qt 3), (.con (.int .u8 92))])] false (some [3, 5, 8, 9, 10]))
  (.reg 9 [qM 24 5, qI 25 (.call (qF 121) [(qt 3), (qt 24)])] false (some [3, 8, 9, 10]))) (.seq (.reg 10 [qM 27 5, qI 28 (.bin .eql (qt 27) (.con (.int .u8 10))),
  qM 26 28] false (some [3, 5, 8, 9, 10, 26]))
  (.cond (qt 26) (.reg 11 [qI 29 (.call (qF 104) [(qt 3), (.con (.str ⟨#[92, 110]⟩))])] false (some [3, 8, 9, 10])) (.seq (.reg 12 c95_r12 false (some [3, 5, 8, 9, 10, 30]))
  (.cond (qt 30) (.seq (.reg 13 [qI 37 (.call (qF 104) [(qt 3), (.con (.str ⟨#[92, 120]⟩))])] false (some [3, 5, 8, 9, 10]))
  (.seq (.reg 14 [qM 38 5, qI 39 (.bin .shr (qt 38) (.con (.int .u64 4))), qI 40 (.ixS (.con (.str ⟨#[48, 49, 50, 51, 52, 53, 54, 55, 56, 57, 97, 98, 99, 100, 101, 102]⟩)) (qt 39)),
  qI 41 (.call (qF 121) [(qt 3), (qt 40)])] false (some [3, 5, 8, 9, 10]))
  (.reg 15 [qM 42 5, qI 43 (.bin .and (qt 42) (.con (.int .u8 15))), qI 44 (.ixS (.con (.str ⟨#[48, 49, 50, 51, 52, 53, 54, 55, 56, 57, 97, 98, 99, 100, 101, 102]⟩)) (qt 43)),
  qI 45 (.call (qF 121) [(qt 3), (qt 44)])] false (some [3, 8, 9, 10])))) (.reg 6 [qM 14 5, qI 15 (.call (qF 121) [(qt 3), (qt 14)])] false (some [3, 8, 9, 10])))))))))))
  (.reg 16 [qI 46 (.bin .add (qt 10) (qN 1)), qM 10 46] false (some [3, 8, 9, 10])))))
def c95_l0 : EC := .loop (some [3, 8, 9, 10]) c95_l0_b
def c95_b : EC := (.seq (.reg 0 [qI 2 (.mv (.con (.str ⟨#[]⟩)))] false (some [0]))
  (.seq (.reg 1 [qI 3 (.new 90 [.nilp, (.sl .null [])])] false (some [0, 3]))
  (.seq (.reg 2 [qI 6 (.call (qF 121) [(qt 3), (.con (.int .u8 34))])] false (some [0, 3]))
  (.seq (.seq (.reg 3 [qM 7 0, qI 8 (.s2b (qt 7)), qI 9 (.len false (qt 8)), qI 10 (.mv (qN 0))] false (some [3, 8, 9, 10]))
  (.block 0 c95_l0))
  (.seq (.reg 17 [qI 47 (.call (qF 121) [(qt 3), (.con (.int .u8 34))])] false (some [3]))
  (.seq (.reg 18 [qI 48 (.call (qF 105) [(qt 3)]), qM 2 48] false (some [2]))
  .ret))))))
def c95 : EFn := ⟨1, 49, [.tmp 2], c95_b, none, true⟩
theorem c95_l0_step {E : Env} {fin : Kont (PV × St)} {st : List Fr} {ts : Tmps} {S : St} {n : Nat} : (lvl E (n + 1)).ev c95_l0 ts S (kont E fin st) = (lvl E (n + 1)).ev c95_l0_b (sel (some [3, 8, 9, 10]) ts) S (kont E fin (.again n c95_l0 :: st)) := rfl
theorem c95_l0_w {E : Env} {fin : Kont (PV × St)} {st : List Fw} {ts : Tmps} {S : St} : run E fin st c95_l0 ts S = run E fin (.again c95_l0 :: st) c95_l0_b (sel (some [3, 8, 9, 10]) ts) S := w_loop
theorem c95_l0_a {E : Env} {fin : Kont (PV × St)} {st : List Fw} {ts : Tmps} {S : St} : aft E fin (.again c95_l0 :: st) .normal ts S = run E fin st c95_l0 (sel (some [3, 8, 9, 10]) ts) S := a_again_s
theorem c95_ok : cFn Tryz.prog Tryz.f95 = some c95.strip := by kernel_rfl
-- limbeck/limbeckref03.digit
def c96_b : EC := (.seq (.reg 0 [qI 2 (.mv (.con (.int .u8 0)))] false (some [0]))
  (.seq (.seq (.reg 1 [qM 3 0, qI 4 (.bin .lss (qt 3) (.con (.int .u8 10)))] false (some [0, 4]))
  (.cond (qt 4) (.seq (.reg 2 [qM 5 0, qI 6 (.bin .add (.con (.int .u8 48)) (qt 5)), qM 2 6] false (some [2]))
  .ret) .skip))
  (.seq (.reg 3 [qM 7 0, qI 8 (.bin .add (.con (.int .u8 97)) (qt 7)), qI 9 (.bin .sub (qt 8) (.con (.int .u8 10))), qM 2 9] false (some [2]))
  .ret)))
def c96 : EFn := ⟨1, 10, [.tmp 2], c96_b, none, true⟩
theorem c96_ok : cFn Tryz.prog Tryz.f96 = some c96.strip := by kernel_rfl
-- limbeck/limbeckref15.tight
def c97_r1 : List EI := [qA 3 0 1, qL 4 3, qI 5 (.bin .eql (qt 4) (qN 5)), qM 6 5, qJ 7 (.fA 0 (qt 1)) 6 false, qJ 8 (.ld none (qt 7)) 6 false, qJ 9 (.bin .eql (qt 8) (qN 6)) 6 false,
  qI 10 (.pick (qt 6) (.con (.bool true)) (qt 9)), qM 11 10, qJ 12 (.fA 0 (qt 1)) 11 false, qJ 13 (.ld none (qt 12)) 11 false, qJ 14 (.bin .eql (qt 13) (qN 7)) 11 false,
  qI 15 (.pick (qt 11) (.con (.bool true)) (qt 14))]
def c97_r5 : List EI := [qA 22 0 1, qL 23 22, qI 24 (.bin .eql (qt 23) (qN 8)), qM 25 24, qJ 26 (.fA 0 (qt 1)) 25 false, qJ 27 (.ld none (qt 26)) 25 false,
  qJ 28 (.bin .eql (qt 27) (qN 10)) 25 false, qI 29 (.pick (qt 25) (.con (.bool true)) (qt 28))]
def c97_b : EC := (.seq (.reg 0 [qI 1 (.boxI 26 (qt 0)), qI 2 (.mv (qN 0))] false (some [1]))
  (.seq (.seq (.reg 1 c97_r1 false (some [1, 15]))
  (.cond (qt 15) (.seq (.reg 2 [qI 2 (.mv (qN 0))] false (some [2]))
  .ret) .skip))
  (.seq (.seq (.reg 3 [qA 16 0 1, qL 17 16, qI 18 (.bin .eql (qt 17) (qN 11))] false (some [1, 18]))
  (.cond (qt 18) (.seq (.reg 4 [qA 19 1 1, qL 20 19, qI 21 (.call (qF 98) [(qt 20)]), qM 2 21] false (some [2]))
  .ret) .skip))
  (.seq (.seq (.reg 5 c97_r5 false (some [29]))
  (.cond (qt 29) (.seq (.reg 6 [qI 2 (.mv (qN 4))] false (some [2]))
  .ret) .skip))
  (.seq (.reg 7 [qI 2 (.mv (qN 5))] false (some [2]))
  .ret)))))
def c97 : EFn := ⟨1, 30, [.tmp 2], c97_b, none, true⟩
theorem c97_ok : cFn Tryz.prog Tryz.f97 = some c97.strip := by kernel_rfl
-- limbeck/limbeckref15.Tight
def c98_r1 : List EI := [qM 3 0, qI 4 (.bin .eql (qt 3) (qN 6)), qM 5 4, qJ 6 (.mv (qt 0)) 5 false, qJ 7 (.bin .eql (qt 6) (qN 7)) 5 false, qI 8 (.pick (qt 5) (.con (.bool true)) (qt 7))]
def c98_r3 : List EI := [qM 9 0, qI 10 (.bin .eql (qt 9) (qN 3)), qM 11 10, qJ 12 (.mv (qt 0)) 11 false, qJ 13 (.bin .eql (qt 12) (qN 4)) 11 false, qI 14 (.pick (qt 11) (.con (.bool true)) (qt 13))]
def c98_b : EC := (.seq (.reg 0 [qI 2 (.mv (qN 0))] false (some [0]))
  (.seq (.seq (.reg 1 c98_r1 false (some [0, 8]))
  (.cond (qt 8) (.seq (.reg 2 [qI 2 (.mv (qN 1))] false (some [2]))
  .ret) .skip))
  (.seq (.seq (.reg 3 c98_r3 false (some [14]))
  (.cond (qt 14) (.seq (.reg 4 [qI 2 (.mv (qN 3))] false (some [2]))
  .ret) .skip))
  (.seq (.reg 5 [qI 2 (.mv (qN 2))] false (some [2]))
  .ret))))
def c98 : EFn := ⟨1, 15, [.tmp 2], c98_b, none, true⟩
theorem c98_ok : cFn Tryz.prog Tryz.f98 = some c98.strip := by kernel_rfl
end Go.PE
