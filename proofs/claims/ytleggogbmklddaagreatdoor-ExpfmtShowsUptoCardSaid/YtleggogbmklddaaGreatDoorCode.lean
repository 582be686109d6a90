/-
  The functions of this seat, as the evaluator's code (printed by a program out of the translation), and that each is what the compiler makes of it. No conditions.
-/
import Derived.Test.YtleggogbmklddaaGreatDoorPE21
import Derived.Test.YtleggogbmklddaaGreatDoorProg
import Derived.KernelRfl
namespace Go.PE
open Go Go.Proofs
set_option linter.unusedVariables false
set_option maxRecDepth 100000
-- limbeck/limbecklaw15.ExpfmtShows
def c3_r3 : List EI := [⟨some 9, .ld (some 7) (.tmp 2), none, ⟨.lds [(some 7, (.tmp 2))], false⟩⟩,
  ⟨some 10, .call (.con (.fn 8 [] [])) [(.tmp 9)], none, ⟨.lds [(some 7, (.tmp 2))], false⟩⟩,
  ⟨some 11, .ld (some 7) (.tmp 2), none, Q1⟩,
  ⟨some 12, .call (.con (.fn 9 [] [])) [(.tmp 11)], none, Q0⟩,
  ⟨some 13, .bin .eql (.tmp 10) (.tmp 12), none, Q0⟩,
  ⟨some 14, .mv (.tmp 13), none, Q0⟩,
  ⟨some 15, .mv (.tmp 1), some (14, true), ⟨.no, false⟩⟩,
  ⟨some 16, .call (.con (.fn 10 [] [])) [(.tmp 15)], some (14, true), ⟨.no, false⟩⟩,
  ⟨some 17, .mv (.tmp 1), some (14, true), Q0⟩,
  ⟨some 18, .call (.con (.fn 11 [] [])) [(.tmp 17)], some (14, true), Q0⟩,
  ⟨some 19, .bin .eql (.tmp 16) (.tmp 18), some (14, true), Q0⟩,
  ⟨some 20, .pick (.tmp 14) (.tmp 19) (.con (.bool false)), none, Q0⟩,
  ⟨some 21, .mv (.tmp 20), none, Q0⟩,
  ⟨some 22, .call (.con (.fn 7 [] [])) [], some (21, true), Q0⟩,
  ⟨some 23, .pick (.tmp 21) (.tmp 22) (.con (.bool false)), none, Q0⟩,
  ⟨some 4, .mv (.tmp 23), none, Q0⟩]
def c3_b : EC := (.seq (.reg 0 [⟨some 2, .boxI 26 (.tmp 0), none, Q0⟩,
  ⟨some 4, .mv (.con (.bool false)), none, Q0⟩] false (some [1, 2]))
  (.seq (.seq (.reg 1 [⟨some 5, .ld (some 7) (.tmp 2), none, Q0⟩,
  ⟨some 6, .call (.con (.fn 6 [] [])) [(.tmp 5)], none, Q0⟩,
  ⟨some 7, .bin .gtr (.tmp 6) (.con (.int .i64 600)), none, Q0⟩] false (some [1, 2, 7]))
  (.cond (.tmp 7) (.seq (.regP 2 [⟨some 8, .call (.con (.fn 7 [] [])) [], none, Q0⟩,
  ⟨some 4, .mv (.tmp 8), none, Q0⟩] false (some [4]))
  .ret) .skip))
  (.seq (.regP 3 c3_r3 true (some [4]))
  .ret)))
def c3 : EFn := ⟨2, 24, [.tmp 4], c3_b, none, true⟩
theorem c3_ok : cFn Tryz.prog Tryz.f3 = some c3.strip := by kernel_rfl
-- limbeck/limbecklaw14.Much
def c6_r3 : List EI := [⟨some 16, .mv (.tmp 4), none, Q0⟩,
  ⟨some 17, .fA 5 (.tmp 1), none, Q0⟩,
  ⟨some 18, .ld none (.tmp 17), none, Q0⟩,
  ⟨some 19, .len false (.tmp 18), none, Q0⟩,
  ⟨some 20, .bin .lss (.tmp 16) (.tmp 19), none, Q0⟩,
  ⟨some 21, .mv (.tmp 20), none, Q0⟩,
  ⟨some 22, .mv (.tmp 4), some (21, true), Q0⟩,
  ⟨some 23, .bin .lss (.tmp 22) (.con (.int .i64 1000)), some (21, true), Q0⟩,
  ⟨some 24, .pick (.tmp 21) (.tmp 23) (.con (.bool false)), none, Q0⟩]
def c6_r7 : List EI := [⟨some 36, .mv (.tmp 5), none, Q0⟩,
  ⟨some 37, .fA 4 (.tmp 1), none, Q0⟩,
  ⟨some 38, .ld none (.tmp 37), none, Q0⟩,
  ⟨some 39, .len false (.tmp 38), none, Q0⟩,
  ⟨some 40, .bin .lss (.tmp 36) (.tmp 39), none, Q0⟩,
  ⟨some 41, .mv (.tmp 40), none, Q0⟩,
  ⟨some 42, .mv (.tmp 3), some (41, true), Q0⟩,
  ⟨some 43, .bin .lss (.tmp 42) (.con (.int .i64 3000)), some (41, true), Q0⟩,
  ⟨some 44, .pick (.tmp 41) (.tmp 43) (.con (.bool false)), none, Q0⟩]
def c6_r11 : List EI := [⟨some 55, .mv (.tmp 6), none, Q0⟩,
  ⟨some 56, .fA 6 (.tmp 1), none, Q0⟩,
  ⟨some 57, .ld none (.tmp 56), none, Q0⟩,
  ⟨some 58, .len false (.tmp 57), none, Q0⟩,
  ⟨some 59, .bin .lss (.tmp 55) (.tmp 58), none, Q0⟩,
  ⟨some 60, .mv (.tmp 59), none, Q0⟩,
  ⟨some 61, .mv (.tmp 3), some (60, true), Q0⟩,
  ⟨some 62, .bin .lss (.tmp 61) (.con (.int .i64 3000)), some (60, true), Q0⟩,
  ⟨some 63, .pick (.tmp 60) (.tmp 62) (.con (.bool false)), none, Q0⟩]
def c6_l0_b : EC := (.seq (.seq (.reg 3 c6_r3 false (some [1, 3, 4, 24]))
  (.cond (.tmp 24) .skip (.exit 0)))
  (.seq (.block 1 (.reg 5 [⟨some 27, .mv (.tmp 3), none, Q0⟩,
  ⟨some 28, .fA 5 (.tmp 1), none, Q0⟩,
  ⟨some 29, .ld none (.tmp 28), none, Q0⟩,
  ⟨some 30, .mv (.tmp 4), none, Q0⟩,
  ⟨some 31, .ixL 1 (.tmp 29) (.tmp 30), none, Q0⟩,
  ⟨some 32, .ld none (.tmp 31), none, Q0⟩,
  ⟨some 33, .len true (.tmp 32), none, Q0⟩,
  ⟨some 34, .bin .quo (.tmp 33) (.con (.int .i64 8)), none, Q0⟩,
  ⟨some 35, .bin .add (.tmp 27) (.tmp 34), none, Q0⟩,
  ⟨some 3, .mv (.tmp 35), none, Q0⟩] false (some [1, 3, 4])))
  (.reg 4 [⟨some 25, .mv (.tmp 4), none, Q0⟩,
  ⟨some 26, .bin .add (.tmp 25) (.con (.int .i64 1)), none, Q0⟩,
  ⟨some 4, .mv (.tmp 26), none, Q0⟩] false (some [1, 3, 4]))))
def c6_l0 : EC := .loop (some [1, 3, 4]) c6_l0_b
def c6_l1_b : EC := (.seq (.seq (.reg 7 c6_r7 false (some [1, 3, 5, 44]))
  (.cond (.tmp 44) .skip (.exit 2)))
  (.seq (.block 3 (.reg 9 [⟨some 47, .mv (.tmp 3), none, Q0⟩,
  ⟨some 48, .fA 4 (.tmp 1), none, Q0⟩,
  ⟨some 49, .ld none (.tmp 48), none, Q0⟩,
  ⟨some 50, .mv (.tmp 5), none, Q0⟩,
  ⟨some 51, .ixL 5 (.tmp 49) (.tmp 50), none, Q0⟩,
  ⟨some 52, .ld (some 5) (.tmp 51), none, Q0⟩,
  ⟨some 53, .call (.con (.fn 21 [] [])) [(.tmp 52)], none, Q0⟩,
  ⟨some 54, .bin .add (.tmp 47) (.tmp 53), none, Q0⟩,
  ⟨some 3, .mv (.tmp 54), none, Q0⟩] false (some [1, 3, 5])))
  (.reg 8 [⟨some 45, .mv (.tmp 5), none, Q0⟩,
  ⟨some 46, .bin .add (.tmp 45) (.con (.int .i64 1)), none, Q0⟩,
  ⟨some 5, .mv (.tmp 46), none, Q0⟩] false (some [1, 3, 5]))))
def c6_l1 : EC := .loop (some [1, 3, 5]) c6_l1_b
def c6_l2_b : EC := (.seq (.seq (.reg 11 c6_r11 false (some [1, 3, 6, 63]))
  (.cond (.tmp 63) .skip (.exit 4)))
  (.seq (.block 5 (.reg 13 [⟨some 66, .mv (.tmp 3), none, Q0⟩,
  ⟨some 67, .fA 6 (.tmp 1), none, Q0⟩,
  ⟨some 68, .ld none (.tmp 67), none, Q0⟩,
  ⟨some 69, .mv (.tmp 6), none, Q0⟩,
  ⟨some 70, .ixL 7 (.tmp 68) (.tmp 69), none, Q0⟩,
  ⟨some 71, .ld (some 7) (.tmp 70), none, Q0⟩,
  ⟨some 72, .call (.con (.fn 6 [] [])) [(.tmp 71)], none, Q0⟩,
  ⟨some 73, .bin .add (.tmp 66) (.tmp 72), none, Q0⟩,
  ⟨some 3, .mv (.tmp 73), none, Q0⟩] false (some [1, 3, 6])))
  (.reg 12 [⟨some 64, .mv (.tmp 6), none, Q0⟩,
  ⟨some 65, .bin .add (.tmp 64) (.con (.int .i64 1)), none, Q0⟩,
  ⟨some 6, .mv (.tmp 65), none, Q0⟩] false (some [1, 3, 6]))))
def c6_l2 : EC := .loop (some [1, 3, 6]) c6_l2_b
def c6_b : EC := (.seq (.reg 0 [⟨some 1, .boxI 26 (.tmp 0), none, Q0⟩,
  ⟨some 2, .mv (.con (.int .i64 0)), none, Q0⟩] false (some [1]))
  (.seq (.reg 1 [⟨some 7, .fA 2 (.tmp 1), none, Q0⟩,
  ⟨some 8, .ld none (.tmp 7), none, Q0⟩,
  ⟨some 9, .len true (.tmp 8), none, Q0⟩,
  ⟨some 10, .bin .quo (.tmp 9) (.con (.int .i64 8)), none, Q0⟩,
  ⟨some 11, .bin .add (.con (.int .i64 1)) (.tmp 10), none, Q0⟩,
  ⟨some 12, .fA 5 (.tmp 1), none, Q0⟩,
  ⟨some 13, .ld none (.tmp 12), none, Q0⟩,
  ⟨some 14, .len false (.tmp 13), none, Q0⟩,
  ⟨some 15, .bin .add (.tmp 11) (.tmp 14), none, Q0⟩,
  ⟨some 3, .mv (.tmp 15), none, Q0⟩] false (some [1, 3]))
  (.seq (.seq (.reg 2 [⟨some 4, .mv (.con (.int .i64 0)), none, Q0⟩] false (some [1, 3, 4]))
  (.block 0 c6_l0))
  (.seq (.seq (.reg 6 [⟨some 5, .mv (.con (.int .i64 0)), none, Q0⟩] false (some [1, 3, 5]))
  (.block 2 c6_l1))
  (.seq (.seq (.reg 10 [⟨some 6, .mv (.con (.int .i64 0)), none, Q0⟩] false (some [1, 3, 6]))
  (.block 4 c6_l2))
  (.seq (.reg 14 [⟨some 74, .mv (.tmp 3), none, Q0⟩,
  ⟨some 2, .mv (.tmp 74), none, Q0⟩] false (some [2]))
  .ret))))))
def c6 : EFn := ⟨1, 75, [.tmp 2], c6_b, none, true⟩
theorem c6_l0_step {E : Env} {fin : Kont (PV × St)} {st : List Fr} {ts : Tmps} {S : St} {n : Nat} : (lvl E (n + 1)).ev c6_l0 ts S (kont E fin st) = (lvl E (n + 1)).ev c6_l0_b (sel (some [1, 3, 4]) ts) S (kont E fin (.again n c6_l0 :: st)) := rfl
theorem c6_l0_w {E : Env} {fin : Kont (PV × St)} {st : List Fw} {ts : Tmps} {S : St} : run E fin st c6_l0 ts S = run E fin (.again c6_l0 :: st) c6_l0_b (sel (some [1, 3, 4]) ts) S := w_loop
theorem c6_l0_a {E : Env} {fin : Kont (PV × St)} {st : List Fw} {ts : Tmps} {S : St} : aft E fin (.again c6_l0 :: st) .normal ts S = run E fin st c6_l0 (sel (some [1, 3, 4]) ts) S := a_again_s
theorem c6_l1_step {E : Env} {fin : Kont (PV × St)} {st : List Fr} {ts : Tmps} {S : St} {n : Nat} : (lvl E (n + 1)).ev c6_l1 ts S (kont E fin st) = (lvl E (n + 1)).ev c6_l1_b (sel (some [1, 3, 5]) ts) S (kont E fin (.again n c6_l1 :: st)) := rfl
theorem c6_l1_w {E : Env} {fin : Kont (PV × St)} {st : List Fw} {ts : Tmps} {S : St} : run E fin st c6_l1 ts S = run E fin (.again c6_l1 :: st) c6_l1_b (sel (some [1, 3, 5]) ts) S := w_loop
theorem c6_l1_a {E : Env} {fin : Kont (PV × St)} {st : List Fw} {ts : Tmps} {S : St} : aft E fin (.again c6_l1 :: st) .normal ts S = run E fin st c6_l1 (sel (some [1, 3, 5]) ts) S := a_again_s
theorem c6_l2_step {E : Env} {fin : Kont (PV × St)} {st : List Fr} {ts : Tmps} {S : St} {n : Nat} : (lvl E (n + 1)).ev c6_l2 ts S (kont E fin st) = (lvl E (n + 1)).ev c6_l2_b (sel (some [1, 3, 6]) ts) S (kont E fin (.again n c6_l2 :: st)) := rfl
theorem c6_l2_w {E : Env} {fin : Kont (PV × St)} {st : List Fw} {ts : Tmps} {S : St} : run E fin st c6_l2 ts S = run E fin (.again c6_l2 :: st) c6_l2_b (sel (some [1, 3, 6]) ts) S := w_loop
theorem c6_l2_a {E : Env} {fin : Kont (PV × St)} {st : List Fw} {ts : Tmps} {S : St} : aft E fin (.again c6_l2 :: st) .normal ts S = run E fin st c6_l2 (sel (some [1, 3, 6]) ts) S := a_again_s
theorem c6_ok : cFn Tryz.prog Tryz.f6 = some c6.strip := by kernel_rfl
-- limbeck/limbecklaw15.awake
def c7_r3 : List EI := [⟨some 11, .ld (some 7) (.tmp 2), none, Q0⟩,
  ⟨some 12, .call (.con (.fn 8 [] [])) [(.tmp 11)], none, Q0⟩,
  ⟨some 13, .bin .eql (.tmp 12) (.con (.str ⟨#[120, 32, 42, 32, 40, 120, 32, 43, 32, 120, 41]⟩)), none, Q0⟩,
  ⟨some 14, .mv (.tmp 13), none, Q0⟩,
  ⟨some 15, .call (.con (.fn 10 [] [])) [(.con (.int .i64 5))], some (14, true), Q0⟩,
  ⟨some 16, .bin .eql (.tmp 15) (.con (.str ⟨#[43, 43]⟩)), some (14, true), Q0⟩,
  ⟨some 17, .pick (.tmp 14) (.tmp 16) (.con (.bool false)), none, Q0⟩,
  ⟨some 0, .mv (.tmp 17), none, Q0⟩]
def c7_b : EC := (.seq (.reg 0 [⟨some 0, .mv (.con (.bool false)), none, Q0⟩] false (some []))
  (.seq (.reg 1 [⟨some 3, .build [(.int .i64 0), (.int .i64 0), (.str ⟨#[]⟩), (.bool false), (.sl .null []), (.sl .null []), (.sl .null [])] [(0, 1, (.con (.int .i64 4))), (2, 1, (.con (.str ⟨#[120]⟩)))], none, Q0⟩,
  ⟨some 1, .new 26 [(.int .i64 0), (.int .i64 0), (.str ⟨#[]⟩), (.bool false), (.sl .null []), (.sl .null []), (.sl .null [])], none, Q0⟩,
  ⟨none, .st 7 (.tmp 1) (.tmp 3), none, Q0⟩] false (some [1]))
  (.seq (.reg 2 [⟨some 4, .ld (some 7) (.tmp 1), none, Q0⟩,
  ⟨some 5, .ld (some 7) (.tmp 1), none, Q0⟩,
  ⟨some 6, .ld (some 7) (.tmp 1), none, Q0⟩,
  ⟨some 7, .rows 2 7 [(.int .i64 0), (.int .i64 0), (.str ⟨#[]⟩), (.bool false), (.sl .null []), (.sl .null []), (.sl .null [])] [(0, (.tmp 5)), (1, (.tmp 6))], none, Q0⟩,
  ⟨some 8, .build [(.int .i64 0), (.int .i64 0), (.str ⟨#[]⟩), (.bool false), (.sl .null []), (.sl .null []), (.sl .null [])] [(0, 1, (.con (.int .i64 11))), (1, 1, (.con (.int .i64 1))), (6, 1, (.tmp 7))], none, Q0⟩,
  ⟨some 9, .rows 2 7 [(.int .i64 0), (.int .i64 0), (.str ⟨#[]⟩), (.bool false), (.sl .null []), (.sl .null []), (.sl .null [])] [(0, (.tmp 4)), (1, (.tmp 8))], none, Q0⟩,
  ⟨some 10, .build [(.int .i64 0), (.int .i64 0), (.str ⟨#[]⟩), (.bool false), (.sl .null []), (.sl .null []), (.sl .null [])] [(0, 1, (.con (.int .i64 11))), (1, 1, (.con (.int .i64 3))), (6, 1, (.tmp 9))], none, Q0⟩,
  ⟨some 2, .new 26 [(.int .i64 0), (.int .i64 0), (.str ⟨#[]⟩), (.bool false), (.sl .null []), (.sl .null []), (.sl .null [])], none, Q0⟩,
  ⟨none, .st 7 (.tmp 2) (.tmp 10), none, Q0⟩] false (some [2]))
  (.seq (.regP 3 c7_r3 false (some [0]))
  .ret))))
def c7 : EFn := ⟨0, 18, [.tmp 0], c7_b, none, true⟩
theorem c7_ok : cFn Tryz.prog Tryz.f7 = some c7.strip := by kernel_rfl
-- limbeck/expfmt.Show
def c8_b : EC := (.seq (.reg 0 [⟨some 1, .boxI 26 (.tmp 0), none, Q0⟩,
  ⟨some 2, .mv (.con (.str ⟨#[]⟩)), none, Q0⟩] false (some [1]))
  (.seq (.seq (.reg 1 [⟨some 3, .ld (some 7) (.tmp 1), none, Q0⟩,
  ⟨some 4, .call (.con (.fn 22 [] [])) [(.tmp 3)], none, Q0⟩,
  ⟨some 5, .un .not (.tmp 4), none, Q0⟩] false (some [1, 5]))
  (.cond (.tmp 5) (.seq (.reg 2 [⟨some 2, .mv (.con (.str ⟨#[]⟩)), none, Q0⟩] false (some [2]))
  .ret) .skip))
  (.seq (.regP 3 [⟨some 6, .ld (some 7) (.tmp 1), none, Q0⟩,
  ⟨some 7, .call (.con (.fn 23 [] [])) [(.tmp 6)], none, Q0⟩,
  ⟨some 2, .mv (.tmp 7), none, Q0⟩] false (some [2]))
  .ret)))
def c8 : EFn := ⟨1, 8, [.tmp 2], c8_b, none, true⟩
theorem c8_ok : cFn Tryz.prog Tryz.f8 = some c8.strip := by kernel_rfl
-- limbeck/limbeckref15.Show
def c9_b : EC := (.seq (.reg 0 [⟨some 1, .boxI 26 (.tmp 0), none, Q0⟩,
  ⟨some 2, .mv (.con (.str ⟨#[]⟩)), none, Q0⟩] false (some [1]))
  (.seq (.seq (.reg 1 [⟨some 3, .ld (some 7) (.tmp 1), none, Q0⟩,
  ⟨some 4, .call (.con (.fn 19 [] [])) [(.tmp 3)], none, Q0⟩,
  ⟨some 5, .un .not (.tmp 4), none, Q0⟩] false (some [1, 5]))
  (.cond (.tmp 5) (.seq (.reg 2 [⟨some 2, .mv (.con (.str ⟨#[]⟩)), none, Q0⟩] false (some [2]))
  .ret) .skip))
  (.seq (.reg 3 [⟨some 6, .ld (some 7) (.tmp 1), none, Q0⟩,
  ⟨some 7, .call (.con (.fn 24 [] [])) [(.tmp 6)], none, Q0⟩,
  ⟨some 2, .mv (.tmp 7), none, Q0⟩] false (some [2]))
  .ret)))
def c9 : EFn := ⟨1, 8, [.tmp 2], c9_b, none, true⟩
theorem c9_ok : cFn Tryz.prog Tryz.f9 = some c9.strip := by kernel_rfl
-- limbeck/expfmt.Op
def c10_b : EC := (.seq (.reg 0 [⟨some 2, .mv (.con (.str ⟨#[]⟩)), none, Q0⟩] false (some [0]))
  (.seq (.seq (.reg 1 [⟨some 3, .mv (.tmp 0), none, Q0⟩] false (some [3]))
  (.block 0 (.seq (.reg 2 [⟨some 5, .bin .eql (.tmp 3) (.con (.int .i64 1)), none, Q0⟩,
  ⟨some 4, .mv (.tmp 5), none, Q0⟩] false (some [3, 4]))
  (.cond (.tmp 4) (.seq (.reg 3 [⟨some 2, .mv (.con (.str ⟨#[43]⟩)), none, Q0⟩] false (some [2]))
  .ret) (.seq (.reg 4 [⟨some 7, .bin .eql (.tmp 3) (.con (.int .i64 2)), none, Q0⟩,
  ⟨some 6, .mv (.tmp 7), none, Q0⟩] false (some [3, 6]))
  (.cond (.tmp 6) (.seq (.reg 5 [⟨some 2, .mv (.con (.str ⟨#[45]⟩)), none, Q0⟩] false (some [2]))
  .ret) (.seq (.reg 6 [⟨some 9, .bin .eql (.tmp 3) (.con (.int .i64 3)), none, Q0⟩,
  ⟨some 8, .mv (.tmp 9), none, Q0⟩] false (some [3, 8]))
  (.cond (.tmp 8) (.seq (.reg 7 [⟨some 2, .mv (.con (.str ⟨#[42]⟩)), none, Q0⟩] false (some [2]))
  .ret) (.seq (.reg 8 [⟨some 11, .bin .eql (.tmp 3) (.con (.int .i64 4)), none, Q0⟩,
  ⟨some 10, .mv (.tmp 11), none, Q0⟩] false (some [3, 10]))
  (.cond (.tmp 10) (.seq (.reg 9 [⟨some 2, .mv (.con (.str ⟨#[47]⟩)), none, Q0⟩] false (some [2]))
  .ret) (.seq (.reg 10 [⟨some 13, .bin .eql (.tmp 3) (.con (.int .i64 5)), none, Q0⟩,
  ⟨some 12, .mv (.tmp 13), none, Q0⟩] false (some [3, 12]))
  (.cond (.tmp 12) (.seq (.reg 11 [⟨some 2, .mv (.con (.str ⟨#[43, 43]⟩)), none, Q0⟩] false (some [2]))
  .ret) (.seq (.reg 12 [⟨some 15, .bin .eql (.tmp 3) (.con (.int .i64 6)), none, Q0⟩,
  ⟨some 14, .mv (.tmp 15), none, Q0⟩] false (some [3, 14]))
  (.cond (.tmp 14) (.seq (.reg 13 [⟨some 2, .mv (.con (.str ⟨#[60]⟩)), none, Q0⟩] false (some [2]))
  .ret) (.seq (.reg 14 [⟨some 17, .bin .eql (.tmp 3) (.con (.int .i64 7)), none, Q0⟩,
  ⟨some 16, .mv (.tmp 17), none, Q0⟩] false (some [16]))
  (.cond (.tmp 16) (.seq (.reg 15 [⟨some 2, .mv (.con (.str ⟨#[61, 61]⟩)), none, Q0⟩] false (some [2]))
  .ret) .skip))))))))))))))))
  (.seq (.reg 16 [⟨some 2, .mv (.con (.str ⟨#[]⟩)), none, Q0⟩] false (some [2]))
  .ret)))
def c10 : EFn := ⟨1, 18, [.tmp 2], c10_b, none, true⟩
theorem c10_ok : cFn Tryz.prog Tryz.f10 = some c10.strip := by kernel_rfl
-- limbeck/limbeckref15.Op
def c11_r2 : List EI := [⟨some 5, .mv (.tmp 0), none, Q0⟩,
  ⟨some 6, .bin .lss (.tmp 5) (.con (.int .i64 0)), none, Q0⟩,
  ⟨some 7, .mv (.tmp 6), none, Q0⟩,
  ⟨some 8, .mv (.tmp 0), some (7, false), Q0⟩,
  ⟨some 9, .mv (.tmp 3), some (7, false), Q0⟩,
  ⟨some 10, .len false (.tmp 9), some (7, false), Q0⟩,
  ⟨some 11, .bin .geq (.tmp 8) (.tmp 10), some (7, false), Q0⟩,
  ⟨some 12, .pick (.tmp 7) (.con (.bool true)) (.tmp 11), none, Q0⟩]
def c11_b : EC := (.seq (.reg 0 [⟨some 2, .mv (.con (.str ⟨#[]⟩)), none, Q0⟩] false (some [0]))
  (.seq (.reg 1 [⟨some 4, .rows 8 1 [(.str ⟨#[]⟩)] [(0, (.con (.str ⟨#[]⟩))), (1, (.con (.str ⟨#[43]⟩))), (2, (.con (.str ⟨#[45]⟩))), (3, (.con (.str ⟨#[42]⟩))), (4, (.con (.str ⟨#[47]⟩))), (5, (.con (.str ⟨#[43, 43]⟩))), (6, (.con (.str ⟨#[60]⟩))), (7, (.con (.str ⟨#[61, 61]⟩)))], none, Q0⟩,
  ⟨some 3, .mv (.tmp 4), none, Q0⟩] false (some [0, 3]))
  (.seq (.seq (.reg 2 c11_r2 false (some [0, 3, 12]))
  (.cond (.tmp 12) (.seq (.reg 3 [⟨some 2, .mv (.con (.str ⟨#[]⟩)), none, Q0⟩] false (some [2]))
  .ret) .skip))
  (.seq (.reg 4 [⟨some 13, .mv (.tmp 3), none, Q0⟩,
  ⟨some 14, .mv (.tmp 0), none, Q0⟩,
  ⟨some 15, .ixL 1 (.tmp 13) (.tmp 14), none, Q0⟩,
  ⟨some 16, .ld none (.tmp 15), none, Q0⟩,
  ⟨some 2, .mv (.tmp 16), none, Q0⟩] false (some [2]))
  .ret))))
def c11 : EFn := ⟨1, 17, [.tmp 2], c11_b, none, true⟩
theorem c11_ok : cFn Tryz.prog Tryz.f11 = some c11.strip := by kernel_rfl
-- limbeck/limbeckref14.Right
def c19_l0_b : EC := (.seq (.seq (.reg 4 [⟨some 7, .mv (.tmp 3), none, Q0⟩,
  ⟨some 8, .fA 6 (.tmp 1), none, Q0⟩,
  ⟨some 9, .ld none (.tmp 8), none, Q0⟩,
  ⟨some 10, .len false (.tmp 9), none, Q0⟩,
  ⟨some 11, .bin .lss (.tmp 7) (.tmp 10), none, Q0⟩] false (some [1, 3, 11]))
  (.cond (.tmp 11) .skip (.exit 0)))
  (.seq (.block 1 (.seq (.reg 6 [⟨some 14, .fA 6 (.tmp 1), none, Q0⟩,
  ⟨some 15, .ld none (.tmp 14), none, Q0⟩,
  ⟨some 16, .mv (.tmp 3), none, Q0⟩,
  ⟨some 17, .ixL 7 (.tmp 15) (.tmp 16), none, Q0⟩,
  ⟨some 18, .ld (some 7) (.tmp 17), none, Q0⟩,
  ⟨some 19, .call (.con (.fn 19 [] [])) [(.tmp 18)], none, Q0⟩,
  ⟨some 20, .un .not (.tmp 19), none, Q0⟩] false (some [1, 3, 20]))
  (.cond (.tmp 20) (.seq (.reg 7 [⟨some 2, .mv (.con (.bool false)), none, Q0⟩] false (some [2]))
  .ret) .skip)))
  (.reg 5 [⟨some 12, .mv (.tmp 3), none, Q0⟩,
  ⟨some 13, .bin .add (.tmp 12) (.con (.int .i64 1)), none, Q0⟩,
  ⟨some 3, .mv (.tmp 13), none, Q0⟩] false (some [1, 3]))))
def c19_l0 : EC := .loop (some [1, 3]) c19_l0_b
def c19_b : EC := (.seq (.reg 0 [⟨some 1, .boxI 26 (.tmp 0), none, Q0⟩,
  ⟨some 2, .mv (.con (.bool false)), none, Q0⟩] false (some [1]))
  (.seq (.seq (.reg 1 [⟨some 4, .ld (some 7) (.tmp 1), none, Q0⟩,
  ⟨some 5, .call (.con (.fn 34 [] [])) [(.tmp 4)], none, Q0⟩,
  ⟨some 6, .un .not (.tmp 5), none, Q0⟩] false (some [1, 6]))
  (.cond (.tmp 6) (.seq (.reg 2 [⟨some 2, .mv (.con (.bool false)), none, Q0⟩] false (some [2]))
  .ret) .skip))
  (.seq (.seq (.reg 3 [⟨some 3, .mv (.con (.int .i64 0)), none, Q0⟩] false (some [1, 3]))
  (.block 0 c19_l0))
  (.seq (.reg 8 [⟨some 2, .mv (.con (.bool true)), none, Q0⟩] false (some [2]))
  .ret))))
def c19 : EFn := ⟨1, 21, [.tmp 2], c19_b, none, true⟩
theorem c19_l0_step {E : Env} {fin : Kont (PV × St)} {st : List Fr} {ts : Tmps} {S : St} {n : Nat} : (lvl E (n + 1)).ev c19_l0 ts S (kont E fin st) = (lvl E (n + 1)).ev c19_l0_b (sel (some [1, 3]) ts) S (kont E fin (.again n c19_l0 :: st)) := rfl
theorem c19_l0_w {E : Env} {fin : Kont (PV × St)} {st : List Fw} {ts : Tmps} {S : St} : run E fin st c19_l0 ts S = run E fin (.again c19_l0 :: st) c19_l0_b (sel (some [1, 3]) ts) S := w_loop
theorem c19_l0_a {E : Env} {fin : Kont (PV × St)} {st : List Fw} {ts : Tmps} {S : St} : aft E fin (.again c19_l0 :: st) .normal ts S = run E fin st c19_l0 (sel (some [1, 3]) ts) S := a_again_s
theorem c19_ok : cFn Tryz.prog Tryz.f19 = some c19.strip := by kernel_rfl
-- limbeck/limbecklaw04.Much
def c21_r3 : List EI := [⟨some 15, .mv (.tmp 4), none, Q0⟩,
  ⟨some 16, .fA 3 (.tmp 1), none, Q0⟩,
  ⟨some 17, .ld none (.tmp 16), none, Q0⟩,
  ⟨some 18, .len false (.tmp 17), none, Q0⟩,
  ⟨some 19, .bin .lss (.tmp 15) (.tmp 18), none, Q0⟩,
  ⟨some 20, .mv (.tmp 19), none, Q0⟩,
  ⟨some 21, .mv (.tmp 4), some (20, true), Q0⟩,
  ⟨some 22, .bin .lss (.tmp 21) (.con (.int .i64 1000)), some (20, true), Q0⟩,
  ⟨some 23, .pick (.tmp 20) (.tmp 22) (.con (.bool false)), none, Q0⟩]
def c21_r7 : List EI := [⟨some 35, .mv (.tmp 5), none, Q0⟩,
  ⟨some 36, .fA 4 (.tmp 1), none, Q0⟩,
  ⟨some 37, .ld none (.tmp 36), none, Q0⟩,
  ⟨some 38, .len false (.tmp 37), none, Q0⟩,
  ⟨some 39, .bin .lss (.tmp 35) (.tmp 38), none, Q0⟩,
  ⟨some 40, .mv (.tmp 39), none, Q0⟩,
  ⟨some 41, .mv (.tmp 3), some (40, true), Q0⟩,
  ⟨some 42, .bin .lss (.tmp 41) (.con (.int .i64 3000)), some (40, true), Q0⟩,
  ⟨some 43, .pick (.tmp 40) (.tmp 42) (.con (.bool false)), none, Q0⟩]
def c21_l0_b : EC := (.seq (.seq (.reg 3 c21_r3 false (some [1, 3, 4, 23]))
  (.cond (.tmp 23) .skip (.exit 0)))
  (.seq (.block 1 (.reg 5 [⟨some 26, .mv (.tmp 3), none, Q0⟩,
  ⟨some 27, .fA 3 (.tmp 1), none, Q0⟩,
  ⟨some 28, .ld none (.tmp 27), none, Q0⟩,
  ⟨some 29, .mv (.tmp 4), none, Q0⟩,
  ⟨some 30, .ixL 1 (.tmp 28) (.tmp 29), none, Q0⟩,
  ⟨some 31, .ld none (.tmp 30), none, Q0⟩,
  ⟨some 32, .len true (.tmp 31), none, Q0⟩,
  ⟨some 33, .bin .quo (.tmp 32) (.con (.int .i64 8)), none, Q0⟩,
  ⟨some 34, .bin .add (.tmp 26) (.tmp 33), none, Q0⟩,
  ⟨some 3, .mv (.tmp 34), none, Q0⟩] false (some [1, 3, 4])))
  (.reg 4 [⟨some 24, .mv (.tmp 4), none, Q0⟩,
  ⟨some 25, .bin .add (.tmp 24) (.con (.int .i64 1)), none, Q0⟩,
  ⟨some 4, .mv (.tmp 25), none, Q0⟩] false (some [1, 3, 4]))))
def c21_l0 : EC := .loop (some [1, 3, 4]) c21_l0_b
def c21_l1_b : EC := (.seq (.seq (.reg 7 c21_r7 false (some [1, 3, 5, 43]))
  (.cond (.tmp 43) .skip (.exit 2)))
  (.seq (.block 3 (.reg 9 [⟨some 46, .mv (.tmp 3), none, Q0⟩,
  ⟨some 47, .fA 4 (.tmp 1), none, Q0⟩,
  ⟨some 48, .ld none (.tmp 47), none, Q0⟩,
  ⟨some 49, .mv (.tmp 5), none, Q0⟩,
  ⟨some 50, .ixL 5 (.tmp 48) (.tmp 49), none, Q0⟩,
  ⟨some 51, .ld (some 5) (.tmp 50), none, Q0⟩,
  ⟨some 52, .call (.con (.fn 21 [] [])) [(.tmp 51)], none, Q0⟩,
  ⟨some 53, .bin .add (.tmp 46) (.tmp 52), none, Q0⟩,
  ⟨some 3, .mv (.tmp 53), none, Q0⟩] false (some [1, 3, 5])))
  (.reg 8 [⟨some 44, .mv (.tmp 5), none, Q0⟩,
  ⟨some 45, .bin .add (.tmp 44) (.con (.int .i64 1)), none, Q0⟩,
  ⟨some 5, .mv (.tmp 45), none, Q0⟩] false (some [1, 3, 5]))))
def c21_l1 : EC := .loop (some [1, 3, 5]) c21_l1_b
def c21_b : EC := (.seq (.reg 0 [⟨some 1, .boxI 34 (.tmp 0), none, Q0⟩,
  ⟨some 2, .mv (.con (.int .i64 0)), none, Q0⟩] false (some [1]))
  (.seq (.reg 1 [⟨some 6, .fA 2 (.tmp 1), none, Q0⟩,
  ⟨some 7, .ld none (.tmp 6), none, Q0⟩,
  ⟨some 8, .len true (.tmp 7), none, Q0⟩,
  ⟨some 9, .bin .quo (.tmp 8) (.con (.int .i64 8)), none, Q0⟩,
  ⟨some 10, .bin .add (.con (.int .i64 1)) (.tmp 9), none, Q0⟩,
  ⟨some 11, .fA 3 (.tmp 1), none, Q0⟩,
  ⟨some 12, .ld none (.tmp 11), none, Q0⟩,
  ⟨some 13, .len false (.tmp 12), none, Q0⟩,
  ⟨some 14, .bin .add (.tmp 10) (.tmp 13), none, Q0⟩,
  ⟨some 3, .mv (.tmp 14), none, Q0⟩] false (some [1, 3]))
  (.seq (.seq (.reg 2 [⟨some 4, .mv (.con (.int .i64 0)), none, Q0⟩] false (some [1, 3, 4]))
  (.block 0 c21_l0))
  (.seq (.seq (.reg 6 [⟨some 5, .mv (.con (.int .i64 0)), none, Q0⟩] false (some [1, 3, 5]))
  (.block 2 c21_l1))
  (.seq (.reg 10 [⟨some 54, .mv (.tmp 3), none, Q0⟩,
  ⟨some 2, .mv (.tmp 54), none, Q0⟩] false (some [2]))
  .ret)))))
def c21 : EFn := ⟨1, 55, [.tmp 2], c21_b, none, true⟩
theorem c21_l0_step {E : Env} {fin : Kont (PV × St)} {st : List Fr} {ts : Tmps} {S : St} {n : Nat} : (lvl E (n + 1)).ev c21_l0 ts S (kont E fin st) = (lvl E (n + 1)).ev c21_l0_b (sel (some [1, 3, 4]) ts) S (kont E fin (.again n c21_l0 :: st)) := rfl
theorem c21_l0_w {E : Env} {fin : Kont (PV × St)} {st : List Fw} {ts : Tmps} {S : St} : run E fin st c21_l0 ts S = run E fin (.again c21_l0 :: st) c21_l0_b (sel (some [1, 3, 4]) ts) S := w_loop
theorem c21_l0_a {E : Env} {fin : Kont (PV × St)} {st : List Fw} {ts : Tmps} {S : St} : aft E fin (.again c21_l0 :: st) .normal ts S = run E fin st c21_l0 (sel (some [1, 3, 4]) ts) S := a_again_s
theorem c21_l1_step {E : Env} {fin : Kont (PV × St)} {st : List Fr} {ts : Tmps} {S : St} {n : Nat} : (lvl E (n + 1)).ev c21_l1 ts S (kont E fin st) = (lvl E (n + 1)).ev c21_l1_b (sel (some [1, 3, 5]) ts) S (kont E fin (.again n c21_l1 :: st)) := rfl
theorem c21_l1_w {E : Env} {fin : Kont (PV × St)} {st : List Fw} {ts : Tmps} {S : St} : run E fin st c21_l1 ts S = run E fin (.again c21_l1 :: st) c21_l1_b (sel (some [1, 3, 5]) ts) S := w_loop
theorem c21_l1_a {E : Env} {fin : Kont (PV × St)} {st : List Fw} {ts : Tmps} {S : St} : aft E fin (.again c21_l1 :: st) .normal ts S = run E fin st c21_l1 (sel (some [1, 3, 5]) ts) S := a_again_s
theorem c21_ok : cFn Tryz.prog Tryz.f21 = some c21.strip := by kernel_rfl
-- limbeck/exp.Right
def c22_r1 : List EI := [⟨some 3, .fA 0 (.tmp 1), none, Q0⟩,
  ⟨some 4, .ld none (.tmp 3), none, Q0⟩,
  ⟨some 5, .bin .neq (.tmp 4) (.con (.int .i64 9)), none, Q0⟩,
  ⟨some 6, .mv (.tmp 5), none, Q0⟩,
  ⟨some 7, .fA 5 (.tmp 1), some (6, true), Q0⟩,
  ⟨some 8, .ld none (.tmp 7), some (6, true), Q0⟩,
  ⟨some 9, .len false (.tmp 8), some (6, true), Q0⟩,
  ⟨some 10, .bin .gtr (.tmp 9) (.con (.int .i64 0)), some (6, true), Q0⟩,
  ⟨some 11, .pick (.tmp 6) (.tmp 10) (.con (.bool false)), none, Q0⟩,
  ⟨some 12, .mv (.tmp 11), none, Q0⟩,
  ⟨some 13, .fA 0 (.tmp 1), some (12, false), Q0⟩,
  ⟨some 14, .ld none (.tmp 13), some (12, false), Q0⟩,
  ⟨some 15, .bin .neq (.tmp 14) (.con (.int .i64 13)), some (12, false), Q0⟩,
  ⟨some 16, .mv (.tmp 15), some (12, false), Q0⟩,
  ⟨some 17, .fA 3 (.tmp 1), some (16, true), Q0⟩,
  ⟨some 18, .ld none (.tmp 17), some (16, true), Q0⟩,
  ⟨some 19, .pick (.tmp 16) (.tmp 18) (.con (.bool false)), some (12, false), Q0⟩,
  ⟨some 20, .pick (.tmp 12) (.con (.bool true)) (.tmp 19), none, Q0⟩]
def c22_r3 : List EI := [⟨some 21, .ld (some 7) (.tmp 1), none, Q0⟩,
  ⟨some 22, .call (.con (.fn 37 [] [])) [(.tmp 21)], none, Q0⟩,
  ⟨some 23, .mv (.tmp 22), none, Q0⟩,
  ⟨some 24, .ld (some 7) (.tmp 1), some (23, true), Q0⟩,
  ⟨some 25, .call (.con (.fn 38 [] [])) [(.tmp 24)], some (23, true), Q0⟩,
  ⟨some 26, .pick (.tmp 23) (.tmp 25) (.con (.bool false)), none, Q0⟩,
  ⟨some 27, .mv (.tmp 26), none, Q0⟩,
  ⟨some 28, .ld (some 7) (.tmp 1), some (27, true), Q0⟩,
  ⟨some 29, .call (.con (.fn 39 [] [])) [(.tmp 28)], some (27, true), Q0⟩,
  ⟨some 30, .pick (.tmp 27) (.tmp 29) (.con (.bool false)), none, Q0⟩,
  ⟨some 31, .mv (.tmp 30), none, Q0⟩,
  ⟨some 32, .ld (some 7) (.tmp 1), some (31, true), Q0⟩,
  ⟨some 33, .call (.con (.fn 40 [] [])) [(.tmp 32)], some (31, true), Q0⟩,
  ⟨some 34, .pick (.tmp 31) (.tmp 33) (.con (.bool false)), none, Q0⟩,
  ⟨some 35, .mv (.tmp 34), none, Q0⟩,
  ⟨some 36, .fA 4 (.tmp 1), some (35, true), Q0⟩,
  ⟨some 37, .ld none (.tmp 36), some (35, true), Q0⟩,
  ⟨some 38, .call (.con (.fn 41 [] [])) [(.tmp 37), (.con (.fn 42 [] []))], some (35, true), Q0⟩,
  ⟨some 39, .pick (.tmp 35) (.tmp 38) (.con (.bool false)), none, Q0⟩,
  ⟨some 40, .mv (.tmp 39), none, Q0⟩,
  ⟨some 41, .fA 6 (.tmp 1), some (40, true), Q0⟩,
  ⟨some 42, .ld none (.tmp 41), some (40, true), Q0⟩,
  ⟨some 43, .call (.con (.fn 43 [] [])) [(.tmp 42), (.con (.fn 22 [] []))], some (40, true), Q0⟩,
  ⟨some 44, .pick (.tmp 40) (.tmp 43) (.con (.bool false)), none, Q0⟩,
  ⟨some 2, .mv (.tmp 44), none, Q0⟩]
def c22_b : EC := (.seq (.reg 0 [⟨some 1, .boxI 26 (.tmp 0), none, Q0⟩,
  ⟨some 2, .mv (.con (.bool false)), none, Q0⟩] false (some [1]))
  (.seq (.seq (.reg 1 c22_r1 false (some [1, 20]))
  (.cond (.tmp 20) (.seq (.reg 2 [⟨some 2, .mv (.con (.bool false)), none, Q0⟩] false (some [2]))
  .ret) .skip))
  (.seq (.reg 3 c22_r3 false (some [2]))
  .ret)))
def c22 : EFn := ⟨1, 45, [.tmp 2], c22_b, none, true⟩
theorem c22_ok : cFn Tryz.prog Tryz.f22 = some c22.strip := by kernel_rfl
-- limbeck/expfmt.shown
def c23_b : EC := (.seq (.reg 0 [⟨some 1, .boxI 26 (.tmp 0), none, Q0⟩,
  ⟨some 2, .mv (.con (.str ⟨#[]⟩)), none, Q0⟩] false (some [1]))
  (.seq (.seq (.reg 1 [⟨some 3, .fA 0 (.tmp 1), none, Q0⟩,
  ⟨some 4, .ld none (.tmp 3), none, Q0⟩] false (some [1, 4]))
  (.block 0 (.seq (.reg 2 [⟨some 6, .bin .eql (.tmp 4) (.con (.int .i64 5)), none, Q0⟩,
  ⟨some 5, .mv (.tmp 6), none, Q0⟩] false (some [1, 4, 5]))
  (.cond (.tmp 5) (.seq (.regP 3 [⟨some 7, .ld (some 7) (.tmp 1), none, ⟨.still, false⟩⟩,
  ⟨some 8, .call (.con (.fn 44 [] [])) [(.tmp 7)], none, ⟨.still, false⟩⟩,
  ⟨some 9, .bin .add (.con (.str ⟨#[108, 101, 116, 32]⟩)) (.tmp 8), none, ⟨.no, false⟩⟩,
  ⟨some 10, .bin .add (.tmp 9) (.con (.str ⟨#[32, 61, 32]⟩)), none, ⟨.no, false⟩⟩,
  ⟨some 11, .fA 6 (.tmp 1), none, ⟨.no, false⟩⟩,
  ⟨some 12, .ld none (.tmp 11), none, ⟨.still, false⟩⟩,
  ⟨some 13, .ixL 7 (.tmp 12) (.con (.int .i64 0)), none, ⟨.no, false⟩⟩,
  ⟨some 14, .ld (some 7) (.tmp 13), none, ⟨.still, false⟩⟩,
  ⟨some 15, .call (.con (.fn 23 [] [])) [(.tmp 14)], none, ⟨.still, false⟩⟩,
  ⟨some 16, .bin .add (.tmp 10) (.tmp 15), none, ⟨.no, false⟩⟩,
  ⟨some 17, .bin .add (.tmp 16) (.con (.str ⟨#[32, 105, 110, 32]⟩)), none, ⟨.no, false⟩⟩,
  ⟨some 18, .fA 6 (.tmp 1), none, Q0⟩,
  ⟨some 19, .ld none (.tmp 18), none, Q1⟩,
  ⟨some 20, .ixL 7 (.tmp 19) (.con (.int .i64 1)), none, Q0⟩,
  ⟨some 21, .ld (some 7) (.tmp 20), none, Q1⟩,
  ⟨some 22, .call (.con (.fn 23 [] [])) [(.tmp 21)], none, Q0⟩,
  ⟨some 23, .bin .add (.tmp 17) (.tmp 22), none, Q0⟩,
  ⟨some 2, .mv (.tmp 23), none, Q0⟩] true (some [2]))
  .ret) (.seq (.reg 4 [⟨some 25, .bin .eql (.tmp 4) (.con (.int .i64 6)), none, Q0⟩,
  ⟨some 24, .mv (.tmp 25), none, Q0⟩] false (some [1, 4, 24]))
  (.cond (.tmp 24) (.seq (.regP 5 [⟨some 26, .fA 6 (.tmp 1), none, ⟨.no, false⟩⟩,
  ⟨some 27, .ld none (.tmp 26), none, ⟨.still, false⟩⟩,
  ⟨some 28, .ixL 7 (.tmp 27) (.con (.int .i64 0)), none, ⟨.no, false⟩⟩,
  ⟨some 29, .ld (some 7) (.tmp 28), none, ⟨.still, false⟩⟩,
  ⟨some 30, .call (.con (.fn 23 [] [])) [(.tmp 29)], none, ⟨.still, false⟩⟩,
  ⟨some 31, .bin .add (.con (.str ⟨#[105, 102, 32]⟩)) (.tmp 30), none, ⟨.no, false⟩⟩,
  ⟨some 32, .bin .add (.tmp 31) (.con (.str ⟨#[32, 116, 104, 101, 110, 32]⟩)), none, ⟨.no, false⟩⟩,
  ⟨some 33, .fA 6 (.tmp 1), none, ⟨.no, false⟩⟩,
  ⟨some 34, .ld none (.tmp 33), none, ⟨.still, false⟩⟩,
  ⟨some 35, .ixL 7 (.tmp 34) (.con (.int .i64 1)), none, ⟨.no, false⟩⟩,
  ⟨some 36, .ld (some 7) (.tmp 35), none, ⟨.still, false⟩⟩,
  ⟨some 37, .call (.con (.fn 23 [] [])) [(.tmp 36)], none, ⟨.still, false⟩⟩,
  ⟨some 38, .bin .add (.tmp 32) (.tmp 37), none, ⟨.no, false⟩⟩,
  ⟨some 39, .bin .add (.tmp 38) (.con (.str ⟨#[32, 101, 108, 115, 101, 32]⟩)), none, ⟨.no, false⟩⟩,
  ⟨some 40, .fA 6 (.tmp 1), none, Q0⟩,
  ⟨some 41, .ld none (.tmp 40), none, Q1⟩,
  ⟨some 42, .ixL 7 (.tmp 41) (.con (.int .i64 2)), none, Q0⟩,
  ⟨some 43, .ld (some 7) (.tmp 42), none, Q1⟩,
  ⟨some 44, .call (.con (.fn 23 [] [])) [(.tmp 43)], none, Q0⟩,
  ⟨some 45, .bin .add (.tmp 39) (.tmp 44), none, Q0⟩,
  ⟨some 2, .mv (.tmp 45), none, Q0⟩] true (some [2]))
  .ret) (.seq (.reg 6 [⟨some 47, .bin .eql (.tmp 4) (.con (.int .i64 7)), none, Q0⟩,
  ⟨some 46, .mv (.tmp 47), none, Q0⟩] false (some [1, 4, 46]))
  (.cond (.tmp 46) (.seq (.regP 7 [⟨some 48, .ld (some 7) (.tmp 1), none, ⟨.still, false⟩⟩,
  ⟨some 49, .call (.con (.fn 44 [] [])) [(.tmp 48)], none, ⟨.still, false⟩⟩,
  ⟨some 50, .bin .add (.con (.str ⟨#[102, 110, 32]⟩)) (.tmp 49), none, ⟨.no, false⟩⟩,
  ⟨some 51, .bin .add (.tmp 50) (.con (.str ⟨#[32, 61, 62, 32]⟩)), none, ⟨.no, false⟩⟩,
  ⟨some 52, .fA 6 (.tmp 1), none, Q0⟩,
  ⟨some 53, .ld none (.tmp 52), none, Q1⟩,
  ⟨some 54, .ixL 7 (.tmp 53) (.con (.int .i64 0)), none, Q0⟩,
  ⟨some 55, .ld (some 7) (.tmp 54), none, Q1⟩,
  ⟨some 56, .call (.con (.fn 23 [] [])) [(.tmp 55)], none, Q0⟩,
  ⟨some 57, .bin .add (.tmp 51) (.tmp 56), none, Q0⟩,
  ⟨some 2, .mv (.tmp 57), none, Q0⟩] true (some [2]))
  .ret) (.seq (.reg 8 [⟨some 59, .bin .eql (.tmp 4) (.con (.int .i64 8)), none, Q0⟩,
  ⟨some 58, .mv (.tmp 59), none, Q0⟩] false (some [1, 4, 58]))
  (.cond (.tmp 58) (.seq (.regP 9 [⟨some 60, .fA 6 (.tmp 1), none, ⟨.no, false⟩⟩,
  ⟨some 61, .ld none (.tmp 60), none, ⟨.still, false⟩⟩,
  ⟨some 62, .ixL 7 (.tmp 61) (.con (.int .i64 0)), none, ⟨.no, false⟩⟩,
  ⟨some 63, .ld (some 7) (.tmp 62), none, ⟨.still, false⟩⟩,
  ⟨some 64, .call (.con (.fn 45 [] [])) [(.tmp 63), (.con (.int .i64 4))], none, ⟨.still, false⟩⟩,
  ⟨some 65, .bin .add (.tmp 64) (.con (.str ⟨#[40]⟩)), none, ⟨.no, false⟩⟩,
  ⟨some 66, .fA 6 (.tmp 1), none, Q0⟩,
  ⟨some 67, .ld none (.tmp 66), none, Q1⟩,
  ⟨some 68, .ixL 7 (.tmp 67) (.con (.int .i64 1)), none, Q0⟩,
  ⟨some 69, .ld (some 7) (.tmp 68), none, Q1⟩,
  ⟨some 70, .call (.con (.fn 23 [] [])) [(.tmp 69)], none, Q0⟩,
  ⟨some 71, .bin .add (.tmp 65) (.tmp 70), none, Q0⟩,
  ⟨some 72, .bin .add (.tmp 71) (.con (.str ⟨#[41]⟩)), none, Q0⟩,
  ⟨some 2, .mv (.tmp 72), none, Q0⟩] true (some [2]))
  .ret) (.seq (.reg 10 [⟨some 74, .bin .eql (.tmp 4) (.con (.int .i64 10)), none, Q0⟩,
  ⟨some 73, .mv (.tmp 74), none, Q0⟩] false (some [1, 4, 73]))
  (.cond (.tmp 73) (.seq (.regP 11 [⟨some 75, .fA 6 (.tmp 1), none, ⟨.no, false⟩⟩,
  ⟨some 76, .ld none (.tmp 75), none, ⟨.still, false⟩⟩,
  ⟨some 77, .ixL 7 (.tmp 76) (.con (.int .i64 0)), none, ⟨.no, false⟩⟩,
  ⟨some 78, .ld (some 7) (.tmp 77), none, ⟨.still, false⟩⟩,
  ⟨some 79, .call (.con (.fn 45 [] [])) [(.tmp 78), (.con (.int .i64 4))], none, ⟨.still, false⟩⟩,
  ⟨some 80, .bin .add (.tmp 79) (.con (.str ⟨#[46]⟩)), none, ⟨.no, false⟩⟩,
  ⟨some 81, .fA 2 (.tmp 1), none, Q0⟩,
  ⟨some 82, .ld none (.tmp 81), none, Q1⟩,
  ⟨some 83, .bin .add (.tmp 80) (.tmp 82), none, Q0⟩,
  ⟨some 2, .mv (.tmp 83), none, Q0⟩] true (some [2]))
  .ret) (.seq (.reg 12 [⟨some 85, .bin .eql (.tmp 4) (.con (.int .i64 11)), none, Q0⟩,
  ⟨some 84, .mv (.tmp 85), none, Q0⟩] false (some [1, 4, 84]))
  (.cond (.tmp 84) (.seq (.regP 13 [⟨some 86, .ld (some 7) (.tmp 1), none, Q0⟩,
  ⟨some 87, .call (.con (.fn 46 [] [])) [(.tmp 86)], none, Q0⟩,
  ⟨some 2, .mv (.tmp 87), none, Q0⟩] false (some [2]))
  .ret) (.seq (.reg 14 [⟨some 89, .bin .eql (.tmp 4) (.con (.int .i64 9)), none, Q0⟩,
  ⟨some 88, .mv (.tmp 89), none, Q0⟩] false (some [1, 4, 88]))
  (.cond (.tmp 88) (.seq (.regP 15 [⟨some 90, .ld (some 7) (.tmp 1), none, Q0⟩,
  ⟨some 91, .fnv 48 [] [(.tmp 1)], none, Q0⟩,
  ⟨some 92, .call (.con (.fn 47 [] [])) [(.tmp 90), (.tmp 91)], none, Q0⟩,
  ⟨some 93, .bin .add (.con (.str ⟨#[123]⟩)) (.tmp 92), none, Q0⟩,
  ⟨some 94, .bin .add (.tmp 93) (.con (.str ⟨#[125]⟩)), none, Q0⟩,
  ⟨some 2, .mv (.tmp 94), none, Q0⟩] false (some [2]))
  .ret) (.seq (.reg 16 [⟨some 96, .bin .eql (.tmp 4) (.con (.int .i64 12)), none, Q0⟩,
  ⟨some 95, .mv (.tmp 96), none, Q0⟩] false (some [1, 4, 95]))
  (.cond (.tmp 95) (.seq (.regP 17 [⟨some 97, .fA 6 (.tmp 1), none, ⟨.no, false⟩⟩,
  ⟨some 98, .ld none (.tmp 97), none, ⟨.still, false⟩⟩,
  ⟨some 99, .ixL 7 (.tmp 98) (.con (.int .i64 0)), none, ⟨.no, false⟩⟩,
  ⟨some 100, .ld (some 7) (.tmp 99), none, ⟨.still, false⟩⟩,
  ⟨some 101, .call (.con (.fn 23 [] [])) [(.tmp 100)], none, ⟨.still, false⟩⟩,
  ⟨some 102, .bin .add (.con (.str ⟨#[40]⟩)) (.tmp 101), none, ⟨.no, false⟩⟩,
  ⟨some 103, .bin .add (.tmp 102) (.con (.str ⟨#[32, 58, 32]⟩)), none, ⟨.no, false⟩⟩,
  ⟨some 104, .fA 4 (.tmp 1), none, Q0⟩,
  ⟨some 105, .ld none (.tmp 104), none, Q1⟩,
  ⟨some 106, .ixL 5 (.tmp 105) (.con (.int .i64 0)), none, Q0⟩,
  ⟨some 107, .ld (some 5) (.tmp 106), none, Q1⟩,
  ⟨some 108, .call (.con (.fn 28 [] [])) [(.tmp 107)], none, Q0⟩,
  ⟨some 109, .bin .add (.tmp 103) (.tmp 108), none, Q0⟩,
  ⟨some 110, .bin .add (.tmp 109) (.con (.str ⟨#[41]⟩)), none, Q0⟩,
  ⟨some 2, .mv (.tmp 110), none, Q0⟩] true (some [2]))
  .ret) (.seq (.reg 18 [⟨some 112, .bin .eql (.tmp 4) (.con (.int .i64 13)), none, Q0⟩,
  ⟨some 111, .mv (.tmp 112), none, Q0⟩] false (some [1, 111]))
  (.cond (.tmp 111) (.seq (.regP 19 [⟨some 113, .ld (some 7) (.tmp 1), none, Q0⟩,
  ⟨some 114, .call (.con (.fn 49 [] [])) [(.tmp 113)], none, Q0⟩,
  ⟨some 2, .mv (.tmp 114), none, Q0⟩] false (some [2]))
  .ret) .skip))))))))))))))))))))
  (.seq (.reg 20 [⟨some 115, .ld (some 7) (.tmp 1), none, Q0⟩,
  ⟨some 116, .call (.con (.fn 50 [] [])) [(.tmp 115)], none, Q0⟩,
  ⟨some 2, .mv (.tmp 116), none, Q0⟩] false (some [2]))
  .ret)))
def c23 : EFn := ⟨1, 117, [.tmp 2], c23_b, none, true⟩
theorem c23_ok : cFn Tryz.prog Tryz.f23 = some c23.strip := by kernel_rfl
-- limbeck/limbeckref15.show
def c24_b : EC := (.seq (.reg 0 [⟨some 1, .boxI 26 (.tmp 0), none, Q0⟩,
  ⟨some 2, .mv (.con (.str ⟨#[]⟩)), none, Q0⟩] false (some [1]))
  (.seq (.seq (.reg 1 [⟨some 4, .fA 0 (.tmp 1), none, Q0⟩,
  ⟨some 5, .ld none (.tmp 4), none, Q0⟩] false (some [1, 5]))
  (.block 0 (.seq (.reg 2 [⟨some 7, .bin .eql (.tmp 5) (.con (.int .i64 1)), none, Q0⟩,
  ⟨some 6, .mv (.tmp 7), none, Q0⟩] false (some [1, 5, 6]))
  (.cond (.tmp 6) (.seq (.reg 3 [⟨some 8, .fA 1 (.tmp 1), none, Q0⟩,
  ⟨some 9, .ld none (.tmp 8), none, Q0⟩,
  ⟨some 10, .call (.con (.fn 51 [] [])) [(.tmp 9)], none, Q0⟩,
  ⟨some 2, .mv (.tmp 10), none, Q0⟩] false (some [2]))
  .ret) (.seq (.reg 4 [⟨some 12, .bin .eql (.tmp 5) (.con (.int .i64 2)), none, Q0⟩,
  ⟨some 11, .mv (.tmp 12), none, Q0⟩] false (some [1, 5, 11]))
  (.cond (.tmp 11) (.seq (.reg 5 [⟨some 13, .rows 2 1 [(.str ⟨#[]⟩)] [(0, (.con (.str ⟨#[102, 97, 108, 115, 101]⟩))), (1, (.con (.str ⟨#[116, 114, 117, 101]⟩)))], none, Q0⟩,
  ⟨some 14, .fA 1 (.tmp 1), none, Q0⟩,
  ⟨some 15, .ld none (.tmp 14), none, Q0⟩,
  ⟨some 16, .ixL 1 (.tmp 13) (.tmp 15), none, Q0⟩,
  ⟨some 17, .ld none (.tmp 16), none, Q0⟩,
  ⟨some 2, .mv (.tmp 17), none, Q0⟩] false (some [2]))
  .ret) (.seq (.reg 6 [⟨some 19, .bin .eql (.tmp 5) (.con (.int .i64 3)), none, Q0⟩,
  ⟨some 18, .mv (.tmp 19), none, Q0⟩] false (some [1, 5, 18]))
  (.cond (.tmp 18) (.seq (.reg 7 [⟨some 20, .fA 2 (.tmp 1), none, Q0⟩,
  ⟨some 21, .ld none (.tmp 20), none, Q0⟩,
  ⟨some 22, .call (.con (.fn 52 [] [])) [(.tmp 21)], none, Q0⟩,
  ⟨some 2, .mv (.tmp 22), none, Q0⟩] false (some [2]))
  .ret) (.seq (.reg 8 [⟨some 24, .bin .eql (.tmp 5) (.con (.int .i64 5)), none, Q0⟩,
  ⟨some 23, .mv (.tmp 24), none, Q0⟩] false (some [1, 5, 23]))
  (.cond (.tmp 23) (.seq (.reg 9 [⟨some 25, .ld (some 7) (.tmp 1), none, ⟨.still, false⟩⟩,
  ⟨some 26, .call (.con (.fn 53 [] [])) [(.tmp 25)], none, ⟨.still, false⟩⟩,
  ⟨some 27, .bin .add (.con (.str ⟨#[108, 101, 116, 32]⟩)) (.tmp 26), none, ⟨.no, false⟩⟩,
  ⟨some 28, .bin .add (.tmp 27) (.con (.str ⟨#[32, 61, 32]⟩)), none, ⟨.no, false⟩⟩,
  ⟨some 29, .fA 6 (.tmp 1), none, ⟨.no, false⟩⟩,
  ⟨some 30, .ld none (.tmp 29), none, ⟨.still, false⟩⟩,
  ⟨some 31, .ixL 7 (.tmp 30) (.con (.int .i64 0)), none, ⟨.no, false⟩⟩,
  ⟨some 32, .ld (some 7) (.tmp 31), none, ⟨.still, false⟩⟩,
  ⟨some 33, .call (.con (.fn 24 [] [])) [(.tmp 32)], none, ⟨.still, false⟩⟩,
  ⟨some 34, .bin .add (.tmp 28) (.tmp 33), none, ⟨.no, false⟩⟩,
  ⟨some 35, .bin .add (.tmp 34) (.con (.str ⟨#[32, 105, 110, 32]⟩)), none, ⟨.no, false⟩⟩,
  ⟨some 36, .fA 6 (.tmp 1), none, Q0⟩,
  ⟨some 37, .ld none (.tmp 36), none, Q1⟩,
  ⟨some 38, .ixL 7 (.tmp 37) (.con (.int .i64 1)), none, Q0⟩,
  ⟨some 39, .ld (some 7) (.tmp 38), none, Q1⟩,
  ⟨some 40, .call (.con (.fn 24 [] [])) [(.tmp 39)], none, Q0⟩,
  ⟨some 41, .bin .add (.tmp 35) (.tmp 40), none, Q0⟩,
  ⟨some 2, .mv (.tmp 41), none, Q0⟩] true (some [2]))
  .ret) (.seq (.reg 10 [⟨some 43, .bin .eql (.tmp 5) (.con (.int .i64 6)), none, Q0⟩,
  ⟨some 42, .mv (.tmp 43), none, Q0⟩] false (some [1, 5, 42]))
  (.cond (.tmp 42) (.seq (.reg 11 [⟨some 44, .fA 6 (.tmp 1), none, ⟨.no, false⟩⟩,
  ⟨some 45, .ld none (.tmp 44), none, ⟨.still, false⟩⟩,
  ⟨some 46, .ixL 7 (.tmp 45) (.con (.int .i64 0)), none, ⟨.no, false⟩⟩,
  ⟨some 47, .ld (some 7) (.tmp 46), none, ⟨.still, false⟩⟩,
  ⟨some 48, .call (.con (.fn 24 [] [])) [(.tmp 47)], none, ⟨.still, false⟩⟩,
  ⟨some 49, .bin .add (.con (.str ⟨#[105, 102, 32]⟩)) (.tmp 48), none, ⟨.no, false⟩⟩,
  ⟨some 50, .bin .add (.tmp 49) (.con (.str ⟨#[32, 116, 104, 101, 110, 32]⟩)), none, ⟨.no, false⟩⟩,
  ⟨some 51, .fA 6 (.tmp 1), none, ⟨.no, false⟩⟩,
  ⟨some 52, .ld none (.tmp 51), none, ⟨.still, false⟩⟩,
  ⟨some 53, .ixL 7 (.tmp 52) (.con (.int .i64 1)), none, ⟨.no, false⟩⟩,
  ⟨some 54, .ld (some 7) (.tmp 53), none, ⟨.still, false⟩⟩,
  ⟨some 55, .call (.con (.fn 24 [] [])) [(.tmp 54)], none, ⟨.still, false⟩⟩,
  ⟨some 56, .bin .add (.tmp 50) (.tmp 55), none, ⟨.no, false⟩⟩,
  ⟨some 57, .bin .add (.tmp 56) (.con (.str ⟨#[32, 101, 108, 115, 101, 32]⟩)), none, ⟨.no, false⟩⟩,
  ⟨some 58, .fA 6 (.tmp 1), none, Q0⟩,
  ⟨some 59, .ld none (.tmp 58), none, Q1⟩,
  ⟨some 60, .ixL 7 (.tmp 59) (.con (.int .i64 2)), none, Q0⟩,
  ⟨some 61, .ld (some 7) (.tmp 60), none, Q1⟩,
  ⟨some 62, .call (.con (.fn 24 [] [])) [(.tmp 61)], none, Q0⟩,
  ⟨some 63, .bin .add (.tmp 57) (.tmp 62), none, Q0⟩,
  ⟨some 2, .mv (.tmp 63), none, Q0⟩] true (some [2]))
  .ret) (.seq (.reg 12 [⟨some 65, .bin .eql (.tmp 5) (.con (.int .i64 7)), none, Q0⟩,
  ⟨some 64, .mv (.tmp 65), none, Q0⟩] false (some [1, 5, 64]))
  (.cond (.tmp 64) (.seq (.reg 13 [⟨some 66, .ld (some 7) (.tmp 1), none, ⟨.still, false⟩⟩,
  ⟨some 67, .call (.con (.fn 53 [] [])) [(.tmp 66)], none, ⟨.still, false⟩⟩,
  ⟨some 68, .bin .add (.con (.str ⟨#[102, 110, 32]⟩)) (.tmp 67), none, ⟨.no, false⟩⟩,
  ⟨some 69, .bin .add (.tmp 68) (.con (.str ⟨#[32, 61, 62, 32]⟩)), none, ⟨.no, false⟩⟩,
  ⟨some 70, .fA 6 (.tmp 1), none, Q0⟩,
  ⟨some 71, .ld none (.tmp 70), none, Q1⟩,
  ⟨some 72, .ixL 7 (.tmp 71) (.con (.int .i64 0)), none, Q0⟩,
  ⟨some 73, .ld (some 7) (.tmp 72), none, Q1⟩,
  ⟨some 74, .call (.con (.fn 24 [] [])) [(.tmp 73)], none, Q0⟩,
  ⟨some 75, .bin .add (.tmp 69) (.tmp 74), none, Q0⟩,
  ⟨some 2, .mv (.tmp 75), none, Q0⟩] true (some [2]))
  .ret) (.seq (.reg 14 [⟨some 77, .bin .eql (.tmp 5) (.con (.int .i64 8)), none, Q0⟩,
  ⟨some 76, .mv (.tmp 77), none, Q0⟩] false (some [1, 5, 76]))
  (.cond (.tmp 76) (.seq (.reg 15 [⟨some 78, .fA 6 (.tmp 1), none, ⟨.no, false⟩⟩,
  ⟨some 79, .ld none (.tmp 78), none, ⟨.still, false⟩⟩,
  ⟨some 80, .ixL 7 (.tmp 79) (.con (.int .i64 0)), none, ⟨.no, false⟩⟩,
  ⟨some 81, .ld (some 7) (.tmp 80), none, ⟨.still, false⟩⟩,
  ⟨some 82, .call (.con (.fn 54 [] [])) [(.tmp 81), (.con (.int .i64 4))], none, ⟨.still, false⟩⟩,
  ⟨some 83, .bin .add (.tmp 82) (.con (.str ⟨#[40]⟩)), none, ⟨.no, false⟩⟩,
  ⟨some 84, .fA 6 (.tmp 1), none, Q0⟩,
  ⟨some 85, .ld none (.tmp 84), none, Q1⟩,
  ⟨some 86, .ixL 7 (.tmp 85) (.con (.int .i64 1)), none, Q0⟩,
  ⟨some 87, .ld (some 7) (.tmp 86), none, Q1⟩,
  ⟨some 88, .call (.con (.fn 24 [] [])) [(.tmp 87)], none, Q0⟩,
  ⟨some 89, .bin .add (.tmp 83) (.tmp 88), none, Q0⟩,
  ⟨some 90, .bin .add (.tmp 89) (.con (.str ⟨#[41]⟩)), none, Q0⟩,
  ⟨some 2, .mv (.tmp 90), none, Q0⟩] true (some [2]))
  .ret) (.seq (.reg 16 [⟨some 92, .bin .eql (.tmp 5) (.con (.int .i64 10)), none, Q0⟩,
  ⟨some 91, .mv (.tmp 92), none, Q0⟩] false (some [1, 5, 91]))
  (.cond (.tmp 91) (.seq (.reg 17 [⟨some 93, .fA 6 (.tmp 1), none, ⟨.no, false⟩⟩,
  ⟨some 94, .ld none (.tmp 93), none, ⟨.still, false⟩⟩,
  ⟨some 95, .ixL 7 (.tmp 94) (.con (.int .i64 0)), none, ⟨.no, false⟩⟩,
  ⟨some 96, .ld (some 7) (.tmp 95), none, ⟨.still, false⟩⟩,
  ⟨some 97, .call (.con (.fn 54 [] [])) [(.tmp 96), (.con (.int .i64 4))], none, ⟨.still, false⟩⟩,
  ⟨some 98, .bin .add (.tmp 97) (.con (.str ⟨#[46]⟩)), none, ⟨.no, false⟩⟩,
  ⟨some 99, .fA 2 (.tmp 1), none, Q0⟩,
  ⟨some 100, .ld none (.tmp 99), none, Q1⟩,
  ⟨some 101, .bin .add (.tmp 98) (.tmp 100), none, Q0⟩,
  ⟨some 2, .mv (.tmp 101), none, Q0⟩] true (some [2]))
  .ret) (.seq (.reg 18 [⟨some 103, .bin .eql (.tmp 5) (.con (.int .i64 11)), none, Q0⟩,
  ⟨some 102, .mv (.tmp 103), none, Q0⟩] false (some [1, 5, 102]))
  (.cond (.tmp 102) (.seq (.reg 19 [⟨some 104, .ld (some 7) (.tmp 1), none, Q0⟩,
  ⟨some 105, .call (.con (.fn 55 [] [])) [(.tmp 104)], none, Q0⟩,
  ⟨some 2, .mv (.tmp 105), none, Q0⟩] false (some [2]))
  .ret) (.seq (.reg 20 [⟨some 107, .bin .eql (.tmp 5) (.con (.int .i64 9)), none, Q0⟩,
  ⟨some 106, .mv (.tmp 107), none, Q0⟩] false (some [1, 5, 106]))
  (.cond (.tmp 106) (.seq (.reg 21 [⟨some 108, .ld (some 7) (.tmp 1), none, Q0⟩,
  ⟨some 109, .call (.con (.fn 56 [] [])) [(.tmp 108)], none, Q0⟩,
  ⟨some 110, .bin .add (.con (.str ⟨#[123]⟩)) (.tmp 109), none, Q0⟩,
  ⟨some 111, .bin .add (.tmp 110) (.con (.str ⟨#[125]⟩)), none, Q0⟩,
  ⟨some 2, .mv (.tmp 111), none, Q0⟩] false (some [2]))
  .ret) (.seq (.reg 22 [⟨some 113, .bin .eql (.tmp 5) (.con (.int .i64 12)), none, Q0⟩,
  ⟨some 112, .mv (.tmp 113), none, Q0⟩] false (some [1, 5, 112]))
  (.cond (.tmp 112) (.seq (.reg 23 [⟨some 114, .fA 6 (.tmp 1), none, ⟨.no, false⟩⟩,
  ⟨some 115, .ld none (.tmp 114), none, ⟨.still, false⟩⟩,
  ⟨some 116, .ixL 7 (.tmp 115) (.con (.int .i64 0)), none, ⟨.no, false⟩⟩,
  ⟨some 117, .ld (some 7) (.tmp 116), none, ⟨.still, false⟩⟩,
  ⟨some 118, .call (.con (.fn 24 [] [])) [(.tmp 117)], none, ⟨.still, false⟩⟩,
  ⟨some 119, .bin .add (.con (.str ⟨#[40]⟩)) (.tmp 118), none, ⟨.no, false⟩⟩,
  ⟨some 120, .bin .add (.tmp 119) (.con (.str ⟨#[32, 58, 32]⟩)), none, ⟨.no, false⟩⟩,
  ⟨some 121, .fA 4 (.tmp 1), none, Q0⟩,
  ⟨some 122, .ld none (.tmp 121), none, Q1⟩,
  ⟨some 123, .ixL 5 (.tmp 122) (.con (.int .i64 0)), none, Q0⟩,
  ⟨some 124, .ld (some 5) (.tmp 123), none, Q1⟩,
  ⟨some 125, .call (.con (.fn 30 [] [])) [(.tmp 124)], none, Q0⟩,
  ⟨some 126, .bin .add (.tmp 120) (.tmp 125), none, Q0⟩,
  ⟨some 127, .bin .add (.tmp 126) (.con (.str ⟨#[41]⟩)), none, Q0⟩,
  ⟨some 2, .mv (.tmp 127), none, Q0⟩] true (some [2]))
  .ret) (.seq (.reg 24 [⟨some 129, .bin .eql (.tmp 5) (.con (.int .i64 13)), none, Q0⟩,
  ⟨some 128, .mv (.tmp 129), none, Q0⟩] false (some [1, 128]))
  (.cond (.tmp 128) (.seq (.reg 25 [⟨some 130, .fA 2 (.tmp 1), none, Q0⟩,
  ⟨some 131, .ld none (.tmp 130), none, Q0⟩,
  ⟨some 132, .bin .add (.con (.str ⟨#[99, 97, 108, 108, 32]⟩)) (.tmp 131), none, Q0⟩,
  ⟨some 3, .mv (.tmp 132), none, Q0⟩] false (some [1, 3]))
  (.seq (.seq (.reg 26 [⟨some 133, .fA 3 (.tmp 1), none, Q0⟩,
  ⟨some 134, .ld none (.tmp 133), none, Q0⟩] false (some [1, 3, 134]))
  (.cond (.tmp 134) (.reg 27 [⟨some 135, .mv (.tmp 3), none, Q0⟩,
  ⟨some 136, .bin .add (.tmp 135) (.con (.str ⟨#[91]⟩)), none, Q0⟩,
  ⟨some 137, .fA 4 (.tmp 1), none, Q0⟩,
  ⟨some 138, .ld none (.tmp 137), none, Q0⟩,
  ⟨some 139, .call (.con (.fn 57 [] [])) [(.tmp 138)], none, Q0⟩,
  ⟨some 140, .bin .add (.tmp 136) (.tmp 139), none, Q0⟩,
  ⟨some 141, .bin .add (.tmp 140) (.con (.str ⟨#[93]⟩)), none, Q0⟩,
  ⟨some 3, .mv (.tmp 141), none, Q0⟩] false (some [1, 3])) .skip))
  (.seq (.reg 28 [⟨some 142, .mv (.tmp 3), none, Q0⟩,
  ⟨some 143, .bin .add (.tmp 142) (.con (.str ⟨#[40]⟩)), none, Q0⟩,
  ⟨some 144, .ld (some 7) (.tmp 1), none, Q0⟩,
  ⟨some 145, .call (.con (.fn 56 [] [])) [(.tmp 144)], none, Q0⟩,
  ⟨some 146, .bin .add (.tmp 143) (.tmp 145), none, Q0⟩,
  ⟨some 147, .bin .add (.tmp 146) (.con (.str ⟨#[41]⟩)), none, Q0⟩,
  ⟨some 2, .mv (.tmp 147), none, Q0⟩] false (some [2]))
  .ret))) .skip))))))))))))))))))))))))))
  (.seq (.reg 29 [⟨some 148, .fA 2 (.tmp 1), none, Q0⟩,
  ⟨some 149, .ld none (.tmp 148), none, Q0⟩,
  ⟨some 2, .mv (.tmp 149), none, Q0⟩] false (some [2]))
  .ret)))
def c24 : EFn := ⟨1, 150, [.tmp 2], c24_b, none, true⟩
theorem c24_ok : cFn Tryz.prog Tryz.f24 = some c24.strip := by kernel_rfl
-- limbeck/tyfmt.Show
def c28_b : EC := (.seq (.reg 0 [⟨some 1, .boxI 34 (.tmp 0), none, Q0⟩,
  ⟨some 2, .mv (.con (.str ⟨#[]⟩)), none, Q0⟩] false (some [1]))
  (.seq (.seq (.reg 1 [⟨some 3, .ld (some 5) (.tmp 1), none, Q0⟩,
  ⟨some 4, .call (.con (.fn 65 [] [])) [(.tmp 3)], none, Q0⟩,
  ⟨some 5, .un .not (.tmp 4), none, Q0⟩] false (some [1, 5]))
  (.cond (.tmp 5) (.seq (.reg 2 [⟨some 2, .mv (.con (.str ⟨#[]⟩)), none, Q0⟩] false (some [2]))
  .ret) .skip))
  (.seq (.reg 3 [⟨some 6, .ld (some 5) (.tmp 1), none, Q0⟩,
  ⟨some 7, .call (.con (.fn 66 [] [])) [(.tmp 6)], none, Q0⟩,
  ⟨some 2, .mv (.tmp 7), none, Q0⟩] false (some [2]))
  .ret)))
def c28 : EFn := ⟨1, 8, [.tmp 2], c28_b, none, true⟩
theorem c28_ok : cFn Tryz.prog Tryz.f28 = some c28.strip := by kernel_rfl
-- limbeck/limbeckref05.Show
def c30_b : EC := (.seq (.reg 0 [⟨some 1, .boxI 34 (.tmp 0), none, Q0⟩,
  ⟨some 2, .mv (.con (.str ⟨#[]⟩)), none, Q0⟩] false (some [1]))
  (.seq (.seq (.reg 1 [⟨some 3, .ld (some 5) (.tmp 1), none, Q0⟩,
  ⟨some 4, .call (.con (.fn 67 [] [])) [(.tmp 3)], none, Q0⟩,
  ⟨some 5, .un .not (.tmp 4), none, Q0⟩] false (some [1, 5]))
  (.cond (.tmp 5) (.seq (.reg 2 [⟨some 2, .mv (.con (.str ⟨#[]⟩)), none, Q0⟩] false (some [2]))
  .ret) .skip))
  (.seq (.reg 3 [⟨some 6, .ld (some 5) (.tmp 1), none, Q0⟩,
  ⟨some 7, .call (.con (.fn 68 [] [])) [(.tmp 6)], none, Q0⟩,
  ⟨some 2, .mv (.tmp 7), none, Q0⟩] false (some [2]))
  .ret)))
def c30 : EFn := ⟨1, 8, [.tmp 2], c30_b, none, true⟩
theorem c30_ok : cFn Tryz.prog Tryz.f30 = some c30.strip := by kernel_rfl
-- limbeck/limbeckref14.own
def c34_r1 : List EI := [⟨some 8, .fA 0 (.tmp 1), none, Q0⟩,
  ⟨some 9, .ld none (.tmp 8), none, Q0⟩,
  ⟨some 10, .bin .lss (.tmp 9) (.con (.int .i64 1)), none, Q0⟩,
  ⟨some 11, .mv (.tmp 10), none, Q0⟩,
  ⟨some 12, .fA 0 (.tmp 1), some (11, false), Q0⟩,
  ⟨some 13, .ld none (.tmp 12), some (11, false), Q0⟩,
  ⟨some 14, .bin .gtr (.tmp 13) (.con (.int .i64 13)), some (11, false), Q0⟩,
  ⟨some 15, .pick (.tmp 11) (.con (.bool true)) (.tmp 14), none, Q0⟩]
def c34_r3 : List EI := [⟨some 16, .fA 0 (.tmp 1), none, Q0⟩,
  ⟨some 17, .ld none (.tmp 16), none, Q0⟩,
  ⟨some 18, .bin .eql (.tmp 17) (.con (.int .i64 4)), none, Q0⟩,
  ⟨some 19, .mv (.tmp 18), none, Q0⟩,
  ⟨some 20, .fA 0 (.tmp 1), some (19, false), Q0⟩,
  ⟨some 21, .ld none (.tmp 20), some (19, false), Q0⟩,
  ⟨some 22, .bin .eql (.tmp 21) (.con (.int .i64 5)), some (19, false), Q0⟩,
  ⟨some 23, .pick (.tmp 19) (.con (.bool true)) (.tmp 22), none, Q0⟩,
  ⟨some 24, .mv (.tmp 23), none, Q0⟩,
  ⟨some 25, .fA 0 (.tmp 1), some (24, false), Q0⟩,
  ⟨some 26, .ld none (.tmp 25), some (24, false), Q0⟩,
  ⟨some 27, .bin .eql (.tmp 26) (.con (.int .i64 7)), some (24, false), Q0⟩,
  ⟨some 28, .pick (.tmp 24) (.con (.bool true)) (.tmp 27), none, Q0⟩,
  ⟨some 29, .mv (.tmp 28), none, Q0⟩,
  ⟨some 30, .fA 0 (.tmp 1), some (29, false), Q0⟩,
  ⟨some 31, .ld none (.tmp 30), some (29, false), Q0⟩,
  ⟨some 32, .bin .eql (.tmp 31) (.con (.int .i64 10)), some (29, false), Q0⟩,
  ⟨some 33, .pick (.tmp 29) (.con (.bool true)) (.tmp 32), none, Q0⟩,
  ⟨some 34, .mv (.tmp 33), none, Q0⟩,
  ⟨some 35, .fA 0 (.tmp 1), some (34, false), Q0⟩,
  ⟨some 36, .ld none (.tmp 35), some (34, false), Q0⟩,
  ⟨some 37, .bin .eql (.tmp 36) (.con (.int .i64 13)), some (34, false), Q0⟩,
  ⟨some 38, .pick (.tmp 34) (.con (.bool true)) (.tmp 37), none, Q0⟩,
  ⟨some 3, .mv (.tmp 38), none, Q0⟩]
def c34_r4 : List EI := [⟨some 39, .mv (.tmp 3), none, Q0⟩,
  ⟨some 40, .mv (.tmp 39), none, Q0⟩,
  ⟨some 41, .fA 2 (.tmp 1), some (40, true), Q0⟩,
  ⟨some 42, .ld none (.tmp 41), some (40, true), Q0⟩,
  ⟨some 43, .call (.con (.fn 69 [] [])) [(.tmp 42)], some (40, true), Q0⟩,
  ⟨some 44, .un .not (.tmp 43), some (40, true), Q0⟩,
  ⟨some 45, .pick (.tmp 40) (.tmp 44) (.con (.bool false)), none, Q0⟩,
  ⟨some 46, .mv (.tmp 45), none, Q0⟩,
  ⟨some 47, .mv (.tmp 3), some (46, false), Q0⟩,
  ⟨some 48, .un .not (.tmp 47), some (46, false), Q0⟩,
  ⟨some 49, .mv (.tmp 48), some (46, false), Q0⟩,
  ⟨some 50, .fA 0 (.tmp 1), some (49, true), Q0⟩,
  ⟨some 51, .ld none (.tmp 50), some (49, true), Q0⟩,
  ⟨some 52, .bin .neq (.tmp 51) (.con (.int .i64 3)), some (49, true), Q0⟩,
  ⟨some 53, .pick (.tmp 49) (.tmp 52) (.con (.bool false)), some (46, false), Q0⟩,
  ⟨some 54, .mv (.tmp 53), some (46, false), Q0⟩,
  ⟨some 55, .fA 2 (.tmp 1), some (54, true), Q0⟩,
  ⟨some 56, .ld none (.tmp 55), some (54, true), Q0⟩,
  ⟨some 57, .bin .neq (.tmp 56) (.con (.str ⟨#[]⟩)), some (54, true), Q0⟩,
  ⟨some 58, .pick (.tmp 54) (.tmp 57) (.con (.bool false)), some (46, false), Q0⟩,
  ⟨some 59, .pick (.tmp 46) (.con (.bool true)) (.tmp 58), none, Q0⟩,
  ⟨some 60, .mv (.tmp 59), none, Q0⟩,
  ⟨some 61, .fA 0 (.tmp 1), some (60, false), Q0⟩,
  ⟨some 62, .ld none (.tmp 61), some (60, false), Q0⟩,
  ⟨some 63, .bin .eql (.tmp 62) (.con (.int .i64 3)), some (60, false), Q0⟩,
  ⟨some 64, .mv (.tmp 63), some (60, false), Q0⟩,
  ⟨some 65, .fA 2 (.tmp 1), some (64, true), Q0⟩,
  ⟨some 66, .ld none (.tmp 65), some (64, true), Q0⟩,
  ⟨some 67, .len true (.tmp 66), some (64, true), Q0⟩,
  ⟨some 68, .bin .gtr (.tmp 67) (.con (.int .i64 40)), some (64, true), Q0⟩,
  ⟨some 69, .pick (.tmp 64) (.tmp 68) (.con (.bool false)), some (60, false), Q0⟩,
  ⟨some 70, .pick (.tmp 60) (.con (.bool true)) (.tmp 69), none, Q0⟩]
def c34_r6 : List EI := [⟨some 71, .fA 0 (.tmp 1), none, Q0⟩,
  ⟨some 72, .ld none (.tmp 71), none, Q0⟩,
  ⟨some 73, .bin .eql (.tmp 72) (.con (.int .i64 1)), none, Q0⟩,
  ⟨some 74, .mv (.tmp 73), none, Q0⟩,
  ⟨some 75, .fA 1 (.tmp 1), some (74, true), Q0⟩,
  ⟨some 76, .ld none (.tmp 75), some (74, true), Q0⟩,
  ⟨some 77, .bin .lss (.tmp 76) (.con (.int .i64 0)), some (74, true), Q0⟩,
  ⟨some 78, .pick (.tmp 74) (.tmp 77) (.con (.bool false)), none, Q0⟩,
  ⟨some 79, .mv (.tmp 78), none, Q0⟩,
  ⟨some 80, .fA 0 (.tmp 1), some (79, false), Q0⟩,
  ⟨some 81, .ld none (.tmp 80), some (79, false), Q0⟩,
  ⟨some 82, .bin .eql (.tmp 81) (.con (.int .i64 2)), some (79, false), Q0⟩,
  ⟨some 83, .mv (.tmp 82), some (79, false), Q0⟩,
  ⟨some 84, .fA 1 (.tmp 1), some (83, true), Q0⟩,
  ⟨some 85, .ld none (.tmp 84), some (83, true), Q0⟩,
  ⟨some 86, .bin .neq (.tmp 85) (.con (.int .i64 0)), some (83, true), Q0⟩,
  ⟨some 87, .pick (.tmp 83) (.tmp 86) (.con (.bool false)), some (79, false), Q0⟩,
  ⟨some 88, .mv (.tmp 87), some (79, false), Q0⟩,
  ⟨some 89, .fA 1 (.tmp 1), some (88, true), Q0⟩,
  ⟨some 90, .ld none (.tmp 89), some (88, true), Q0⟩,
  ⟨some 91, .bin .neq (.tmp 90) (.con (.int .i64 1)), some (88, true), Q0⟩,
  ⟨some 92, .pick (.tmp 88) (.tmp 91) (.con (.bool false)), some (79, false), Q0⟩,
  ⟨some 93, .pick (.tmp 79) (.con (.bool true)) (.tmp 92), none, Q0⟩,
  ⟨some 94, .mv (.tmp 93), none, Q0⟩,
  ⟨some 95, .fA 0 (.tmp 1), some (94, false), Q0⟩,
  ⟨some 96, .ld none (.tmp 95), some (94, false), Q0⟩,
  ⟨some 97, .bin .eql (.tmp 96) (.con (.int .i64 11)), some (94, false), Q0⟩,
  ⟨some 98, .mv (.tmp 97), some (94, false), Q0⟩,
  ⟨some 99, .fA 1 (.tmp 1), some (98, true), Q0⟩,
  ⟨some 100, .ld none (.tmp 99), some (98, true), Q0⟩,
  ⟨some 101, .bin .lss (.tmp 100) (.con (.int .i64 1)), some (98, true), Q0⟩,
  ⟨some 102, .mv (.tmp 101), some (98, true), Q0⟩,
  ⟨some 103, .fA 1 (.tmp 1), some (102, false), Q0⟩,
  ⟨some 104, .ld none (.tmp 103), some (102, false), Q0⟩,
  ⟨some 105, .bin .gtr (.tmp 104) (.con (.int .i64 7)), some (102, false), Q0⟩,
  ⟨some 106, .pick (.tmp 102) (.con (.bool true)) (.tmp 105), some (98, true), Q0⟩,
  ⟨some 107, .pick (.tmp 98) (.tmp 106) (.con (.bool false)), some (94, false), Q0⟩,
  ⟨some 108, .pick (.tmp 94) (.con (.bool true)) (.tmp 107), none, Q0⟩]
def c34_r8 : List EI := [⟨some 109, .fA 0 (.tmp 1), none, Q0⟩,
  ⟨some 110, .ld none (.tmp 109), none, Q0⟩,
  ⟨some 111, .bin .neq (.tmp 110) (.con (.int .i64 1)), none, Q0⟩,
  ⟨some 112, .mv (.tmp 111), none, Q0⟩,
  ⟨some 113, .fA 0 (.tmp 1), some (112, true), Q0⟩,
  ⟨some 114, .ld none (.tmp 113), some (112, true), Q0⟩,
  ⟨some 115, .bin .neq (.tmp 114) (.con (.int .i64 2)), some (112, true), Q0⟩,
  ⟨some 116, .pick (.tmp 112) (.tmp 115) (.con (.bool false)), none, Q0⟩,
  ⟨some 117, .mv (.tmp 116), none, Q0⟩,
  ⟨some 118, .fA 0 (.tmp 1), some (117, true), Q0⟩,
  ⟨some 119, .ld none (.tmp 118), some (117, true), Q0⟩,
  ⟨some 120, .bin .neq (.tmp 119) (.con (.int .i64 11)), some (117, true), Q0⟩,
  ⟨some 121, .pick (.tmp 117) (.tmp 120) (.con (.bool false)), none, Q0⟩,
  ⟨some 122, .mv (.tmp 121), none, Q0⟩,
  ⟨some 123, .fA 1 (.tmp 1), some (122, true), Q0⟩,
  ⟨some 124, .ld none (.tmp 123), some (122, true), Q0⟩,
  ⟨some 125, .bin .neq (.tmp 124) (.con (.int .i64 0)), some (122, true), Q0⟩,
  ⟨some 126, .pick (.tmp 122) (.tmp 125) (.con (.bool false)), none, Q0⟩,
  ⟨some 127, .mv (.tmp 126), none, Q0⟩,
  ⟨some 128, .fA 0 (.tmp 1), some (127, false), Q0⟩,
  ⟨some 129, .ld none (.tmp 128), some (127, false), Q0⟩,
  ⟨some 130, .bin .neq (.tmp 129) (.con (.int .i64 13)), some (127, false), Q0⟩,
  ⟨some 131, .mv (.tmp 130), some (127, false), Q0⟩,
  ⟨some 132, .fA 3 (.tmp 1), some (131, true), Q0⟩,
  ⟨some 133, .ld none (.tmp 132), some (131, true), Q0⟩,
  ⟨some 134, .pick (.tmp 131) (.tmp 133) (.con (.bool false)), some (127, false), Q0⟩,
  ⟨some 135, .pick (.tmp 127) (.con (.bool true)) (.tmp 134), none, Q0⟩]
def c34_r10 : List EI := [⟨some 136, .fA 0 (.tmp 1), none, Q0⟩,
  ⟨some 137, .ld none (.tmp 136), none, Q0⟩,
  ⟨some 138, .bin .neq (.tmp 137) (.con (.int .i64 9)), none, Q0⟩,
  ⟨some 139, .mv (.tmp 138), none, Q0⟩,
  ⟨some 140, .fA 5 (.tmp 1), some (139, true), Q0⟩,
  ⟨some 141, .ld none (.tmp 140), some (139, true), Q0⟩,
  ⟨some 142, .len false (.tmp 141), some (139, true), Q0⟩,
  ⟨some 143, .bin .gtr (.tmp 142) (.con (.int .i64 0)), some (139, true), Q0⟩,
  ⟨some 144, .pick (.tmp 139) (.tmp 143) (.con (.bool false)), none, Q0⟩,
  ⟨some 145, .mv (.tmp 144), none, Q0⟩,
  ⟨some 146, .fA 5 (.tmp 1), some (145, false), Q0⟩,
  ⟨some 147, .ld none (.tmp 146), some (145, false), Q0⟩,
  ⟨some 148, .call (.con (.fn 81 [] [])) [(.tmp 147)], some (145, false), Q0⟩,
  ⟨some 149, .un .not (.tmp 148), some (145, false), Q0⟩,
  ⟨some 150, .pick (.tmp 145) (.con (.bool true)) (.tmp 149), none, Q0⟩,
  ⟨some 151, .mv (.tmp 150), none, Q0⟩,
  ⟨some 152, .fA 5 (.tmp 1), some (151, false), Q0⟩,
  ⟨some 153, .ld none (.tmp 152), some (151, false), Q0⟩,
  ⟨some 154, .len false (.tmp 153), some (151, false), Q0⟩,
  ⟨some 155, .bin .gtr (.tmp 154) (.con (.int .i64 6)), some (151, false), Q0⟩,
  ⟨some 156, .pick (.tmp 151) (.con (.bool true)) (.tmp 155), none, Q0⟩]
def c34_r13 : List EI := [⟨some 164, .fA 4 (.tmp 1), none, Q0⟩,
  ⟨some 165, .ld none (.tmp 164), none, Q0⟩,
  ⟨some 166, .len false (.tmp 165), none, Q0⟩,
  ⟨some 167, .mv (.tmp 4), none, Q0⟩,
  ⟨some 168, .bin .geq (.tmp 166) (.tmp 167), none, Q0⟩,
  ⟨some 169, .mv (.tmp 168), none, Q0⟩,
  ⟨some 170, .fA 4 (.tmp 1), some (169, true), Q0⟩,
  ⟨some 171, .ld none (.tmp 170), some (169, true), Q0⟩,
  ⟨some 172, .len false (.tmp 171), some (169, true), Q0⟩,
  ⟨some 173, .mv (.tmp 5), some (169, true), Q0⟩,
  ⟨some 174, .bin .leq (.tmp 172) (.tmp 173), some (169, true), Q0⟩,
  ⟨some 175, .pick (.tmp 169) (.tmp 174) (.con (.bool false)), none, Q0⟩,
  ⟨some 176, .mv (.tmp 175), none, Q0⟩,
  ⟨some 177, .fA 6 (.tmp 1), some (176, true), Q0⟩,
  ⟨some 178, .ld none (.tmp 177), some (176, true), Q0⟩,
  ⟨some 179, .len false (.tmp 178), some (176, true), Q0⟩,
  ⟨some 180, .mv (.tmp 6), some (176, true), Q0⟩,
  ⟨some 181, .bin .geq (.tmp 179) (.tmp 180), some (176, true), Q0⟩,
  ⟨some 182, .pick (.tmp 176) (.tmp 181) (.con (.bool false)), none, Q0⟩,
  ⟨some 183, .mv (.tmp 182), none, Q0⟩,
  ⟨some 184, .fA 6 (.tmp 1), some (183, true), Q0⟩,
  ⟨some 185, .ld none (.tmp 184), some (183, true), Q0⟩,
  ⟨some 186, .len false (.tmp 185), some (183, true), Q0⟩,
  ⟨some 187, .mv (.tmp 7), some (183, true), Q0⟩,
  ⟨some 188, .bin .leq (.tmp 186) (.tmp 187), some (183, true), Q0⟩,
  ⟨some 189, .pick (.tmp 183) (.tmp 188) (.con (.bool false)), none, Q0⟩,
  ⟨some 190, .mv (.tmp 189), none, Q0⟩,
  ⟨some 191, .fA 4 (.tmp 1), some (190, true), Q0⟩,
  ⟨some 192, .ld none (.tmp 191), some (190, true), Q0⟩,
  ⟨some 193, .call (.con (.fn 70 [] [])) [(.tmp 192)], some (190, true), Q0⟩,
  ⟨some 194, .pick (.tmp 190) (.tmp 193) (.con (.bool false)), none, Q0⟩,
  ⟨some 2, .mv (.tmp 194), none, Q0⟩]
def c34_b : EC := (.seq (.reg 0 [⟨some 1, .boxI 26 (.tmp 0), none, Q0⟩,
  ⟨some 2, .mv (.con (.bool false)), none, Q0⟩] false (some [1]))
  (.seq (.seq (.reg 1 c34_r1 false (some [1, 15]))
  (.cond (.tmp 15) (.seq (.reg 2 [⟨some 2, .mv (.con (.bool false)), none, Q0⟩] false (some [2]))
  .ret) .skip))
  (.seq (.reg 3 c34_r3 false (some [1, 3]))
  (.seq (.seq (.reg 4 c34_r4 false (some [1, 70]))
  (.cond (.tmp 70) (.seq (.reg 5 [⟨some 2, .mv (.con (.bool false)), none, Q0⟩] false (some [2]))
  .ret) .skip))
  (.seq (.seq (.reg 6 c34_r6 false (some [1, 108]))
  (.cond (.tmp 108) (.seq (.reg 7 [⟨some 2, .mv (.con (.bool false)), none, Q0⟩] false (some [2]))
  .ret) .skip))
  (.seq (.seq (.reg 8 c34_r8 false (some [1, 135]))
  (.cond (.tmp 135) (.seq (.reg 9 [⟨some 2, .mv (.con (.bool false)), none, Q0⟩] false (some [2]))
  .ret) .skip))
  (.seq (.seq (.reg 10 c34_r10 false (some [1, 156]))
  (.cond (.tmp 156) (.seq (.reg 11 [⟨some 2, .mv (.con (.bool false)), none, Q0⟩] false (some [2]))
  .ret) .skip))
  (.seq (.reg 12 [⟨some 158, .ld (some 7) (.tmp 1), none, Q0⟩,
  ⟨some 159, .call (.con (.fn 82 [] [])) [(.tmp 158)], none, Q0⟩,
  ⟨some 157, .mv (.tmp 159), none, Q0⟩,
  ⟨some 160, .ext (.tmp 157) 0, none, Q0⟩,
  ⟨some 161, .ext (.tmp 157) 1, none, Q0⟩,
  ⟨some 162, .ext (.tmp 157) 2, none, Q0⟩,
  ⟨some 163, .ext (.tmp 157) 3, none, Q0⟩,
  ⟨some 4, .mv (.tmp 160), none, Q0⟩,
  ⟨some 5, .mv (.tmp 161), none, Q0⟩,
  ⟨some 6, .mv (.tmp 162), none, Q0⟩,
  ⟨some 7, .mv (.tmp 163), none, Q0⟩] false (some [1, 4, 5, 6, 7]))
  (.seq (.reg 13 c34_r13 false (some [2]))
  .ret)))))))))
def c34 : EFn := ⟨1, 195, [.tmp 2], c34_b, none, true⟩
theorem c34_ok : cFn Tryz.prog Tryz.f34 = some c34.strip := by kernel_rfl
-- limbeck/exp.worded
def c37_b : EC := (.seq (.reg 0 [⟨some 1, .boxI 26 (.tmp 0), none, Q0⟩,
  ⟨some 2, .mv (.con (.bool false)), none, Q0⟩] false (some [1]))
  (.seq (.seq (.reg 1 [⟨some 3, .fA 0 (.tmp 1), none, Q0⟩,
  ⟨some 4, .ld none (.tmp 3), none, Q0⟩] false (some [1, 4]))
  (.block 0 (.seq (.seq (.reg 2 [⟨some 6, .bin .eql (.tmp 4) (.con (.int .i64 4)), none, Q0⟩,
  ⟨some 5, .mv (.tmp 6), none, Q0⟩] false (some [1, 4, 5]))
  (.cond (.tmp 5) .skip (.seq (.reg 3 [⟨some 7, .bin .eql (.tmp 4) (.con (.int .i64 5)), none, Q0⟩,
  ⟨some 5, .mv (.tmp 7), none, Q0⟩] false (some [1, 4, 5]))
  (.cond (.tmp 5) .skip (.seq (.reg 4 [⟨some 8, .bin .eql (.tmp 4) (.con (.int .i64 7)), none, Q0⟩,
  ⟨some 5, .mv (.tmp 8), none, Q0⟩] false (some [1, 4, 5]))
  (.cond (.tmp 5) .skip (.seq (.reg 5 [⟨some 9, .bin .eql (.tmp 4) (.con (.int .i64 10)), none, Q0⟩,
  ⟨some 5, .mv (.tmp 9), none, Q0⟩] false (some [1, 4, 5]))
  (.cond (.tmp 5) .skip (.reg 6 [⟨some 10, .bin .eql (.tmp 4) (.con (.int .i64 13)), none, Q0⟩,
  ⟨some 5, .mv (.tmp 10), none, Q0⟩] false (some [1, 4, 5]))))))))))
  (.cond (.tmp 5) (.seq (.reg 7 [⟨some 11, .fA 2 (.tmp 1), none, Q0⟩,
  ⟨some 12, .ld none (.tmp 11), none, Q0⟩,
  ⟨some 13, .call (.con (.fn 58 [] [])) [(.tmp 12)], none, Q0⟩,
  ⟨some 2, .mv (.tmp 13), none, Q0⟩] false (some [2]))
  .ret) (.seq (.reg 8 [⟨some 15, .bin .eql (.tmp 4) (.con (.int .i64 3)), none, Q0⟩,
  ⟨some 14, .mv (.tmp 15), none, Q0⟩] false (some [1, 14]))
  (.cond (.tmp 14) (.seq (.reg 9 [⟨some 16, .fA 2 (.tmp 1), none, Q0⟩,
  ⟨some 17, .ld none (.tmp 16), none, Q0⟩,
  ⟨some 18, .len true (.tmp 17), none, Q0⟩,
  ⟨some 19, .bin .leq (.tmp 18) (.con (.int .i64 40)), none, Q0⟩,
  ⟨some 2, .mv (.tmp 19), none, Q0⟩] false (some [2]))
  .ret) .skip))))))
  (.seq (.reg 10 [⟨some 20, .fA 2 (.tmp 1), none, Q0⟩,
  ⟨some 21, .ld none (.tmp 20), none, Q0⟩,
  ⟨some 22, .bin .eql (.tmp 21) (.con (.str ⟨#[]⟩)), none, Q0⟩,
  ⟨some 2, .mv (.tmp 22), none, Q0⟩] false (some [2]))
  .ret)))
def c37 : EFn := ⟨1, 23, [.tmp 2], c37_b, none, true⟩
theorem c37_ok : cFn Tryz.prog Tryz.f37 = some c37.strip := by kernel_rfl
-- limbeck/exp.numbered
def c38_r5 : List EI := [⟨some 12, .fA 1 (.tmp 1), none, Q0⟩,
  ⟨some 13, .ld none (.tmp 12), none, Q0⟩,
  ⟨some 14, .bin .eql (.tmp 13) (.con (.int .i64 0)), none, Q0⟩,
  ⟨some 15, .mv (.tmp 14), none, Q0⟩,
  ⟨some 16, .fA 1 (.tmp 1), some (15, false), Q0⟩,
  ⟨some 17, .ld none (.tmp 16), some (15, false), Q0⟩,
  ⟨some 18, .bin .eql (.tmp 17) (.con (.int .i64 1)), some (15, false), Q0⟩,
  ⟨some 19, .pick (.tmp 15) (.con (.bool true)) (.tmp 18), none, Q0⟩,
  ⟨some 2, .mv (.tmp 19), none, Q0⟩]
def c38_r7 : List EI := [⟨some 22, .fA 1 (.tmp 1), none, Q0⟩,
  ⟨some 23, .ld none (.tmp 22), none, Q0⟩,
  ⟨some 24, .bin .geq (.tmp 23) (.con (.int .i64 1)), none, Q0⟩,
  ⟨some 25, .mv (.tmp 24), none, Q0⟩,
  ⟨some 26, .fA 1 (.tmp 1), some (25, true), Q0⟩,
  ⟨some 27, .ld none (.tmp 26), some (25, true), Q0⟩,
  ⟨some 28, .bin .leq (.tmp 27) (.con (.int .i64 7)), some (25, true), Q0⟩,
  ⟨some 29, .pick (.tmp 25) (.tmp 28) (.con (.bool false)), none, Q0⟩,
  ⟨some 2, .mv (.tmp 29), none, Q0⟩]
def c38_b : EC := (.seq (.reg 0 [⟨some 1, .boxI 26 (.tmp 0), none, Q0⟩,
  ⟨some 2, .mv (.con (.bool false)), none, Q0⟩] false (some [1]))
  (.seq (.seq (.reg 1 [⟨some 3, .fA 0 (.tmp 1), none, Q0⟩,
  ⟨some 4, .ld none (.tmp 3), none, Q0⟩] false (some [1, 4]))
  (.block 0 (.seq (.reg 2 [⟨some 6, .bin .eql (.tmp 4) (.con (.int .i64 1)), none, Q0⟩,
  ⟨some 5, .mv (.tmp 6), none, Q0⟩] false (some [1, 4, 5]))
  (.cond (.tmp 5) (.seq (.reg 3 [⟨some 7, .fA 1 (.tmp 1), none, Q0⟩,
  ⟨some 8, .ld none (.tmp 7), none, Q0⟩,
  ⟨some 9, .bin .geq (.tmp 8) (.con (.int .i64 0)), none, Q0⟩,
  ⟨some 2, .mv (.tmp 9), none, Q0⟩] false (some [2]))
  .ret) (.seq (.reg 4 [⟨some 11, .bin .eql (.tmp 4) (.con (.int .i64 2)), none, Q0⟩,
  ⟨some 10, .mv (.tmp 11), none, Q0⟩] false (some [1, 4, 10]))
  (.cond (.tmp 10) (.seq (.reg 5 c38_r5 false (some [2]))
  .ret) (.seq (.reg 6 [⟨some 21, .bin .eql (.tmp 4) (.con (.int .i64 11)), none, Q0⟩,
  ⟨some 20, .mv (.tmp 21), none, Q0⟩] false (some [1, 20]))
  (.cond (.tmp 20) (.seq (.reg 7 c38_r7 false (some [2]))
  .ret) .skip))))))))
  (.seq (.reg 8 [⟨some 30, .fA 1 (.tmp 1), none, Q0⟩,
  ⟨some 31, .ld none (.tmp 30), none, Q0⟩,
  ⟨some 32, .bin .eql (.tmp 31) (.con (.int .i64 0)), none, Q0⟩,
  ⟨some 2, .mv (.tmp 32), none, Q0⟩] false (some [2]))
  .ret)))
def c38 : EFn := ⟨1, 33, [.tmp 2], c38_b, none, true⟩
theorem c38_ok : cFn Tryz.prog Tryz.f38 = some c38.strip := by kernel_rfl
-- limbeck/exp.typed
def c39_r9 : List EI := [⟨some 20, .fA 3 (.tmp 1), none, Q0⟩,
  ⟨some 21, .ld none (.tmp 20), none, Q0⟩,
  ⟨some 22, .un .not (.tmp 21), none, Q0⟩,
  ⟨some 23, .mv (.tmp 22), none, Q0⟩,
  ⟨some 24, .mv (.tmp 3), some (23, true), Q0⟩,
  ⟨some 25, .bin .eql (.tmp 24) (.con (.int .i64 0)), some (23, true), Q0⟩,
  ⟨some 26, .pick (.tmp 23) (.tmp 25) (.con (.bool false)), none, Q0⟩,
  ⟨some 27, .mv (.tmp 26), none, Q0⟩,
  ⟨some 28, .fA 3 (.tmp 1), some (27, false), Q0⟩,
  ⟨some 29, .ld none (.tmp 28), some (27, false), Q0⟩,
  ⟨some 30, .mv (.tmp 29), some (27, false), Q0⟩,
  ⟨some 31, .mv (.tmp 3), some (30, true), Q0⟩,
  ⟨some 32, .bin .geq (.tmp 31) (.con (.int .i64 1)), some (30, true), Q0⟩,
  ⟨some 33, .pick (.tmp 30) (.tmp 32) (.con (.bool false)), some (27, false), Q0⟩,
  ⟨some 34, .mv (.tmp 33), some (27, false), Q0⟩,
  ⟨some 35, .mv (.tmp 3), some (34, true), Q0⟩,
  ⟨some 36, .bin .leq (.tmp 35) (.con (.int .i64 3)), some (34, true), Q0⟩,
  ⟨some 37, .pick (.tmp 34) (.tmp 36) (.con (.bool false)), some (27, false), Q0⟩,
  ⟨some 38, .pick (.tmp 27) (.con (.bool true)) (.tmp 37), none, Q0⟩,
  ⟨some 2, .mv (.tmp 38), none, Q0⟩]
def c39_b : EC := (.seq (.reg 0 [⟨some 1, .boxI 26 (.tmp 0), none, Q0⟩,
  ⟨some 2, .mv (.con (.bool false)), none, Q0⟩] false (some [1]))
  (.seq (.reg 1 [⟨some 4, .fA 4 (.tmp 1), none, Q0⟩,
  ⟨some 5, .ld none (.tmp 4), none, Q0⟩,
  ⟨some 6, .len false (.tmp 5), none, Q0⟩,
  ⟨some 3, .mv (.tmp 6), none, Q0⟩] false (some [1, 3]))
  (.seq (.seq (.reg 2 [⟨some 7, .fA 0 (.tmp 1), none, Q0⟩,
  ⟨some 8, .ld none (.tmp 7), none, Q0⟩] false (some [1, 3, 8]))
  (.block 0 (.seq (.seq (.reg 3 [⟨some 10, .bin .eql (.tmp 8) (.con (.int .i64 5)), none, Q0⟩,
  ⟨some 9, .mv (.tmp 10), none, Q0⟩] false (some [1, 3, 8, 9]))
  (.cond (.tmp 9) .skip (.reg 4 [⟨some 11, .bin .eql (.tmp 8) (.con (.int .i64 7)), none, Q0⟩,
  ⟨some 9, .mv (.tmp 11), none, Q0⟩] false (some [1, 3, 8, 9]))))
  (.cond (.tmp 9) (.seq (.reg 5 [⟨some 12, .mv (.tmp 3), none, Q0⟩,
  ⟨some 13, .bin .leq (.tmp 12) (.con (.int .i64 1)), none, Q0⟩,
  ⟨some 2, .mv (.tmp 13), none, Q0⟩] false (some [2]))
  .ret) (.seq (.reg 6 [⟨some 15, .bin .eql (.tmp 8) (.con (.int .i64 12)), none, Q0⟩,
  ⟨some 14, .mv (.tmp 15), none, Q0⟩] false (some [1, 3, 8, 14]))
  (.cond (.tmp 14) (.seq (.reg 7 [⟨some 16, .mv (.tmp 3), none, Q0⟩,
  ⟨some 17, .bin .eql (.tmp 16) (.con (.int .i64 1)), none, Q0⟩,
  ⟨some 2, .mv (.tmp 17), none, Q0⟩] false (some [2]))
  .ret) (.seq (.reg 8 [⟨some 19, .bin .eql (.tmp 8) (.con (.int .i64 13)), none, Q0⟩,
  ⟨some 18, .mv (.tmp 19), none, Q0⟩] false (some [1, 3, 18]))
  (.cond (.tmp 18) (.seq (.reg 9 c39_r9 false (some [2]))
  .ret) .skip))))))))
  (.seq (.reg 10 [⟨some 39, .mv (.tmp 3), none, Q0⟩,
  ⟨some 40, .bin .eql (.tmp 39) (.con (.int .i64 0)), none, Q0⟩,
  ⟨some 2, .mv (.tmp 40), none, Q0⟩] false (some [2]))
  .ret))))
def c39 : EFn := ⟨1, 41, [.tmp 2], c39_b, none, true⟩
theorem c39_ok : cFn Tryz.prog Tryz.f39 = some c39.strip := by kernel_rfl
-- limbeck/exp.bearing
def c40_r19 : List EI := [⟨some 34, .mv (.tmp 3), none, Q0⟩,
  ⟨some 35, .fA 5 (.tmp 1), none, Q0⟩,
  ⟨some 36, .ld none (.tmp 35), none, Q0⟩,
  ⟨some 37, .len false (.tmp 36), none, Q0⟩,
  ⟨some 38, .bin .eql (.tmp 34) (.tmp 37), none, Q0⟩,
  ⟨some 39, .mv (.tmp 38), none, Q0⟩,
  ⟨some 40, .mv (.tmp 3), some (39, true), Q0⟩,
  ⟨some 41, .bin .leq (.tmp 40) (.con (.int .i64 6)), some (39, true), Q0⟩,
  ⟨some 42, .pick (.tmp 39) (.tmp 41) (.con (.bool false)), none, Q0⟩,
  ⟨some 43, .mv (.tmp 42), none, Q0⟩,
  ⟨some 44, .fA 5 (.tmp 1), some (43, true), Q0⟩,
  ⟨some 45, .ld none (.tmp 44), some (43, true), Q0⟩,
  ⟨some 46, .call (.con (.fn 83 [] [])) [(.tmp 45)], some (43, true), Q0⟩,
  ⟨some 47, .pick (.tmp 43) (.tmp 46) (.con (.bool false)), none, Q0⟩,
  ⟨some 2, .mv (.tmp 47), none, Q0⟩]
def c40_b : EC := (.seq (.reg 0 [⟨some 1, .boxI 26 (.tmp 0), none, Q0⟩,
  ⟨some 2, .mv (.con (.bool false)), none, Q0⟩] false (some [1]))
  (.seq (.reg 1 [⟨some 4, .fA 6 (.tmp 1), none, Q0⟩,
  ⟨some 5, .ld none (.tmp 4), none, Q0⟩,
  ⟨some 6, .len false (.tmp 5), none, Q0⟩,
  ⟨some 3, .mv (.tmp 6), none, Q0⟩] false (some [1, 3]))
  (.seq (.seq (.reg 2 [⟨some 7, .fA 0 (.tmp 1), none, Q0⟩,
  ⟨some 8, .ld none (.tmp 7), none, Q0⟩] false (some [1, 3, 8]))
  (.block 0 (.seq (.seq (.reg 3 [⟨some 10, .bin .eql (.tmp 8) (.con (.int .i64 1)), none, Q0⟩,
  ⟨some 9, .mv (.tmp 10), none, Q0⟩] false (some [1, 3, 8, 9]))
  (.cond (.tmp 9) .skip (.seq (.reg 4 [⟨some 11, .bin .eql (.tmp 8) (.con (.int .i64 2)), none, Q0⟩,
  ⟨some 9, .mv (.tmp 11), none, Q0⟩] false (some [1, 3, 8, 9]))
  (.cond (.tmp 9) .skip (.seq (.reg 5 [⟨some 12, .bin .eql (.tmp 8) (.con (.int .i64 3)), none, Q0⟩,
  ⟨some 9, .mv (.tmp 12), none, Q0⟩] false (some [1, 3, 8, 9]))
  (.cond (.tmp 9) .skip (.reg 6 [⟨some 13, .bin .eql (.tmp 8) (.con (.int .i64 4)), none, Q0⟩,
  ⟨some 9, .mv (.tmp 13), none, Q0⟩] false (some [1, 3, 8, 9]))))))))
  (.cond (.tmp 9) (.seq (.reg 7 [⟨some 14, .mv (.tmp 3), none, Q0⟩,
  ⟨some 15, .bin .eql (.tmp 14) (.con (.int .i64 0)), none, Q0⟩,
  ⟨some 2, .mv (.tmp 15), none, Q0⟩] false (some [2]))
  .ret) (.seq (.seq (.reg 8 [⟨some 17, .bin .eql (.tmp 8) (.con (.int .i64 7)), none, Q0⟩,
  ⟨some 16, .mv (.tmp 17), none, Q0⟩] false (some [1, 3, 8, 16]))
  (.cond (.tmp 16) .skip (.seq (.reg 9 [⟨some 18, .bin .eql (.tmp 8) (.con (.int .i64 10)), none, Q0⟩,
  ⟨some 16, .mv (.tmp 18), none, Q0⟩] false (some [1, 3, 8, 16]))
  (.cond (.tmp 16) .skip (.reg 10 [⟨some 19, .bin .eql (.tmp 8) (.con (.int .i64 12)), none, Q0⟩,
  ⟨some 16, .mv (.tmp 19), none, Q0⟩] false (some [1, 3, 8, 16]))))))
  (.cond (.tmp 16) (.seq (.reg 11 [⟨some 20, .mv (.tmp 3), none, Q0⟩,
  ⟨some 21, .bin .eql (.tmp 20) (.con (.int .i64 1)), none, Q0⟩,
  ⟨some 2, .mv (.tmp 21), none, Q0⟩] false (some [2]))
  .ret) (.seq (.seq (.reg 12 [⟨some 23, .bin .eql (.tmp 8) (.con (.int .i64 5)), none, Q0⟩,
  ⟨some 22, .mv (.tmp 23), none, Q0⟩] false (some [1, 3, 8, 22]))
  (.cond (.tmp 22) .skip (.seq (.reg 13 [⟨some 24, .bin .eql (.tmp 8) (.con (.int .i64 8)), none, Q0⟩,
  ⟨some 22, .mv (.tmp 24), none, Q0⟩] false (some [1, 3, 8, 22]))
  (.cond (.tmp 22) .skip (.reg 14 [⟨some 25, .bin .eql (.tmp 8) (.con (.int .i64 11)), none, Q0⟩,
  ⟨some 22, .mv (.tmp 25), none, Q0⟩] false (some [1, 3, 8, 22]))))))
  (.cond (.tmp 22) (.seq (.reg 15 [⟨some 26, .mv (.tmp 3), none, Q0⟩,
  ⟨some 27, .bin .eql (.tmp 26) (.con (.int .i64 2)), none, Q0⟩,
  ⟨some 2, .mv (.tmp 27), none, Q0⟩] false (some [2]))
  .ret) (.seq (.reg 16 [⟨some 29, .bin .eql (.tmp 8) (.con (.int .i64 6)), none, Q0⟩,
  ⟨some 28, .mv (.tmp 29), none, Q0⟩] false (some [1, 3, 8, 28]))
  (.cond (.tmp 28) (.seq (.reg 17 [⟨some 30, .mv (.tmp 3), none, Q0⟩,
  ⟨some 31, .bin .eql (.tmp 30) (.con (.int .i64 3)), none, Q0⟩,
  ⟨some 2, .mv (.tmp 31), none, Q0⟩] false (some [2]))
  .ret) (.seq (.reg 18 [⟨some 33, .bin .eql (.tmp 8) (.con (.int .i64 9)), none, Q0⟩,
  ⟨some 32, .mv (.tmp 33), none, Q0⟩] false (some [1, 3, 8, 32]))
  (.cond (.tmp 32) (.seq (.reg 19 c40_r19 false (some [2]))
  .ret) (.seq (.reg 20 [⟨some 49, .bin .eql (.tmp 8) (.con (.int .i64 13)), none, Q0⟩,
  ⟨some 48, .mv (.tmp 49), none, Q0⟩] false (some [3, 48]))
  (.cond (.tmp 48) (.seq (.reg 21 [⟨some 50, .mv (.tmp 3), none, Q0⟩,
  ⟨some 51, .bin .leq (.tmp 50) (.con (.int .i64 4)), none, Q0⟩,
  ⟨some 2, .mv (.tmp 51), none, Q0⟩] false (some [2]))
  .ret) .skip))))))))))))))
  (.seq (.reg 22 [⟨some 2, .mv (.con (.bool false)), none, Q0⟩] false (some [2]))
  .ret))))
def c40 : EFn := ⟨1, 52, [.tmp 2], c40_b, none, true⟩
theorem c40_ok : cFn Tryz.prog Tryz.f40 = some c40.strip := by kernel_rfl
-- limbeck/exp.all[limbeck/api.Ty]
def c41_b : EC := (.seq (.reg 0 [⟨some 3, .boxI 58 (.tmp 1), none, Q0⟩,
  ⟨some 4, .mv (.con (.bool false)), none, Q0⟩] false (some [0, 3]))
  (.seq (.reg 1 [⟨some 5, .mv (.tmp 0), none, Q0⟩,
  ⟨some 6, .fnv 85 [] [(.tmp 3)], none, Q0⟩,
  ⟨some 7, .call (.con (.fn 84 [] [])) [(.tmp 5), (.tmp 6)], none, Q0⟩,
  ⟨some 8, .un .not (.tmp 7), none, Q0⟩,
  ⟨some 4, .mv (.tmp 8), none, Q0⟩] false (some [4]))
  .ret))
def c41 : EFn := ⟨2, 9, [.tmp 4], c41_b, none, true⟩
theorem c41_ok : cFn Tryz.prog Tryz.f41 = some c41.strip := by kernel_rfl
-- limbeck/exp.fine
def c42_r1 : List EI := [⟨some 3, .ld (some 5) (.tmp 1), none, Q0⟩,
  ⟨some 4, .call (.con (.fn 65 [] [])) [(.tmp 3)], none, Q0⟩,
  ⟨some 5, .mv (.tmp 4), none, Q0⟩,
  ⟨some 6, .ld (some 5) (.tmp 1), some (5, true), Q0⟩,
  ⟨some 7, .call (.con (.fn 86 [] [])) [(.tmp 6), (.con (.int .i64 9))], some (5, true), Q0⟩,
  ⟨some 8, .un .not (.tmp 7), some (5, true), Q0⟩,
  ⟨some 9, .pick (.tmp 5) (.tmp 8) (.con (.bool false)), none, Q0⟩,
  ⟨some 2, .mv (.tmp 9), none, Q0⟩]
def c42_b : EC := (.seq (.reg 0 [⟨some 1, .boxI 34 (.tmp 0), none, Q0⟩,
  ⟨some 2, .mv (.con (.bool false)), none, Q0⟩] false (some [1]))
  (.seq (.reg 1 c42_r1 false (some [2]))
  .ret))
def c42 : EFn := ⟨1, 10, [.tmp 2], c42_b, none, true⟩
theorem c42_ok : cFn Tryz.prog Tryz.f42 = some c42.strip := by kernel_rfl
-- limbeck/exp.all[limbeck/api.Exp]
def c43_b : EC := (.seq (.reg 0 [⟨some 3, .boxI 44 (.tmp 1), none, Q0⟩,
  ⟨some 4, .mv (.con (.bool false)), none, Q0⟩] false (some [0, 3]))
  (.seq (.reg 1 [⟨some 5, .mv (.tmp 0), none, Q0⟩,
  ⟨some 6, .fnv 88 [] [(.tmp 3)], none, Q0⟩,
  ⟨some 7, .call (.con (.fn 87 [] [])) [(.tmp 5), (.tmp 6)], none, Q0⟩,
  ⟨some 8, .un .not (.tmp 7), none, Q0⟩,
  ⟨some 4, .mv (.tmp 8), none, Q0⟩] false (some [4]))
  .ret))
def c43 : EFn := ⟨2, 9, [.tmp 4], c43_b, none, true⟩
theorem c43_ok : cFn Tryz.prog Tryz.f43 = some c43.strip := by kernel_rfl
-- limbeck/expfmt.bound
def c44_b : EC := (.seq (.reg 0 [⟨some 1, .boxI 26 (.tmp 0), none, Q0⟩,
  ⟨some 2, .mv (.con (.str ⟨#[]⟩)), none, Q0⟩] false (some [1]))
  (.seq (.seq (.reg 1 [⟨some 3, .fA 4 (.tmp 1), none, Q0⟩,
  ⟨some 4, .ld none (.tmp 3), none, Q0⟩,
  ⟨some 5, .len false (.tmp 4), none, Q0⟩,
  ⟨some 6, .bin .eql (.tmp 5) (.con (.int .i64 0)), none, Q0⟩] false (some [1, 6]))
  (.cond (.tmp 6) (.seq (.reg 2 [⟨some 7, .fA 2 (.tmp 1), none, Q0⟩,
  ⟨some 8, .ld none (.tmp 7), none, Q0⟩,
  ⟨some 2, .mv (.tmp 8), none, Q0⟩] false (some [2]))
  .ret) .skip))
  (.seq (.reg 3 [⟨some 9, .fA 2 (.tmp 1), none, ⟨.no, false⟩⟩,
  ⟨some 10, .ld none (.tmp 9), none, ⟨.still, false⟩⟩,
  ⟨some 11, .bin .add (.tmp 10) (.con (.str ⟨#[58, 32]⟩)), none, ⟨.no, false⟩⟩,
  ⟨some 12, .fA 4 (.tmp 1), none, Q0⟩,
  ⟨some 13, .ld none (.tmp 12), none, Q1⟩,
  ⟨some 14, .ixL 5 (.tmp 13) (.con (.int .i64 0)), none, Q0⟩,
  ⟨some 15, .ld (some 5) (.tmp 14), none, Q1⟩,
  ⟨some 16, .call (.con (.fn 28 [] [])) [(.tmp 15)], none, Q1⟩,
  ⟨some 17, .bin .add (.tmp 11) (.tmp 16), none, Q0⟩,
  ⟨some 2, .mv (.tmp 17), none, Q0⟩] true (some [2]))
  .ret)))
def c44 : EFn := ⟨1, 18, [.tmp 2], c44_b, none, true⟩
theorem c44_ok : cFn Tryz.prog Tryz.f44 = some c44.strip := by kernel_rfl
-- limbeck/expfmt.at
def c45_b : EC := (.seq (.reg 0 [⟨some 2, .boxI 26 (.tmp 0), none, Q0⟩,
  ⟨some 4, .mv (.con (.str ⟨#[]⟩)), none, Q0⟩] false (some [1, 2]))
  (.seq (.seq (.reg 1 [⟨some 5, .ld (some 7) (.tmp 2), none, Q0⟩,
  ⟨some 6, .call (.con (.fn 89 [] [])) [(.tmp 5)], none, Q0⟩,
  ⟨some 7, .mv (.tmp 1), none, Q0⟩,
  ⟨some 8, .bin .lss (.tmp 6) (.tmp 7), none, Q0⟩] false (some [2, 8]))
  (.cond (.tmp 8) (.seq (.regP 2 [⟨some 9, .ld (some 7) (.tmp 2), none, Q0⟩,
  ⟨some 10, .call (.con (.fn 23 [] [])) [(.tmp 9)], none, Q0⟩,
  ⟨some 11, .bin .add (.con (.str ⟨#[40]⟩)) (.tmp 10), none, Q0⟩,
  ⟨some 12, .bin .add (.tmp 11) (.con (.str ⟨#[41]⟩)), none, Q0⟩,
  ⟨some 4, .mv (.tmp 12), none, Q0⟩] false (some [4]))
  .ret) .skip))
  (.seq (.regP 3 [⟨some 13, .ld (some 7) (.tmp 2), none, Q0⟩,
  ⟨some 14, .call (.con (.fn 23 [] [])) [(.tmp 13)], none, Q0⟩,
  ⟨some 4, .mv (.tmp 14), none, Q0⟩] false (some [4]))
  .ret)))
def c45 : EFn := ⟨2, 15, [.tmp 4], c45_b, none, true⟩
theorem c45_ok : cFn Tryz.prog Tryz.f45 = some c45.strip := by kernel_rfl
-- limbeck/expfmt.operation
def c46_b : EC := (.seq (.reg 0 [⟨some 1, .boxI 26 (.tmp 0), none, Q0⟩,
  ⟨some 2, .mv (.con (.str ⟨#[]⟩)), none, Q0⟩] false (some [1]))
  (.seq (.reg 1 [⟨some 4, .ld (some 7) (.tmp 1), none, Q0⟩,
  ⟨some 5, .call (.con (.fn 89 [] [])) [(.tmp 4)], none, Q0⟩,
  ⟨some 3, .mv (.tmp 5), none, Q0⟩] false (some [1, 3]))
  (.seq (.regP 2 [⟨some 6, .fA 6 (.tmp 1), none, ⟨.no, false⟩⟩,
  ⟨some 7, .ld none (.tmp 6), none, ⟨.still, false⟩⟩,
  ⟨some 8, .ixL 7 (.tmp 7) (.con (.int .i64 0)), none, ⟨.no, false⟩⟩,
  ⟨some 9, .ld (some 7) (.tmp 8), none, ⟨.still, false⟩⟩,
  ⟨some 10, .mv (.tmp 3), none, ⟨.no, false⟩⟩,
  ⟨some 11, .mx false (.tmp 10) (.con (.int .i64 2)), none, ⟨.no, false⟩⟩,
  ⟨some 12, .call (.con (.fn 45 [] [])) [(.tmp 9), (.tmp 11)], none, ⟨.still, false⟩⟩,
  ⟨some 13, .bin .add (.tmp 12) (.con (.str ⟨#[32]⟩)), none, ⟨.no, false⟩⟩,
  ⟨some 14, .fA 1 (.tmp 1), none, ⟨.no, false⟩⟩,
  ⟨some 15, .ld none (.tmp 14), none, ⟨.still, false⟩⟩,
  ⟨some 16, .call (.con (.fn 10 [] [])) [(.tmp 15)], none, ⟨.still, false⟩⟩,
  ⟨some 17, .bin .add (.tmp 13) (.tmp 16), none, ⟨.no, false⟩⟩,
  ⟨some 18, .bin .add (.tmp 17) (.con (.str ⟨#[32]⟩)), none, ⟨.no, false⟩⟩,
  ⟨some 19, .fA 6 (.tmp 1), none, ⟨.no, false⟩⟩,
  ⟨some 20, .ld none (.tmp 19), none, ⟨.still, false⟩⟩,
  ⟨some 21, .ixL 7 (.tmp 20) (.con (.int .i64 1)), none, ⟨.no, false⟩⟩,
  ⟨some 22, .ld (some 7) (.tmp 21), none, ⟨.still, false⟩⟩,
  ⟨some 23, .mv (.tmp 3), none, Q0⟩,
  ⟨some 24, .bin .add (.tmp 23) (.con (.int .i64 1)), none, Q0⟩,
  ⟨some 25, .call (.con (.fn 45 [] [])) [(.tmp 22), (.tmp 24)], none, Q0⟩,
  ⟨some 26, .bin .add (.tmp 18) (.tmp 25), none, Q0⟩,
  ⟨some 2, .mv (.tmp 26), none, Q0⟩] true (some [2]))
  .ret)))
def c46 : EFn := ⟨1, 27, [.tmp 2], c46_b, none, true⟩
theorem c46_ok : cFn Tryz.prog Tryz.f46 = some c46.strip := by kernel_rfl
-- limbeck/expfmt.kids
def c47_l0_b : EC := (.seq (.reg 3 [⟨some 12, .bin .lss (.tmp 11) (.tmp 10), none, Q0⟩] false (some [1, 5, 9, 10, 11, 12]))
  (.seq (.cond (.tmp 12) .skip (.exit 0))
  (.seq (.block 1 (.seq (.reg 4 [⟨some 13, .mv (.tmp 11), none, Q0⟩,
  ⟨some 14, .ixL 7 (.tmp 9) (.tmp 11), none, Q0⟩,
  ⟨some 15, .ld (some 7) (.tmp 14), none, Q0⟩,
  ⟨some 7, .new 26 [(.int .i64 0), (.int .i64 0), (.str ⟨#[]⟩), (.bool false), (.sl .null []), (.sl .null []), (.sl .null [])], none, Q0⟩,
  ⟨some 6, .mv (.tmp 13), none, Q0⟩,
  ⟨none, .st 7 (.tmp 7) (.tmp 15), none, Q0⟩] false (some [1, 5, 6, 7, 9, 10, 11]))
  (.reg 5 [⟨some 16, .mv (.tmp 5), none, Q0⟩,
  ⟨some 17, .mv (.tmp 1), none, Q0⟩,
  ⟨some 18, .mv (.tmp 6), none, Q0⟩,
  ⟨some 19, .ld (some 7) (.tmp 7), none, Q0⟩,
  ⟨some 20, .call (.tmp 17) [(.tmp 18), (.tmp 19)], none, Q0⟩,
  ⟨some 21, .rows 1 1 [(.str ⟨#[]⟩)] [(0, (.tmp 20))], none, Q0⟩,
  ⟨some 22, .app 9 1 16 (.tmp 16) (.tmp 21), none, Q0⟩,
  ⟨some 5, .mv (.tmp 22), none, Q0⟩] false (some [1, 5, 9, 10, 11]))))
  (.reg 6 [⟨some 23, .bin .add (.tmp 11) (.con (.int .i64 1)), none, Q0⟩,
  ⟨some 11, .mv (.tmp 23), none, Q0⟩] false (some [1, 5, 9, 10, 11])))))
def c47_l0 : EC := .loop (some [1, 5, 9, 10, 11]) c47_l0_b
def c47_b : EC := (.seq (.reg 0 [⟨some 2, .boxI 26 (.tmp 0), none, Q0⟩,
  ⟨some 4, .mv (.con (.str ⟨#[]⟩)), none, Q0⟩] false (some [1, 2]))
  (.seq (.reg 1 [⟨some 5, .mv (.con (.sl .null [])), none, Q0⟩] false (some [1, 2, 5]))
  (.seq (.seq (.reg 2 [⟨some 8, .fA 6 (.tmp 2), none, Q0⟩,
  ⟨some 9, .ld none (.tmp 8), none, Q0⟩,
  ⟨some 10, .len false (.tmp 9), none, Q0⟩,
  ⟨some 11, .mv (.con (.int .i64 0)), none, Q0⟩] false (some [1, 5, 9, 10, 11]))
  (.block 0 c47_l0))
  (.seq (.regP 7 [⟨some 24, .mv (.tmp 5), none, Q0⟩,
  ⟨some 25, .call (.con (.fn 90 [] [])) [(.tmp 24), (.con (.str ⟨#[44, 32]⟩))], none, Q0⟩,
  ⟨some 4, .mv (.tmp 25), none, Q0⟩] false (some [4]))
  .ret))))
def c47 : EFn := ⟨2, 26, [.tmp 4], c47_b, none, true⟩
theorem c47_l0_step {E : Env} {fin : Kont (PV × St)} {st : List Fr} {ts : Tmps} {S : St} {n : Nat} : (lvl E (n + 1)).ev c47_l0 ts S (kont E fin st) = (lvl E (n + 1)).ev c47_l0_b (sel (some [1, 5, 9, 10, 11]) ts) S (kont E fin (.again n c47_l0 :: st)) := rfl
theorem c47_l0_w {E : Env} {fin : Kont (PV × St)} {st : List Fw} {ts : Tmps} {S : St} : run E fin st c47_l0 ts S = run E fin (.again c47_l0 :: st) c47_l0_b (sel (some [1, 5, 9, 10, 11]) ts) S := w_loop
theorem c47_l0_a {E : Env} {fin : Kont (PV × St)} {st : List Fw} {ts : Tmps} {S : St} : aft E fin (.again c47_l0 :: st) .normal ts S = run E fin st c47_l0 (sel (some [1, 5, 9, 10, 11]) ts) S := a_again_s
theorem c47_ok : cFn Tryz.prog Tryz.f47 = some c47.strip := by kernel_rfl
-- limbeck/expfmt.shown$1
def c48_b : EC := (.seq (.reg 0 [⟨some 4, .boxI 26 (.tmp 1), none, Q0⟩,
  ⟨some 5, .mv (.con (.str ⟨#[]⟩)), none, Q0⟩] false (some [0, 2, 4]))
  (.seq (.regP 1 [⟨some 6, .fA 5 (.tmp 2), none, ⟨.no, false⟩⟩,
  ⟨some 7, .ld none (.tmp 6), none, ⟨.still, false⟩⟩,
  ⟨some 8, .mv (.tmp 0), none, ⟨.no, false⟩⟩,
  ⟨some 9, .ixL 1 (.tmp 7) (.tmp 8), none, ⟨.no, false⟩⟩,
  ⟨some 10, .ld none (.tmp 9), none, ⟨.still, false⟩⟩,
  ⟨some 11, .bin .add (.tmp 10) (.con (.str ⟨#[32, 61, 32]⟩)), none, ⟨.no, false⟩⟩,
  ⟨some 12, .ld (some 7) (.tmp 4), none, Q1⟩,
  ⟨some 13, .call (.con (.fn 23 [] [])) [(.tmp 12)], none, Q1⟩,
  ⟨some 14, .bin .add (.tmp 11) (.tmp 13), none, Q0⟩,
  ⟨some 5, .mv (.tmp 14), none, Q0⟩] true (some [5]))
  .ret))
def c48 : EFn := ⟨3, 15, [.tmp 5], c48_b, none, true⟩
theorem c48_ok : cFn Tryz.prog Tryz.f48 = some c48.strip := by kernel_rfl
-- limbeck/expfmt.call
def c49_b : EC := (.seq (.reg 0 [⟨some 1, .boxI 26 (.tmp 0), none, Q0⟩,
  ⟨some 2, .mv (.con (.str ⟨#[]⟩)), none, Q0⟩] false (some [1]))
  (.seq (.reg 1 [⟨some 3, .mv (.con (.str ⟨#[]⟩)), none, Q0⟩] false (some [1, 3]))
  (.seq (.seq (.reg 2 [⟨some 4, .fA 3 (.tmp 1), none, Q0⟩,
  ⟨some 5, .ld none (.tmp 4), none, Q0⟩] false (some [1, 3, 5]))
  (.cond (.tmp 5) (.reg 3 [⟨some 6, .fA 4 (.tmp 1), none, Q0⟩,
  ⟨some 7, .ld none (.tmp 6), none, Q0⟩,
  ⟨some 8, .call (.con (.fn 91 [] [])) [(.tmp 7)], none, Q0⟩,
  ⟨some 9, .bin .add (.con (.str ⟨#[91]⟩)) (.tmp 8), none, Q0⟩,
  ⟨some 10, .bin .add (.tmp 9) (.con (.str ⟨#[93]⟩)), none, Q0⟩,
  ⟨some 3, .mv (.tmp 10), none, Q0⟩] false (some [1, 3])) .skip))
  (.seq (.regP 4 [⟨some 11, .fA 2 (.tmp 1), none, ⟨.no, false⟩⟩,
  ⟨some 12, .ld none (.tmp 11), none, ⟨.still, false⟩⟩,
  ⟨some 13, .bin .add (.con (.str ⟨#[99, 97, 108, 108, 32]⟩)) (.tmp 12), none, ⟨.no, false⟩⟩,
  ⟨some 14, .mv (.tmp 3), none, ⟨.no, false⟩⟩,
  ⟨some 15, .bin .add (.tmp 13) (.tmp 14), none, ⟨.no, false⟩⟩,
  ⟨some 16, .bin .add (.tmp 15) (.con (.str ⟨#[40]⟩)), none, ⟨.no, false⟩⟩,
  ⟨some 17, .ld (some 7) (.tmp 1), none, Q1⟩,
  ⟨some 18, .call (.con (.fn 47 [] [])) [(.tmp 17), (.con (.fn 92 [] []))], none, Q1⟩,
  ⟨some 19, .bin .add (.tmp 16) (.tmp 18), none, Q0⟩,
  ⟨some 20, .bin .add (.tmp 19) (.con (.str ⟨#[41]⟩)), none, Q0⟩,
  ⟨some 2, .mv (.tmp 20), none, Q0⟩] true (some [2]))
  .ret))))
def c49 : EFn := ⟨1, 21, [.tmp 2], c49_b, none, true⟩
theorem c49_ok : cFn Tryz.prog Tryz.f49 = some c49.strip := by kernel_rfl
-- limbeck/expfmt.value
def c50_b : EC := (.seq (.reg 0 [⟨some 1, .boxI 26 (.tmp 0), none, Q0⟩,
  ⟨some 2, .mv (.con (.str ⟨#[]⟩)), none, Q0⟩] false (some [1]))
  (.seq (.seq (.reg 1 [⟨some 3, .fA 0 (.tmp 1), none, Q0⟩,
  ⟨some 4, .ld none (.tmp 3), none, Q0⟩] false (some [1, 4]))
  (.block 0 (.seq (.reg 2 [⟨some 6, .bin .eql (.tmp 4) (.con (.int .i64 1)), none, Q0⟩,
  ⟨some 5, .mv (.tmp 6), none, Q0⟩] false (some [1, 4, 5]))
  (.cond (.tmp 5) (.seq (.reg 3 [⟨some 7, .fA 1 (.tmp 1), none, Q0⟩,
  ⟨some 8, .ld none (.tmp 7), none, Q0⟩,
  ⟨some 9, .call (.con (.fn 93 [] [])) [(.tmp 8)], none, Q0⟩,
  ⟨some 2, .mv (.tmp 9), none, Q0⟩] false (some [2]))
  .ret) (.seq (.reg 4 [⟨some 11, .bin .eql (.tmp 4) (.con (.int .i64 2)), none, Q0⟩,
  ⟨some 10, .mv (.tmp 11), none, Q0⟩] false (some [1, 4, 10]))
  (.cond (.tmp 10) (.seq (.reg 5 [⟨some 12, .fA 1 (.tmp 1), none, Q0⟩,
  ⟨some 13, .ld none (.tmp 12), none, Q0⟩,
  ⟨some 14, .bin .eql (.tmp 13) (.con (.int .i64 1)), none, Q0⟩,
  ⟨some 15, .call (.con (.fn 94 [] [])) [(.tmp 14)], none, Q0⟩,
  ⟨some 2, .mv (.tmp 15), none, Q0⟩] false (some [2]))
  .ret) (.seq (.reg 6 [⟨some 17, .bin .eql (.tmp 4) (.con (.int .i64 3)), none, Q0⟩,
  ⟨some 16, .mv (.tmp 17), none, Q0⟩] false (some [1, 16]))
  (.cond (.tmp 16) (.seq (.reg 7 [⟨some 18, .fA 2 (.tmp 1), none, Q0⟩,
  ⟨some 19, .ld none (.tmp 18), none, Q0⟩,
  ⟨some 20, .call (.con (.fn 95 [] [])) [(.tmp 19)], none, Q0⟩,
  ⟨some 2, .mv (.tmp 20), none, Q0⟩] false (some [2]))
  .ret) .skip))))))))
  (.seq (.reg 8 [⟨some 21, .fA 2 (.tmp 1), none, Q0⟩,
  ⟨some 22, .ld none (.tmp 21), none, Q0⟩,
  ⟨some 2, .mv (.tmp 22), none, Q0⟩] false (some [2]))
  .ret)))
def c50 : EFn := ⟨1, 23, [.tmp 2], c50_b, none, true⟩
theorem c50_ok : cFn Tryz.prog Tryz.f50 = some c50.strip := by kernel_rfl
-- limbeck/limbeckref15.Digits
def c51_b : EC := (.seq (.reg 0 [⟨some 2, .mv (.con (.str ⟨#[]⟩)), none, Q0⟩] false (some [0]))
  (.seq (.seq (.reg 1 [⟨some 3, .mv (.tmp 0), none, Q0⟩,
  ⟨some 4, .bin .lss (.tmp 3) (.con (.int .i64 10)), none, Q0⟩] false (some [0, 4]))
  (.cond (.tmp 4) (.seq (.reg 2 [⟨some 5, .mv (.tmp 0), none, Q0⟩,
  ⟨some 6, .bin .add (.con (.int .i64 48)) (.tmp 5), none, Q0⟩,
  ⟨some 7, .cvI .u8 (.tmp 6), none, Q0⟩,
  ⟨some 8, .rows 1 1 [(.int .u8 0)] [(0, (.tmp 7))], none, Q0⟩,
  ⟨some 9, .b2s (.tmp 8), none, Q0⟩,
  ⟨some 2, .mv (.tmp 9), none, Q0⟩] false (some [2]))
  .ret) .skip))
  (.seq (.reg 3 [⟨some 10, .mv (.tmp 0), none, ⟨.no, false⟩⟩,
  ⟨some 11, .bin .quo (.tmp 10) (.con (.int .i64 10)), none, ⟨.no, false⟩⟩,
  ⟨some 12, .call (.con (.fn 51 [] [])) [(.tmp 11)], none, ⟨.still, false⟩⟩,
  ⟨some 13, .mv (.tmp 0), none, Q0⟩,
  ⟨some 14, .bin .rem (.tmp 13) (.con (.int .i64 10)), none, Q0⟩,
  ⟨some 15, .bin .add (.con (.int .i64 48)) (.tmp 14), none, Q0⟩,
  ⟨some 16, .cvI .u8 (.tmp 15), none, Q0⟩,
  ⟨some 17, .rows 1 1 [(.int .u8 0)] [(0, (.tmp 16))], none, Q0⟩,
  ⟨some 18, .b2s (.tmp 17), none, Q1⟩,
  ⟨some 19, .bin .add (.tmp 12) (.tmp 18), none, Q0⟩,
  ⟨some 2, .mv (.tmp 19), none, Q0⟩] true (some [2]))
  .ret)))
def c51 : EFn := ⟨1, 20, [.tmp 2], c51_b, none, true⟩
theorem c51_ok : cFn Tryz.prog Tryz.f51 = some c51.strip := by kernel_rfl
-- limbeck/limbeckref03.Quote
def c52_r6 : List EI := [⟨some 16, .mv (.tmp 5), none, Q0⟩,
  ⟨some 17, .bin .eql (.tmp 16) (.con (.int .u8 34)), none, Q0⟩,
  ⟨some 18, .mv (.tmp 17), none, Q0⟩,
  ⟨some 19, .mv (.tmp 5), some (18, false), Q0⟩,
  ⟨some 20, .bin .eql (.tmp 19) (.con (.int .u8 92)), some (18, false), Q0⟩,
  ⟨some 21, .pick (.tmp 18) (.con (.bool true)) (.tmp 20), none, Q0⟩]
def c52_r10 : List EI := [⟨some 31, .mv (.tmp 5), none, Q0⟩,
  ⟨some 32, .bin .geq (.tmp 31) (.con (.int .u8 32)), none, Q0⟩,
  ⟨some 33, .mv (.tmp 32), none, Q0⟩,
  ⟨some 34, .mv (.tmp 5), some (33, true), Q0⟩,
  ⟨some 35, .bin .leq (.tmp 34) (.con (.int .u8 126)), some (33, true), Q0⟩,
  ⟨some 36, .pick (.tmp 33) (.tmp 35) (.con (.bool false)), none, Q0⟩]
def c52_l0_b : EC := (.seq (.seq (.reg 3 [⟨some 7, .mv (.tmp 4), none, Q0⟩,
  ⟨some 8, .mv (.tmp 0), none, Q0⟩,
  ⟨some 9, .len true (.tmp 8), none, Q0⟩,
  ⟨some 10, .bin .lss (.tmp 7) (.tmp 9), none, Q0⟩] false (some [0, 3, 4, 10]))
  (.cond (.tmp 10) .skip (.exit 0)))
  (.seq (.block 1 (.seq (.reg 5 [⟨some 13, .mv (.tmp 0), none, Q0⟩,
  ⟨some 14, .mv (.tmp 4), none, Q0⟩,
  ⟨some 15, .ixS (.tmp 13) (.tmp 14), none, Q0⟩,
  ⟨some 5, .mv (.tmp 15), none, Q0⟩] false (some [0, 3, 4, 5]))
  (.seq (.reg 6 c52_r6 false (some [0, 3, 4, 5, 21]))
  (.cond (.tmp 21) (.reg 7 [⟨some 22, .mv (.tmp 3), none, Q0⟩,
  ⟨some 23, .mv (.tmp 5), none, Q0⟩,
  ⟨some 24, .rows 2 1 [(.int .u8 0)] [(0, (.con (.int .u8 92))), (1, (.tmp 23))], none, Q0⟩,
  ⟨some 25, .app 5 1 1 (.tmp 22) (.tmp 24), none, Q0⟩,
  ⟨some 3, .mv (.tmp 25), none, Q0⟩] false (some [0, 3, 4])) (.seq (.reg 8 [⟨some 26, .mv (.tmp 5), none, Q0⟩,
  ⟨some 27, .bin .eql (.tmp 26) (.con (.int .u8 10)), none, Q0⟩] false (some [0, 3, 4, 5, 27]))
  (.cond (.tmp 27) (.reg 9 [⟨some 28, .mv (.tmp 3), none, Q0⟩,
  ⟨some 29, .rows 2 1 [(.int .u8 0)] [(0, (.con (.int .u8 92))), (1, (.con (.int .u8 110)))], none, Q0⟩,
  ⟨some 30, .app 5 1 1 (.tmp 28) (.tmp 29), none, Q0⟩,
  ⟨some 3, .mv (.tmp 30), none, Q0⟩] false (some [0, 3, 4])) (.seq (.reg 10 c52_r10 false (some [0, 3, 4, 5, 36]))
  (.cond (.tmp 36) (.reg 11 [⟨some 37, .mv (.tmp 3), none, Q0⟩,
  ⟨some 38, .mv (.tmp 5), none, Q0⟩,
  ⟨some 39, .rows 1 1 [(.int .u8 0)] [(0, (.tmp 38))], none, Q0⟩,
  ⟨some 40, .app 5 1 1 (.tmp 37) (.tmp 39), none, Q0⟩,
  ⟨some 3, .mv (.tmp 40), none, Q0⟩] false (some [0, 3, 4])) (.reg 12 [⟨some 41, .mv (.tmp 3), none, Q0⟩,
  ⟨some 42, .mv (.tmp 5), none, Q0⟩,
  ⟨some 43, .bin .quo (.tmp 42) (.con (.int .u8 16)), none, Q0⟩,
  ⟨some 44, .call (.con (.fn 96 [] [])) [(.tmp 43)], none, Q0⟩,
  ⟨some 45, .mv (.tmp 5), none, Q0⟩,
  ⟨some 46, .bin .rem (.tmp 45) (.con (.int .u8 16)), none, Q0⟩,
  ⟨some 47, .call (.con (.fn 96 [] [])) [(.tmp 46)], none, Q0⟩,
  ⟨some 48, .rows 4 1 [(.int .u8 0)] [(0, (.con (.int .u8 92))), (1, (.con (.int .u8 120))), (2, (.tmp 44)), (3, (.tmp 47))], none, Q0⟩,
  ⟨some 49, .app 5 1 1 (.tmp 41) (.tmp 48), none, Q0⟩,
  ⟨some 3, .mv (.tmp 49), none, Q0⟩] false (some [0, 3, 4]))))))))))
  (.reg 4 [⟨some 11, .mv (.tmp 4), none, Q0⟩,
  ⟨some 12, .bin .add (.tmp 11) (.con (.int .i64 1)), none, Q0⟩,
  ⟨some 4, .mv (.tmp 12), none, Q0⟩] false (some [0, 3, 4]))))
def c52_l0 : EC := .loop (some [0, 3, 4]) c52_l0_b
def c52_b : EC := (.seq (.reg 0 [⟨some 2, .mv (.con (.str ⟨#[]⟩)), none, Q0⟩] false (some [0]))
  (.seq (.reg 1 [⟨some 6, .rows 1 1 [(.int .u8 0)] [(0, (.con (.int .u8 34)))], none, Q0⟩,
  ⟨some 3, .mv (.tmp 6), none, Q0⟩] false (some [0, 3]))
  (.seq (.seq (.reg 2 [⟨some 4, .mv (.con (.int .i64 0)), none, Q0⟩] false (some [0, 3, 4]))
  (.block 0 c52_l0))
  (.seq (.reg 13 [⟨some 50, .mv (.tmp 3), none, Q0⟩,
  ⟨some 51, .rows 1 1 [(.int .u8 0)] [(0, (.con (.int .u8 34)))], none, Q0⟩,
  ⟨some 52, .app 5 1 1 (.tmp 50) (.tmp 51), none, Q0⟩,
  ⟨some 53, .b2s (.tmp 52), none, Q0⟩,
  ⟨some 2, .mv (.tmp 53), none, Q0⟩] false (some [2]))
  .ret))))
def c52 : EFn := ⟨1, 54, [.tmp 2], c52_b, none, true⟩
theorem c52_l0_step {E : Env} {fin : Kont (PV × St)} {st : List Fr} {ts : Tmps} {S : St} {n : Nat} : (lvl E (n + 1)).ev c52_l0 ts S (kont E fin st) = (lvl E (n + 1)).ev c52_l0_b (sel (some [0, 3, 4]) ts) S (kont E fin (.again n c52_l0 :: st)) := rfl
theorem c52_l0_w {E : Env} {fin : Kont (PV × St)} {st : List Fw} {ts : Tmps} {S : St} : run E fin st c52_l0 ts S = run E fin (.again c52_l0 :: st) c52_l0_b (sel (some [0, 3, 4]) ts) S := w_loop
theorem c52_l0_a {E : Env} {fin : Kont (PV × St)} {st : List Fw} {ts : Tmps} {S : St} : aft E fin (.again c52_l0 :: st) .normal ts S = run E fin st c52_l0 (sel (some [0, 3, 4]) ts) S := a_again_s
theorem c52_ok : cFn Tryz.prog Tryz.f52 = some c52.strip := by kernel_rfl
-- limbeck/limbeckref15.bound
def c53_b : EC := (.seq (.reg 0 [⟨some 1, .boxI 26 (.tmp 0), none, Q0⟩,
  ⟨some 2, .mv (.con (.str ⟨#[]⟩)), none, Q0⟩] false (some [1]))
  (.seq (.seq (.reg 1 [⟨some 3, .fA 4 (.tmp 1), none, Q0⟩,
  ⟨some 4, .ld none (.tmp 3), none, Q0⟩,
  ⟨some 5, .len false (.tmp 4), none, Q0⟩,
  ⟨some 6, .bin .eql (.tmp 5) (.con (.int .i64 0)), none, Q0⟩] false (some [1, 6]))
  (.cond (.tmp 6) (.seq (.reg 2 [⟨some 7, .fA 2 (.tmp 1), none, Q0⟩,
  ⟨some 8, .ld none (.tmp 7), none, Q0⟩,
  ⟨some 2, .mv (.tmp 8), none, Q0⟩] false (some [2]))
  .ret) .skip))
  (.seq (.reg 3 [⟨some 9, .fA 2 (.tmp 1), none, ⟨.no, false⟩⟩,
  ⟨some 10, .ld none (.tmp 9), none, ⟨.still, false⟩⟩,
  ⟨some 11, .bin .add (.tmp 10) (.con (.str ⟨#[58, 32]⟩)), none, ⟨.no, false⟩⟩,
  ⟨some 12, .fA 4 (.tmp 1), none, Q0⟩,
  ⟨some 13, .ld none (.tmp 12), none, Q1⟩,
  ⟨some 14, .ixL 5 (.tmp 13) (.con (.int .i64 0)), none, Q0⟩,
  ⟨some 15, .ld (some 5) (.tmp 14), none, Q1⟩,
  ⟨some 16, .call (.con (.fn 30 [] [])) [(.tmp 15)], none, Q1⟩,
  ⟨some 17, .bin .add (.tmp 11) (.tmp 16), none, Q0⟩,
  ⟨some 2, .mv (.tmp 17), none, Q0⟩] true (some [2]))
  .ret)))
def c53 : EFn := ⟨1, 18, [.tmp 2], c53_b, none, true⟩
theorem c53_ok : cFn Tryz.prog Tryz.f53 = some c53.strip := by kernel_rfl
-- limbeck/limbeckref15.at
def c54_b : EC := (.seq (.reg 0 [⟨some 2, .boxI 26 (.tmp 0), none, Q0⟩,
  ⟨some 4, .mv (.con (.str ⟨#[]⟩)), none, Q0⟩] false (some [1, 2]))
  (.seq (.seq (.reg 1 [⟨some 5, .ld (some 7) (.tmp 2), none, Q0⟩,
  ⟨some 6, .call (.con (.fn 97 [] [])) [(.tmp 5)], none, Q0⟩,
  ⟨some 7, .mv (.tmp 1), none, Q0⟩,
  ⟨some 8, .bin .lss (.tmp 6) (.tmp 7), none, Q0⟩] false (some [2, 8]))
  (.cond (.tmp 8) (.seq (.reg 2 [⟨some 9, .ld (some 7) (.tmp 2), none, Q0⟩,
  ⟨some 10, .call (.con (.fn 24 [] [])) [(.tmp 9)], none, Q0⟩,
  ⟨some 11, .bin .add (.con (.str ⟨#[40]⟩)) (.tmp 10), none, Q0⟩,
  ⟨some 12, .bin .add (.tmp 11) (.con (.str ⟨#[41]⟩)), none, Q0⟩,
  ⟨some 4, .mv (.tmp 12), none, Q0⟩] false (some [4]))
  .ret) .skip))
  (.seq (.reg 3 [⟨some 13, .ld (some 7) (.tmp 2), none, Q0⟩,
  ⟨some 14, .call (.con (.fn 24 [] [])) [(.tmp 13)], none, Q0⟩,
  ⟨some 4, .mv (.tmp 14), none, Q0⟩] false (some [4]))
  .ret)))
def c54 : EFn := ⟨2, 15, [.tmp 4], c54_b, none, true⟩
theorem c54_ok : cFn Tryz.prog Tryz.f54 = some c54.strip := by kernel_rfl
-- limbeck/limbeckref15.operation
def c55_b : EC := (.seq (.reg 0 [⟨some 1, .boxI 26 (.tmp 0), none, Q0⟩,
  ⟨some 2, .mv (.con (.str ⟨#[]⟩)), none, Q0⟩] false (some [1]))
  (.seq (.reg 1 [⟨some 5, .fA 1 (.tmp 1), none, Q0⟩,
  ⟨some 6, .ld none (.tmp 5), none, Q0⟩,
  ⟨some 7, .call (.con (.fn 98 [] [])) [(.tmp 6)], none, Q0⟩,
  ⟨some 3, .mv (.tmp 7), none, Q0⟩] false (some [1, 3]))
  (.seq (.reg 2 [⟨some 8, .mv (.tmp 3), none, Q0⟩,
  ⟨some 4, .mv (.tmp 8), none, Q0⟩] false (some [1, 3, 4]))
  (.seq (.seq (.reg 3 [⟨some 9, .mv (.tmp 3), none, Q0⟩,
  ⟨some 10, .bin .eql (.tmp 9) (.con (.int .i64 1)), none, Q0⟩] false (some [1, 3, 4, 10]))
  (.cond (.tmp 10) (.reg 4 [⟨some 4, .mv (.con (.int .i64 2)), none, Q0⟩] false (some [1, 3, 4])) .skip))
  (.seq (.reg 5 [⟨some 11, .fA 6 (.tmp 1), none, ⟨.no, false⟩⟩,
  ⟨some 12, .ld none (.tmp 11), none, ⟨.still, false⟩⟩,
  ⟨some 13, .ixL 7 (.tmp 12) (.con (.int .i64 0)), none, ⟨.no, false⟩⟩,
  ⟨some 14, .ld (some 7) (.tmp 13), none, ⟨.still, false⟩⟩,
  ⟨some 15, .mv (.tmp 4), none, ⟨.no, false⟩⟩,
  ⟨some 16, .call (.con (.fn 54 [] [])) [(.tmp 14), (.tmp 15)], none, ⟨.still, false⟩⟩,
  ⟨some 17, .bin .add (.tmp 16) (.con (.str ⟨#[32]⟩)), none, ⟨.no, false⟩⟩,
  ⟨some 18, .fA 1 (.tmp 1), none, ⟨.no, false⟩⟩,
  ⟨some 19, .ld none (.tmp 18), none, ⟨.still, false⟩⟩,
  ⟨some 20, .call (.con (.fn 11 [] [])) [(.tmp 19)], none, ⟨.still, false⟩⟩,
  ⟨some 21, .bin .add (.tmp 17) (.tmp 20), none, ⟨.no, false⟩⟩,
  ⟨some 22, .bin .add (.tmp 21) (.con (.str ⟨#[32]⟩)), none, ⟨.no, false⟩⟩,
  ⟨some 23, .fA 6 (.tmp 1), none, ⟨.no, false⟩⟩,
  ⟨some 24, .ld none (.tmp 23), none, ⟨.still, false⟩⟩,
  ⟨some 25, .ixL 7 (.tmp 24) (.con (.int .i64 1)), none, ⟨.no, false⟩⟩,
  ⟨some 26, .ld (some 7) (.tmp 25), none, ⟨.still, false⟩⟩,
  ⟨some 27, .mv (.tmp 3), none, Q0⟩,
  ⟨some 28, .bin .add (.tmp 27) (.con (.int .i64 1)), none, Q0⟩,
  ⟨some 29, .call (.con (.fn 54 [] [])) [(.tmp 26), (.tmp 28)], none, Q0⟩,
  ⟨some 30, .bin .add (.tmp 22) (.tmp 29), none, Q0⟩,
  ⟨some 2, .mv (.tmp 30), none, Q0⟩] true (some [2]))
  .ret)))))
def c55 : EFn := ⟨1, 31, [.tmp 2], c55_b, none, true⟩
theorem c55_ok : cFn Tryz.prog Tryz.f55 = some c55.strip := by kernel_rfl
-- limbeck/limbeckref15.list
def c56_l0_b : EC := (.seq (.seq (.reg 3 [⟨some 5, .mv (.tmp 4), none, Q0⟩,
  ⟨some 6, .fA 6 (.tmp 1), none, Q0⟩,
  ⟨some 7, .ld none (.tmp 6), none, Q0⟩,
  ⟨some 8, .len false (.tmp 7), none, Q0⟩,
  ⟨some 9, .bin .lss (.tmp 5) (.tmp 8), none, Q0⟩] false (some [1, 3, 4, 9]))
  (.cond (.tmp 9) .skip (.exit 0)))
  (.seq (.block 1 (.seq (.seq (.reg 5 [⟨some 12, .mv (.tmp 4), none, Q0⟩,
  ⟨some 13, .bin .gtr (.tmp 12) (.con (.int .i64 0)), none, Q0⟩] false (some [1, 3, 4, 13]))
  (.cond (.tmp 13) (.reg 6 [⟨some 14, .mv (.tmp 3), none, Q0⟩,
  ⟨some 15, .bin .add (.tmp 14) (.con (.str ⟨#[44, 32]⟩)), none, Q0⟩,
  ⟨some 3, .mv (.tmp 15), none, Q0⟩] false (some [1, 3, 4])) .skip))
  (.seq (.seq (.reg 7 [⟨some 16, .fA 0 (.tmp 1), none, Q0⟩,
  ⟨some 17, .ld none (.tmp 16), none, Q0⟩,
  ⟨some 18, .bin .eql (.tmp 17) (.con (.int .i64 9)), none, Q0⟩] false (some [1, 3, 4, 18]))
  (.cond (.tmp 18) (.reg 8 [⟨some 19, .mv (.tmp 3), none, Q0⟩,
  ⟨some 20, .fA 5 (.tmp 1), none, Q0⟩,
  ⟨some 21, .ld none (.tmp 20), none, Q0⟩,
  ⟨some 22, .mv (.tmp 4), none, Q0⟩,
  ⟨some 23, .ixL 1 (.tmp 21) (.tmp 22), none, Q0⟩,
  ⟨some 24, .ld none (.tmp 23), none, Q0⟩,
  ⟨some 25, .bin .add (.tmp 19) (.tmp 24), none, Q0⟩,
  ⟨some 26, .bin .add (.tmp 25) (.con (.str ⟨#[32, 61, 32]⟩)), none, Q0⟩,
  ⟨some 3, .mv (.tmp 26), none, Q0⟩] false (some [1, 3, 4])) .skip))
  (.reg 9 [⟨some 27, .mv (.tmp 3), none, Q0⟩,
  ⟨some 28, .fA 6 (.tmp 1), none, Q0⟩,
  ⟨some 29, .ld none (.tmp 28), none, Q0⟩,
  ⟨some 30, .mv (.tmp 4), none, Q0⟩,
  ⟨some 31, .ixL 7 (.tmp 29) (.tmp 30), none, Q0⟩,
  ⟨some 32, .ld (some 7) (.tmp 31), none, Q0⟩,
  ⟨some 33, .call (.con (.fn 24 [] [])) [(.tmp 32)], none, Q0⟩,
  ⟨some 34, .bin .add (.tmp 27) (.tmp 33), none, Q0⟩,
  ⟨some 3, .mv (.tmp 34), none, Q0⟩] false (some [1, 3, 4])))))
  (.reg 4 [⟨some 10, .mv (.tmp 4), none, Q0⟩,
  ⟨some 11, .bin .add (.tmp 10) (.con (.int .i64 1)), none, Q0⟩,
  ⟨some 4, .mv (.tmp 11), none, Q0⟩] false (some [1, 3, 4]))))
def c56_l0 : EC := .loop (some [1, 3, 4]) c56_l0_b
def c56_b : EC := (.seq (.reg 0 [⟨some 1, .boxI 26 (.tmp 0), none, Q0⟩,
  ⟨some 2, .mv (.con (.str ⟨#[]⟩)), none, Q0⟩] false (some [1]))
  (.seq (.reg 1 [⟨some 3, .mv (.con (.str ⟨#[]⟩)), none, Q0⟩] false (some [1, 3]))
  (.seq (.seq (.reg 2 [⟨some 4, .mv (.con (.int .i64 0)), none, Q0⟩] false (some [1, 3, 4]))
  (.block 0 c56_l0))
  (.seq (.reg 10 [⟨some 35, .mv (.tmp 3), none, Q0⟩,
  ⟨some 2, .mv (.tmp 35), none, Q0⟩] false (some [2]))
  .ret))))
def c56 : EFn := ⟨1, 36, [.tmp 2], c56_b, none, true⟩
theorem c56_l0_step {E : Env} {fin : Kont (PV × St)} {st : List Fr} {ts : Tmps} {S : St} {n : Nat} : (lvl E (n + 1)).ev c56_l0 ts S (kont E fin st) = (lvl E (n + 1)).ev c56_l0_b (sel (some [1, 3, 4]) ts) S (kont E fin (.again n c56_l0 :: st)) := rfl
theorem c56_l0_w {E : Env} {fin : Kont (PV × St)} {st : List Fw} {ts : Tmps} {S : St} : run E fin st c56_l0 ts S = run E fin (.again c56_l0 :: st) c56_l0_b (sel (some [1, 3, 4]) ts) S := w_loop
theorem c56_l0_a {E : Env} {fin : Kont (PV × St)} {st : List Fw} {ts : Tmps} {S : St} : aft E fin (.again c56_l0 :: st) .normal ts S = run E fin st c56_l0 (sel (some [1, 3, 4]) ts) S := a_again_s
theorem c56_ok : cFn Tryz.prog Tryz.f56 = some c56.strip := by kernel_rfl
-- limbeck/limbeckref05.List
def c57_l0_b : EC := (.seq (.seq (.reg 3 [⟨some 5, .mv (.tmp 4), none, Q0⟩,
  ⟨some 6, .mv (.tmp 0), none, Q0⟩,
  ⟨some 7, .len false (.tmp 6), none, Q0⟩,
  ⟨some 8, .bin .lss (.tmp 5) (.tmp 7), none, Q0⟩] false (some [0, 3, 4, 8]))
  (.cond (.tmp 8) .skip (.exit 0)))
  (.seq (.block 1 (.seq (.seq (.reg 5 [⟨some 11, .mv (.tmp 4), none, Q0⟩,
  ⟨some 12, .bin .gtr (.tmp 11) (.con (.int .i64 0)), none, Q0⟩] false (some [0, 3, 4, 12]))
  (.cond (.tmp 12) (.reg 6 [⟨some 13, .mv (.tmp 3), none, Q0⟩,
  ⟨some 14, .bin .add (.tmp 13) (.con (.str ⟨#[44, 32]⟩)), none, Q0⟩,
  ⟨some 3, .mv (.tmp 14), none, Q0⟩] false (some [0, 3, 4])) .skip))
  (.reg 7 [⟨some 15, .mv (.tmp 3), none, Q0⟩,
  ⟨some 16, .mv (.tmp 0), none, Q0⟩,
  ⟨some 17, .mv (.tmp 4), none, Q0⟩,
  ⟨some 18, .ixL 5 (.tmp 16) (.tmp 17), none, Q0⟩,
  ⟨some 19, .ld (some 5) (.tmp 18), none, Q0⟩,
  ⟨some 20, .call (.con (.fn 30 [] [])) [(.tmp 19)], none, Q0⟩,
  ⟨some 21, .bin .add (.tmp 15) (.tmp 20), none, Q0⟩,
  ⟨some 3, .mv (.tmp 21), none, Q0⟩] false (some [0, 3, 4]))))
  (.reg 4 [⟨some 9, .mv (.tmp 4), none, Q0⟩,
  ⟨some 10, .bin .add (.tmp 9) (.con (.int .i64 1)), none, Q0⟩,
  ⟨some 4, .mv (.tmp 10), none, Q0⟩] false (some [0, 3, 4]))))
def c57_l0 : EC := .loop (some [0, 3, 4]) c57_l0_b
def c57_b : EC := (.seq (.reg 0 [⟨some 2, .mv (.con (.str ⟨#[]⟩)), none, Q0⟩] false (some [0]))
  (.seq (.reg 1 [⟨some 3, .mv (.con (.str ⟨#[]⟩)), none, Q0⟩] false (some [0, 3]))
  (.seq (.seq (.reg 2 [⟨some 4, .mv (.con (.int .i64 0)), none, Q0⟩] false (some [0, 3, 4]))
  (.block 0 c57_l0))
  (.seq (.reg 8 [⟨some 22, .mv (.tmp 3), none, Q0⟩,
  ⟨some 2, .mv (.tmp 22), none, Q0⟩] false (some [2]))
  .ret))))
def c57 : EFn := ⟨1, 23, [.tmp 2], c57_b, none, true⟩
theorem c57_l0_step {E : Env} {fin : Kont (PV × St)} {st : List Fr} {ts : Tmps} {S : St} {n : Nat} : (lvl E (n + 1)).ev c57_l0 ts S (kont E fin st) = (lvl E (n + 1)).ev c57_l0_b (sel (some [0, 3, 4]) ts) S (kont E fin (.again n c57_l0 :: st)) := rfl
theorem c57_l0_w {E : Env} {fin : Kont (PV × St)} {st : List Fw} {ts : Tmps} {S : St} : run E fin st c57_l0 ts S = run E fin (.again c57_l0 :: st) c57_l0_b (sel (some [0, 3, 4]) ts) S := w_loop
theorem c57_l0_a {E : Env} {fin : Kont (PV × St)} {st : List Fw} {ts : Tmps} {S : St} : aft E fin (.again c57_l0 :: st) .normal ts S = run E fin st c57_l0 (sel (some [0, 3, 4]) ts) S := a_again_s
theorem c57_ok : cFn Tryz.prog Tryz.f57 = some c57.strip := by kernel_rfl
-- limbeck/name.Fine
def c58_b : EC := (.seq (.reg 0 [⟨some 2, .mv (.con (.bool false)), none, Q0⟩] false (some [0]))
  (.seq (.reg 1 [⟨some 3, .mv (.tmp 0), none, Q0⟩,
  ⟨some 4, .call (.con (.fn 99 [] [])) [(.tmp 3)], none, Q0⟩,
  ⟨some 5, .bin .eql (.tmp 4) (.con (.int .i64 1)), none, Q0⟩,
  ⟨some 2, .mv (.tmp 5), none, Q0⟩] false (some [2]))
  .ret))
def c58 : EFn := ⟨1, 6, [.tmp 2], c58_b, none, true⟩
theorem c58_ok : cFn Tryz.prog Tryz.f58 = some c58.strip := by kernel_rfl
-- limbeck/name.Var
def c60_b : EC := (.seq (.reg 0 [⟨some 2, .mv (.con (.bool false)), none, Q0⟩] false (some [0]))
  (.seq (.reg 1 [⟨some 3, .mv (.tmp 0), none, Q0⟩,
  ⟨some 4, .call (.con (.fn 99 [] [])) [(.tmp 3)], none, Q0⟩,
  ⟨some 5, .bin .eql (.tmp 4) (.con (.int .i64 2)), none, Q0⟩,
  ⟨some 2, .mv (.tmp 5), none, Q0⟩] false (some [2]))
  .ret))
def c60 : EFn := ⟨1, 6, [.tmp 2], c60_b, none, true⟩
theorem c60_ok : cFn Tryz.prog Tryz.f60 = some c60.strip := by kernel_rfl
-- limbeck/ty.Right
def c65_r1 : List EI := [⟨some 3, .ld (some 5) (.tmp 1), none, Q0⟩,
  ⟨some 4, .call (.con (.fn 106 [] [])) [(.tmp 3)], none, Q0⟩,
  ⟨some 5, .un .not (.tmp 4), none, Q0⟩,
  ⟨some 6, .mv (.tmp 5), none, Q0⟩,
  ⟨some 7, .fA 4 (.tmp 1), some (6, false), Q0⟩,
  ⟨some 8, .ld none (.tmp 7), some (6, false), Q0⟩,
  ⟨some 9, .call (.con (.fn 84 [] [])) [(.tmp 8), (.con (.fn 107 [] []))], some (6, false), Q0⟩,
  ⟨some 10, .pick (.tmp 6) (.con (.bool true)) (.tmp 9), none, Q0⟩]
def c65_r11 : List EI := [⟨some 25, .fA 4 (.tmp 1), none, Q0⟩,
  ⟨some 26, .ld none (.tmp 25), none, Q0⟩,
  ⟨some 27, .len false (.tmp 26), none, Q0⟩,
  ⟨some 28, .bin .eql (.tmp 27) (.con (.int .i64 0)), none, Q0⟩,
  ⟨some 29, .mv (.tmp 28), none, Q0⟩,
  ⟨some 30, .fA 2 (.tmp 1), some (29, true), Q0⟩,
  ⟨some 31, .ld none (.tmp 30), some (29, true), Q0⟩,
  ⟨some 32, .call (.con (.fn 60 [] [])) [(.tmp 31)], some (29, true), Q0⟩,
  ⟨some 33, .pick (.tmp 29) (.tmp 32) (.con (.bool false)), none, Q0⟩,
  ⟨some 2, .mv (.tmp 33), none, Q0⟩]
def c65_r13 : List EI := [⟨some 36, .fA 4 (.tmp 1), none, Q0⟩,
  ⟨some 37, .ld none (.tmp 36), none, Q0⟩,
  ⟨some 38, .len false (.tmp 37), none, Q0⟩,
  ⟨some 39, .bin .eql (.tmp 38) (.con (.int .i64 0)), none, Q0⟩,
  ⟨some 40, .mv (.tmp 39), none, Q0⟩,
  ⟨some 41, .fA 1 (.tmp 1), some (40, true), Q0⟩,
  ⟨some 42, .ld none (.tmp 41), some (40, true), Q0⟩,
  ⟨some 43, .bin .geq (.tmp 42) (.con (.int .i64 0)), some (40, true), Q0⟩,
  ⟨some 44, .pick (.tmp 40) (.tmp 43) (.con (.bool false)), none, Q0⟩,
  ⟨some 45, .mv (.tmp 44), none, Q0⟩,
  ⟨some 46, .fA 1 (.tmp 1), some (45, true), Q0⟩,
  ⟨some 47, .ld none (.tmp 46), some (45, true), Q0⟩,
  ⟨some 48, .bin .leq (.tmp 47) (.con (.int .i64 1073741824)), some (45, true), Q0⟩,
  ⟨some 49, .pick (.tmp 45) (.tmp 48) (.con (.bool false)), none, Q0⟩,
  ⟨some 2, .mv (.tmp 49), none, Q0⟩]
def c65_r17 : List EI := [⟨some 58, .fA 4 (.tmp 1), none, Q0⟩,
  ⟨some 59, .ld none (.tmp 58), none, Q0⟩,
  ⟨some 60, .len false (.tmp 59), none, Q0⟩,
  ⟨some 61, .fA 3 (.tmp 1), none, Q0⟩,
  ⟨some 62, .ld none (.tmp 61), none, Q0⟩,
  ⟨some 63, .len false (.tmp 62), none, Q0⟩,
  ⟨some 64, .bin .eql (.tmp 60) (.tmp 63), none, Q0⟩,
  ⟨some 65, .mv (.tmp 64), none, Q0⟩,
  ⟨some 66, .fA 3 (.tmp 1), some (65, true), Q0⟩,
  ⟨some 67, .ld none (.tmp 66), some (65, true), Q0⟩,
  ⟨some 68, .call (.con (.fn 83 [] [])) [(.tmp 67)], some (65, true), Q0⟩,
  ⟨some 69, .pick (.tmp 65) (.tmp 68) (.con (.bool false)), none, Q0⟩,
  ⟨some 2, .mv (.tmp 69), none, Q0⟩]
def c65_b : EC := (.seq (.reg 0 [⟨some 1, .boxI 34 (.tmp 0), none, Q0⟩,
  ⟨some 2, .mv (.con (.bool false)), none, Q0⟩] false (some [1]))
  (.seq (.seq (.reg 1 c65_r1 false (some [1, 10]))
  (.cond (.tmp 10) (.seq (.reg 2 [⟨some 2, .mv (.con (.bool false)), none, Q0⟩] false (some [2]))
  .ret) .skip))
  (.seq (.seq (.reg 3 [⟨some 11, .fA 0 (.tmp 1), none, Q0⟩,
  ⟨some 12, .ld none (.tmp 11), none, Q0⟩] false (some [1, 12]))
  (.block 0 (.seq (.seq (.reg 4 [⟨some 14, .bin .eql (.tmp 12) (.con (.int .i64 1)), none, Q0⟩,
  ⟨some 13, .mv (.tmp 14), none, Q0⟩] false (some [1, 12, 13]))
  (.cond (.tmp 13) .skip (.seq (.reg 5 [⟨some 15, .bin .eql (.tmp 12) (.con (.int .i64 2)), none, Q0⟩,
  ⟨some 13, .mv (.tmp 15), none, Q0⟩] false (some [1, 12, 13]))
  (.cond (.tmp 13) .skip (.seq (.reg 6 [⟨some 16, .bin .eql (.tmp 12) (.con (.int .i64 3)), none, Q0⟩,
  ⟨some 13, .mv (.tmp 16), none, Q0⟩] false (some [1, 12, 13]))
  (.cond (.tmp 13) .skip (.seq (.reg 7 [⟨some 17, .bin .eql (.tmp 12) (.con (.int .i64 4)), none, Q0⟩,
  ⟨some 13, .mv (.tmp 17), none, Q0⟩] false (some [1, 12, 13]))
  (.cond (.tmp 13) .skip (.reg 8 [⟨some 18, .bin .eql (.tmp 12) (.con (.int .i64 5)), none, Q0⟩,
  ⟨some 13, .mv (.tmp 18), none, Q0⟩] false (some [1, 12, 13]))))))))))
  (.cond (.tmp 13) (.seq (.reg 9 [⟨some 19, .fA 4 (.tmp 1), none, Q0⟩,
  ⟨some 20, .ld none (.tmp 19), none, Q0⟩,
  ⟨some 21, .len false (.tmp 20), none, Q0⟩,
  ⟨some 22, .bin .eql (.tmp 21) (.con (.int .i64 0)), none, Q0⟩,
  ⟨some 2, .mv (.tmp 22), none, Q0⟩] false (some [2]))
  .ret) (.seq (.reg 10 [⟨some 24, .bin .eql (.tmp 12) (.con (.int .i64 6)), none, Q0⟩,
  ⟨some 23, .mv (.tmp 24), none, Q0⟩] false (some [1, 12, 23]))
  (.cond (.tmp 23) (.seq (.reg 11 c65_r11 false (some [2]))
  .ret) (.seq (.reg 12 [⟨some 35, .bin .eql (.tmp 12) (.con (.int .i64 9)), none, Q0⟩,
  ⟨some 34, .mv (.tmp 35), none, Q0⟩] false (some [1, 12, 34]))
  (.cond (.tmp 34) (.seq (.reg 13 c65_r13 false (some [2]))
  .ret) (.seq (.reg 14 [⟨some 51, .bin .eql (.tmp 12) (.con (.int .i64 7)), none, Q0⟩,
  ⟨some 50, .mv (.tmp 51), none, Q0⟩] false (some [1, 12, 50]))
  (.cond (.tmp 50) (.seq (.reg 15 [⟨some 52, .fA 4 (.tmp 1), none, Q0⟩,
  ⟨some 53, .ld none (.tmp 52), none, Q0⟩,
  ⟨some 54, .len false (.tmp 53), none, Q0⟩,
  ⟨some 55, .bin .eql (.tmp 54) (.con (.int .i64 2)), none, Q0⟩,
  ⟨some 2, .mv (.tmp 55), none, Q0⟩] false (some [2]))
  .ret) (.seq (.reg 16 [⟨some 57, .bin .eql (.tmp 12) (.con (.int .i64 8)), none, Q0⟩,
  ⟨some 56, .mv (.tmp 57), none, Q0⟩] false (some [1, 56]))
  (.cond (.tmp 56) (.seq (.reg 17 c65_r17 false (some [2]))
  .ret) .skip))))))))))))
  (.seq (.reg 18 [⟨some 2, .mv (.con (.bool false)), none, Q0⟩] false (some [2]))
  .ret))))
def c65 : EFn := ⟨1, 70, [.tmp 2], c65_b, none, true⟩
theorem c65_ok : cFn Tryz.prog Tryz.f65 = some c65.strip := by kernel_rfl
-- limbeck/tyfmt.shown
def c66_b : EC := (.seq (.reg 0 [⟨some 1, .boxI 34 (.tmp 0), none, Q0⟩,
  ⟨some 2, .mv (.con (.str ⟨#[]⟩)), none, Q0⟩] false (some [1]))
  (.seq (.seq (.reg 1 [⟨some 3, .fA 0 (.tmp 1), none, Q0⟩,
  ⟨some 4, .ld none (.tmp 3), none, Q0⟩] false (some [1, 4]))
  (.block 0 (.seq (.reg 2 [⟨some 6, .bin .eql (.tmp 4) (.con (.int .i64 1)), none, Q0⟩,
  ⟨some 5, .mv (.tmp 6), none, Q0⟩] false (some [1, 4, 5]))
  (.cond (.tmp 5) (.seq (.reg 3 [⟨some 2, .mv (.con (.str ⟨#[73, 110, 116]⟩)), none, Q0⟩] false (some [2]))
  .ret) (.seq (.reg 4 [⟨some 8, .bin .eql (.tmp 4) (.con (.int .i64 2)), none, Q0⟩,
  ⟨some 7, .mv (.tmp 8), none, Q0⟩] false (some [1, 4, 7]))
  (.cond (.tmp 7) (.seq (.reg 5 [⟨some 2, .mv (.con (.str ⟨#[66, 111, 111, 108]⟩)), none, Q0⟩] false (some [2]))
  .ret) (.seq (.reg 6 [⟨some 10, .bin .eql (.tmp 4) (.con (.int .i64 3)), none, Q0⟩,
  ⟨some 9, .mv (.tmp 10), none, Q0⟩] false (some [1, 4, 9]))
  (.cond (.tmp 9) (.seq (.reg 7 [⟨some 2, .mv (.con (.str ⟨#[83, 116, 114, 105, 110, 103]⟩)), none, Q0⟩] false (some [2]))
  .ret) (.seq (.reg 8 [⟨some 12, .bin .eql (.tmp 4) (.con (.int .i64 4)), none, Q0⟩,
  ⟨some 11, .mv (.tmp 12), none, Q0⟩] false (some [1, 4, 11]))
  (.cond (.tmp 11) (.seq (.reg 9 [⟨some 2, .mv (.con (.str ⟨#[84, 111, 112]⟩)), none, Q0⟩] false (some [2]))
  .ret) (.seq (.reg 10 [⟨some 14, .bin .eql (.tmp 4) (.con (.int .i64 5)), none, Q0⟩,
  ⟨some 13, .mv (.tmp 14), none, Q0⟩] false (some [1, 4, 13]))
  (.cond (.tmp 13) (.seq (.reg 11 [⟨some 2, .mv (.con (.str ⟨#[63]⟩)), none, Q0⟩] false (some [2]))
  .ret) (.seq (.reg 12 [⟨some 16, .bin .eql (.tmp 4) (.con (.int .i64 6)), none, Q0⟩,
  ⟨some 15, .mv (.tmp 16), none, Q0⟩] false (some [1, 4, 15]))
  (.cond (.tmp 15) (.seq (.reg 13 [⟨some 17, .fA 2 (.tmp 1), none, Q0⟩,
  ⟨some 18, .ld none (.tmp 17), none, Q0⟩,
  ⟨some 2, .mv (.tmp 18), none, Q0⟩] false (some [2]))
  .ret) (.seq (.reg 14 [⟨some 20, .bin .eql (.tmp 4) (.con (.int .i64 9)), none, Q0⟩,
  ⟨some 19, .mv (.tmp 20), none, Q0⟩] false (some [1, 4, 19]))
  (.cond (.tmp 19) (.seq (.reg 15 [⟨some 21, .fA 1 (.tmp 1), none, Q0⟩,
  ⟨some 22, .ld none (.tmp 21), none, Q0⟩,
  ⟨some 23, .call (.con (.fn 93 [] [])) [(.tmp 22)], none, Q0⟩,
  ⟨some 24, .bin .add (.con (.str ⟨#[35]⟩)) (.tmp 23), none, Q0⟩,
  ⟨some 2, .mv (.tmp 24), none, Q0⟩] false (some [2]))
  .ret) (.seq (.reg 16 [⟨some 26, .bin .eql (.tmp 4) (.con (.int .i64 7)), none, Q0⟩,
  ⟨some 25, .mv (.tmp 26), none, Q0⟩] false (some [1, 25]))
  (.cond (.tmp 25) (.seq (.reg 17 [⟨some 27, .fA 4 (.tmp 1), none, ⟨.no, false⟩⟩,
  ⟨some 28, .ld none (.tmp 27), none, ⟨.still, false⟩⟩,
  ⟨some 29, .ixL 5 (.tmp 28) (.con (.int .i64 0)), none, ⟨.no, false⟩⟩,
  ⟨some 30, .ld (some 5) (.tmp 29), none, ⟨.still, false⟩⟩,
  ⟨some 31, .call (.con (.fn 108 [] [])) [(.tmp 30)], none, ⟨.still, false⟩⟩,
  ⟨some 32, .bin .add (.tmp 31) (.con (.str ⟨#[32, 45, 62, 32]⟩)), none, ⟨.no, false⟩⟩,
  ⟨some 33, .fA 4 (.tmp 1), none, Q0⟩,
  ⟨some 34, .ld none (.tmp 33), none, Q1⟩,
  ⟨some 35, .ixL 5 (.tmp 34) (.con (.int .i64 1)), none, Q0⟩,
  ⟨some 36, .ld (some 5) (.tmp 35), none, Q1⟩,
  ⟨some 37, .call (.con (.fn 66 [] [])) [(.tmp 36)], none, Q0⟩,
  ⟨some 38, .bin .add (.tmp 32) (.tmp 37), none, Q0⟩,
  ⟨some 2, .mv (.tmp 38), none, Q0⟩] true (some [2]))
  .ret) .skip))))))))))))))))))
  (.seq (.reg 18 [⟨some 39, .fA 4 (.tmp 1), none, Q0⟩,
  ⟨some 40, .ld none (.tmp 39), none, Q0⟩,
  ⟨some 41, .fnv 110 [] [(.tmp 1)], none, Q0⟩,
  ⟨some 42, .call (.con (.fn 109 [] [])) [(.tmp 40), (.tmp 41)], none, Q0⟩,
  ⟨some 43, .bin .add (.con (.str ⟨#[123]⟩)) (.tmp 42), none, Q0⟩,
  ⟨some 44, .bin .add (.tmp 43) (.con (.str ⟨#[125]⟩)), none, Q0⟩,
  ⟨some 2, .mv (.tmp 44), none, Q0⟩] false (some [2]))
  .ret)))
def c66 : EFn := ⟨1, 45, [.tmp 2], c66_b, none, true⟩
theorem c66_ok : cFn Tryz.prog Tryz.f66 = some c66.strip := by kernel_rfl
-- limbeck/limbeckref04.Right
def c67_r6 : List EI := [⟨some 18, .fA 0 (.tmp 1), none, Q0⟩,
  ⟨some 19, .ld none (.tmp 18), none, Q0⟩,
  ⟨some 20, .bin .neq (.tmp 19) (.con (.int .i64 6)), none, Q0⟩,
  ⟨some 21, .mv (.tmp 20), none, Q0⟩,
  ⟨some 22, .fA 2 (.tmp 1), some (21, true), Q0⟩,
  ⟨some 23, .ld none (.tmp 22), some (21, true), Q0⟩,
  ⟨some 24, .bin .neq (.tmp 23) (.con (.str ⟨#[]⟩)), some (21, true), Q0⟩,
  ⟨some 25, .pick (.tmp 21) (.tmp 24) (.con (.bool false)), none, Q0⟩,
  ⟨some 26, .mv (.tmp 25), none, Q0⟩,
  ⟨some 27, .fA 0 (.tmp 1), some (26, false), Q0⟩,
  ⟨some 28, .ld none (.tmp 27), some (26, false), Q0⟩,
  ⟨some 29, .bin .neq (.tmp 28) (.con (.int .i64 9)), some (26, false), Q0⟩,
  ⟨some 30, .mv (.tmp 29), some (26, false), Q0⟩,
  ⟨some 31, .fA 1 (.tmp 1), some (30, true), Q0⟩,
  ⟨some 32, .ld none (.tmp 31), some (30, true), Q0⟩,
  ⟨some 33, .bin .neq (.tmp 32) (.con (.int .i64 0)), some (30, true), Q0⟩,
  ⟨some 34, .pick (.tmp 30) (.tmp 33) (.con (.bool false)), some (26, false), Q0⟩,
  ⟨some 35, .pick (.tmp 26) (.con (.bool true)) (.tmp 34), none, Q0⟩,
  ⟨some 36, .mv (.tmp 35), none, Q0⟩,
  ⟨some 37, .fA 0 (.tmp 1), some (36, false), Q0⟩,
  ⟨some 38, .ld none (.tmp 37), some (36, false), Q0⟩,
  ⟨some 39, .bin .neq (.tmp 38) (.con (.int .i64 8)), some (36, false), Q0⟩,
  ⟨some 40, .mv (.tmp 39), some (36, false), Q0⟩,
  ⟨some 41, .fA 3 (.tmp 1), some (40, true), Q0⟩,
  ⟨some 42, .ld none (.tmp 41), some (40, true), Q0⟩,
  ⟨some 43, .len false (.tmp 42), some (40, true), Q0⟩,
  ⟨some 44, .bin .gtr (.tmp 43) (.con (.int .i64 0)), some (40, true), Q0⟩,
  ⟨some 45, .pick (.tmp 40) (.tmp 44) (.con (.bool false)), some (36, false), Q0⟩,
  ⟨some 46, .pick (.tmp 36) (.con (.bool true)) (.tmp 45), none, Q0⟩]
def c67_r8 : List EI := [⟨some 47, .fA 0 (.tmp 1), none, Q0⟩,
  ⟨some 48, .ld none (.tmp 47), none, Q0⟩,
  ⟨some 49, .bin .geq (.tmp 48) (.con (.int .i64 1)), none, Q0⟩,
  ⟨some 50, .mv (.tmp 49), none, Q0⟩,
  ⟨some 51, .fA 0 (.tmp 1), some (50, true), Q0⟩,
  ⟨some 52, .ld none (.tmp 51), some (50, true), Q0⟩,
  ⟨some 53, .bin .leq (.tmp 52) (.con (.int .i64 5)), some (50, true), Q0⟩,
  ⟨some 54, .pick (.tmp 50) (.tmp 53) (.con (.bool false)), none, Q0⟩]
def c67_r11 : List EI := [⟨some 62, .fA 2 (.tmp 1), none, Q0⟩,
  ⟨some 63, .ld none (.tmp 62), none, Q0⟩,
  ⟨some 64, .call (.con (.fn 72 [] [])) [(.tmp 63)], none, Q0⟩,
  ⟨some 65, .mv (.tmp 64), none, Q0⟩,
  ⟨some 66, .fA 4 (.tmp 1), some (65, true), Q0⟩,
  ⟨some 67, .ld none (.tmp 66), some (65, true), Q0⟩,
  ⟨some 68, .len false (.tmp 67), some (65, true), Q0⟩,
  ⟨some 69, .bin .eql (.tmp 68) (.con (.int .i64 0)), some (65, true), Q0⟩,
  ⟨some 70, .pick (.tmp 65) (.tmp 69) (.con (.bool false)), none, Q0⟩,
  ⟨some 2, .mv (.tmp 70), none, Q0⟩]
def c67_r13 : List EI := [⟨some 74, .fA 1 (.tmp 1), none, Q0⟩,
  ⟨some 75, .ld none (.tmp 74), none, Q0⟩,
  ⟨some 76, .bin .geq (.tmp 75) (.con (.int .i64 0)), none, Q0⟩,
  ⟨some 77, .mv (.tmp 76), none, Q0⟩,
  ⟨some 78, .fA 1 (.tmp 1), some (77, true), Q0⟩,
  ⟨some 79, .ld none (.tmp 78), some (77, true), Q0⟩,
  ⟨some 80, .bin .leq (.tmp 79) (.con (.int .i64 1073741824)), some (77, true), Q0⟩,
  ⟨some 81, .pick (.tmp 77) (.tmp 80) (.con (.bool false)), none, Q0⟩,
  ⟨some 82, .mv (.tmp 81), none, Q0⟩,
  ⟨some 83, .fA 4 (.tmp 1), some (82, true), Q0⟩,
  ⟨some 84, .ld none (.tmp 83), some (82, true), Q0⟩,
  ⟨some 85, .len false (.tmp 84), some (82, true), Q0⟩,
  ⟨some 86, .bin .eql (.tmp 85) (.con (.int .i64 0)), some (82, true), Q0⟩,
  ⟨some 87, .pick (.tmp 82) (.tmp 86) (.con (.bool false)), none, Q0⟩,
  ⟨some 2, .mv (.tmp 87), none, Q0⟩]
def c67_r16 : List EI := [⟨some 95, .fA 0 (.tmp 1), none, Q0⟩,
  ⟨some 96, .ld none (.tmp 95), none, Q0⟩,
  ⟨some 97, .bin .eql (.tmp 96) (.con (.int .i64 8)), none, Q0⟩,
  ⟨some 98, .mv (.tmp 97), none, Q0⟩,
  ⟨some 99, .fA 3 (.tmp 1), some (98, true), Q0⟩,
  ⟨some 100, .ld none (.tmp 99), some (98, true), Q0⟩,
  ⟨some 101, .call (.con (.fn 81 [] [])) [(.tmp 100)], some (98, true), Q0⟩,
  ⟨some 102, .pick (.tmp 98) (.tmp 101) (.con (.bool false)), none, Q0⟩,
  ⟨some 103, .mv (.tmp 102), none, Q0⟩,
  ⟨some 104, .fA 3 (.tmp 1), some (103, true), Q0⟩,
  ⟨some 105, .ld none (.tmp 104), some (103, true), Q0⟩,
  ⟨some 106, .len false (.tmp 105), some (103, true), Q0⟩,
  ⟨some 107, .fA 4 (.tmp 1), some (103, true), Q0⟩,
  ⟨some 108, .ld none (.tmp 107), some (103, true), Q0⟩,
  ⟨some 109, .len false (.tmp 108), some (103, true), Q0⟩,
  ⟨some 110, .bin .eql (.tmp 106) (.tmp 109), some (103, true), Q0⟩,
  ⟨some 111, .pick (.tmp 103) (.tmp 110) (.con (.bool false)), none, Q0⟩,
  ⟨some 2, .mv (.tmp 111), none, Q0⟩]
def c67_l0_b : EC := (.seq (.seq (.reg 2 [⟨some 4, .mv (.tmp 3), none, Q0⟩,
  ⟨some 5, .fA 4 (.tmp 1), none, Q0⟩,
  ⟨some 6, .ld none (.tmp 5), none, Q0⟩,
  ⟨some 7, .len false (.tmp 6), none, Q0⟩,
  ⟨some 8, .bin .lss (.tmp 4) (.tmp 7), none, Q0⟩] false (some [1, 3, 8]))
  (.cond (.tmp 8) .skip (.exit 0)))
  (.seq (.block 1 (.seq (.reg 4 [⟨some 11, .fA 4 (.tmp 1), none, Q0⟩,
  ⟨some 12, .ld none (.tmp 11), none, Q0⟩,
  ⟨some 13, .mv (.tmp 3), none, Q0⟩,
  ⟨some 14, .ixL 5 (.tmp 12) (.tmp 13), none, Q0⟩,
  ⟨some 15, .ld (some 5) (.tmp 14), none, Q0⟩,
  ⟨some 16, .call (.con (.fn 67 [] [])) [(.tmp 15)], none, Q0⟩,
  ⟨some 17, .un .not (.tmp 16), none, Q0⟩] false (some [1, 3, 17]))
  (.cond (.tmp 17) (.seq (.reg 5 [⟨some 2, .mv (.con (.bool false)), none, Q0⟩] false (some [2]))
  .ret) .skip)))
  (.reg 3 [⟨some 9, .mv (.tmp 3), none, Q0⟩,
  ⟨some 10, .bin .add (.tmp 9) (.con (.int .i64 1)), none, Q0⟩,
  ⟨some 3, .mv (.tmp 10), none, Q0⟩] false (some [1, 3]))))
def c67_l0 : EC := .loop (some [1, 3]) c67_l0_b
def c67_b : EC := (.seq (.reg 0 [⟨some 1, .boxI 34 (.tmp 0), none, Q0⟩,
  ⟨some 2, .mv (.con (.bool false)), none, Q0⟩] false (some [1]))
  (.seq (.seq (.reg 1 [⟨some 3, .mv (.con (.int .i64 0)), none, Q0⟩] false (some [1, 3]))
  (.block 0 c67_l0))
  (.seq (.seq (.reg 6 c67_r6 false (some [1, 46]))
  (.cond (.tmp 46) (.seq (.reg 7 [⟨some 2, .mv (.con (.bool false)), none, Q0⟩] false (some [2]))
  .ret) .skip))
  (.seq (.seq (.reg 8 c67_r8 false (some [1, 54]))
  (.cond (.tmp 54) (.seq (.reg 9 [⟨some 55, .fA 4 (.tmp 1), none, Q0⟩,
  ⟨some 56, .ld none (.tmp 55), none, Q0⟩,
  ⟨some 57, .len false (.tmp 56), none, Q0⟩,
  ⟨some 58, .bin .eql (.tmp 57) (.con (.int .i64 0)), none, Q0⟩,
  ⟨some 2, .mv (.tmp 58), none, Q0⟩] false (some [2]))
  .ret) .skip))
  (.seq (.seq (.reg 10 [⟨some 59, .fA 0 (.tmp 1), none, Q0⟩,
  ⟨some 60, .ld none (.tmp 59), none, Q0⟩,
  ⟨some 61, .bin .eql (.tmp 60) (.con (.int .i64 6)), none, Q0⟩] false (some [1, 61]))
  (.cond (.tmp 61) (.seq (.reg 11 c67_r11 false (some [2]))
  .ret) .skip))
  (.seq (.seq (.reg 12 [⟨some 71, .fA 0 (.tmp 1), none, Q0⟩,
  ⟨some 72, .ld none (.tmp 71), none, Q0⟩,
  ⟨some 73, .bin .eql (.tmp 72) (.con (.int .i64 9)), none, Q0⟩] false (some [1, 73]))
  (.cond (.tmp 73) (.seq (.reg 13 c67_r13 false (some [2]))
  .ret) .skip))
  (.seq (.seq (.reg 14 [⟨some 88, .fA 0 (.tmp 1), none, Q0⟩,
  ⟨some 89, .ld none (.tmp 88), none, Q0⟩,
  ⟨some 90, .bin .eql (.tmp 89) (.con (.int .i64 7)), none, Q0⟩] false (some [1, 90]))
  (.cond (.tmp 90) (.seq (.reg 15 [⟨some 91, .fA 4 (.tmp 1), none, Q0⟩,
  ⟨some 92, .ld none (.tmp 91), none, Q0⟩,
  ⟨some 93, .len false (.tmp 92), none, Q0⟩,
  ⟨some 94, .bin .eql (.tmp 93) (.con (.int .i64 2)), none, Q0⟩,
  ⟨some 2, .mv (.tmp 94), none, Q0⟩] false (some [2]))
  .ret) .skip))
  (.seq (.reg 16 c67_r16 false (some [2]))
  .ret))))))))
def c67 : EFn := ⟨1, 112, [.tmp 2], c67_b, none, true⟩
theorem c67_l0_step {E : Env} {fin : Kont (PV × St)} {st : List Fr} {ts : Tmps} {S : St} {n : Nat} : (lvl E (n + 1)).ev c67_l0 ts S (kont E fin st) = (lvl E (n + 1)).ev c67_l0_b (sel (some [1, 3]) ts) S (kont E fin (.again n c67_l0 :: st)) := rfl
theorem c67_l0_w {E : Env} {fin : Kont (PV × St)} {st : List Fw} {ts : Tmps} {S : St} : run E fin st c67_l0 ts S = run E fin (.again c67_l0 :: st) c67_l0_b (sel (some [1, 3]) ts) S := w_loop
theorem c67_l0_a {E : Env} {fin : Kont (PV × St)} {st : List Fw} {ts : Tmps} {S : St} : aft E fin (.again c67_l0 :: st) .normal ts S = run E fin st c67_l0 (sel (some [1, 3]) ts) S := a_again_s
theorem c67_ok : cFn Tryz.prog Tryz.f67 = some c67.strip := by kernel_rfl
-- limbeck/limbeckref05.show
def c68_l0_b : EC := (.seq (.seq (.reg 15 [⟨some 55, .mv (.tmp 6), none, Q0⟩,
  ⟨some 56, .fA 3 (.tmp 1), none, Q0⟩,
  ⟨some 57, .ld none (.tmp 56), none, Q0⟩,
  ⟨some 58, .len false (.tmp 57), none, Q0⟩,
  ⟨some 59, .bin .lss (.tmp 55) (.tmp 58), none, Q0⟩] false (some [1, 5, 6, 59]))
  (.cond (.tmp 59) .skip (.exit 0)))
  (.seq (.block 1 (.seq (.seq (.reg 17 [⟨some 62, .mv (.tmp 6), none, Q0⟩,
  ⟨some 63, .bin .gtr (.tmp 62) (.con (.int .i64 0)), none, Q0⟩] false (some [1, 5, 6, 63]))
  (.cond (.tmp 63) (.reg 18 [⟨some 64, .mv (.tmp 5), none, Q0⟩,
  ⟨some 65, .bin .add (.tmp 64) (.con (.str ⟨#[44, 32]⟩)), none, Q0⟩,
  ⟨some 5, .mv (.tmp 65), none, Q0⟩] false (some [1, 5, 6])) .skip))
  (.reg 19 [⟨some 66, .mv (.tmp 5), none, ⟨.no, false⟩⟩,
  ⟨some 67, .fA 3 (.tmp 1), none, ⟨.no, false⟩⟩,
  ⟨some 68, .ld none (.tmp 67), none, ⟨.still, false⟩⟩,
  ⟨some 69, .mv (.tmp 6), none, ⟨.no, false⟩⟩,
  ⟨some 70, .ixL 1 (.tmp 68) (.tmp 69), none, ⟨.no, false⟩⟩,
  ⟨some 71, .ld none (.tmp 70), none, ⟨.still, false⟩⟩,
  ⟨some 72, .bin .add (.tmp 66) (.tmp 71), none, ⟨.no, false⟩⟩,
  ⟨some 73, .bin .add (.tmp 72) (.con (.str ⟨#[58, 32]⟩)), none, ⟨.no, false⟩⟩,
  ⟨some 74, .fA 4 (.tmp 1), none, ⟨.no, false⟩⟩,
  ⟨some 75, .ld none (.tmp 74), none, ⟨.still, false⟩⟩,
  ⟨some 76, .mv (.tmp 6), none, Q0⟩,
  ⟨some 77, .ixL 5 (.tmp 75) (.tmp 76), none, Q0⟩,
  ⟨some 78, .ld (some 5) (.tmp 77), none, Q1⟩,
  ⟨some 79, .call (.con (.fn 68 [] [])) [(.tmp 78)], none, Q1⟩,
  ⟨some 80, .bin .add (.tmp 73) (.tmp 79), none, Q0⟩,
  ⟨some 5, .mv (.tmp 80), none, Q0⟩] true (some [1, 5, 6]))))
  (.reg 16 [⟨some 60, .mv (.tmp 6), none, Q0⟩,
  ⟨some 61, .bin .add (.tmp 60) (.con (.int .i64 1)), none, Q0⟩,
  ⟨some 6, .mv (.tmp 61), none, Q0⟩] false (some [1, 5, 6]))))
def c68_l0 : EC := .loop (some [1, 5, 6]) c68_l0_b
def c68_b : EC := (.seq (.reg 0 [⟨some 1, .boxI 34 (.tmp 0), none, Q0⟩,
  ⟨some 2, .mv (.con (.str ⟨#[]⟩)), none, Q0⟩] false (some [1]))
  (.seq (.reg 1 [⟨some 7, .rows 6 1 [(.str ⟨#[]⟩)] [(0, (.con (.str ⟨#[]⟩))), (1, (.con (.str ⟨#[73, 110, 116]⟩))), (2, (.con (.str ⟨#[66, 111, 111, 108]⟩))), (3, (.con (.str ⟨#[83, 116, 114, 105, 110, 103]⟩))), (4, (.con (.str ⟨#[84, 111, 112]⟩))), (5, (.con (.str ⟨#[63]⟩)))], none, Q0⟩,
  ⟨some 3, .mv (.tmp 7), none, Q0⟩] false (some [1, 3]))
  (.seq (.seq (.reg 2 [⟨some 8, .fA 0 (.tmp 1), none, Q0⟩,
  ⟨some 9, .ld none (.tmp 8), none, Q0⟩,
  ⟨some 10, .mv (.tmp 3), none, Q0⟩,
  ⟨some 11, .len false (.tmp 10), none, Q0⟩,
  ⟨some 12, .bin .lss (.tmp 9) (.tmp 11), none, Q0⟩] false (some [1, 3, 12]))
  (.cond (.tmp 12) (.seq (.reg 3 [⟨some 13, .mv (.tmp 3), none, Q0⟩,
  ⟨some 14, .fA 0 (.tmp 1), none, Q0⟩,
  ⟨some 15, .ld none (.tmp 14), none, Q0⟩,
  ⟨some 16, .ixL 1 (.tmp 13) (.tmp 15), none, Q0⟩,
  ⟨some 17, .ld none (.tmp 16), none, Q0⟩,
  ⟨some 2, .mv (.tmp 17), none, Q0⟩] false (some [2]))
  .ret) .skip))
  (.seq (.seq (.reg 4 [⟨some 18, .fA 0 (.tmp 1), none, Q0⟩,
  ⟨some 19, .ld none (.tmp 18), none, Q0⟩,
  ⟨some 20, .bin .eql (.tmp 19) (.con (.int .i64 6)), none, Q0⟩] false (some [1, 20]))
  (.cond (.tmp 20) (.seq (.reg 5 [⟨some 21, .fA 2 (.tmp 1), none, Q0⟩,
  ⟨some 22, .ld none (.tmp 21), none, Q0⟩,
  ⟨some 2, .mv (.tmp 22), none, Q0⟩] false (some [2]))
  .ret) .skip))
  (.seq (.seq (.reg 6 [⟨some 23, .fA 0 (.tmp 1), none, Q0⟩,
  ⟨some 24, .ld none (.tmp 23), none, Q0⟩,
  ⟨some 25, .bin .eql (.tmp 24) (.con (.int .i64 9)), none, Q0⟩] false (some [1, 25]))
  (.cond (.tmp 25) (.seq (.reg 7 [⟨some 26, .fA 1 (.tmp 1), none, Q0⟩,
  ⟨some 27, .ld none (.tmp 26), none, Q0⟩,
  ⟨some 28, .call (.con (.fn 111 [] [])) [(.tmp 27)], none, Q0⟩,
  ⟨some 29, .bin .add (.con (.str ⟨#[35]⟩)) (.tmp 28), none, Q0⟩,
  ⟨some 2, .mv (.tmp 29), none, Q0⟩] false (some [2]))
  .ret) .skip))
  (.seq (.seq (.reg 8 [⟨some 30, .fA 0 (.tmp 1), none, Q0⟩,
  ⟨some 31, .ld none (.tmp 30), none, Q0⟩,
  ⟨some 32, .bin .eql (.tmp 31) (.con (.int .i64 7)), none, Q0⟩] false (some [1, 32]))
  (.cond (.tmp 32) (.seq (.reg 9 [⟨some 33, .fA 4 (.tmp 1), none, Q0⟩,
  ⟨some 34, .ld none (.tmp 33), none, Q0⟩,
  ⟨some 35, .ixL 5 (.tmp 34) (.con (.int .i64 0)), none, Q0⟩,
  ⟨some 36, .ld (some 5) (.tmp 35), none, Q0⟩,
  ⟨some 37, .call (.con (.fn 68 [] [])) [(.tmp 36)], none, Q0⟩,
  ⟨some 4, .mv (.tmp 37), none, Q0⟩] false (some [1, 4]))
  (.seq (.seq (.reg 10 [⟨some 38, .fA 4 (.tmp 1), none, Q0⟩,
  ⟨some 39, .ld none (.tmp 38), none, Q0⟩,
  ⟨some 40, .ixL 5 (.tmp 39) (.con (.int .i64 0)), none, Q0⟩,
  ⟨some 41, .fA 0 (.tmp 40), none, Q0⟩,
  ⟨some 42, .ld none (.tmp 41), none, Q0⟩,
  ⟨some 43, .bin .eql (.tmp 42) (.con (.int .i64 7)), none, Q0⟩] false (some [1, 4, 43]))
  (.cond (.tmp 43) (.reg 11 [⟨some 44, .mv (.tmp 4), none, Q0⟩,
  ⟨some 45, .bin .add (.con (.str ⟨#[40]⟩)) (.tmp 44), none, Q0⟩,
  ⟨some 46, .bin .add (.tmp 45) (.con (.str ⟨#[41]⟩)), none, Q0⟩,
  ⟨some 4, .mv (.tmp 46), none, Q0⟩] false (some [1, 4])) .skip))
  (.seq (.reg 12 [⟨some 47, .mv (.tmp 4), none, Q0⟩,
  ⟨some 48, .bin .add (.tmp 47) (.con (.str ⟨#[32, 45, 62, 32]⟩)), none, Q0⟩,
  ⟨some 49, .fA 4 (.tmp 1), none, Q0⟩,
  ⟨some 50, .ld none (.tmp 49), none, Q0⟩,
  ⟨some 51, .ixL 5 (.tmp 50) (.con (.int .i64 1)), none, Q0⟩,
  ⟨some 52, .ld (some 5) (.tmp 51), none, Q0⟩,
  ⟨some 53, .call (.con (.fn 68 [] [])) [(.tmp 52)], none, Q0⟩,
  ⟨some 54, .bin .add (.tmp 48) (.tmp 53), none, Q0⟩,
  ⟨some 2, .mv (.tmp 54), none, Q0⟩] false (some [2]))
  .ret))) .skip))
  (.seq (.reg 13 [⟨some 5, .mv (.con (.str ⟨#[123]⟩)), none, Q0⟩] false (some [1, 5]))
  (.seq (.seq (.reg 14 [⟨some 6, .mv (.con (.int .i64 0)), none, Q0⟩] false (some [1, 5, 6]))
  (.block 0 c68_l0))
  (.seq (.reg 20 [⟨some 81, .mv (.tmp 5), none, Q0⟩,
  ⟨some 82, .bin .add (.tmp 81) (.con (.str ⟨#[125]⟩)), none, Q0⟩,
  ⟨some 2, .mv (.tmp 82), none, Q0⟩] false (some [2]))
  .ret)))))))))
def c68 : EFn := ⟨1, 83, [.tmp 2], c68_b, none, true⟩
theorem c68_l0_step {E : Env} {fin : Kont (PV × St)} {st : List Fr} {ts : Tmps} {S : St} {n : Nat} : (lvl E (n + 1)).ev c68_l0 ts S (kont E fin st) = (lvl E (n + 1)).ev c68_l0_b (sel (some [1, 5, 6]) ts) S (kont E fin (.again n c68_l0 :: st)) := rfl
theorem c68_l0_w {E : Env} {fin : Kont (PV × St)} {st : List Fw} {ts : Tmps} {S : St} : run E fin st c68_l0 ts S = run E fin (.again c68_l0 :: st) c68_l0_b (sel (some [1, 5, 6]) ts) S := w_loop
theorem c68_l0_a {E : Env} {fin : Kont (PV × St)} {st : List Fw} {ts : Tmps} {S : St} : aft E fin (.again c68_l0 :: st) .normal ts S = run E fin st c68_l0 (sel (some [1, 5, 6]) ts) S := a_again_s
theorem c68_ok : cFn Tryz.prog Tryz.f68 = some c68.strip := by kernel_rfl
-- limbeck/limbeckref01.Fine
def c69_b : EC := (.seq (.reg 0 [⟨some 2, .mv (.con (.bool false)), none, Q0⟩] false (some [0]))
  (.seq (.reg 1 [⟨some 3, .mv (.tmp 0), none, Q0⟩,
  ⟨some 4, .call (.con (.fn 112 [] [])) [(.tmp 3)], none, Q0⟩,
  ⟨some 5, .bin .eql (.tmp 4) (.con (.int .i64 1)), none, Q0⟩,
  ⟨some 2, .mv (.tmp 5), none, Q0⟩] false (some [2]))
  .ret))
def c69 : EFn := ⟨1, 6, [.tmp 2], c69_b, none, true⟩
theorem c69_ok : cFn Tryz.prog Tryz.f69 = some c69.strip := by kernel_rfl
-- limbeck/limbeckref14.types
def c70_r4 : List EI := [⟨some 10, .mv (.tmp 0), none, Q0⟩,
  ⟨some 11, .mv (.tmp 3), none, Q0⟩,
  ⟨some 12, .ixL 5 (.tmp 10) (.tmp 11), none, Q0⟩,
  ⟨some 13, .ld (some 5) (.tmp 12), none, Q0⟩,
  ⟨some 14, .call (.con (.fn 67 [] [])) [(.tmp 13)], none, Q0⟩,
  ⟨some 15, .un .not (.tmp 14), none, Q0⟩,
  ⟨some 16, .mv (.tmp 15), none, Q0⟩,
  ⟨some 17, .mv (.tmp 0), some (16, false), Q0⟩,
  ⟨some 18, .mv (.tmp 3), some (16, false), Q0⟩,
  ⟨some 19, .ixL 5 (.tmp 17) (.tmp 18), some (16, false), Q0⟩,
  ⟨some 20, .ld (some 5) (.tmp 19), some (16, false), Q0⟩,
  ⟨some 21, .call (.con (.fn 113 [] [])) [(.tmp 20), (.con (.int .i64 9))], some (16, false), Q0⟩,
  ⟨some 22, .pick (.tmp 16) (.con (.bool true)) (.tmp 21), none, Q0⟩]
def c70_l0_b : EC := (.seq (.seq (.reg 2 [⟨some 4, .mv (.tmp 3), none, Q0⟩,
  ⟨some 5, .mv (.tmp 0), none, Q0⟩,
  ⟨some 6, .len false (.tmp 5), none, Q0⟩,
  ⟨some 7, .bin .lss (.tmp 4) (.tmp 6), none, Q0⟩] false (some [0, 3, 7]))
  (.cond (.tmp 7) .skip (.exit 0)))
  (.seq (.block 1 (.seq (.reg 4 c70_r4 false (some [0, 3, 22]))
  (.cond (.tmp 22) (.seq (.reg 5 [⟨some 2, .mv (.con (.bool false)), none, Q0⟩] false (some [2]))
  .ret) .skip)))
  (.reg 3 [⟨some 8, .mv (.tmp 3), none, Q0⟩,
  ⟨some 9, .bin .add (.tmp 8) (.con (.int .i64 1)), none, Q0⟩,
  ⟨some 3, .mv (.tmp 9), none, Q0⟩] false (some [0, 3]))))
def c70_l0 : EC := .loop (some [0, 3]) c70_l0_b
def c70_b : EC := (.seq (.reg 0 [⟨some 2, .mv (.con (.bool false)), none, Q0⟩] false (some [0]))
  (.seq (.seq (.reg 1 [⟨some 3, .mv (.con (.int .i64 0)), none, Q0⟩] false (some [0, 3]))
  (.block 0 c70_l0))
  (.seq (.reg 6 [⟨some 2, .mv (.con (.bool true)), none, Q0⟩] false (some [2]))
  .ret)))
def c70 : EFn := ⟨1, 23, [.tmp 2], c70_b, none, true⟩
theorem c70_l0_step {E : Env} {fin : Kont (PV × St)} {st : List Fr} {ts : Tmps} {S : St} {n : Nat} : (lvl E (n + 1)).ev c70_l0 ts S (kont E fin st) = (lvl E (n + 1)).ev c70_l0_b (sel (some [0, 3]) ts) S (kont E fin (.again n c70_l0 :: st)) := rfl
theorem c70_l0_w {E : Env} {fin : Kont (PV × St)} {st : List Fw} {ts : Tmps} {S : St} : run E fin st c70_l0 ts S = run E fin (.again c70_l0 :: st) c70_l0_b (sel (some [0, 3]) ts) S := w_loop
theorem c70_l0_a {E : Env} {fin : Kont (PV × St)} {st : List Fw} {ts : Tmps} {S : St} : aft E fin (.again c70_l0 :: st) .normal ts S = run E fin st c70_l0 (sel (some [0, 3]) ts) S := a_again_s
theorem c70_ok : cFn Tryz.prog Tryz.f70 = some c70.strip := by kernel_rfl
-- limbeck/limbeckref01.Var
def c72_b : EC := (.seq (.reg 0 [⟨some 2, .mv (.con (.bool false)), none, Q0⟩] false (some [0]))
  (.seq (.reg 1 [⟨some 3, .mv (.tmp 0), none, Q0⟩,
  ⟨some 4, .call (.con (.fn 112 [] [])) [(.tmp 3)], none, Q0⟩,
  ⟨some 5, .bin .eql (.tmp 4) (.con (.int .i64 2)), none, Q0⟩,
  ⟨some 2, .mv (.tmp 5), none, Q0⟩] false (some [2]))
  .ret))
def c72 : EFn := ⟨1, 6, [.tmp 2], c72_b, none, true⟩
theorem c72_ok : cFn Tryz.prog Tryz.f72 = some c72.strip := by kernel_rfl
-- limbeck/limbeckref01.Rising
def c81_r4 : List EI := [⟨some 10, .mv (.tmp 0), none, ⟨.no, false⟩⟩,
  ⟨some 11, .mv (.tmp 3), none, Q0⟩,
  ⟨some 12, .ixL 1 (.tmp 10) (.tmp 11), none, Q0⟩,
  ⟨some 13, .ld none (.tmp 12), none, Q0⟩,
  ⟨some 14, .call (.con (.fn 69 [] [])) [(.tmp 13)], none, Q0⟩,
  ⟨some 15, .un .not (.tmp 14), none, Q0⟩,
  ⟨some 16, .mv (.tmp 15), none, Q0⟩,
  ⟨some 17, .mv (.tmp 3), some (16, false), Q0⟩,
  ⟨some 18, .bin .gtr (.tmp 17) (.con (.int .i64 0)), some (16, false), Q0⟩,
  ⟨some 19, .mv (.tmp 18), some (16, false), Q0⟩,
  ⟨some 20, .mv (.tmp 0), some (19, true), ⟨.no, false⟩⟩,
  ⟨some 21, .mv (.tmp 3), some (19, true), ⟨.no, false⟩⟩,
  ⟨some 22, .bin .sub (.tmp 21) (.con (.int .i64 1)), some (19, true), ⟨.no, false⟩⟩,
  ⟨some 23, .ixL 1 (.tmp 20) (.tmp 22), some (19, true), ⟨.no, false⟩⟩,
  ⟨some 24, .ld none (.tmp 23), some (19, true), ⟨.still, false⟩⟩,
  ⟨some 25, .mv (.tmp 0), some (19, true), ⟨.no, false⟩⟩,
  ⟨some 26, .mv (.tmp 3), some (19, true), Q0⟩,
  ⟨some 27, .ixL 1 (.tmp 25) (.tmp 26), some (19, true), Q0⟩,
  ⟨some 28, .ld none (.tmp 27), some (19, true), Q1⟩,
  ⟨some 29, .bin .geq (.tmp 24) (.tmp 28), some (19, true), Q0⟩,
  ⟨some 30, .pick (.tmp 19) (.tmp 29) (.con (.bool false)), some (16, false), Q0⟩,
  ⟨some 31, .pick (.tmp 16) (.con (.bool true)) (.tmp 30), none, Q0⟩]
def c81_l0_b : EC := (.seq (.seq (.reg 2 [⟨some 4, .mv (.tmp 3), none, Q0⟩,
  ⟨some 5, .mv (.tmp 0), none, Q0⟩,
  ⟨some 6, .len false (.tmp 5), none, Q0⟩,
  ⟨some 7, .bin .lss (.tmp 4) (.tmp 6), none, Q0⟩] false (some [0, 3, 7]))
  (.cond (.tmp 7) .skip (.exit 0)))
  (.seq (.block 1 (.seq (.reg 4 c81_r4 true (some [0, 3, 31]))
  (.cond (.tmp 31) (.seq (.reg 5 [⟨some 2, .mv (.con (.bool false)), none, Q0⟩] false (some [2]))
  .ret) .skip)))
  (.reg 3 [⟨some 8, .mv (.tmp 3), none, Q0⟩,
  ⟨some 9, .bin .add (.tmp 8) (.con (.int .i64 1)), none, Q0⟩,
  ⟨some 3, .mv (.tmp 9), none, Q0⟩] false (some [0, 3]))))
def c81_l0 : EC := .loop (some [0, 3]) c81_l0_b
def c81_b : EC := (.seq (.reg 0 [⟨some 2, .mv (.con (.bool false)), none, Q0⟩] false (some [0]))
  (.seq (.seq (.reg 1 [⟨some 3, .mv (.con (.int .i64 0)), none, Q0⟩] false (some [0, 3]))
  (.block 0 c81_l0))
  (.seq (.reg 6 [⟨some 2, .mv (.con (.bool true)), none, Q0⟩] false (some [2]))
  .ret)))
def c81 : EFn := ⟨1, 32, [.tmp 2], c81_b, none, true⟩
theorem c81_l0_step {E : Env} {fin : Kont (PV × St)} {st : List Fr} {ts : Tmps} {S : St} {n : Nat} : (lvl E (n + 1)).ev c81_l0 ts S (kont E fin st) = (lvl E (n + 1)).ev c81_l0_b (sel (some [0, 3]) ts) S (kont E fin (.again n c81_l0 :: st)) := rfl
theorem c81_l0_w {E : Env} {fin : Kont (PV × St)} {st : List Fw} {ts : Tmps} {S : St} : run E fin st c81_l0 ts S = run E fin (.again c81_l0 :: st) c81_l0_b (sel (some [0, 3]) ts) S := w_loop
theorem c81_l0_a {E : Env} {fin : Kont (PV × St)} {st : List Fw} {ts : Tmps} {S : St} : aft E fin (.again c81_l0 :: st) .normal ts S = run E fin st c81_l0 (sel (some [0, 3]) ts) S := a_again_s
theorem c81_ok : cFn Tryz.prog Tryz.f81 = some c81.strip := by kernel_rfl
-- limbeck/limbeckref14.shape
def c82_b : EC := (.seq (.reg 0 [⟨some 1, .boxI 26 (.tmp 0), none, Q0⟩,
  ⟨some 2, .mv (.con (.int .i64 0)), none, Q0⟩,
  ⟨some 3, .mv (.con (.int .i64 0)), none, Q0⟩,
  ⟨some 4, .mv (.con (.int .i64 0)), none, Q0⟩,
  ⟨some 5, .mv (.con (.int .i64 0)), none, Q0⟩] false (some [1]))
  (.seq (.seq (.reg 1 [⟨some 6, .fA 0 (.tmp 1), none, Q0⟩,
  ⟨some 7, .ld none (.tmp 6), none, Q0⟩] false (some [1, 7]))
  (.block 0 (.seq (.reg 2 [⟨some 9, .bin .eql (.tmp 7) (.con (.int .i64 5)), none, Q0⟩,
  ⟨some 8, .mv (.tmp 9), none, Q0⟩] false (some [1, 7, 8]))
  (.cond (.tmp 8) (.seq (.reg 3 [⟨some 2, .mv (.con (.int .i64 0)), none, Q0⟩,
  ⟨some 3, .mv (.con (.int .i64 1)), none, Q0⟩,
  ⟨some 4, .mv (.con (.int .i64 2)), none, Q0⟩,
  ⟨some 5, .mv (.con (.int .i64 2)), none, Q0⟩] false (some [2, 3, 4, 5]))
  .ret) (.seq (.reg 4 [⟨some 11, .bin .eql (.tmp 7) (.con (.int .i64 6)), none, Q0⟩,
  ⟨some 10, .mv (.tmp 11), none, Q0⟩] false (some [1, 7, 10]))
  (.cond (.tmp 10) (.seq (.reg 5 [⟨some 2, .mv (.con (.int .i64 0)), none, Q0⟩,
  ⟨some 3, .mv (.con (.int .i64 0)), none, Q0⟩,
  ⟨some 4, .mv (.con (.int .i64 3)), none, Q0⟩,
  ⟨some 5, .mv (.con (.int .i64 3)), none, Q0⟩] false (some [2, 3, 4, 5]))
  .ret) (.seq (.reg 6 [⟨some 13, .bin .eql (.tmp 7) (.con (.int .i64 7)), none, Q0⟩,
  ⟨some 12, .mv (.tmp 13), none, Q0⟩] false (some [1, 7, 12]))
  (.cond (.tmp 12) (.seq (.reg 7 [⟨some 2, .mv (.con (.int .i64 0)), none, Q0⟩,
  ⟨some 3, .mv (.con (.int .i64 1)), none, Q0⟩,
  ⟨some 4, .mv (.con (.int .i64 1)), none, Q0⟩,
  ⟨some 5, .mv (.con (.int .i64 1)), none, Q0⟩] false (some [2, 3, 4, 5]))
  .ret) (.seq (.seq (.reg 8 [⟨some 15, .bin .eql (.tmp 7) (.con (.int .i64 8)), none, Q0⟩,
  ⟨some 14, .mv (.tmp 15), none, Q0⟩] false (some [1, 7, 14]))
  (.cond (.tmp 14) .skip (.reg 9 [⟨some 16, .bin .eql (.tmp 7) (.con (.int .i64 11)), none, Q0⟩,
  ⟨some 14, .mv (.tmp 16), none, Q0⟩] false (some [1, 7, 14]))))
  (.cond (.tmp 14) (.seq (.reg 10 [⟨some 2, .mv (.con (.int .i64 0)), none, Q0⟩,
  ⟨some 3, .mv (.con (.int .i64 0)), none, Q0⟩,
  ⟨some 4, .mv (.con (.int .i64 2)), none, Q0⟩,
  ⟨some 5, .mv (.con (.int .i64 2)), none, Q0⟩] false (some [2, 3, 4, 5]))
  .ret) (.seq (.reg 11 [⟨some 18, .bin .eql (.tmp 7) (.con (.int .i64 9)), none, Q0⟩,
  ⟨some 17, .mv (.tmp 18), none, Q0⟩] false (some [1, 7, 17]))
  (.cond (.tmp 17) (.seq (.reg 12 [⟨some 19, .fA 5 (.tmp 1), none, ⟨.no, false⟩⟩,
  ⟨some 20, .ld none (.tmp 19), none, ⟨.still, false⟩⟩,
  ⟨some 21, .len false (.tmp 20), none, ⟨.no, false⟩⟩,
  ⟨some 22, .fA 5 (.tmp 1), none, ⟨.no, false⟩⟩,
  ⟨some 23, .ld none (.tmp 22), none, ⟨.still, false⟩⟩,
  ⟨some 24, .len false (.tmp 23), none, ⟨.no, false⟩⟩,
  ⟨some 2, .mv (.con (.int .i64 0)), none, Q0⟩,
  ⟨some 3, .mv (.con (.int .i64 0)), none, Q0⟩,
  ⟨some 4, .mv (.tmp 21), none, Q0⟩,
  ⟨some 5, .mv (.tmp 24), none, Q0⟩] true (some [2, 3, 4, 5]))
  .ret) (.seq (.reg 13 [⟨some 26, .bin .eql (.tmp 7) (.con (.int .i64 10)), none, Q0⟩,
  ⟨some 25, .mv (.tmp 26), none, Q0⟩] false (some [1, 7, 25]))
  (.cond (.tmp 25) (.seq (.reg 14 [⟨some 2, .mv (.con (.int .i64 0)), none, Q0⟩,
  ⟨some 3, .mv (.con (.int .i64 0)), none, Q0⟩,
  ⟨some 4, .mv (.con (.int .i64 1)), none, Q0⟩,
  ⟨some 5, .mv (.con (.int .i64 1)), none, Q0⟩] false (some [2, 3, 4, 5]))
  .ret) (.seq (.reg 15 [⟨some 28, .bin .eql (.tmp 7) (.con (.int .i64 12)), none, Q0⟩,
  ⟨some 27, .mv (.tmp 28), none, Q0⟩] false (some [1, 7, 27]))
  (.cond (.tmp 27) (.seq (.reg 16 [⟨some 2, .mv (.con (.int .i64 1)), none, Q0⟩,
  ⟨some 3, .mv (.con (.int .i64 1)), none, Q0⟩,
  ⟨some 4, .mv (.con (.int .i64 1)), none, Q0⟩,
  ⟨some 5, .mv (.con (.int .i64 1)), none, Q0⟩] false (some [2, 3, 4, 5]))
  .ret) (.seq (.reg 17 [⟨some 30, .bin .eql (.tmp 7) (.con (.int .i64 13)), none, Q0⟩,
  ⟨some 29, .mv (.tmp 30), none, Q0⟩] false (some [1, 29]))
  (.cond (.tmp 29) (.seq (.seq (.reg 18 [⟨some 31, .fA 3 (.tmp 1), none, Q0⟩,
  ⟨some 32, .ld none (.tmp 31), none, Q0⟩] false (some [32]))
  (.cond (.tmp 32) (.seq (.reg 19 [⟨some 2, .mv (.con (.int .i64 1)), none, Q0⟩,
  ⟨some 3, .mv (.con (.int .i64 3)), none, Q0⟩,
  ⟨some 4, .mv (.con (.int .i64 0)), none, Q0⟩,
  ⟨some 5, .mv (.con (.int .i64 4)), none, Q0⟩] false (some [2, 3, 4, 5]))
  .ret) .skip))
  (.seq (.reg 20 [⟨some 2, .mv (.con (.int .i64 0)), none, Q0⟩,
  ⟨some 3, .mv (.con (.int .i64 0)), none, Q0⟩,
  ⟨some 4, .mv (.con (.int .i64 0)), none, Q0⟩,
  ⟨some 5, .mv (.con (.int .i64 4)), none, Q0⟩] false (some [2, 3, 4, 5]))
  .ret)) .skip))))))))))))))))))
  (.seq (.reg 21 [⟨some 2, .mv (.con (.int .i64 0)), none, Q0⟩,
  ⟨some 3, .mv (.con (.int .i64 0)), none, Q0⟩,
  ⟨some 4, .mv (.con (.int .i64 0)), none, Q0⟩,
  ⟨some 5, .mv (.con (.int .i64 0)), none, Q0⟩] false (some [2, 3, 4, 5]))
  .ret)))
def c82 : EFn := ⟨1, 33, [.tmp 2, .tmp 3, .tmp 4, .tmp 5], c82_b, none, true⟩
theorem c82_ok : cFn Tryz.prog Tryz.f82 = some c82.strip := by kernel_rfl
-- limbeck/name.Rising
def c83_r4 : List EI := [⟨some 12, .mv (.tmp 4), none, Q0⟩,
  ⟨some 13, .call (.con (.fn 58 [] [])) [(.tmp 12)], none, Q0⟩,
  ⟨some 14, .un .not (.tmp 13), none, Q0⟩,
  ⟨some 15, .mv (.tmp 14), none, Q0⟩,
  ⟨some 16, .mv (.tmp 3), some (15, false), Q0⟩,
  ⟨some 17, .bin .gtr (.tmp 16) (.con (.int .i64 0)), some (15, false), Q0⟩,
  ⟨some 18, .mv (.tmp 17), some (15, false), Q0⟩,
  ⟨some 19, .mv (.tmp 0), some (18, true), Q0⟩,
  ⟨some 20, .mv (.tmp 3), some (18, true), Q0⟩,
  ⟨some 21, .bin .sub (.tmp 20) (.con (.int .i64 1)), some (18, true), Q0⟩,
  ⟨some 22, .ixL 1 (.tmp 19) (.tmp 21), some (18, true), Q0⟩,
  ⟨some 23, .ld none (.tmp 22), some (18, true), Q0⟩,
  ⟨some 24, .mv (.tmp 4), some (18, true), Q0⟩,
  ⟨some 25, .bin .geq (.tmp 23) (.tmp 24), some (18, true), Q0⟩,
  ⟨some 26, .pick (.tmp 18) (.tmp 25) (.con (.bool false)), some (15, false), Q0⟩,
  ⟨some 27, .pick (.tmp 15) (.con (.bool true)) (.tmp 26), none, Q0⟩]
def c83_l0_b : EC := (.seq (.reg 2 [⟨some 8, .bin .lss (.tmp 7) (.tmp 6), none, Q0⟩] false (some [0, 5, 6, 7, 8]))
  (.seq (.cond (.tmp 8) .skip (.exit 0))
  (.seq (.block 1 (.seq (.reg 3 [⟨some 9, .mv (.tmp 7), none, Q0⟩,
  ⟨some 10, .ixL 1 (.tmp 5) (.tmp 7), none, Q0⟩,
  ⟨some 11, .ld none (.tmp 10), none, Q0⟩,
  ⟨some 3, .mv (.tmp 9), none, Q0⟩,
  ⟨some 4, .mv (.tmp 11), none, Q0⟩] false (some [0, 3, 4, 5, 6, 7]))
  (.seq (.reg 4 c83_r4 false (some [0, 5, 6, 7, 27]))
  (.cond (.tmp 27) (.seq (.reg 5 [⟨some 2, .mv (.con (.bool false)), none, Q0⟩] false (some [2]))
  .ret) .skip))))
  (.reg 6 [⟨some 28, .bin .add (.tmp 7) (.con (.int .i64 1)), none, Q0⟩,
  ⟨some 7, .mv (.tmp 28), none, Q0⟩] false (some [0, 5, 6, 7])))))
def c83_l0 : EC := .loop (some [0, 5, 6, 7]) c83_l0_b
def c83_b : EC := (.seq (.reg 0 [⟨some 2, .mv (.con (.bool false)), none, Q0⟩] false (some [0]))
  (.seq (.seq (.reg 1 [⟨some 5, .mv (.tmp 0), none, Q0⟩,
  ⟨some 6, .len false (.tmp 5), none, Q0⟩,
  ⟨some 7, .mv (.con (.int .i64 0)), none, Q0⟩] false (some [0, 5, 6, 7]))
  (.block 0 c83_l0))
  (.seq (.reg 7 [⟨some 2, .mv (.con (.bool true)), none, Q0⟩] false (some [2]))
  .ret)))
def c83 : EFn := ⟨1, 29, [.tmp 2], c83_b, none, true⟩
theorem c83_l0_step {E : Env} {fin : Kont (PV × St)} {st : List Fr} {ts : Tmps} {S : St} {n : Nat} : (lvl E (n + 1)).ev c83_l0 ts S (kont E fin st) = (lvl E (n + 1)).ev c83_l0_b (sel (some [0, 5, 6, 7]) ts) S (kont E fin (.again n c83_l0 :: st)) := rfl
theorem c83_l0_w {E : Env} {fin : Kont (PV × St)} {st : List Fw} {ts : Tmps} {S : St} : run E fin st c83_l0 ts S = run E fin (.again c83_l0 :: st) c83_l0_b (sel (some [0, 5, 6, 7]) ts) S := w_loop
theorem c83_l0_a {E : Env} {fin : Kont (PV × St)} {st : List Fw} {ts : Tmps} {S : St} : aft E fin (.again c83_l0 :: st) .normal ts S = run E fin st c83_l0 (sel (some [0, 5, 6, 7]) ts) S := a_again_s
theorem c83_ok : cFn Tryz.prog Tryz.f83 = some c83.strip := by kernel_rfl
-- slices.ContainsFunc[[]limbeck/api.Ty,limbeck/api.Ty]
def c84_b : EC := (.seq (.reg 0 [⟨some 4, .mv (.con (.bool false)), none, Q0⟩] false (some [0, 1]))
  (.seq (.reg 1 [⟨some 5, .mv (.tmp 0), none, Q0⟩,
  ⟨some 6, .mv (.tmp 1), none, Q0⟩,
  ⟨some 7, .call (.con (.fn 114 [] [])) [(.tmp 5), (.tmp 6)], none, Q0⟩,
  ⟨some 8, .bin .geq (.tmp 7) (.con (.int .i64 0)), none, Q0⟩,
  ⟨some 4, .mv (.tmp 8), none, Q0⟩] false (some [4]))
  .ret))
def c84 : EFn := ⟨2, 9, [.tmp 4], c84_b, none, true⟩
theorem c84_ok : cFn Tryz.prog Tryz.f84 = some c84.strip := by kernel_rfl
-- limbeck/exp.all[limbeck/api.Ty]$1
def c85_b : EC := (.seq (.reg 0 [⟨some 2, .boxI 34 (.tmp 0), none, Q0⟩,
  ⟨some 3, .mv (.con (.bool false)), none, Q0⟩] false (some [1, 2]))
  (.seq (.reg 1 [⟨some 4, .ld none (.tmp 1), none, Q0⟩,
  ⟨some 5, .ld (some 5) (.tmp 2), none, Q0⟩,
  ⟨some 6, .call (.tmp 4) [(.tmp 5)], none, Q0⟩,
  ⟨some 7, .un .not (.tmp 6), none, Q0⟩,
  ⟨some 3, .mv (.tmp 7), none, Q0⟩] false (some [3]))
  .ret))
def c85 : EFn := ⟨2, 8, [.tmp 3], c85_b, none, true⟩
theorem c85_ok : cFn Tryz.prog Tryz.f85 = some c85.strip := by kernel_rfl
-- limbeck/ty.Has
def c86_f0_a : EC := (.reg 2 [⟨some 5, .new 34 [(.int .i64 0), (.int .i64 0), (.str ⟨#[]⟩), (.sl .null []), (.sl .null [])], none, Q0⟩,
  ⟨none, .st 5 (.tmp 5) (.tmp 8), none, Q0⟩] false (some [3, 4, 5]))
def c86_f0_b : EC := (.block 1 (.seq (.reg 3 [⟨some 9, .fA 0 (.tmp 5), none, Q0⟩,
  ⟨some 10, .ld none (.tmp 9), none, Q0⟩,
  ⟨some 11, .ld none (.tmp 3), none, Q0⟩,
  ⟨some 12, .bin .eql (.tmp 10) (.tmp 11), none, Q0⟩] false (some [4, 12]))
  (.cond (.tmp 12) (.seq (.reg 4 [⟨none, .st 1 (.tmp 4) (.con (.bool true)), none, Q0⟩] false (some []))
  .ret) .skip)))
def c86_b : EC := (.seq (.reg 0 [⟨some 2, .boxI 34 (.tmp 0), none, Q0⟩,
  ⟨some 3, .boxI 3 (.tmp 1), none, Q0⟩,
  ⟨some 4, .new 4 [(.bool false)], none, Q0⟩] false (some [2, 3, 4]))
  (.seq (.seq (.reg 1 [⟨some 6, .ld (some 5) (.tmp 2), none, Q0⟩,
  ⟨some 7, .call (.con (.fn 115 [] [])) [(.tmp 6)], none, Q0⟩] false (some [3, 4, 7]))
  (.block 0 (.rangeF (some [3, 4]) (.tmp 7) [8] c86_f0_a c86_f0_b)))
  (.seq (.reg 5 [⟨none, .st 1 (.tmp 4) (.con (.bool false)), none, Q0⟩] false (some [4]))
  .ret)))
def c86 : EFn := ⟨2, 13, [.cell 4 none], c86_b, none, true⟩
theorem c86_ok : cFn Tryz.prog Tryz.f86 = some c86.strip := by kernel_rfl
-- slices.ContainsFunc[[]limbeck/api.Exp,limbeck/api.Exp]
def c87_b : EC := (.seq (.reg 0 [⟨some 4, .mv (.con (.bool false)), none, Q0⟩] false (some [0, 1]))
  (.seq (.reg 1 [⟨some 5, .mv (.tmp 0), none, Q0⟩,
  ⟨some 6, .mv (.tmp 1), none, Q0⟩,
  ⟨some 7, .call (.con (.fn 116 [] [])) [(.tmp 5), (.tmp 6)], none, Q0⟩,
  ⟨some 8, .bin .geq (.tmp 7) (.con (.int .i64 0)), none, Q0⟩,
  ⟨some 4, .mv (.tmp 8), none, Q0⟩] false (some [4]))
  .ret))
def c87 : EFn := ⟨2, 9, [.tmp 4], c87_b, none, true⟩
theorem c87_ok : cFn Tryz.prog Tryz.f87 = some c87.strip := by kernel_rfl
-- limbeck/exp.all[limbeck/api.Exp]$1
def c88_b : EC := (.seq (.reg 0 [⟨some 2, .boxI 26 (.tmp 0), none, Q0⟩,
  ⟨some 3, .mv (.con (.bool false)), none, Q0⟩] false (some [1, 2]))
  (.seq (.reg 1 [⟨some 4, .ld none (.tmp 1), none, Q0⟩,
  ⟨some 5, .ld (some 7) (.tmp 2), none, Q0⟩,
  ⟨some 6, .call (.tmp 4) [(.tmp 5)], none, Q0⟩,
  ⟨some 7, .un .not (.tmp 6), none, Q0⟩,
  ⟨some 3, .mv (.tmp 7), none, Q0⟩] false (some [3]))
  .ret))
def c88 : EFn := ⟨2, 8, [.tmp 3], c88_b, none, true⟩
theorem c88_ok : cFn Tryz.prog Tryz.f88 = some c88.strip := by kernel_rfl
-- limbeck/expfmt.tight
def c89_b : EC := (.seq (.reg 0 [⟨some 1, .boxI 26 (.tmp 0), none, Q0⟩,
  ⟨some 2, .mv (.con (.int .i64 0)), none, Q0⟩] false (some [1]))
  (.seq (.seq (.reg 1 [⟨some 3, .fA 0 (.tmp 1), none, Q0⟩,
  ⟨some 4, .ld none (.tmp 3), none, Q0⟩] false (some [1, 4]))
  (.block 0 (.seq (.block 4 (.seq (.block 3 (.seq (.block 2 (.block 1 (.seq (.seq (.seq (.seq (.reg 2 [⟨some 6, .bin .eql (.tmp 4) (.con (.int .i64 5)), none, Q0⟩,
  ⟨some 5, .mv (.tmp 6), none, Q0⟩] false (some [1, 4, 5]))
  (.cond (.tmp 5) .skip (.reg 3 [⟨some 7, .bin .eql (.tmp 4) (.con (.int .i64 6)), none, Q0⟩,
  ⟨some 5, .mv (.tmp 7), none, Q0⟩] false (some [1, 4, 5]))))
  (.cond (.tmp 5) (.exit 1) .skip))
  (.seq (.seq (.reg 4 [⟨some 9, .bin .eql (.tmp 4) (.con (.int .i64 7)), none, Q0⟩,
  ⟨some 8, .mv (.tmp 9), none, Q0⟩] false (some [1, 4, 8]))
  (.cond (.tmp 8) (.exit 2) .skip))
  (.seq (.seq (.reg 5 [⟨some 11, .bin .eql (.tmp 4) (.con (.int .i64 11)), none, Q0⟩,
  ⟨some 10, .mv (.tmp 11), none, Q0⟩] false (some [1, 4, 10]))
  (.cond (.tmp 10) (.exit 3) .skip))
  (.seq (.seq (.reg 6 [⟨some 13, .bin .eql (.tmp 4) (.con (.int .i64 8)), none, Q0⟩,
  ⟨some 12, .mv (.tmp 13), none, Q0⟩] false (some [4, 12]))
  (.cond (.tmp 12) .skip (.reg 7 [⟨some 14, .bin .eql (.tmp 4) (.con (.int .i64 10)), none, Q0⟩,
  ⟨some 12, .mv (.tmp 14), none, Q0⟩] false (some [12]))))
  (.cond (.tmp 12) (.exit 4) .skip)))))
  (.exit 0))))
  (.seq (.seq (.reg 8 [⟨some 2, .mv (.con (.int .i64 0)), none, Q0⟩] false (some [2]))
  .ret)
  (.exit 0))))
  (.seq (.seq (.seq (.reg 9 [⟨some 15, .fA 1 (.tmp 1), none, Q0⟩,
  ⟨some 16, .ld none (.tmp 15), none, Q0⟩] false (some [16]))
  (.block 5 (.seq (.seq (.reg 10 [⟨some 18, .bin .eql (.tmp 16) (.con (.int .i64 6)), none, Q0⟩,
  ⟨some 17, .mv (.tmp 18), none, Q0⟩] false (some [16, 17]))
  (.cond (.tmp 17) .skip (.reg 11 [⟨some 19, .bin .eql (.tmp 16) (.con (.int .i64 7)), none, Q0⟩,
  ⟨some 17, .mv (.tmp 19), none, Q0⟩] false (some [16, 17]))))
  (.cond (.tmp 17) (.seq (.reg 12 [⟨some 2, .mv (.con (.int .i64 1)), none, Q0⟩] false (some [2]))
  .ret) (.seq (.seq (.reg 13 [⟨some 21, .bin .eql (.tmp 16) (.con (.int .i64 3)), none, Q0⟩,
  ⟨some 20, .mv (.tmp 21), none, Q0⟩] false (some [16, 20]))
  (.cond (.tmp 20) .skip (.reg 14 [⟨some 22, .bin .eql (.tmp 16) (.con (.int .i64 4)), none, Q0⟩,
  ⟨some 20, .mv (.tmp 22), none, Q0⟩] false (some [20]))))
  (.cond (.tmp 20) (.seq (.reg 15 [⟨some 2, .mv (.con (.int .i64 3)), none, Q0⟩] false (some [2]))
  .ret) .skip))))))
  (.seq (.reg 16 [⟨some 2, .mv (.con (.int .i64 2)), none, Q0⟩] false (some [2]))
  .ret))
  (.exit 0))))
  (.seq (.seq (.reg 17 [⟨some 2, .mv (.con (.int .i64 4)), none, Q0⟩] false (some [2]))
  .ret)
  (.exit 0)))))
  (.seq (.reg 18 [⟨some 2, .mv (.con (.int .i64 5)), none, Q0⟩] false (some [2]))
  .ret)))
def c89 : EFn := ⟨1, 23, [.tmp 2], c89_b, none, true⟩
theorem c89_ok : cFn Tryz.prog Tryz.f89 = some c89.strip := by kernel_rfl
-- limbeck/tyfmt.List
def c91_b : EC := (.seq (.reg 0 [⟨some 2, .mv (.con (.str ⟨#[]⟩)), none, Q0⟩] false (some [0]))
  (.seq (.reg 1 [⟨some 3, .mv (.tmp 0), none, Q0⟩,
  ⟨some 4, .call (.con (.fn 109 [] [])) [(.tmp 3), (.con (.fn 118 [] []))], none, Q0⟩,
  ⟨some 2, .mv (.tmp 4), none, Q0⟩] false (some [2]))
  .ret))
def c91 : EFn := ⟨1, 5, [.tmp 2], c91_b, none, true⟩
theorem c91_ok : cFn Tryz.prog Tryz.f91 = some c91.strip := by kernel_rfl
-- limbeck/expfmt.call$1
def c92_b : EC := (.seq (.reg 0 [⟨some 3, .boxI 26 (.tmp 1), none, Q0⟩,
  ⟨some 4, .mv (.con (.str ⟨#[]⟩)), none, Q0⟩] false (some [3]))
  (.seq (.regP 1 [⟨some 5, .ld (some 7) (.tmp 3), none, Q0⟩,
  ⟨some 6, .call (.con (.fn 23 [] [])) [(.tmp 5)], none, Q0⟩,
  ⟨some 4, .mv (.tmp 6), none, Q0⟩] false (some [4]))
  .ret))
def c92 : EFn := ⟨2, 7, [.tmp 4], c92_b, none, true⟩
theorem c92_ok : cFn Tryz.prog Tryz.f92 = some c92.strip := by kernel_rfl
-- strconv.FormatBool
def c94_b : EC := (.seq (.reg 0 [⟨some 2, .mv (.con (.str ⟨#[]⟩)), none, Q0⟩] false (some [0]))
  (.seq (.reg 1 [⟨some 3, .mv (.tmp 0), none, Q0⟩,
  ⟨some 4, .call (.con (.fn 120 [] [])) [(.tmp 3)], none, Q0⟩,
  ⟨some 2, .mv (.tmp 4), none, Q0⟩] false (some [2]))
  .ret))
def c94 : EFn := ⟨1, 5, [.tmp 2], c94_b, none, true⟩
theorem c94_ok : cFn Tryz.prog Tryz.f94 = some c94.strip := by kernel_rfl
-- limbeck/lex.Quote
def c95_r7 : List EI := [⟨some 17, .mv (.tmp 5), none, Q0⟩,
  ⟨some 18, .bin .eql (.tmp 17) (.con (.int .u8 34)), none, Q0⟩,
  ⟨some 19, .mv (.tmp 18), none, Q0⟩,
  ⟨some 20, .mv (.tmp 5), some (19, false), Q0⟩,
  ⟨some 21, .bin .eql (.tmp 20) (.con (.int .u8 92)), some (19, false), Q0⟩,
  ⟨some 22, .pick (.tmp 19) (.con (.bool true)) (.tmp 21), none, Q0⟩,
  ⟨some 16, .mv (.tmp 22), none, Q0⟩]
def c95_r12 : List EI := [⟨some 31, .mv (.tmp 5), none, Q0⟩,
  ⟨some 32, .bin .lss (.tmp 31) (.con (.int .u8 32)), none, Q0⟩,
  ⟨some 33, .mv (.tmp 32), none, Q0⟩,
  ⟨some 34, .mv (.tmp 5), some (33, false), Q0⟩,
  ⟨some 35, .bin .gtr (.tmp 34) (.con (.int .u8 126)), some (33, false), Q0⟩,
  ⟨some 36, .pick (.tmp 33) (.con (.bool true)) (.tmp 35), none, Q0⟩,
  ⟨some 30, .mv (.tmp 36), none, Q0⟩]
def c95_l0_b : EC := (.seq (.reg 4 [⟨some 11, .bin .lss (.tmp 10) (.tmp 9), none, Q0⟩] false (some [3, 8, 9, 10, 11]))
  (.seq (.cond (.tmp 11) .skip (.exit 0))
  (.seq (.block 1 (.seq (.reg 5 [⟨some 12, .ixL 1 (.tmp 8) (.tmp 10), none, Q0⟩,
  ⟨some 13, .ld none (.tmp 12), none, Q0⟩,
  ⟨some 5, .mv (.tmp 13), none, Q0⟩] false (some [3, 5, 8, 9, 10]))
  (.block 2 (.seq (.reg 7 c95_r7 false (some [3, 5, 8, 9, 10, 16]))
  (.cond (.tmp 16) (.seq (.reg 8 [⟨some 23, .call (.con (.fn 121 [] [])) [(.tmp 3), (.con (.int .u8 92))], none, Q0⟩] false (some [3, 5, 8, 9, 10]))
  (.reg 9 [⟨some 24, .mv (.tmp 5), none, Q0⟩,
  ⟨some 25, .call (.con (.fn 121 [] [])) [(.tmp 3), (.tmp 24)], none, Q0⟩] false (some [3, 8, 9, 10]))) (.seq (.reg 10 [⟨some 27, .mv (.tmp 5), none, Q0⟩,
  ⟨some 28, .bin .eql (.tmp 27) (.con (.int .u8 10)), none, Q0⟩,
  ⟨some 26, .mv (.tmp 28), none, Q0⟩] false (some [3, 5, 8, 9, 10, 26]))
  (.cond (.tmp 26) (.reg 11 [⟨some 29, .call (.con (.fn 104 [] [])) [(.tmp 3), (.con (.str ⟨#[92, 110]⟩))], none, Q0⟩] false (some [3, 8, 9, 10])) (.seq (.reg 12 c95_r12 false (some [3, 5, 8, 9, 10, 30]))
  (.cond (.tmp 30) (.seq (.reg 13 [⟨some 37, .call (.con (.fn 104 [] [])) [(.tmp 3), (.con (.str ⟨#[92, 120]⟩))], none, Q0⟩] false (some [3, 5, 8, 9, 10]))
  (.seq (.reg 14 [⟨some 38, .mv (.tmp 5), none, Q0⟩,
  ⟨some 39, .bin .shr (.tmp 38) (.con (.int .u64 4)), none, Q0⟩,
  ⟨some 40, .ixS (.con (.str ⟨#[48, 49, 50, 51, 52, 53, 54, 55, 56, 57, 97, 98, 99, 100, 101, 102]⟩)) (.tmp 39), none, Q0⟩,
  ⟨some 41, .call (.con (.fn 121 [] [])) [(.tmp 3), (.tmp 40)], none, Q0⟩] false (some [3, 5, 8, 9, 10]))
  (.reg 15 [⟨some 42, .mv (.tmp 5), none, Q0⟩,
  ⟨some 43, .bin .and (.tmp 42) (.con (.int .u8 15)), none, Q0⟩,
  ⟨some 44, .ixS (.con (.str ⟨#[48, 49, 50, 51, 52, 53, 54, 55, 56, 57, 97, 98, 99, 100, 101, 102]⟩)) (.tmp 43), none, Q0⟩,
  ⟨some 45, .call (.con (.fn 121 [] [])) [(.tmp 3), (.tmp 44)], none, Q0⟩] false (some [3, 8, 9, 10])))) (.reg 6 [⟨some 14, .mv (.tmp 5), none, Q0⟩,
  ⟨some 15, .call (.con (.fn 121 [] [])) [(.tmp 3), (.tmp 14)], none, Q0⟩] false (some [3, 8, 9, 10])))))))))))
  (.reg 16 [⟨some 46, .bin .add (.tmp 10) (.con (.int .i64 1)), none, Q0⟩,
  ⟨some 10, .mv (.tmp 46), none, Q0⟩] false (some [3, 8, 9, 10])))))
def c95_l0 : EC := .loop (some [3, 8, 9, 10]) c95_l0_b
def c95_b : EC := (.seq (.reg 0 [⟨some 2, .mv (.con (.str ⟨#[]⟩)), none, Q0⟩] false (some [0]))
  (.seq (.reg 1 [⟨some 3, .new 90 [.nilp, (.sl .null [])], none, Q0⟩] false (some [0, 3]))
  (.seq (.reg 2 [⟨some 6, .call (.con (.fn 121 [] [])) [(.tmp 3), (.con (.int .u8 34))], none, Q0⟩] false (some [0, 3]))
  (.seq (.seq (.reg 3 [⟨some 7, .mv (.tmp 0), none, Q0⟩,
  ⟨some 8, .s2b (.tmp 7), none, Q0⟩,
  ⟨some 9, .len false (.tmp 8), none, Q0⟩,
  ⟨some 10, .mv (.con (.int .i64 0)), none, Q0⟩] false (some [3, 8, 9, 10]))
  (.block 0 c95_l0))
  (.seq (.reg 17 [⟨some 47, .call (.con (.fn 121 [] [])) [(.tmp 3), (.con (.int .u8 34))], none, Q0⟩] false (some [3]))
  (.seq (.reg 18 [⟨some 48, .call (.con (.fn 105 [] [])) [(.tmp 3)], none, Q0⟩,
  ⟨some 2, .mv (.tmp 48), none, Q0⟩] false (some [2]))
  .ret))))))
def c95 : EFn := ⟨1, 49, [.tmp 2], c95_b, none, true⟩
theorem c95_l0_step {E : Env} {fin : Kont (PV × St)} {st : List Fr} {ts : Tmps} {S : St} {n : Nat} : (lvl E (n + 1)).ev c95_l0 ts S (kont E fin st) = (lvl E (n + 1)).ev c95_l0_b (sel (some [3, 8, 9, 10]) ts) S (kont E fin (.again n c95_l0 :: st)) := rfl
theorem c95_l0_w {E : Env} {fin : Kont (PV × St)} {st : List Fw} {ts : Tmps} {S : St} : run E fin st c95_l0 ts S = run E fin (.again c95_l0 :: st) c95_l0_b (sel (some [3, 8, 9, 10]) ts) S := w_loop
theorem c95_l0_a {E : Env} {fin : Kont (PV × St)} {st : List Fw} {ts : Tmps} {S : St} : aft E fin (.again c95_l0 :: st) .normal ts S = run E fin st c95_l0 (sel (some [3, 8, 9, 10]) ts) S := a_again_s
theorem c95_ok : cFn Tryz.prog Tryz.f95 = some c95.strip := by kernel_rfl
-- limbeck/limbeckref03.digit
def c96_b : EC := (.seq (.reg 0 [⟨some 2, .mv (.con (.int .u8 0)), none, Q0⟩] false (some [0]))
  (.seq (.seq (.reg 1 [⟨some 3, .mv (.tmp 0), none, Q0⟩,
  ⟨some 4, .bin .lss (.tmp 3) (.con (.int .u8 10)), none, Q0⟩] false (some [0, 4]))
  (.cond (.tmp 4) (.seq (.reg 2 [⟨some 5, .mv (.tmp 0), none, Q0⟩,
  ⟨some 6, .bin .add (.con (.int .u8 48)) (.tmp 5), none, Q0⟩,
  ⟨some 2, .mv (.tmp 6), none, Q0⟩] false (some [2]))
  .ret) .skip))
  (.seq (.reg 3 [⟨some 7, .mv (.tmp 0), none, Q0⟩,
  ⟨some 8, .bin .add (.con (.int .u8 97)) (.tmp 7), none, Q0⟩,
  ⟨some 9, .bin .sub (.tmp 8) (.con (.int .u8 10)), none, Q0⟩,
  ⟨some 2, .mv (.tmp 9), none, Q0⟩] false (some [2]))
  .ret)))
def c96 : EFn := ⟨1, 10, [.tmp 2], c96_b, none, true⟩
theorem c96_ok : cFn Tryz.prog Tryz.f96 = some c96.strip := by kernel_rfl
-- limbeck/limbeckref15.tight
def c97_r1 : List EI := [⟨some 3, .fA 0 (.tmp 1), none, Q0⟩,
  ⟨some 4, .ld none (.tmp 3), none, Q0⟩,
  ⟨some 5, .bin .eql (.tmp 4) (.con (.int .i64 5)), none, Q0⟩,
  ⟨some 6, .mv (.tmp 5), none, Q0⟩,
  ⟨some 7, .fA 0 (.tmp 1), some (6, false), Q0⟩,
  ⟨some 8, .ld none (.tmp 7), some (6, false), Q0⟩,
  ⟨some 9, .bin .eql (.tmp 8) (.con (.int .i64 6)), some (6, false), Q0⟩,
  ⟨some 10, .pick (.tmp 6) (.con (.bool true)) (.tmp 9), none, Q0⟩,
  ⟨some 11, .mv (.tmp 10), none, Q0⟩,
  ⟨some 12, .fA 0 (.tmp 1), some (11, false), Q0⟩,
  ⟨some 13, .ld none (.tmp 12), some (11, false), Q0⟩,
  ⟨some 14, .bin .eql (.tmp 13) (.con (.int .i64 7)), some (11, false), Q0⟩,
  ⟨some 15, .pick (.tmp 11) (.con (.bool true)) (.tmp 14), none, Q0⟩]
def c97_r5 : List EI := [⟨some 22, .fA 0 (.tmp 1), none, Q0⟩,
  ⟨some 23, .ld none (.tmp 22), none, Q0⟩,
  ⟨some 24, .bin .eql (.tmp 23) (.con (.int .i64 8)), none, Q0⟩,
  ⟨some 25, .mv (.tmp 24), none, Q0⟩,
  ⟨some 26, .fA 0 (.tmp 1), some (25, false), Q0⟩,
  ⟨some 27, .ld none (.tmp 26), some (25, false), Q0⟩,
  ⟨some 28, .bin .eql (.tmp 27) (.con (.int .i64 10)), some (25, false), Q0⟩,
  ⟨some 29, .pick (.tmp 25) (.con (.bool true)) (.tmp 28), none, Q0⟩]
def c97_b : EC := (.seq (.reg 0 [⟨some 1, .boxI 26 (.tmp 0), none, Q0⟩,
  ⟨some 2, .mv (.con (.int .i64 0)), none, Q0⟩] false (some [1]))
  (.seq (.seq (.reg 1 c97_r1 false (some [1, 15]))
  (.cond (.tmp 15) (.seq (.reg 2 [⟨some 2, .mv (.con (.int .i64 0)), none, Q0⟩] false (some [2]))
  .ret) .skip))
  (.seq (.seq (.reg 3 [⟨some 16, .fA 0 (.tmp 1), none, Q0⟩,
  ⟨some 17, .ld none (.tmp 16), none, Q0⟩,
  ⟨some 18, .bin .eql (.tmp 17) (.con (.int .i64 11)), none, Q0⟩] false (some [1, 18]))
  (.cond (.tmp 18) (.seq (.reg 4 [⟨some 19, .fA 1 (.tmp 1), none, Q0⟩,
  ⟨some 20, .ld none (.tmp 19), none, Q0⟩,
  ⟨some 21, .call (.con (.fn 98 [] [])) [(.tmp 20)], none, Q0⟩,
  ⟨some 2, .mv (.tmp 21), none, Q0⟩] false (some [2]))
  .ret) .skip))
  (.seq (.seq (.reg 5 c97_r5 false (some [29]))
  (.cond (.tmp 29) (.seq (.reg 6 [⟨some 2, .mv (.con (.int .i64 4)), none, Q0⟩] false (some [2]))
  .ret) .skip))
  (.seq (.reg 7 [⟨some 2, .mv (.con (.int .i64 5)), none, Q0⟩] false (some [2]))
  .ret)))))
def c97 : EFn := ⟨1, 30, [.tmp 2], c97_b, none, true⟩
theorem c97_ok : cFn Tryz.prog Tryz.f97 = some c97.strip := by kernel_rfl
-- limbeck/limbeckref15.Tight
def c98_r1 : List EI := [⟨some 3, .mv (.tmp 0), none, Q0⟩,
  ⟨some 4, .bin .eql (.tmp 3) (.con (.int .i64 6)), none, Q0⟩,
  ⟨some 5, .mv (.tmp 4), none, Q0⟩,
  ⟨some 6, .mv (.tmp 0), some (5, false), Q0⟩,
  ⟨some 7, .bin .eql (.tmp 6) (.con (.int .i64 7)), some (5, false), Q0⟩,
  ⟨some 8, .pick (.tmp 5) (.con (.bool true)) (.tmp 7), none, Q0⟩]
def c98_r3 : List EI := [⟨some 9, .mv (.tmp 0), none, Q0⟩,
  ⟨some 10, .bin .eql (.tmp 9) (.con (.int .i64 3)), none, Q0⟩,
  ⟨some 11, .mv (.tmp 10), none, Q0⟩,
  ⟨some 12, .mv (.tmp 0), some (11, false), Q0⟩,
  ⟨some 13, .bin .eql (.tmp 12) (.con (.int .i64 4)), some (11, false), Q0⟩,
  ⟨some 14, .pick (.tmp 11) (.con (.bool true)) (.tmp 13), none, Q0⟩]
def c98_b : EC := (.seq (.reg 0 [⟨some 2, .mv (.con (.int .i64 0)), none, Q0⟩] false (some [0]))
  (.seq (.seq (.reg 1 c98_r1 false (some [0, 8]))
  (.cond (.tmp 8) (.seq (.reg 2 [⟨some 2, .mv (.con (.int .i64 1)), none, Q0⟩] false (some [2]))
  .ret) .skip))
  (.seq (.seq (.reg 3 c98_r3 false (some [14]))
  (.cond (.tmp 14) (.seq (.reg 4 [⟨some 2, .mv (.con (.int .i64 3)), none, Q0⟩] false (some [2]))
  .ret) .skip))
  (.seq (.reg 5 [⟨some 2, .mv (.con (.int .i64 2)), none, Q0⟩] false (some [2]))
  .ret))))
def c98 : EFn := ⟨1, 15, [.tmp 2], c98_b, none, true⟩
theorem c98_ok : cFn Tryz.prog Tryz.f98 = some c98.strip := by kernel_rfl
-- limbeck/name.Kind
def c99_b : EC := (.seq (.reg 0 [⟨some 2, .mv (.con (.int .i64 0)), none, Q0⟩] false (some [0]))
  (.seq (.reg 1 [⟨some 4, .mv (.tmp 0), none, Q0⟩,
  ⟨some 5, .call (.con (.fn 122 [] [])) [(.tmp 4)], none, Q0⟩,
  ⟨some 3, .mv (.tmp 5), none, Q0⟩] false (some [0, 3]))
  (.seq (.seq (.reg 2 [⟨some 6, .mv (.tmp 0), none, Q0⟩] false (some [3, 6]))
  (.block 0 (.seq (.block 3 (.seq (.block 2 (.block 1 (.seq (.seq (.seq (.seq (.reg 3 [⟨some 8, .bin .eql (.tmp 6) (.con (.str ⟨#[108, 101, 116]⟩)), none, Q0⟩,
  ⟨some 7, .mv (.tmp 8), none, Q0⟩] false (some [3, 6, 7]))
  (.cond (.tmp 7) .skip (.seq (.reg 4 [⟨some 9, .bin .eql (.tmp 6) (.con (.str ⟨#[105, 110]⟩)), none, Q0⟩,
  ⟨some 7, .mv (.tmp 9), none, Q0⟩] false (some [3, 6, 7]))
  (.cond (.tmp 7) .skip (.seq (.reg 5 [⟨some 10, .bin .eql (.tmp 6) (.con (.str ⟨#[105, 102]⟩)), none, Q0⟩,
  ⟨some 7, .mv (.tmp 10), none, Q0⟩] false (some [3, 6, 7]))
  (.cond (.tmp 7) .skip (.seq (.reg 6 [⟨some 11, .bin .eql (.tmp 6) (.con (.str ⟨#[116, 104, 101, 110]⟩)), none, Q0⟩,
  ⟨some 7, .mv (.tmp 11), none, Q0⟩] false (some [3, 6, 7]))
  (.cond (.tmp 7) .skip (.reg 7 [⟨some 12, .bin .eql (.tmp 6) (.con (.str ⟨#[101, 108, 115, 101]⟩)), none, Q0⟩,
  ⟨some 7, .mv (.tmp 12), none, Q0⟩] false (some [3, 6, 7]))))))))))
  (.cond (.tmp 7) (.exit 1) .skip))
  (.seq (.seq (.seq (.reg 8 [⟨some 14, .bin .eql (.tmp 6) (.con (.str ⟨#[102, 110]⟩)), none, Q0⟩,
  ⟨some 13, .mv (.tmp 14), none, Q0⟩] false (some [3, 6, 13]))
  (.cond (.tmp 13) .skip (.seq (.reg 9 [⟨some 15, .bin .eql (.tmp 6) (.con (.str ⟨#[99, 97, 108, 108]⟩)), none, Q0⟩,
  ⟨some 13, .mv (.tmp 15), none, Q0⟩] false (some [3, 6, 13]))
  (.cond (.tmp 13) .skip (.seq (.reg 10 [⟨some 16, .bin .eql (.tmp 6) (.con (.str ⟨#[100, 101, 102]⟩)), none, Q0⟩,
  ⟨some 13, .mv (.tmp 16), none, Q0⟩] false (some [3, 6, 13]))
  (.cond (.tmp 13) .skip (.seq (.reg 11 [⟨some 17, .bin .eql (.tmp 6) (.con (.str ⟨#[116, 114, 117, 101]⟩)), none, Q0⟩,
  ⟨some 13, .mv (.tmp 17), none, Q0⟩] false (some [3, 6, 13]))
  (.cond (.tmp 13) .skip (.reg 12 [⟨some 18, .bin .eql (.tmp 6) (.con (.str ⟨#[102, 97, 108, 115, 101]⟩)), none, Q0⟩,
  ⟨some 13, .mv (.tmp 18), none, Q0⟩] false (some [3, 6, 13]))))))))))
  (.cond (.tmp 13) (.exit 2) .skip))
  (.seq (.seq (.reg 13 [⟨some 20, .bin .eql (.tmp 6) (.con (.str ⟨#[73, 110, 116]⟩)), none, Q0⟩,
  ⟨some 19, .mv (.tmp 20), none, Q0⟩] false (some [3, 6, 19]))
  (.cond (.tmp 19) .skip (.seq (.reg 14 [⟨some 21, .bin .eql (.tmp 6) (.con (.str ⟨#[66, 111, 111, 108]⟩)), none, Q0⟩,
  ⟨some 19, .mv (.tmp 21), none, Q0⟩] false (some [3, 6, 19]))
  (.cond (.tmp 19) .skip (.seq (.reg 15 [⟨some 22, .bin .eql (.tmp 6) (.con (.str ⟨#[83, 116, 114, 105, 110, 103]⟩)), none, Q0⟩,
  ⟨some 19, .mv (.tmp 22), none, Q0⟩] false (some [3, 6, 19]))
  (.cond (.tmp 19) .skip (.reg 16 [⟨some 23, .bin .eql (.tmp 6) (.con (.str ⟨#[84, 111, 112]⟩)), none, Q0⟩,
  ⟨some 19, .mv (.tmp 23), none, Q0⟩] false (some [3, 19]))))))))
  (.cond (.tmp 19) (.exit 3) .skip))))
  (.exit 0))))
  (.seq (.seq (.reg 17 [⟨some 2, .mv (.con (.int .i64 3)), none, Q0⟩] false (some [2]))
  .ret)
  (.exit 0))))
  (.seq (.seq (.reg 18 [⟨some 2, .mv (.con (.int .i64 4)), none, Q0⟩] false (some [2]))
  .ret)
  (.exit 0)))))
  (.seq (.reg 19 [⟨some 24, .mv (.tmp 3), none, Q0⟩,
  ⟨some 2, .mv (.tmp 24), none, Q0⟩] false (some [2]))
  .ret))))
def c99 : EFn := ⟨1, 25, [.tmp 2], c99_b, none, true⟩
theorem c99_ok : cFn Tryz.prog Tryz.f99 = some c99.strip := by kernel_rfl
-- (*strings.Builder).WriteString
def c104_b : EC := (.seq (.reg 0 [⟨some 4, .mv (.con (.int .i64 0)), none, Q0⟩,
  ⟨some 5, .mv (.con .nilifc), none, Q0⟩] false (some [0, 1]))
  (.seq (.reg 1 [⟨some 6, .mv (.tmp 0), none, Q0⟩,
  ⟨some 7, .call (.con (.fn 124 [] [])) [(.tmp 6)], none, Q0⟩] false (some [0, 1]))
  (.seq (.reg 2 [⟨some 8, .mv (.tmp 0), none, Q0⟩,
  ⟨some 9, .mv (.tmp 0), none, Q0⟩,
  ⟨some 10, .nck (.tmp 9), none, Q0⟩,
  ⟨some 11, .fA 1 (.tmp 10), none, Q0⟩,
  ⟨some 12, .ld none (.tmp 11), none, Q0⟩,
  ⟨some 13, .mv (.tmp 1), none, Q0⟩,
  ⟨some 14, .apS 5 (.tmp 12) (.tmp 13), none, Q0⟩,
  ⟨some 15, .nck (.tmp 8), none, Q0⟩,
  ⟨some 16, .fA 1 (.tmp 15), none, Q0⟩,
  ⟨none, .st 1 (.tmp 16) (.tmp 14), none, Q0⟩] false (some [1]))
  (.seq (.reg 3 [⟨some 17, .mv (.tmp 1), none, Q0⟩,
  ⟨some 18, .len true (.tmp 17), none, Q0⟩,
  ⟨some 4, .mv (.tmp 18), none, Q0⟩,
  ⟨some 5, .mv (.con .nilifc), none, Q0⟩] false (some [4, 5]))
  .ret))))
def c104 : EFn := ⟨2, 19, [.tmp 4, .tmp 5], c104_b, none, true⟩
theorem c104_ok : cFn Tryz.prog Tryz.f104 = some c104.strip := by kernel_rfl
-- (*strings.Builder).String
def c105_b : EC := (.seq (.reg 0 [⟨some 2, .mv (.con (.str ⟨#[]⟩)), none, Q0⟩] false (some [0]))
  (.seq (.reg 1 [⟨some 3, .mv (.tmp 0), none, ⟨.no, false⟩⟩,
  ⟨some 4, .nck (.tmp 3), none, ⟨.no, false⟩⟩,
  ⟨some 5, .fA 1 (.tmp 4), none, ⟨.no, false⟩⟩,
  ⟨some 6, .ld none (.tmp 5), none, ⟨.still, false⟩⟩,
  ⟨some 7, .usd (.tmp 6), none, ⟨.no, false⟩⟩,
  ⟨some 8, .mv (.tmp 0), none, Q0⟩,
  ⟨some 9, .nck (.tmp 8), none, Q0⟩,
  ⟨some 10, .fA 1 (.tmp 9), none, Q0⟩,
  ⟨some 11, .ld none (.tmp 10), none, Q1⟩,
  ⟨some 12, .len false (.tmp 11), none, Q0⟩,
  ⟨some 13, .ust 5 (.tmp 7) (.tmp 12), none, Q0⟩,
  ⟨some 2, .mv (.tmp 13), none, Q0⟩] true (some [2]))
  .ret))
def c105 : EFn := ⟨1, 14, [.tmp 2], c105_b, none, true⟩
theorem c105_ok : cFn Tryz.prog Tryz.f105 = some c105.strip := by kernel_rfl
-- limbeck/ty.bare
def c106_r1 : List EI := [⟨some 3, .fA 0 (.tmp 1), none, Q0⟩,
  ⟨some 4, .ld none (.tmp 3), none, Q0⟩,
  ⟨some 5, .bin .eql (.tmp 4) (.con (.int .i64 6)), none, Q0⟩,
  ⟨some 6, .mv (.tmp 5), none, Q0⟩,
  ⟨some 7, .fA 2 (.tmp 1), some (6, false), Q0⟩,
  ⟨some 8, .ld none (.tmp 7), some (6, false), Q0⟩,
  ⟨some 9, .bin .eql (.tmp 8) (.con (.str ⟨#[]⟩)), some (6, false), Q0⟩,
  ⟨some 10, .pick (.tmp 6) (.con (.bool true)) (.tmp 9), none, Q0⟩,
  ⟨some 11, .mv (.tmp 10), none, Q0⟩,
  ⟨some 12, .fA 0 (.tmp 1), some (11, true), Q0⟩,
  ⟨some 13, .ld none (.tmp 12), some (11, true), Q0⟩,
  ⟨some 14, .bin .eql (.tmp 13) (.con (.int .i64 9)), some (11, true), Q0⟩,
  ⟨some 15, .mv (.tmp 14), some (11, true), Q0⟩,
  ⟨some 16, .fA 1 (.tmp 1), some (15, false), Q0⟩,
  ⟨some 17, .ld none (.tmp 16), some (15, false), Q0⟩,
  ⟨some 18, .bin .eql (.tmp 17) (.con (.int .i64 0)), some (15, false), Q0⟩,
  ⟨some 19, .pick (.tmp 15) (.con (.bool true)) (.tmp 18), some (11, true), Q0⟩,
  ⟨some 20, .pick (.tmp 11) (.tmp 19) (.con (.bool false)), none, Q0⟩,
  ⟨some 21, .mv (.tmp 20), none, Q0⟩,
  ⟨some 22, .fA 0 (.tmp 1), some (21, true), Q0⟩,
  ⟨some 23, .ld none (.tmp 22), some (21, true), Q0⟩,
  ⟨some 24, .bin .eql (.tmp 23) (.con (.int .i64 8)), some (21, true), Q0⟩,
  ⟨some 25, .mv (.tmp 24), some (21, true), Q0⟩,
  ⟨some 26, .fA 3 (.tmp 1), some (25, false), Q0⟩,
  ⟨some 27, .ld none (.tmp 26), some (25, false), Q0⟩,
  ⟨some 28, .len false (.tmp 27), some (25, false), Q0⟩,
  ⟨some 29, .bin .eql (.tmp 28) (.con (.int .i64 0)), some (25, false), Q0⟩,
  ⟨some 30, .pick (.tmp 25) (.con (.bool true)) (.tmp 29), some (21, true), Q0⟩,
  ⟨some 31, .pick (.tmp 21) (.tmp 30) (.con (.bool false)), none, Q0⟩,
  ⟨some 2, .mv (.tmp 31), none, Q0⟩]
def c106_b : EC := (.seq (.reg 0 [⟨some 1, .boxI 34 (.tmp 0), none, Q0⟩,
  ⟨some 2, .mv (.con (.bool false)), none, Q0⟩] false (some [1]))
  (.seq (.reg 1 c106_r1 false (some [2]))
  .ret))
def c106 : EFn := ⟨1, 32, [.tmp 2], c106_b, none, true⟩
theorem c106_ok : cFn Tryz.prog Tryz.f106 = some c106.strip := by kernel_rfl
-- limbeck/ty.Right$1
def c107_b : EC := (.seq (.reg 0 [⟨some 1, .boxI 34 (.tmp 0), none, Q0⟩,
  ⟨some 2, .mv (.con (.bool false)), none, Q0⟩] false (some [1]))
  (.seq (.reg 1 [⟨some 3, .ld (some 5) (.tmp 1), none, Q0⟩,
  ⟨some 4, .call (.con (.fn 65 [] [])) [(.tmp 3)], none, Q0⟩,
  ⟨some 5, .un .not (.tmp 4), none, Q0⟩,
  ⟨some 2, .mv (.tmp 5), none, Q0⟩] false (some [2]))
  .ret))
def c107 : EFn := ⟨1, 6, [.tmp 2], c107_b, none, true⟩
theorem c107_ok : cFn Tryz.prog Tryz.f107 = some c107.strip := by kernel_rfl
-- limbeck/tyfmt.taken
def c108_b : EC := (.seq (.reg 0 [⟨some 1, .boxI 34 (.tmp 0), none, Q0⟩,
  ⟨some 2, .mv (.con (.str ⟨#[]⟩)), none, Q0⟩] false (some [1]))
  (.seq (.seq (.reg 1 [⟨some 3, .fA 0 (.tmp 1), none, Q0⟩,
  ⟨some 4, .ld none (.tmp 3), none, Q0⟩,
  ⟨some 5, .bin .eql (.tmp 4) (.con (.int .i64 7)), none, Q0⟩] false (some [1, 5]))
  (.cond (.tmp 5) (.seq (.reg 2 [⟨some 6, .ld (some 5) (.tmp 1), none, Q0⟩,
  ⟨some 7, .call (.con (.fn 66 [] [])) [(.tmp 6)], none, Q0⟩,
  ⟨some 8, .bin .add (.con (.str ⟨#[40]⟩)) (.tmp 7), none, Q0⟩,
  ⟨some 9, .bin .add (.tmp 8) (.con (.str ⟨#[41]⟩)), none, Q0⟩,
  ⟨some 2, .mv (.tmp 9), none, Q0⟩] false (some [2]))
  .ret) .skip))
  (.seq (.reg 3 [⟨some 10, .ld (some 5) (.tmp 1), none, Q0⟩,
  ⟨some 11, .call (.con (.fn 66 [] [])) [(.tmp 10)], none, Q0⟩,
  ⟨some 2, .mv (.tmp 11), none, Q0⟩] false (some [2]))
  .ret)))
def c108 : EFn := ⟨1, 12, [.tmp 2], c108_b, none, true⟩
theorem c108_ok : cFn Tryz.prog Tryz.f108 = some c108.strip := by kernel_rfl
-- limbeck/tyfmt.joined[limbeck/api.Ty]
def c109_l0_b : EC := (.seq (.reg 3 [⟨some 11, .bin .lss (.tmp 10) (.tmp 9), none, Q0⟩] false (some [1, 5, 8, 9, 10, 11]))
  (.seq (.cond (.tmp 11) .skip (.exit 0))
  (.seq (.block 1 (.seq (.reg 4 [⟨some 12, .mv (.tmp 10), none, Q0⟩,
  ⟨some 13, .ixL 5 (.tmp 8) (.tmp 10), none, Q0⟩,
  ⟨some 14, .ld (some 5) (.tmp 13), none, Q0⟩,
  ⟨some 7, .new 34 [(.int .i64 0), (.int .i64 0), (.str ⟨#[]⟩), (.sl .null []), (.sl .null [])], none, Q0⟩,
  ⟨some 6, .mv (.tmp 12), none, Q0⟩,
  ⟨none, .st 5 (.tmp 7) (.tmp 14), none, Q0⟩] false (some [1, 5, 6, 7, 8, 9, 10]))
  (.seq (.seq (.reg 5 [⟨some 15, .mv (.tmp 6), none, Q0⟩,
  ⟨some 16, .bin .gtr (.tmp 15) (.con (.int .i64 0)), none, Q0⟩] false (some [1, 5, 6, 7, 8, 9, 10, 16]))
  (.cond (.tmp 16) (.reg 6 [⟨some 17, .call (.con (.fn 104 [] [])) [(.tmp 5), (.con (.str ⟨#[44, 32]⟩))], none, Q0⟩] false (some [1, 5, 6, 7, 8, 9, 10])) .skip))
  (.reg 7 [⟨some 18, .mv (.tmp 1), none, Q0⟩,
  ⟨some 19, .mv (.tmp 6), none, Q0⟩,
  ⟨some 20, .ld (some 5) (.tmp 7), none, Q0⟩,
  ⟨some 21, .call (.tmp 18) [(.tmp 19), (.tmp 20)], none, Q0⟩,
  ⟨some 22, .call (.con (.fn 104 [] [])) [(.tmp 5), (.tmp 21)], none, Q0⟩] false (some [1, 5, 8, 9, 10])))))
  (.reg 8 [⟨some 23, .bin .add (.tmp 10) (.con (.int .i64 1)), none, Q0⟩,
  ⟨some 10, .mv (.tmp 23), none, Q0⟩] false (some [1, 5, 8, 9, 10])))))
def c109_l0 : EC := .loop (some [1, 5, 8, 9, 10]) c109_l0_b
def c109_b : EC := (.seq (.reg 0 [⟨some 4, .mv (.con (.str ⟨#[]⟩)), none, Q0⟩] false (some [0, 1]))
  (.seq (.reg 1 [⟨some 5, .new 90 [.nilp, (.sl .null [])], none, Q0⟩] false (some [0, 1, 5]))
  (.seq (.seq (.reg 2 [⟨some 8, .mv (.tmp 0), none, Q0⟩,
  ⟨some 9, .len false (.tmp 8), none, Q0⟩,
  ⟨some 10, .mv (.con (.int .i64 0)), none, Q0⟩] false (some [1, 5, 8, 9, 10]))
  (.block 0 c109_l0))
  (.seq (.reg 9 [⟨some 24, .call (.con (.fn 105 [] [])) [(.tmp 5)], none, Q0⟩,
  ⟨some 4, .mv (.tmp 24), none, Q0⟩] false (some [4]))
  .ret))))
def c109 : EFn := ⟨2, 25, [.tmp 4], c109_b, none, true⟩
theorem c109_l0_step {E : Env} {fin : Kont (PV × St)} {st : List Fr} {ts : Tmps} {S : St} {n : Nat} : (lvl E (n + 1)).ev c109_l0 ts S (kont E fin st) = (lvl E (n + 1)).ev c109_l0_b (sel (some [1, 5, 8, 9, 10]) ts) S (kont E fin (.again n c109_l0 :: st)) := rfl
theorem c109_l0_w {E : Env} {fin : Kont (PV × St)} {st : List Fw} {ts : Tmps} {S : St} : run E fin st c109_l0 ts S = run E fin (.again c109_l0 :: st) c109_l0_b (sel (some [1, 5, 8, 9, 10]) ts) S := w_loop
theorem c109_l0_a {E : Env} {fin : Kont (PV × St)} {st : List Fw} {ts : Tmps} {S : St} : aft E fin (.again c109_l0 :: st) .normal ts S = run E fin st c109_l0 (sel (some [1, 5, 8, 9, 10]) ts) S := a_again_s
theorem c109_ok : cFn Tryz.prog Tryz.f109 = some c109.strip := by kernel_rfl
-- limbeck/tyfmt.shown$1
def c110_b : EC := (.seq (.reg 0 [⟨some 4, .boxI 34 (.tmp 1), none, Q0⟩,
  ⟨some 5, .mv (.con (.str ⟨#[]⟩)), none, Q0⟩] false (some [0, 2, 4]))
  (.seq (.reg 1 [⟨some 6, .fA 3 (.tmp 2), none, ⟨.no, false⟩⟩,
  ⟨some 7, .ld none (.tmp 6), none, ⟨.still, false⟩⟩,
  ⟨some 8, .mv (.tmp 0), none, ⟨.no, false⟩⟩,
  ⟨some 9, .ixL 1 (.tmp 7) (.tmp 8), none, ⟨.no, false⟩⟩,
  ⟨some 10, .ld none (.tmp 9), none, ⟨.still, false⟩⟩,
  ⟨some 11, .bin .add (.tmp 10) (.con (.str ⟨#[58, 32]⟩)), none, ⟨.no, false⟩⟩,
  ⟨some 12, .ld (some 5) (.tmp 4), none, Q1⟩,
  ⟨some 13, .call (.con (.fn 66 [] [])) [(.tmp 12)], none, Q1⟩,
  ⟨some 14, .bin .add (.tmp 11) (.tmp 13), none, Q0⟩,
  ⟨some 5, .mv (.tmp 14), none, Q0⟩] true (some [5]))
  .ret))
def c110 : EFn := ⟨3, 15, [.tmp 5], c110_b, none, true⟩
theorem c110_ok : cFn Tryz.prog Tryz.f110 = some c110.strip := by kernel_rfl
-- limbeck/limbeckref05.digits
def c111_b : EC := (.seq (.reg 0 [⟨some 2, .mv (.con (.str ⟨#[]⟩)), none, Q0⟩] false (some [0]))
  (.seq (.seq (.reg 1 [⟨some 3, .mv (.tmp 0), none, Q0⟩,
  ⟨some 4, .bin .lss (.tmp 3) (.con (.int .i64 10)), none, Q0⟩] false (some [0, 4]))
  (.cond (.tmp 4) (.seq (.reg 2 [⟨some 5, .mv (.tmp 0), none, Q0⟩,
  ⟨some 6, .bin .add (.con (.int .i64 48)) (.tmp 5), none, Q0⟩,
  ⟨some 7, .cvI .u8 (.tmp 6), none, Q0⟩,
  ⟨some 8, .rows 1 1 [(.int .u8 0)] [(0, (.tmp 7))], none, Q0⟩,
  ⟨some 9, .b2s (.tmp 8), none, Q0⟩,
  ⟨some 2, .mv (.tmp 9), none, Q0⟩] false (some [2]))
  .ret) .skip))
  (.seq (.reg 3 [⟨some 10, .mv (.tmp 0), none, ⟨.no, false⟩⟩,
  ⟨some 11, .bin .quo (.tmp 10) (.con (.int .i64 10)), none, ⟨.no, false⟩⟩,
  ⟨some 12, .call (.con (.fn 111 [] [])) [(.tmp 11)], none, ⟨.still, false⟩⟩,
  ⟨some 13, .mv (.tmp 0), none, Q0⟩,
  ⟨some 14, .bin .rem (.tmp 13) (.con (.int .i64 10)), none, Q0⟩,
  ⟨some 15, .bin .add (.con (.int .i64 48)) (.tmp 14), none, Q0⟩,
  ⟨some 16, .cvI .u8 (.tmp 15), none, Q0⟩,
  ⟨some 17, .rows 1 1 [(.int .u8 0)] [(0, (.tmp 16))], none, Q0⟩,
  ⟨some 18, .b2s (.tmp 17), none, Q1⟩,
  ⟨some 19, .bin .add (.tmp 12) (.tmp 18), none, Q0⟩,
  ⟨some 2, .mv (.tmp 19), none, Q0⟩] true (some [2]))
  .ret)))
def c111 : EFn := ⟨1, 20, [.tmp 2], c111_b, none, true⟩
theorem c111_ok : cFn Tryz.prog Tryz.f111 = some c111.strip := by kernel_rfl
-- limbeck/limbeckref01.Kind
def c112_r4 : List EI := [⟨some 11, .mv (.tmp 0), none, Q0⟩,
  ⟨some 12, .len true (.tmp 11), none, Q0⟩,
  ⟨some 13, .bin .lss (.tmp 12) (.con (.int .i64 1)), none, Q0⟩,
  ⟨some 14, .mv (.tmp 13), none, Q0⟩,
  ⟨some 15, .mv (.tmp 0), some (14, false), Q0⟩,
  ⟨some 16, .len true (.tmp 15), some (14, false), Q0⟩,
  ⟨some 17, .bin .gtr (.tmp 16) (.con (.int .i64 8)), some (14, false), Q0⟩,
  ⟨some 18, .pick (.tmp 14) (.con (.bool true)) (.tmp 17), none, Q0⟩]
def c112_r14 : List EI := [⟨some 31, .mv (.tmp 0), none, Q0⟩,
  ⟨some 32, .mv (.tmp 5), none, Q0⟩,
  ⟨some 33, .ixS (.tmp 31) (.tmp 32), none, Q0⟩,
  ⟨some 34, .call (.con (.fn 128 [] [])) [(.tmp 33)], none, Q0⟩,
  ⟨some 35, .un .not (.tmp 34), none, Q0⟩,
  ⟨some 36, .mv (.tmp 35), none, Q0⟩,
  ⟨some 37, .mv (.tmp 0), some (36, true), Q0⟩,
  ⟨some 38, .mv (.tmp 5), some (36, true), Q0⟩,
  ⟨some 39, .ixS (.tmp 37) (.tmp 38), some (36, true), Q0⟩,
  ⟨some 40, .call (.con (.fn 126 [] [])) [(.tmp 39)], some (36, true), Q0⟩,
  ⟨some 41, .un .not (.tmp 40), some (36, true), Q0⟩,
  ⟨some 42, .pick (.tmp 36) (.tmp 41) (.con (.bool false)), none, Q0⟩,
  ⟨some 43, .mv (.tmp 42), none, Q0⟩,
  ⟨some 44, .mv (.tmp 0), some (43, true), Q0⟩,
  ⟨some 45, .mv (.tmp 5), some (43, true), Q0⟩,
  ⟨some 46, .ixS (.tmp 44) (.tmp 45), some (43, true), Q0⟩,
  ⟨some 47, .call (.con (.fn 127 [] [])) [(.tmp 46)], some (43, true), Q0⟩,
  ⟨some 48, .un .not (.tmp 47), some (43, true), Q0⟩,
  ⟨some 49, .mv (.tmp 48), some (43, true), Q0⟩,
  ⟨some 50, .mv (.tmp 4), some (49, false), Q0⟩,
  ⟨some 51, .bin .eql (.tmp 50) (.con (.int .i64 1)), some (49, false), Q0⟩,
  ⟨some 52, .pick (.tmp 49) (.con (.bool true)) (.tmp 51), some (43, true), Q0⟩,
  ⟨some 53, .pick (.tmp 43) (.tmp 52) (.con (.bool false)), none, Q0⟩]
def c112_l0_b : EC := (.seq (.seq (.reg 12 [⟨some 25, .mv (.tmp 5), none, Q0⟩,
  ⟨some 26, .mv (.tmp 0), none, Q0⟩,
  ⟨some 27, .len true (.tmp 26), none, Q0⟩,
  ⟨some 28, .bin .lss (.tmp 25) (.tmp 27), none, Q0⟩] false (some [0, 4, 5, 28]))
  (.cond (.tmp 28) .skip (.exit 0)))
  (.seq (.block 1 (.seq (.reg 14 c112_r14 false (some [0, 4, 5, 53]))
  (.cond (.tmp 53) (.seq (.reg 15 [⟨some 2, .mv (.con (.int .i64 0)), none, Q0⟩] false (some [2]))
  .ret) .skip)))
  (.reg 13 [⟨some 29, .mv (.tmp 5), none, Q0⟩,
  ⟨some 30, .bin .add (.tmp 29) (.con (.int .i64 1)), none, Q0⟩,
  ⟨some 5, .mv (.tmp 30), none, Q0⟩] false (some [0, 4, 5]))))
def c112_l0 : EC := .loop (some [0, 4, 5]) c112_l0_b
def c112_b : EC := (.seq (.reg 0 [⟨some 2, .mv (.con (.int .i64 0)), none, Q0⟩] false (some [0]))
  (.seq (.seq (.reg 1 [⟨some 6, .mv (.tmp 0), none, Q0⟩,
  ⟨some 7, .call (.con (.fn 125 [] [])) [(.tmp 6)], none, Q0⟩,
  ⟨some 3, .mv (.tmp 7), none, Q0⟩] false (some [0, 3]))
  (.seq (.reg 2 [⟨some 8, .mv (.tmp 3), none, Q0⟩,
  ⟨some 9, .bin .neq (.tmp 8) (.con (.int .i64 0)), none, Q0⟩] false (some [0, 3, 9]))
  (.cond (.tmp 9) (.seq (.reg 3 [⟨some 10, .mv (.tmp 3), none, Q0⟩,
  ⟨some 2, .mv (.tmp 10), none, Q0⟩] false (some [2]))
  .ret) .skip)))
  (.seq (.seq (.reg 4 c112_r4 false (some [0, 18]))
  (.cond (.tmp 18) (.seq (.reg 5 [⟨some 2, .mv (.con (.int .i64 0)), none, Q0⟩] false (some [2]))
  .ret) .skip))
  (.seq (.reg 6 [⟨some 4, .mv (.con (.int .i64 0)), none, Q0⟩] false (some [0, 4]))
  (.seq (.seq (.reg 7 [⟨some 19, .mv (.tmp 0), none, Q0⟩,
  ⟨some 20, .ixS (.tmp 19) (.con (.int .i64 0)), none, Q0⟩,
  ⟨some 21, .call (.con (.fn 126 [] [])) [(.tmp 20)], none, Q0⟩] false (some [0, 4, 21]))
  (.cond (.tmp 21) (.reg 8 [⟨some 4, .mv (.con (.int .i64 1)), none, Q0⟩] false (some [0, 4])) .skip))
  (.seq (.seq (.reg 9 [⟨some 22, .mv (.tmp 0), none, Q0⟩,
  ⟨some 23, .ixS (.tmp 22) (.con (.int .i64 0)), none, Q0⟩,
  ⟨some 24, .call (.con (.fn 127 [] [])) [(.tmp 23)], none, Q0⟩] false (some [0, 4, 24]))
  (.cond (.tmp 24) (.reg 10 [⟨some 4, .mv (.con (.int .i64 2)), none, Q0⟩] false (some [0, 4])) .skip))
  (.seq (.seq (.reg 11 [⟨some 5, .mv (.con (.int .i64 1)), none, Q0⟩] false (some [0, 4, 5]))
  (.block 0 c112_l0))
  (.seq (.reg 16 [⟨some 54, .mv (.tmp 4), none, Q0⟩,
  ⟨some 2, .mv (.tmp 54), none, Q0⟩] false (some [2]))
  .ret))))))))
def c112 : EFn := ⟨1, 55, [.tmp 2], c112_b, none, true⟩
theorem c112_l0_step {E : Env} {fin : Kont (PV × St)} {st : List Fr} {ts : Tmps} {S : St} {n : Nat} : (lvl E (n + 1)).ev c112_l0 ts S (kont E fin st) = (lvl E (n + 1)).ev c112_l0_b (sel (some [0, 4, 5]) ts) S (kont E fin (.again n c112_l0 :: st)) := rfl
theorem c112_l0_w {E : Env} {fin : Kont (PV × St)} {st : List Fw} {ts : Tmps} {S : St} : run E fin st c112_l0 ts S = run E fin (.again c112_l0 :: st) c112_l0_b (sel (some [0, 4, 5]) ts) S := w_loop
theorem c112_l0_a {E : Env} {fin : Kont (PV × St)} {st : List Fw} {ts : Tmps} {S : St} : aft E fin (.again c112_l0 :: st) .normal ts S = run E fin st c112_l0 (sel (some [0, 4, 5]) ts) S := a_again_s
theorem c112_ok : cFn Tryz.prog Tryz.f112 = some c112.strip := by kernel_rfl
-- limbeck/limbeckref04.Has
def c113_l0_b : EC := (.seq (.seq (.reg 4 [⟨some 10, .mv (.tmp 5), none, Q0⟩,
  ⟨some 11, .fA 4 (.tmp 2), none, Q0⟩,
  ⟨some 12, .ld none (.tmp 11), none, Q0⟩,
  ⟨some 13, .len false (.tmp 12), none, Q0⟩,
  ⟨some 14, .bin .lss (.tmp 10) (.tmp 13), none, Q0⟩] false (some [1, 2, 5, 14]))
  (.cond (.tmp 14) .skip (.exit 0)))
  (.seq (.block 1 (.seq (.reg 6 [⟨some 17, .fA 4 (.tmp 2), none, Q0⟩,
  ⟨some 18, .ld none (.tmp 17), none, Q0⟩,
  ⟨some 19, .mv (.tmp 5), none, Q0⟩,
  ⟨some 20, .ixL 5 (.tmp 18) (.tmp 19), none, Q0⟩,
  ⟨some 21, .ld (some 5) (.tmp 20), none, Q0⟩,
  ⟨some 22, .mv (.tmp 1), none, Q0⟩,
  ⟨some 23, .call (.con (.fn 113 [] [])) [(.tmp 21), (.tmp 22)], none, Q0⟩] false (some [1, 2, 5, 23]))
  (.cond (.tmp 23) (.seq (.reg 7 [⟨some 4, .mv (.con (.bool true)), none, Q0⟩] false (some [4]))
  .ret) .skip)))
  (.reg 5 [⟨some 15, .mv (.tmp 5), none, Q0⟩,
  ⟨some 16, .bin .add (.tmp 15) (.con (.int .i64 1)), none, Q0⟩,
  ⟨some 5, .mv (.tmp 16), none, Q0⟩] false (some [1, 2, 5]))))
def c113_l0 : EC := .loop (some [1, 2, 5]) c113_l0_b
def c113_b : EC := (.seq (.reg 0 [⟨some 2, .boxI 34 (.tmp 0), none, Q0⟩,
  ⟨some 4, .mv (.con (.bool false)), none, Q0⟩] false (some [1, 2]))
  (.seq (.seq (.reg 1 [⟨some 6, .fA 0 (.tmp 2), none, Q0⟩,
  ⟨some 7, .ld none (.tmp 6), none, Q0⟩,
  ⟨some 8, .mv (.tmp 1), none, Q0⟩,
  ⟨some 9, .bin .eql (.tmp 7) (.tmp 8), none, Q0⟩] false (some [1, 2, 9]))
  (.cond (.tmp 9) (.seq (.reg 2 [⟨some 4, .mv (.con (.bool true)), none, Q0⟩] false (some [4]))
  .ret) .skip))
  (.seq (.seq (.reg 3 [⟨some 5, .mv (.con (.int .i64 0)), none, Q0⟩] false (some [1, 2, 5]))
  (.block 0 c113_l0))
  (.seq (.reg 8 [⟨some 4, .mv (.con (.bool false)), none, Q0⟩] false (some [4]))
  .ret))))
def c113 : EFn := ⟨2, 24, [.tmp 4], c113_b, none, true⟩
theorem c113_l0_step {E : Env} {fin : Kont (PV × St)} {st : List Fr} {ts : Tmps} {S : St} {n : Nat} : (lvl E (n + 1)).ev c113_l0 ts S (kont E fin st) = (lvl E (n + 1)).ev c113_l0_b (sel (some [1, 2, 5]) ts) S (kont E fin (.again n c113_l0 :: st)) := rfl
theorem c113_l0_w {E : Env} {fin : Kont (PV × St)} {st : List Fw} {ts : Tmps} {S : St} : run E fin st c113_l0 ts S = run E fin (.again c113_l0 :: st) c113_l0_b (sel (some [1, 2, 5]) ts) S := w_loop
theorem c113_l0_a {E : Env} {fin : Kont (PV × St)} {st : List Fw} {ts : Tmps} {S : St} : aft E fin (.again c113_l0 :: st) .normal ts S = run E fin st c113_l0 (sel (some [1, 2, 5]) ts) S := a_again_s
theorem c113_ok : cFn Tryz.prog Tryz.f113 = some c113.strip := by kernel_rfl
-- slices.IndexFunc[[]limbeck/api.Ty,limbeck/api.Ty]
def c114_l0_b : EC := (.seq (.reg 2 [⟨some 9, .bin .lss (.tmp 8) (.tmp 7), none, Q0⟩] false (some [0, 1, 7, 8, 9]))
  (.seq (.cond (.tmp 9) .skip (.exit 0))
  (.seq (.block 1 (.seq (.reg 3 [⟨some 10, .mv (.tmp 8), none, Q0⟩,
  ⟨some 5, .mv (.tmp 10), none, Q0⟩] false (some [0, 1, 5, 7, 8]))
  (.seq (.reg 4 [⟨some 11, .mv (.tmp 1), none, Q0⟩,
  ⟨some 12, .mv (.tmp 0), none, Q0⟩,
  ⟨some 13, .mv (.tmp 5), none, Q0⟩,
  ⟨some 14, .ixL 5 (.tmp 12) (.tmp 13), none, Q0⟩,
  ⟨some 15, .ld (some 5) (.tmp 14), none, Q0⟩,
  ⟨some 16, .call (.tmp 11) [(.tmp 15)], none, Q0⟩] false (some [0, 1, 5, 7, 8, 16]))
  (.cond (.tmp 16) (.seq (.reg 5 [⟨some 17, .mv (.tmp 5), none, Q0⟩,
  ⟨some 4, .mv (.tmp 17), none, Q0⟩] false (some [4]))
  .ret) .skip))))
  (.reg 6 [⟨some 18, .bin .add (.tmp 8) (.con (.int .i64 1)), none, Q0⟩,
  ⟨some 8, .mv (.tmp 18), none, Q0⟩] false (some [0, 1, 7, 8])))))
def c114_l0 : EC := .loop (some [0, 1, 7, 8]) c114_l0_b
def c114_b : EC := (.seq (.reg 0 [⟨some 4, .mv (.con (.int .i64 0)), none, Q0⟩] false (some [0, 1]))
  (.seq (.seq (.reg 1 [⟨some 6, .mv (.tmp 0), none, Q0⟩,
  ⟨some 7, .len false (.tmp 6), none, Q0⟩,
  ⟨some 8, .mv (.con (.int .i64 0)), none, Q0⟩] false (some [0, 1, 7, 8]))
  (.block 0 c114_l0))
  (.seq (.reg 7 [⟨some 4, .mv (.con (.int .i64 (-1))), none, Q0⟩] false (some [4]))
  .ret)))
def c114 : EFn := ⟨2, 19, [.tmp 4], c114_b, none, true⟩
theorem c114_l0_step {E : Env} {fin : Kont (PV × St)} {st : List Fr} {ts : Tmps} {S : St} {n : Nat} : (lvl E (n + 1)).ev c114_l0 ts S (kont E fin st) = (lvl E (n + 1)).ev c114_l0_b (sel (some [0, 1, 7, 8]) ts) S (kont E fin (.again n c114_l0 :: st)) := rfl
theorem c114_l0_w {E : Env} {fin : Kont (PV × St)} {st : List Fw} {ts : Tmps} {S : St} : run E fin st c114_l0 ts S = run E fin (.again c114_l0 :: st) c114_l0_b (sel (some [0, 1, 7, 8]) ts) S := w_loop
theorem c114_l0_a {E : Env} {fin : Kont (PV × St)} {st : List Fw} {ts : Tmps} {S : St} : aft E fin (.again c114_l0 :: st) .normal ts S = run E fin st c114_l0 (sel (some [0, 1, 7, 8]) ts) S := a_again_s
theorem c114_ok : cFn Tryz.prog Tryz.f114 = some c114.strip := by kernel_rfl
-- limbeck/ty.nodes
def c115_b : EC := (.seq (.reg 0 [⟨some 1, .boxI 34 (.tmp 0), none, Q0⟩,
  ⟨some 2, .mv (.con .nilfn), none, Q0⟩] false (some [1]))
  (.seq (.reg 1 [⟨some 3, .fnv 129 [] [(.tmp 1)], none, Q0⟩,
  ⟨some 2, .mv (.tmp 3), none, Q0⟩] false (some [2]))
  .ret))
def c115 : EFn := ⟨1, 4, [.tmp 2], c115_b, none, true⟩
theorem c115_ok : cFn Tryz.prog Tryz.f115 = some c115.strip := by kernel_rfl
-- slices.IndexFunc[[]limbeck/api.Exp,limbeck/api.Exp]
def c116_l0_b : EC := (.seq (.reg 2 [⟨some 9, .bin .lss (.tmp 8) (.tmp 7), none, Q0⟩] false (some [0, 1, 7, 8, 9]))
  (.seq (.cond (.tmp 9) .skip (.exit 0))
  (.seq (.block 1 (.seq (.reg 3 [⟨some 10, .mv (.tmp 8), none, Q0⟩,
  ⟨some 5, .mv (.tmp 10), none, Q0⟩] false (some [0, 1, 5, 7, 8]))
  (.seq (.reg 4 [⟨some 11, .mv (.tmp 1), none, Q0⟩,
  ⟨some 12, .mv (.tmp 0), none, Q0⟩,
  ⟨some 13, .mv (.tmp 5), none, Q0⟩,
  ⟨some 14, .ixL 7 (.tmp 12) (.tmp 13), none, Q0⟩,
  ⟨some 15, .ld (some 7) (.tmp 14), none, Q0⟩,
  ⟨some 16, .call (.tmp 11) [(.tmp 15)], none, Q0⟩] false (some [0, 1, 5, 7, 8, 16]))
  (.cond (.tmp 16) (.seq (.reg 5 [⟨some 17, .mv (.tmp 5), none, Q0⟩,
  ⟨some 4, .mv (.tmp 17), none, Q0⟩] false (some [4]))
  .ret) .skip))))
  (.reg 6 [⟨some 18, .bin .add (.tmp 8) (.con (.int .i64 1)), none, Q0⟩,
  ⟨some 8, .mv (.tmp 18), none, Q0⟩] false (some [0, 1, 7, 8])))))
def c116_l0 : EC := .loop (some [0, 1, 7, 8]) c116_l0_b
def c116_b : EC := (.seq (.reg 0 [⟨some 4, .mv (.con (.int .i64 0)), none, Q0⟩] false (some [0, 1]))
  (.seq (.seq (.reg 1 [⟨some 6, .mv (.tmp 0), none, Q0⟩,
  ⟨some 7, .len false (.tmp 6), none, Q0⟩,
  ⟨some 8, .mv (.con (.int .i64 0)), none, Q0⟩] false (some [0, 1, 7, 8]))
  (.block 0 c116_l0))
  (.seq (.reg 7 [⟨some 4, .mv (.con (.int .i64 (-1))), none, Q0⟩] false (some [4]))
  .ret)))
def c116 : EFn := ⟨2, 19, [.tmp 4], c116_b, none, true⟩
theorem c116_l0_step {E : Env} {fin : Kont (PV × St)} {st : List Fr} {ts : Tmps} {S : St} {n : Nat} : (lvl E (n + 1)).ev c116_l0 ts S (kont E fin st) = (lvl E (n + 1)).ev c116_l0_b (sel (some [0, 1, 7, 8]) ts) S (kont E fin (.again n c116_l0 :: st)) := rfl
theorem c116_l0_w {E : Env} {fin : Kont (PV × St)} {st : List Fw} {ts : Tmps} {S : St} : run E fin st c116_l0 ts S = run E fin (.again c116_l0 :: st) c116_l0_b (sel (some [0, 1, 7, 8]) ts) S := w_loop
theorem c116_l0_a {E : Env} {fin : Kont (PV × St)} {st : List Fw} {ts : Tmps} {S : St} : aft E fin (.again c116_l0 :: st) .normal ts S = run E fin st c116_l0 (sel (some [0, 1, 7, 8]) ts) S := a_again_s
theorem c116_ok : cFn Tryz.prog Tryz.f116 = some c116.strip := by kernel_rfl
-- limbeck/tyfmt.List$1
def c118_b : EC := (.seq (.reg 0 [⟨some 3, .boxI 34 (.tmp 1), none, Q0⟩,
  ⟨some 4, .mv (.con (.str ⟨#[]⟩)), none, Q0⟩] false (some [3]))
  (.seq (.reg 1 [⟨some 5, .ld (some 5) (.tmp 3), none, Q0⟩,
  ⟨some 6, .call (.con (.fn 28 [] [])) [(.tmp 5)], none, Q0⟩,
  ⟨some 4, .mv (.tmp 6), none, Q0⟩] false (some [4]))
  .ret))
def c118 : EFn := ⟨2, 7, [.tmp 4], c118_b, none, true⟩
theorem c118_ok : cFn Tryz.prog Tryz.f118 = some c118.strip := by kernel_rfl
-- internal/strconv.FormatBool
def c120_b : EC := (.seq (.reg 0 [⟨some 2, .mv (.con (.str ⟨#[]⟩)), none, Q0⟩] false (some [0]))
  (.seq (.seq (.reg 1 [⟨some 3, .mv (.tmp 0), none, Q0⟩] false (some [3]))
  (.cond (.tmp 3) (.seq (.reg 2 [⟨some 2, .mv (.con (.str ⟨#[116, 114, 117, 101]⟩)), none, Q0⟩] false (some [2]))
  .ret) .skip))
  (.seq (.reg 3 [⟨some 2, .mv (.con (.str ⟨#[102, 97, 108, 115, 101]⟩)), none, Q0⟩] false (some [2]))
  .ret)))
def c120 : EFn := ⟨1, 4, [.tmp 2], c120_b, none, true⟩
theorem c120_ok : cFn Tryz.prog Tryz.f120 = some c120.strip := by kernel_rfl
-- (*strings.Builder).WriteByte
def c121_b : EC := (.seq (.reg 0 [⟨some 4, .mv (.con .nilifc), none, Q0⟩] false (some [0, 1]))
  (.seq (.reg 1 [⟨some 5, .mv (.tmp 0), none, Q0⟩,
  ⟨some 6, .call (.con (.fn 124 [] [])) [(.tmp 5)], none, Q0⟩] false (some [0, 1]))
  (.seq (.reg 2 [⟨some 7, .mv (.tmp 0), none, Q0⟩,
  ⟨some 8, .mv (.tmp 0), none, Q0⟩,
  ⟨some 9, .nck (.tmp 8), none, Q0⟩,
  ⟨some 10, .fA 1 (.tmp 9), none, Q0⟩,
  ⟨some 11, .ld none (.tmp 10), none, Q0⟩,
  ⟨some 12, .mv (.tmp 1), none, Q0⟩,
  ⟨some 13, .rows 1 1 [(.int .u8 0)] [(0, (.tmp 12))], none, Q0⟩,
  ⟨some 14, .app 5 1 1 (.tmp 11) (.tmp 13), none, Q0⟩,
  ⟨some 15, .nck (.tmp 7), none, Q0⟩,
  ⟨some 16, .fA 1 (.tmp 15), none, Q0⟩,
  ⟨none, .st 1 (.tmp 16) (.tmp 14), none, Q0⟩] false (some []))
  (.seq (.reg 3 [⟨some 4, .mv (.con .nilifc), none, Q0⟩] false (some [4]))
  .ret))))
def c121 : EFn := ⟨2, 17, [.tmp 4], c121_b, none, true⟩
theorem c121_ok : cFn Tryz.prog Tryz.f121 = some c121.strip := by kernel_rfl
-- limbeck/name.shape
def c122_r8 : List EI := [⟨some 16, .mv (.tmp 4), none, Q0⟩,
  ⟨some 17, .bin .eql (.tmp 16) (.con (.int .i64 0)), none, Q0⟩,
  ⟨some 18, .mv (.tmp 17), none, Q0⟩,
  ⟨some 19, .mv (.tmp 5), some (18, true), Q0⟩,
  ⟨some 20, .call (.con (.fn 133 [] [])) [(.tmp 19)], some (18, true), Q0⟩,
  ⟨some 21, .pick (.tmp 18) (.tmp 20) (.con (.bool false)), none, Q0⟩,
  ⟨some 15, .mv (.tmp 21), none, Q0⟩]
def c122_r10 : List EI := [⟨some 23, .mv (.tmp 4), none, Q0⟩,
  ⟨some 24, .bin .eql (.tmp 23) (.con (.int .i64 0)), none, Q0⟩,
  ⟨some 25, .mv (.tmp 24), none, Q0⟩,
  ⟨some 26, .mv (.tmp 5), some (25, true), Q0⟩,
  ⟨some 27, .call (.con (.fn 134 [] [])) [(.tmp 26)], some (25, true), Q0⟩,
  ⟨some 28, .pick (.tmp 25) (.tmp 27) (.con (.bool false)), none, Q0⟩,
  ⟨some 22, .mv (.tmp 28), none, Q0⟩]
def c122_r12 : List EI := [⟨some 30, .mv (.tmp 4), none, Q0⟩,
  ⟨some 31, .bin .gtr (.tmp 30) (.con (.int .i64 0)), none, Q0⟩,
  ⟨some 32, .mv (.tmp 31), none, Q0⟩,
  ⟨some 33, .mv (.tmp 3), some (32, true), Q0⟩,
  ⟨some 34, .bin .neq (.tmp 33) (.con (.int .i64 0)), some (32, true), Q0⟩,
  ⟨some 35, .pick (.tmp 32) (.tmp 34) (.con (.bool false)), none, Q0⟩,
  ⟨some 36, .mv (.tmp 35), none, Q0⟩,
  ⟨some 37, .mv (.tmp 5), some (36, true), Q0⟩,
  ⟨some 38, .call (.con (.fn 133 [] [])) [(.tmp 37)], some (36, true), Q0⟩,
  ⟨some 39, .mv (.tmp 38), some (36, true), Q0⟩,
  ⟨some 40, .mv (.tmp 5), some (39, false), Q0⟩,
  ⟨some 41, .call (.con (.fn 135 [] [])) [(.tmp 40)], some (39, false), Q0⟩,
  ⟨some 42, .pick (.tmp 39) (.con (.bool true)) (.tmp 41), some (36, true), Q0⟩,
  ⟨some 43, .pick (.tmp 36) (.tmp 42) (.con (.bool false)), none, Q0⟩,
  ⟨some 29, .mv (.tmp 43), none, Q0⟩]
def c122_r13 : List EI := [⟨some 45, .mv (.tmp 4), none, Q0⟩,
  ⟨some 46, .bin .gtr (.tmp 45) (.con (.int .i64 0)), none, Q0⟩,
  ⟨some 47, .mv (.tmp 46), none, Q0⟩,
  ⟨some 48, .mv (.tmp 3), some (47, true), Q0⟩,
  ⟨some 49, .bin .eql (.tmp 48) (.con (.int .i64 2)), some (47, true), Q0⟩,
  ⟨some 50, .pick (.tmp 47) (.tmp 49) (.con (.bool false)), none, Q0⟩,
  ⟨some 51, .mv (.tmp 50), none, Q0⟩,
  ⟨some 52, .mv (.tmp 5), some (51, true), Q0⟩,
  ⟨some 53, .call (.con (.fn 134 [] [])) [(.tmp 52)], some (51, true), Q0⟩,
  ⟨some 54, .pick (.tmp 51) (.tmp 53) (.con (.bool false)), none, Q0⟩,
  ⟨some 44, .mv (.tmp 54), none, Q0⟩]
def c122_l0_b : EC := (.seq (.reg 5 [⟨some 11, .nxt (.tmp 10), none, Q0⟩,
  ⟨some 12, .ext (.tmp 11) 0, none, Q0⟩] false (some [3, 10, 11, 12]))
  (.seq (.cond (.tmp 12) .skip (.exit 0))
  (.block 1 (.seq (.reg 6 [⟨some 13, .ext (.tmp 11) 1, none, Q0⟩,
  ⟨some 14, .ext (.tmp 11) 2, none, Q0⟩,
  ⟨some 4, .mv (.tmp 13), none, Q0⟩,
  ⟨some 5, .mv (.tmp 14), none, Q0⟩] false (some [3, 4, 5, 10]))
  (.block 2 (.seq (.reg 8 c122_r8 false (some [3, 4, 5, 10, 15]))
  (.cond (.tmp 15) (.reg 9 [⟨some 3, .mv (.con (.int .i64 1)), none, Q0⟩] false (some [3, 10])) (.seq (.reg 10 c122_r10 false (some [3, 4, 5, 10, 22]))
  (.cond (.tmp 22) (.reg 11 [⟨some 3, .mv (.con (.int .i64 2)), none, Q0⟩] false (some [3, 10])) (.seq (.reg 12 c122_r12 false (some [3, 4, 5, 10, 29]))
  (.cond (.tmp 29) .skip (.seq (.reg 13 c122_r13 false (some [3, 10, 44]))
  (.cond (.tmp 44) .skip (.seq (.reg 7 [⟨some 2, .mv (.con (.int .i64 0)), none, Q0⟩] false (some [2]))
  .ret))))))))))))))
def c122_l0 : EC := .loop (some [3, 10]) c122_l0_b
def c122_b : EC := (.seq (.reg 0 [⟨some 2, .mv (.con (.int .i64 0)), none, Q0⟩] false (some [0]))
  (.seq (.seq (.reg 1 [⟨some 6, .mv (.tmp 0), none, Q0⟩,
  ⟨some 7, .len true (.tmp 6), none, Q0⟩,
  ⟨some 8, .bin .gtr (.tmp 7) (.con (.int .i64 8)), none, Q0⟩] false (some [0, 8]))
  (.cond (.tmp 8) (.seq (.reg 2 [⟨some 2, .mv (.con (.int .i64 0)), none, Q0⟩] false (some [2]))
  .ret) .skip))
  (.seq (.reg 3 [⟨some 3, .mv (.con (.int .i64 0)), none, Q0⟩] false (some [0, 3]))
  (.seq (.seq (.reg 4 [⟨some 9, .mv (.tmp 0), none, Q0⟩,
  ⟨some 10, .rng (.tmp 9), none, Q0⟩] false (some [3, 10]))
  (.block 0 c122_l0))
  (.seq (.reg 14 [⟨some 55, .mv (.tmp 3), none, Q0⟩,
  ⟨some 2, .mv (.tmp 55), none, Q0⟩] false (some [2]))
  .ret)))))
def c122 : EFn := ⟨1, 56, [.tmp 2], c122_b, none, true⟩
theorem c122_l0_step {E : Env} {fin : Kont (PV × St)} {st : List Fr} {ts : Tmps} {S : St} {n : Nat} : (lvl E (n + 1)).ev c122_l0 ts S (kont E fin st) = (lvl E (n + 1)).ev c122_l0_b (sel (some [3, 10]) ts) S (kont E fin (.again n c122_l0 :: st)) := rfl
theorem c122_l0_w {E : Env} {fin : Kont (PV × St)} {st : List Fw} {ts : Tmps} {S : St} : run E fin st c122_l0 ts S = run E fin (.again c122_l0 :: st) c122_l0_b (sel (some [3, 10]) ts) S := w_loop
theorem c122_l0_a {E : Env} {fin : Kont (PV × St)} {st : List Fw} {ts : Tmps} {S : St} : aft E fin (.again c122_l0 :: st) .normal ts S = run E fin st c122_l0 (sel (some [3, 10]) ts) S := a_again_s
theorem c122_ok : cFn Tryz.prog Tryz.f122 = some c122.strip := by kernel_rfl
-- limbeck/limbeckref01.Kept
def c125_l0_b : EC := (.seq (.seq (.reg 3 [⟨some 8, .mv (.tmp 4), none, Q0⟩,
  ⟨some 9, .mv (.tmp 3), none, Q0⟩,
  ⟨some 10, .len false (.tmp 9), none, Q0⟩,
  ⟨some 11, .bin .lss (.tmp 8) (.tmp 10), none, Q0⟩] false (some [0, 3, 4, 11]))
  (.cond (.tmp 11) .skip (.exit 0)))
  (.seq (.block 1 (.seq (.reg 5 [⟨some 14, .mv (.tmp 3), none, Q0⟩,
  ⟨some 15, .mv (.tmp 4), none, Q0⟩,
  ⟨some 16, .ixL 1 (.tmp 14) (.tmp 15), none, Q0⟩,
  ⟨some 17, .ld none (.tmp 16), none, Q0⟩,
  ⟨some 18, .mv (.tmp 0), none, Q0⟩,
  ⟨some 19, .bin .eql (.tmp 17) (.tmp 18), none, Q0⟩] false (some [0, 3, 4, 19]))
  (.cond (.tmp 19) (.seq (.reg 6 [⟨some 2, .mv (.con (.int .i64 3)), none, Q0⟩] false (some [2]))
  .ret) .skip)))
  (.reg 4 [⟨some 12, .mv (.tmp 4), none, Q0⟩,
  ⟨some 13, .bin .add (.tmp 12) (.con (.int .i64 1)), none, Q0⟩,
  ⟨some 4, .mv (.tmp 13), none, Q0⟩] false (some [0, 3, 4]))))
def c125_l0 : EC := .loop (some [0, 3, 4]) c125_l0_b
def c125_l1_b : EC := (.seq (.seq (.reg 9 [⟨some 21, .mv (.tmp 6), none, Q0⟩,
  ⟨some 22, .mv (.tmp 5), none, Q0⟩,
  ⟨some 23, .len false (.tmp 22), none, Q0⟩,
  ⟨some 24, .bin .lss (.tmp 21) (.tmp 23), none, Q0⟩] false (some [0, 5, 6, 24]))
  (.cond (.tmp 24) .skip (.exit 2)))
  (.seq (.block 3 (.seq (.reg 11 [⟨some 27, .mv (.tmp 5), none, Q0⟩,
  ⟨some 28, .mv (.tmp 6), none, Q0⟩,
  ⟨some 29, .ixL 1 (.tmp 27) (.tmp 28), none, Q0⟩,
  ⟨some 30, .ld none (.tmp 29), none, Q0⟩,
  ⟨some 31, .mv (.tmp 0), none, Q0⟩,
  ⟨some 32, .bin .eql (.tmp 30) (.tmp 31), none, Q0⟩] false (some [0, 5, 6, 32]))
  (.cond (.tmp 32) (.seq (.reg 12 [⟨some 2, .mv (.con (.int .i64 4)), none, Q0⟩] false (some [2]))
  .ret) .skip)))
  (.reg 10 [⟨some 25, .mv (.tmp 6), none, Q0⟩,
  ⟨some 26, .bin .add (.tmp 25) (.con (.int .i64 1)), none, Q0⟩,
  ⟨some 6, .mv (.tmp 26), none, Q0⟩] false (some [0, 5, 6]))))
def c125_l1 : EC := .loop (some [0, 5, 6]) c125_l1_b
def c125_b : EC := (.seq (.reg 0 [⟨some 2, .mv (.con (.int .i64 0)), none, Q0⟩] false (some [0]))
  (.seq (.reg 1 [⟨some 7, .rows 10 1 [(.str ⟨#[]⟩)] [(0, (.con (.str ⟨#[108, 101, 116]⟩))), (1, (.con (.str ⟨#[105, 110]⟩))), (2, (.con (.str ⟨#[105, 102]⟩))), (3, (.con (.str ⟨#[116, 104, 101, 110]⟩))), (4, (.con (.str ⟨#[101, 108, 115, 101]⟩))), (5, (.con (.str ⟨#[102, 110]⟩))), (6, (.con (.str ⟨#[99, 97, 108, 108]⟩))), (7, (.con (.str ⟨#[100, 101, 102]⟩))), (8, (.con (.str ⟨#[116, 114, 117, 101]⟩))), (9, (.con (.str ⟨#[102, 97, 108, 115, 101]⟩)))], none, Q0⟩,
  ⟨some 3, .mv (.tmp 7), none, Q0⟩] false (some [0, 3]))
  (.seq (.seq (.reg 2 [⟨some 4, .mv (.con (.int .i64 0)), none, Q0⟩] false (some [0, 3, 4]))
  (.block 0 c125_l0))
  (.seq (.reg 7 [⟨some 20, .rows 4 1 [(.str ⟨#[]⟩)] [(0, (.con (.str ⟨#[73, 110, 116]⟩))), (1, (.con (.str ⟨#[66, 111, 111, 108]⟩))), (2, (.con (.str ⟨#[83, 116, 114, 105, 110, 103]⟩))), (3, (.con (.str ⟨#[84, 111, 112]⟩)))], none, Q0⟩,
  ⟨some 5, .mv (.tmp 20), none, Q0⟩] false (some [0, 5]))
  (.seq (.seq (.reg 8 [⟨some 6, .mv (.con (.int .i64 0)), none, Q0⟩] false (some [0, 5, 6]))
  (.block 2 c125_l1))
  (.seq (.reg 13 [⟨some 2, .mv (.con (.int .i64 0)), none, Q0⟩] false (some [2]))
  .ret))))))
def c125 : EFn := ⟨1, 33, [.tmp 2], c125_b, none, true⟩
theorem c125_l0_step {E : Env} {fin : Kont (PV × St)} {st : List Fr} {ts : Tmps} {S : St} {n : Nat} : (lvl E (n + 1)).ev c125_l0 ts S (kont E fin st) = (lvl E (n + 1)).ev c125_l0_b (sel (some [0, 3, 4]) ts) S (kont E fin (.again n c125_l0 :: st)) := rfl
theorem c125_l0_w {E : Env} {fin : Kont (PV × St)} {st : List Fw} {ts : Tmps} {S : St} : run E fin st c125_l0 ts S = run E fin (.again c125_l0 :: st) c125_l0_b (sel (some [0, 3, 4]) ts) S := w_loop
theorem c125_l0_a {E : Env} {fin : Kont (PV × St)} {st : List Fw} {ts : Tmps} {S : St} : aft E fin (.again c125_l0 :: st) .normal ts S = run E fin st c125_l0 (sel (some [0, 3, 4]) ts) S := a_again_s
theorem c125_l1_step {E : Env} {fin : Kont (PV × St)} {st : List Fr} {ts : Tmps} {S : St} {n : Nat} : (lvl E (n + 1)).ev c125_l1 ts S (kont E fin st) = (lvl E (n + 1)).ev c125_l1_b (sel (some [0, 5, 6]) ts) S (kont E fin (.again n c125_l1 :: st)) := rfl
theorem c125_l1_w {E : Env} {fin : Kont (PV × St)} {st : List Fw} {ts : Tmps} {S : St} : run E fin st c125_l1 ts S = run E fin (.again c125_l1 :: st) c125_l1_b (sel (some [0, 5, 6]) ts) S := w_loop
theorem c125_l1_a {E : Env} {fin : Kont (PV × St)} {st : List Fw} {ts : Tmps} {S : St} : aft E fin (.again c125_l1 :: st) .normal ts S = run E fin st c125_l1 (sel (some [0, 5, 6]) ts) S := a_again_s
theorem c125_ok : cFn Tryz.prog Tryz.f125 = some c125.strip := by kernel_rfl
-- limbeck/limbeckref01.Low
def c126_r1 : List EI := [⟨some 3, .mv (.tmp 0), none, Q0⟩,
  ⟨some 4, .bin .geq (.tmp 3) (.con (.int .u8 97)), none, Q0⟩,
  ⟨some 5, .mv (.tmp 4), none, Q0⟩,
  ⟨some 6, .mv (.tmp 0), some (5, true), Q0⟩,
  ⟨some 7, .bin .leq (.tmp 6) (.con (.int .u8 122)), some (5, true), Q0⟩,
  ⟨some 8, .pick (.tmp 5) (.tmp 7) (.con (.bool false)), none, Q0⟩,
  ⟨some 2, .mv (.tmp 8), none, Q0⟩]
def c126_b : EC := (.seq (.reg 0 [⟨some 2, .mv (.con (.bool false)), none, Q0⟩] false (some [0]))
  (.seq (.reg 1 c126_r1 false (some [2]))
  .ret))
def c126 : EFn := ⟨1, 9, [.tmp 2], c126_b, none, true⟩
theorem c126_ok : cFn Tryz.prog Tryz.f126 = some c126.strip := by kernel_rfl
-- limbeck/limbeckref01.Up
def c127_r1 : List EI := [⟨some 3, .mv (.tmp 0), none, Q0⟩,
  ⟨some 4, .bin .geq (.tmp 3) (.con (.int .u8 65)), none, Q0⟩,
  ⟨some 5, .mv (.tmp 4), none, Q0⟩,
  ⟨some 6, .mv (.tmp 0), some (5, true), Q0⟩,
  ⟨some 7, .bin .leq (.tmp 6) (.con (.int .u8 90)), some (5, true), Q0⟩,
  ⟨some 8, .pick (.tmp 5) (.tmp 7) (.con (.bool false)), none, Q0⟩,
  ⟨some 2, .mv (.tmp 8), none, Q0⟩]
def c127_b : EC := (.seq (.reg 0 [⟨some 2, .mv (.con (.bool false)), none, Q0⟩] false (some [0]))
  (.seq (.reg 1 c127_r1 false (some [2]))
  .ret))
def c127 : EFn := ⟨1, 9, [.tmp 2], c127_b, none, true⟩
theorem c127_ok : cFn Tryz.prog Tryz.f127 = some c127.strip := by kernel_rfl
-- limbeck/limbeckref01.Digit
def c128_r1 : List EI := [⟨some 3, .mv (.tmp 0), none, Q0⟩,
  ⟨some 4, .bin .geq (.tmp 3) (.con (.int .u8 48)), none, Q0⟩,
  ⟨some 5, .mv (.tmp 4), none, Q0⟩,
  ⟨some 6, .mv (.tmp 0), some (5, true), Q0⟩,
  ⟨some 7, .bin .leq (.tmp 6) (.con (.int .u8 57)), some (5, true), Q0⟩,
  ⟨some 8, .pick (.tmp 5) (.tmp 7) (.con (.bool false)), none, Q0⟩,
  ⟨some 2, .mv (.tmp 8), none, Q0⟩]
def c128_b : EC := (.seq (.reg 0 [⟨some 2, .mv (.con (.bool false)), none, Q0⟩] false (some [0]))
  (.seq (.reg 1 c128_r1 false (some [2]))
  .ret))
def c128 : EFn := ⟨1, 9, [.tmp 2], c128_b, none, true⟩
theorem c128_ok : cFn Tryz.prog Tryz.f128 = some c128.strip := by kernel_rfl
-- limbeck/ty.nodes$1
def c129_b : EC := (.reg 0 [⟨some 3, .ld (some 5) (.tmp 1), none, Q0⟩,
  ⟨some 4, .mv (.tmp 0), none, Q0⟩,
  ⟨some 5, .call (.con (.fn 130 [] [])) [(.tmp 3), (.tmp 4)], none, Q0⟩] false (some []))
def c129 : EFn := ⟨2, 6, [], c129_b, none, false⟩
theorem c129_ok : cFn Tryz.prog Tryz.f129 = some c129.strip := by kernel_rfl
-- limbeck/ty.walk
def c130_l0_b : EC := (.seq (.reg 4 [⟨some 15, .bin .lss (.tmp 14) (.tmp 13), none, Q0⟩] false (some [1, 12, 13, 14, 15]))
  (.seq (.cond (.tmp 15) .skip (.exit 0))
  (.seq (.block 1 (.seq (.reg 5 [⟨some 16, .ixL 5 (.tmp 12) (.tmp 14), none, Q0⟩,
  ⟨some 17, .ld (some 5) (.tmp 16), none, Q0⟩,
  ⟨some 6, .new 34 [(.int .i64 0), (.int .i64 0), (.str ⟨#[]⟩), (.sl .null []), (.sl .null [])], none, Q0⟩,
  ⟨none, .st 5 (.tmp 6) (.tmp 17), none, Q0⟩] false (some [1, 6, 12, 13, 14]))
  (.seq (.reg 6 [⟨some 18, .ld (some 5) (.tmp 6), none, Q0⟩,
  ⟨some 19, .mv (.tmp 1), none, Q0⟩,
  ⟨some 20, .call (.con (.fn 130 [] [])) [(.tmp 18), (.tmp 19)], none, Q0⟩,
  ⟨some 21, .un .not (.tmp 20), none, Q0⟩] false (some [1, 12, 13, 14, 21]))
  (.cond (.tmp 21) (.seq (.reg 7 [⟨some 4, .mv (.con (.bool false)), none, Q0⟩] false (some [4]))
  .ret) .skip))))
  (.reg 8 [⟨some 22, .bin .add (.tmp 14) (.con (.int .i64 1)), none, Q0⟩,
  ⟨some 14, .mv (.tmp 22), none, Q0⟩] false (some [1, 12, 13, 14])))))
def c130_l0 : EC := .loop (some [1, 12, 13, 14]) c130_l0_b
def c130_b : EC := (.seq (.reg 0 [⟨some 2, .boxI 34 (.tmp 0), none, Q0⟩,
  ⟨some 4, .mv (.con (.bool false)), none, Q0⟩] false (some [1, 2]))
  (.seq (.seq (.reg 1 [⟨some 7, .mv (.tmp 1), none, Q0⟩,
  ⟨some 8, .ld (some 5) (.tmp 2), none, Q0⟩,
  ⟨some 9, .call (.tmp 7) [(.tmp 8)], none, Q0⟩,
  ⟨some 10, .un .not (.tmp 9), none, Q0⟩] false (some [1, 2, 10]))
  (.cond (.tmp 10) (.seq (.reg 2 [⟨some 4, .mv (.con (.bool false)), none, Q0⟩] false (some [4]))
  .ret) .skip))
  (.seq (.seq (.reg 3 [⟨some 11, .fA 4 (.tmp 2), none, Q0⟩,
  ⟨some 12, .ld none (.tmp 11), none, Q0⟩,
  ⟨some 13, .len false (.tmp 12), none, Q0⟩,
  ⟨some 14, .mv (.con (.int .i64 0)), none, Q0⟩] false (some [1, 12, 13, 14]))
  (.block 0 c130_l0))
  (.seq (.reg 9 [⟨some 4, .mv (.con (.bool true)), none, Q0⟩] false (some [4]))
  .ret))))
def c130 : EFn := ⟨2, 23, [.tmp 4], c130_b, none, true⟩
theorem c130_l0_step {E : Env} {fin : Kont (PV × St)} {st : List Fr} {ts : Tmps} {S : St} {n : Nat} : (lvl E (n + 1)).ev c130_l0 ts S (kont E fin st) = (lvl E (n + 1)).ev c130_l0_b (sel (some [1, 12, 13, 14]) ts) S (kont E fin (.again n c130_l0 :: st)) := rfl
theorem c130_l0_w {E : Env} {fin : Kont (PV × St)} {st : List Fw} {ts : Tmps} {S : St} : run E fin st c130_l0 ts S = run E fin (.again c130_l0 :: st) c130_l0_b (sel (some [1, 12, 13, 14]) ts) S := w_loop
theorem c130_l0_a {E : Env} {fin : Kont (PV × St)} {st : List Fw} {ts : Tmps} {S : St} : aft E fin (.again c130_l0 :: st) .normal ts S = run E fin st c130_l0 (sel (some [1, 12, 13, 14]) ts) S := a_again_s
theorem c130_ok : cFn Tryz.prog Tryz.f130 = some c130.strip := by kernel_rfl
-- limbeck/name.low
def c133_r1 : List EI := [⟨some 3, .mv (.tmp 0), none, Q0⟩,
  ⟨some 4, .bin .geq (.tmp 3) (.con (.int .i32 97)), none, Q0⟩,
  ⟨some 5, .mv (.tmp 4), none, Q0⟩,
  ⟨some 6, .mv (.tmp 0), some (5, true), Q0⟩,
  ⟨some 7, .bin .leq (.tmp 6) (.con (.int .i32 122)), some (5, true), Q0⟩,
  ⟨some 8, .pick (.tmp 5) (.tmp 7) (.con (.bool false)), none, Q0⟩,
  ⟨some 2, .mv (.tmp 8), none, Q0⟩]
def c133_b : EC := (.seq (.reg 0 [⟨some 2, .mv (.con (.bool false)), none, Q0⟩] false (some [0]))
  (.seq (.reg 1 c133_r1 false (some [2]))
  .ret))
def c133 : EFn := ⟨1, 9, [.tmp 2], c133_b, none, true⟩
theorem c133_ok : cFn Tryz.prog Tryz.f133 = some c133.strip := by kernel_rfl
-- limbeck/name.up
def c134_r1 : List EI := [⟨some 3, .mv (.tmp 0), none, Q0⟩,
  ⟨some 4, .bin .geq (.tmp 3) (.con (.int .i32 65)), none, Q0⟩,
  ⟨some 5, .mv (.tmp 4), none, Q0⟩,
  ⟨some 6, .mv (.tmp 0), some (5, true), Q0⟩,
  ⟨some 7, .bin .leq (.tmp 6) (.con (.int .i32 90)), some (5, true), Q0⟩,
  ⟨some 8, .pick (.tmp 5) (.tmp 7) (.con (.bool false)), none, Q0⟩,
  ⟨some 2, .mv (.tmp 8), none, Q0⟩]
def c134_b : EC := (.seq (.reg 0 [⟨some 2, .mv (.con (.bool false)), none, Q0⟩] false (some [0]))
  (.seq (.reg 1 c134_r1 false (some [2]))
  .ret))
def c134 : EFn := ⟨1, 9, [.tmp 2], c134_b, none, true⟩
theorem c134_ok : cFn Tryz.prog Tryz.f134 = some c134.strip := by kernel_rfl
-- limbeck/name.digit
def c135_r1 : List EI := [⟨some 3, .mv (.tmp 0), none, Q0⟩,
  ⟨some 4, .bin .geq (.tmp 3) (.con (.int .i32 48)), none, Q0⟩,
  ⟨some 5, .mv (.tmp 4), none, Q0⟩,
  ⟨some 6, .mv (.tmp 0), some (5, true), Q0⟩,
  ⟨some 7, .bin .leq (.tmp 6) (.con (.int .i32 57)), some (5, true), Q0⟩,
  ⟨some 8, .pick (.tmp 5) (.tmp 7) (.con (.bool false)), none, Q0⟩,
  ⟨some 2, .mv (.tmp 8), none, Q0⟩]
def c135_b : EC := (.seq (.reg 0 [⟨some 2, .mv (.con (.bool false)), none, Q0⟩] false (some [0]))
  (.seq (.reg 1 c135_r1 false (some [2]))
  .ret))
def c135 : EFn := ⟨1, 9, [.tmp 2], c135_b, none, true⟩
theorem c135_ok : cFn Tryz.prog Tryz.f135 = some c135.strip := by kernel_rfl
end Go.PE
