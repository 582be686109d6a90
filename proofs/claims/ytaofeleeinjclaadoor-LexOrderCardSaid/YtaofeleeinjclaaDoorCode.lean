/-
  The functions of this seat, as the evaluator's code (printed by a program out of the translation), and that each is what the compiler makes of it. No conditions.
-/
import Derived.Test.YtaofeleeinjclaaDoorPE21
import Derived.Test.YtaofeleeinjclaaDoorProg
import Derived.KernelRfl
namespace Go.PE
open Go Go.Proofs
set_option linter.unusedVariables false
set_option maxRecDepth 100000
-- limbeck/limbecklaw03.LexOrder
def c3_r1 : List EI := [⟨some 15, .mv (.tmp 0), none, Q0⟩,
  ⟨some 16, .len true (.tmp 15), none, Q0⟩,
  ⟨some 17, .bin .gtr (.tmp 16) (.con (.int .i64 2000)), none, Q0⟩,
  ⟨some 18, .mv (.tmp 17), none, Q0⟩,
  ⟨some 19, .mv (.tmp 1), some (18, false), Q0⟩,
  ⟨some 20, .len true (.tmp 19), some (18, false), Q0⟩,
  ⟨some 21, .bin .gtr (.tmp 20) (.con (.int .i64 2000)), some (18, false), Q0⟩,
  ⟨some 22, .pick (.tmp 18) (.con (.bool true)) (.tmp 21), none, Q0⟩]
def c3_r5 : List EI := [⟨some 34, .mv (.tmp 6), none, Q0⟩,
  ⟨some 35, .eqI true (.tmp 34) (.con .nilifc), none, Q0⟩,
  ⟨some 36, .mv (.tmp 35), none, Q0⟩,
  ⟨some 37, .mv (.tmp 8), some (36, false), Q0⟩,
  ⟨some 38, .eqI true (.tmp 37) (.con .nilifc), some (36, false), Q0⟩,
  ⟨some 39, .pick (.tmp 36) (.con (.bool true)) (.tmp 38), none, Q0⟩]
def c3_r13 : List EI := [⟨some 67, .mv (.tmp 11), none, Q0⟩,
  ⟨some 68, .eqI true (.tmp 67) (.con .nilifc), none, Q0⟩,
  ⟨some 69, .mv (.tmp 68), none, Q0⟩,
  ⟨some 70, .mv (.tmp 5), some (69, false), Q0⟩,
  ⟨some 71, .len false (.tmp 70), some (69, false), Q0⟩,
  ⟨some 72, .bin .eql (.tmp 71) (.con (.int .i64 0)), some (69, false), Q0⟩,
  ⟨some 73, .pick (.tmp 69) (.con (.bool true)) (.tmp 72), none, Q0⟩,
  ⟨some 74, .mv (.tmp 73), none, Q0⟩,
  ⟨some 75, .mv (.tmp 10), some (74, false), Q0⟩,
  ⟨some 76, .len false (.tmp 75), some (74, false), Q0⟩,
  ⟨some 77, .mv (.tmp 5), some (74, false), Q0⟩,
  ⟨some 78, .len false (.tmp 77), some (74, false), Q0⟩,
  ⟨some 79, .bin .sub (.tmp 78) (.con (.int .i64 1)), some (74, false), Q0⟩,
  ⟨some 80, .mv (.tmp 7), some (74, false), Q0⟩,
  ⟨some 81, .len false (.tmp 80), some (74, false), Q0⟩,
  ⟨some 82, .bin .add (.tmp 79) (.tmp 81), some (74, false), Q0⟩,
  ⟨some 83, .bin .neq (.tmp 76) (.tmp 82), some (74, false), Q0⟩,
  ⟨some 84, .pick (.tmp 74) (.con (.bool true)) (.tmp 83), none, Q0⟩,
  ⟨some 85, .mv (.tmp 84), none, Q0⟩,
  ⟨some 86, .mv (.tmp 5), some (85, false), Q0⟩,
  ⟨some 87, .mv (.tmp 5), some (85, false), Q0⟩,
  ⟨some 88, .len false (.tmp 87), some (85, false), Q0⟩,
  ⟨some 89, .bin .sub (.tmp 88) (.con (.int .i64 1)), some (85, false), Q0⟩,
  ⟨some 90, .ixL 4 (.tmp 86) (.tmp 89), some (85, false), Q0⟩,
  ⟨some 91, .fA 3 (.tmp 90), some (85, false), Q0⟩,
  ⟨some 92, .ld none (.tmp 91), some (85, false), Q0⟩,
  ⟨some 93, .mv (.tmp 0), some (85, false), Q0⟩,
  ⟨some 94, .len true (.tmp 93), some (85, false), Q0⟩,
  ⟨some 95, .bin .neq (.tmp 92) (.tmp 94), some (85, false), Q0⟩,
  ⟨some 96, .pick (.tmp 85) (.con (.bool true)) (.tmp 95), none, Q0⟩]
def c3_r24 : List EI := [⟨some 127, .fA 0 (.tmp 14), none, ⟨.no, false⟩⟩,
  ⟨some 128, .ld none (.tmp 127), none, ⟨.still, false⟩⟩,
  ⟨some 129, .mv (.tmp 7), none, ⟨.no, false⟩⟩,
  ⟨some 130, .mv (.tmp 13), none, Q0⟩,
  ⟨some 131, .ixL 4 (.tmp 129) (.tmp 130), none, Q0⟩,
  ⟨some 132, .fA 0 (.tmp 131), none, Q0⟩,
  ⟨some 133, .ld none (.tmp 132), none, Q1⟩,
  ⟨some 134, .bin .neq (.tmp 128) (.tmp 133), none, Q0⟩,
  ⟨some 135, .mv (.tmp 134), none, Q0⟩,
  ⟨some 136, .fA 1 (.tmp 14), some (135, false), ⟨.no, false⟩⟩,
  ⟨some 137, .ld none (.tmp 136), some (135, false), ⟨.still, false⟩⟩,
  ⟨some 138, .mv (.tmp 7), some (135, false), ⟨.no, false⟩⟩,
  ⟨some 139, .mv (.tmp 13), some (135, false), Q0⟩,
  ⟨some 140, .ixL 4 (.tmp 138) (.tmp 139), some (135, false), Q0⟩,
  ⟨some 141, .fA 1 (.tmp 140), some (135, false), Q0⟩,
  ⟨some 142, .ld none (.tmp 141), some (135, false), Q1⟩,
  ⟨some 143, .bin .neq (.tmp 137) (.tmp 142), some (135, false), Q0⟩,
  ⟨some 144, .pick (.tmp 135) (.con (.bool true)) (.tmp 143), none, Q0⟩,
  ⟨some 145, .mv (.tmp 144), none, Q0⟩,
  ⟨some 146, .fA 2 (.tmp 14), some (145, false), ⟨.no, false⟩⟩,
  ⟨some 147, .ld none (.tmp 146), some (145, false), ⟨.still, false⟩⟩,
  ⟨some 148, .mv (.tmp 7), some (145, false), ⟨.no, false⟩⟩,
  ⟨some 149, .mv (.tmp 13), some (145, false), Q0⟩,
  ⟨some 150, .ixL 4 (.tmp 148) (.tmp 149), some (145, false), Q0⟩,
  ⟨some 151, .fA 2 (.tmp 150), some (145, false), Q0⟩,
  ⟨some 152, .ld none (.tmp 151), some (145, false), Q1⟩,
  ⟨some 153, .bin .neq (.tmp 147) (.tmp 152), some (145, false), Q0⟩,
  ⟨some 154, .pick (.tmp 145) (.con (.bool true)) (.tmp 153), none, Q0⟩,
  ⟨some 155, .mv (.tmp 154), none, Q0⟩,
  ⟨some 156, .fA 3 (.tmp 14), some (155, false), ⟨.no, false⟩⟩,
  ⟨some 157, .ld none (.tmp 156), some (155, false), ⟨.still, false⟩⟩,
  ⟨some 158, .mv (.tmp 7), some (155, false), ⟨.no, false⟩⟩,
  ⟨some 159, .mv (.tmp 13), some (155, false), ⟨.no, false⟩⟩,
  ⟨some 160, .ixL 4 (.tmp 158) (.tmp 159), some (155, false), ⟨.no, false⟩⟩,
  ⟨some 161, .fA 3 (.tmp 160), some (155, false), ⟨.no, false⟩⟩,
  ⟨some 162, .ld none (.tmp 161), some (155, false), ⟨.still, false⟩⟩,
  ⟨some 163, .mv (.tmp 0), some (155, false), Q0⟩,
  ⟨some 164, .len true (.tmp 163), some (155, false), Q0⟩,
  ⟨some 165, .bin .add (.tmp 162) (.tmp 164), some (155, false), Q0⟩,
  ⟨some 166, .bin .add (.tmp 165) (.con (.int .i64 1)), some (155, false), Q0⟩,
  ⟨some 167, .bin .neq (.tmp 157) (.tmp 166), some (155, false), Q0⟩,
  ⟨some 168, .pick (.tmp 155) (.con (.bool true)) (.tmp 167), none, Q0⟩]
def c3_l0_b : EC := (.seq (.seq (.reg 8 [⟨some 41, .mv (.tmp 9), none, Q0⟩,
  ⟨some 42, .mv (.tmp 5), none, Q0⟩,
  ⟨some 43, .len false (.tmp 42), none, Q0⟩,
  ⟨some 44, .bin .lss (.tmp 41) (.tmp 43), none, Q0⟩] false (some [0, 1, 5, 7, 9, 44]))
  (.cond (.tmp 44) .skip (.exit 0)))
  (.seq (.block 1 (.seq (.reg 10 [⟨some 47, .mv (.tmp 5), none, ⟨.no, false⟩⟩,
  ⟨some 48, .mv (.tmp 9), none, ⟨.no, false⟩⟩,
  ⟨some 49, .bin .sub (.tmp 48) (.con (.int .i64 1)), none, ⟨.no, false⟩⟩,
  ⟨some 50, .ixL 4 (.tmp 47) (.tmp 49), none, ⟨.no, false⟩⟩,
  ⟨some 51, .fA 3 (.tmp 50), none, ⟨.no, false⟩⟩,
  ⟨some 52, .ld none (.tmp 51), none, ⟨.still, false⟩⟩,
  ⟨some 53, .mv (.tmp 5), none, ⟨.no, false⟩⟩,
  ⟨some 54, .mv (.tmp 9), none, Q0⟩,
  ⟨some 55, .ixL 4 (.tmp 53) (.tmp 54), none, Q0⟩,
  ⟨some 56, .fA 3 (.tmp 55), none, Q0⟩,
  ⟨some 57, .ld none (.tmp 56), none, Q1⟩,
  ⟨some 58, .bin .geq (.tmp 52) (.tmp 57), none, Q0⟩] true (some [0, 1, 5, 7, 9, 58]))
  (.cond (.tmp 58) (.seq (.reg 11 [⟨some 4, .mv (.con (.bool false)), none, Q0⟩] false (some [4]))
  .ret) .skip)))
  (.reg 9 [⟨some 45, .mv (.tmp 9), none, Q0⟩,
  ⟨some 46, .bin .add (.tmp 45) (.con (.int .i64 1)), none, Q0⟩,
  ⟨some 9, .mv (.tmp 46), none, Q0⟩] false (some [0, 1, 5, 7, 9]))))
def c3_l0 : EC := .loop (some [0, 1, 5, 7, 9]) c3_l0_b
def c3_l1_b : EC := (.seq (.seq (.reg 16 [⟨some 97, .mv (.tmp 12), none, Q0⟩,
  ⟨some 98, .bin .add (.tmp 97) (.con (.int .i64 1)), none, Q0⟩,
  ⟨some 99, .mv (.tmp 5), none, Q0⟩,
  ⟨some 100, .len false (.tmp 99), none, Q0⟩,
  ⟨some 101, .bin .lss (.tmp 98) (.tmp 100), none, Q0⟩] false (some [0, 5, 7, 10, 12, 101]))
  (.cond (.tmp 101) .skip (.exit 2)))
  (.seq (.block 3 (.seq (.reg 18 [⟨some 104, .mv (.tmp 10), none, ⟨.no, false⟩⟩,
  ⟨some 105, .mv (.tmp 12), none, ⟨.no, false⟩⟩,
  ⟨some 106, .ixL 4 (.tmp 104) (.tmp 105), none, ⟨.no, false⟩⟩,
  ⟨some 107, .ld (some 4) (.tmp 106), none, ⟨.still, false⟩⟩,
  ⟨some 108, .mv (.tmp 5), none, ⟨.no, false⟩⟩,
  ⟨some 109, .mv (.tmp 12), none, Q0⟩,
  ⟨some 110, .ixL 4 (.tmp 108) (.tmp 109), none, Q0⟩,
  ⟨some 111, .ld (some 4) (.tmp 110), none, Q1⟩,
  ⟨some 112, .eqG true 4 [(0, 0), (1, 0), (2, 1), (3, 0)] (.tmp 107) (.tmp 111), none, Q0⟩] true (some [0, 5, 7, 10, 12, 112]))
  (.cond (.tmp 112) (.seq (.reg 19 [⟨some 4, .mv (.con (.bool false)), none, Q0⟩] false (some [4]))
  .ret) .skip)))
  (.reg 17 [⟨some 102, .mv (.tmp 12), none, Q0⟩,
  ⟨some 103, .bin .add (.tmp 102) (.con (.int .i64 1)), none, Q0⟩,
  ⟨some 12, .mv (.tmp 103), none, Q0⟩] false (some [0, 5, 7, 10, 12]))))
def c3_l1 : EC := .loop (some [0, 5, 7, 10, 12]) c3_l1_b
def c3_l2_b : EC := (.seq (.seq (.reg 21 [⟨some 113, .mv (.tmp 13), none, Q0⟩,
  ⟨some 114, .mv (.tmp 7), none, Q0⟩,
  ⟨some 115, .len false (.tmp 114), none, Q0⟩,
  ⟨some 116, .bin .lss (.tmp 113) (.tmp 115), none, Q0⟩] false (some [0, 5, 7, 10, 13, 116]))
  (.cond (.tmp 116) .skip (.exit 4)))
  (.seq (.block 5 (.seq (.reg 23 [⟨some 119, .mv (.tmp 10), none, Q0⟩,
  ⟨some 120, .mv (.tmp 5), none, Q0⟩,
  ⟨some 121, .len false (.tmp 120), none, Q0⟩,
  ⟨some 122, .bin .sub (.tmp 121) (.con (.int .i64 1)), none, Q0⟩,
  ⟨some 123, .mv (.tmp 13), none, Q0⟩,
  ⟨some 124, .bin .add (.tmp 122) (.tmp 123), none, Q0⟩,
  ⟨some 125, .ixL 4 (.tmp 119) (.tmp 124), none, Q0⟩,
  ⟨some 126, .ld (some 4) (.tmp 125), none, Q0⟩,
  ⟨some 14, .new 29 [(.int .i64 0), (.int .i64 0), (.str ⟨#[]⟩), (.int .i64 0)], none, Q0⟩,
  ⟨none, .st 4 (.tmp 14) (.tmp 126), none, Q0⟩] false (some [0, 5, 7, 10, 13, 14]))
  (.seq (.reg 24 c3_r24 true (some [0, 5, 7, 10, 13, 168]))
  (.cond (.tmp 168) (.seq (.reg 25 [⟨some 4, .mv (.con (.bool false)), none, Q0⟩] false (some [4]))
  .ret) .skip))))
  (.reg 22 [⟨some 117, .mv (.tmp 13), none, Q0⟩,
  ⟨some 118, .bin .add (.tmp 117) (.con (.int .i64 1)), none, Q0⟩,
  ⟨some 13, .mv (.tmp 118), none, Q0⟩] false (some [0, 5, 7, 10, 13]))))
def c3_l2 : EC := .loop (some [0, 5, 7, 10, 13]) c3_l2_b
def c3_b : EC := (.seq (.reg 0 [⟨some 4, .mv (.con (.bool false)), none, Q0⟩] false (some [0, 1]))
  (.seq (.seq (.reg 1 c3_r1 false (some [0, 1, 22]))
  (.cond (.tmp 22) (.seq (.reg 2 [⟨some 23, .call (.con (.fn 8 [] [])) [], none, Q0⟩,
  ⟨some 4, .mv (.tmp 23), none, Q0⟩] false (some [4]))
  .ret) .skip))
  (.seq (.reg 3 [⟨some 25, .mv (.tmp 0), none, Q0⟩,
  ⟨some 26, .call (.con (.fn 9 [] [])) [(.tmp 25)], none, Q0⟩,
  ⟨some 24, .mv (.tmp 26), none, Q0⟩,
  ⟨some 27, .ext (.tmp 24) 0, none, Q0⟩,
  ⟨some 28, .ext (.tmp 24) 1, none, Q0⟩,
  ⟨some 5, .mv (.tmp 27), none, Q0⟩,
  ⟨some 6, .mv (.tmp 28), none, Q0⟩] false (some [0, 1, 5, 6]))
  (.seq (.reg 4 [⟨some 30, .mv (.tmp 1), none, Q0⟩,
  ⟨some 31, .call (.con (.fn 9 [] [])) [(.tmp 30)], none, Q0⟩,
  ⟨some 29, .mv (.tmp 31), none, Q0⟩,
  ⟨some 32, .ext (.tmp 29) 0, none, Q0⟩,
  ⟨some 33, .ext (.tmp 29) 1, none, Q0⟩,
  ⟨some 7, .mv (.tmp 32), none, Q0⟩,
  ⟨some 8, .mv (.tmp 33), none, Q0⟩] false (some [0, 1, 5, 6, 7, 8]))
  (.seq (.seq (.reg 5 c3_r5 false (some [0, 1, 5, 7, 39]))
  (.cond (.tmp 39) (.seq (.reg 6 [⟨some 40, .call (.con (.fn 8 [] [])) [], none, Q0⟩,
  ⟨some 4, .mv (.tmp 40), none, Q0⟩] false (some [4]))
  .ret) .skip))
  (.seq (.seq (.reg 7 [⟨some 9, .mv (.con (.int .i64 1)), none, Q0⟩] false (some [0, 1, 5, 7, 9]))
  (.block 0 c3_l0))
  (.seq (.reg 12 [⟨some 60, .mv (.tmp 0), none, Q0⟩,
  ⟨some 61, .bin .add (.tmp 60) (.con (.str ⟨#[10]⟩)), none, Q0⟩,
  ⟨some 62, .mv (.tmp 1), none, Q0⟩,
  ⟨some 63, .bin .add (.tmp 61) (.tmp 62), none, Q0⟩,
  ⟨some 64, .call (.con (.fn 9 [] [])) [(.tmp 63)], none, Q0⟩,
  ⟨some 59, .mv (.tmp 64), none, Q0⟩,
  ⟨some 65, .ext (.tmp 59) 0, none, Q0⟩,
  ⟨some 66, .ext (.tmp 59) 1, none, Q0⟩,
  ⟨some 10, .mv (.tmp 65), none, Q0⟩,
  ⟨some 11, .mv (.tmp 66), none, Q0⟩] false (some [0, 5, 7, 10, 11]))
  (.seq (.seq (.reg 13 c3_r13 false (some [0, 5, 7, 10, 96]))
  (.cond (.tmp 96) (.seq (.reg 14 [⟨some 4, .mv (.con (.bool false)), none, Q0⟩] false (some [4]))
  .ret) .skip))
  (.seq (.seq (.reg 15 [⟨some 12, .mv (.con (.int .i64 0)), none, Q0⟩] false (some [0, 5, 7, 10, 12]))
  (.block 2 c3_l1))
  (.seq (.seq (.reg 20 [⟨some 13, .mv (.con (.int .i64 0)), none, Q0⟩] false (some [0, 5, 7, 10, 13]))
  (.block 4 c3_l2))
  (.seq (.reg 26 [⟨some 169, .call (.con (.fn 8 [] [])) [], none, Q0⟩,
  ⟨some 4, .mv (.tmp 169), none, Q0⟩] false (some [4]))
  .ret)))))))))))
def c3 : EFn := ⟨2, 170, [.tmp 4], c3_b, none, true⟩
theorem c3_l0_step {E : Env} {fin : Kont (PV × St)} {st : List Fr} {ts : Tmps} {S : St} {n : Nat} : (lvl E (n + 1)).ev c3_l0 ts S (kont E fin st) = (lvl E (n + 1)).ev c3_l0_b (sel (some [0, 1, 5, 7, 9]) ts) S (kont E fin (.again n c3_l0 :: st)) := rfl
theorem c3_l0_w {E : Env} {fin : Kont (PV × St)} {st : List Fw} {ts : Tmps} {S : St} : run E fin st c3_l0 ts S = run E fin (.again c3_l0 :: st) c3_l0_b (sel (some [0, 1, 5, 7, 9]) ts) S := w_loop
theorem c3_l0_a {E : Env} {fin : Kont (PV × St)} {st : List Fw} {ts : Tmps} {S : St} : aft E fin (.again c3_l0 :: st) .normal ts S = run E fin st c3_l0 (sel (some [0, 1, 5, 7, 9]) ts) S := a_again_s
theorem c3_l1_step {E : Env} {fin : Kont (PV × St)} {st : List Fr} {ts : Tmps} {S : St} {n : Nat} : (lvl E (n + 1)).ev c3_l1 ts S (kont E fin st) = (lvl E (n + 1)).ev c3_l1_b (sel (some [0, 5, 7, 10, 12]) ts) S (kont E fin (.again n c3_l1 :: st)) := rfl
theorem c3_l1_w {E : Env} {fin : Kont (PV × St)} {st : List Fw} {ts : Tmps} {S : St} : run E fin st c3_l1 ts S = run E fin (.again c3_l1 :: st) c3_l1_b (sel (some [0, 5, 7, 10, 12]) ts) S := w_loop
theorem c3_l1_a {E : Env} {fin : Kont (PV × St)} {st : List Fw} {ts : Tmps} {S : St} : aft E fin (.again c3_l1 :: st) .normal ts S = run E fin st c3_l1 (sel (some [0, 5, 7, 10, 12]) ts) S := a_again_s
theorem c3_l2_step {E : Env} {fin : Kont (PV × St)} {st : List Fr} {ts : Tmps} {S : St} {n : Nat} : (lvl E (n + 1)).ev c3_l2 ts S (kont E fin st) = (lvl E (n + 1)).ev c3_l2_b (sel (some [0, 5, 7, 10, 13]) ts) S (kont E fin (.again n c3_l2 :: st)) := rfl
theorem c3_l2_w {E : Env} {fin : Kont (PV × St)} {st : List Fw} {ts : Tmps} {S : St} : run E fin st c3_l2 ts S = run E fin (.again c3_l2 :: st) c3_l2_b (sel (some [0, 5, 7, 10, 13]) ts) S := w_loop
theorem c3_l2_a {E : Env} {fin : Kont (PV × St)} {st : List Fw} {ts : Tmps} {S : St} : aft E fin (.again c3_l2 :: st) .normal ts S = run E fin st c3_l2 (sel (some [0, 5, 7, 10, 13]) ts) S := a_again_s
theorem c3_ok : cFn Tryd.prog Tryd.f3 = some c3.strip := by kernel_rfl
-- limbeck/limbecklaw03.awake
def c8_r2 : List EI := [⟨some 7, .mv (.tmp 2), none, Q0⟩,
  ⟨some 8, .eqI false (.tmp 7) (.con .nilifc), none, Q0⟩,
  ⟨some 9, .mv (.tmp 8), none, Q0⟩,
  ⟨some 10, .mv (.tmp 1), some (9, true), Q0⟩,
  ⟨some 11, .len false (.tmp 10), some (9, true), Q0⟩,
  ⟨some 12, .bin .eql (.tmp 11) (.con (.int .i64 5)), some (9, true), Q0⟩,
  ⟨some 13, .pick (.tmp 9) (.tmp 12) (.con (.bool false)), none, Q0⟩,
  ⟨some 14, .mv (.tmp 13), none, Q0⟩,
  ⟨some 15, .mv (.tmp 1), some (14, true), Q0⟩,
  ⟨some 16, .ixL 4 (.tmp 15) (.con (.int .i64 0)), some (14, true), Q0⟩,
  ⟨some 17, .fA 2 (.tmp 16), some (14, true), Q0⟩,
  ⟨some 18, .ld none (.tmp 17), some (14, true), Q0⟩,
  ⟨some 19, .bin .eql (.tmp 18) (.con (.str ⟨#[97]⟩)), some (14, true), Q0⟩,
  ⟨some 20, .pick (.tmp 14) (.tmp 19) (.con (.bool false)), none, Q0⟩,
  ⟨some 21, .mv (.tmp 20), none, Q0⟩,
  ⟨some 22, .mv (.tmp 1), some (21, true), Q0⟩,
  ⟨some 23, .ixL 4 (.tmp 22) (.con (.int .i64 1)), some (21, true), Q0⟩,
  ⟨some 24, .fA 2 (.tmp 23), some (21, true), Q0⟩,
  ⟨some 25, .ld none (.tmp 24), some (21, true), Q0⟩,
  ⟨some 26, .bin .eql (.tmp 25) (.con (.str ⟨#[60, 58]⟩)), some (21, true), Q0⟩,
  ⟨some 27, .pick (.tmp 21) (.tmp 26) (.con (.bool false)), none, Q0⟩,
  ⟨some 28, .mv (.tmp 27), none, Q0⟩,
  ⟨some 29, .mv (.tmp 1), some (28, true), Q0⟩,
  ⟨some 30, .ixL 4 (.tmp 29) (.con (.int .i64 2)), some (28, true), Q0⟩,
  ⟨some 31, .fA 0 (.tmp 30), some (28, true), Q0⟩,
  ⟨some 32, .ld none (.tmp 31), some (28, true), Q0⟩,
  ⟨some 33, .bin .eql (.tmp 32) (.con (.int .i64 4)), some (28, true), Q0⟩,
  ⟨some 34, .pick (.tmp 28) (.tmp 33) (.con (.bool false)), none, Q0⟩,
  ⟨some 35, .mv (.tmp 34), none, Q0⟩,
  ⟨some 36, .mv (.tmp 1), some (35, true), Q0⟩,
  ⟨some 37, .ixL 4 (.tmp 36) (.con (.int .i64 3)), some (35, true), Q0⟩,
  ⟨some 38, .fA 1 (.tmp 37), some (35, true), Q0⟩,
  ⟨some 39, .ld none (.tmp 38), some (35, true), Q0⟩,
  ⟨some 40, .bin .eql (.tmp 39) (.con (.int .i64 7)), some (35, true), Q0⟩,
  ⟨some 41, .pick (.tmp 35) (.tmp 40) (.con (.bool false)), none, Q0⟩,
  ⟨some 42, .mv (.tmp 41), none, Q0⟩,
  ⟨some 43, .call (.con (.fn 26 [] [])) [(.con (.str ⟨#[97, 10]⟩))], some (42, true), Q0⟩,
  ⟨some 44, .bin .eql (.tmp 43) (.con (.str ⟨#[34, 97, 92, 110, 34]⟩)), some (42, true), Q0⟩,
  ⟨some 45, .pick (.tmp 42) (.tmp 44) (.con (.bool false)), none, Q0⟩,
  ⟨some 0, .mv (.tmp 45), none, Q0⟩]
def c8_b : EC := (.seq (.reg 0 [⟨some 0, .mv (.con (.bool false)), none, Q0⟩] false (some []))
  (.seq (.reg 1 [⟨some 4, .call (.con (.fn 9 [] [])) [(.con (.str ⟨#[97, 60, 58, 88, 32, 55]⟩))], none, Q0⟩,
  ⟨some 3, .mv (.tmp 4), none, Q0⟩,
  ⟨some 5, .ext (.tmp 3) 0, none, Q0⟩,
  ⟨some 6, .ext (.tmp 3) 1, none, Q0⟩,
  ⟨some 1, .mv (.tmp 5), none, Q0⟩,
  ⟨some 2, .mv (.tmp 6), none, Q0⟩] false (some [1, 2]))
  (.seq (.reg 2 c8_r2 false (some [0]))
  .ret)))
def c8 : EFn := ⟨0, 46, [.tmp 0], c8_b, none, true⟩
theorem c8_ok : cFn Tryd.prog Tryd.f8 = some c8.strip := by kernel_rfl
-- limbeck/lex.All
def c9_l0_b : EC := (.seq (.seq (.reg 4 [⟨some 12, .mv (.tmp 4), none, Q0⟩,
  ⟨some 13, .call (.con (.fn 28 [] [])) [(.tmp 12)], none, Q0⟩] false (some [0, 4, 13]))
  (.cond (.tmp 13) .skip (.exit 0)))
  (.block 1 .skip))
def c9_l0 : EC := .loop (some [0, 4]) c9_l0_b
def c9_b : EC := (.seq (.reg 0 [⟨some 2, .mv (.con (.sl .null [])), none, Q0⟩,
  ⟨some 3, .mv (.con .nilifc), none, Q0⟩] false (some [0]))
  (.seq (.seq (.reg 1 [⟨some 5, .mv (.tmp 0), none, Q0⟩,
  ⟨some 6, .len true (.tmp 5), none, Q0⟩,
  ⟨some 7, .bin .gtr (.tmp 6) (.con (.int .i64 65536)), none, Q0⟩] false (some [0, 7]))
  (.cond (.tmp 7) (.seq (.reg 2 [⟨some 8, .call (.con (.fn 27 [] [])) [(.con (.int .i64 6)), (.con (.int .i64 0))], none, Q0⟩,
  ⟨some 2, .mv (.con (.sl .null [])), none, Q0⟩,
  ⟨some 3, .mv (.tmp 8), none, Q0⟩] false (some [2, 3]))
  .ret) .skip))
  (.seq (.reg 3 [⟨some 9, .mv (.tmp 0), none, Q0⟩,
  ⟨some 10, .build [(.str ⟨#[]⟩), (.int .i64 0), (.sl .null []), .nilifc] [(0, 1, (.tmp 9))], none, Q0⟩,
  ⟨some 11, .box 57 (.tmp 10), none, Q0⟩,
  ⟨some 4, .mv (.tmp 11), none, Q0⟩] false (some [0, 4]))
  (.seq (.block 0 c9_l0)
  (.seq (.seq (.reg 5 [⟨some 14, .mv (.tmp 4), none, Q0⟩,
  ⟨some 15, .nck (.tmp 14), none, Q0⟩,
  ⟨some 16, .fA 3 (.tmp 15), none, Q0⟩,
  ⟨some 17, .ld none (.tmp 16), none, Q0⟩,
  ⟨some 18, .eqI true (.tmp 17) (.con .nilifc), none, Q0⟩] false (some [0, 4, 18]))
  (.cond (.tmp 18) (.seq (.reg 6 [⟨some 19, .mv (.tmp 4), none, ⟨.no, false⟩⟩,
  ⟨some 20, .nck (.tmp 19), none, ⟨.no, false⟩⟩,
  ⟨some 21, .fA 3 (.tmp 20), none, ⟨.no, false⟩⟩,
  ⟨some 22, .ld none (.tmp 21), none, ⟨.no, false⟩⟩,
  ⟨some 2, .mv (.con (.sl .null [])), none, Q0⟩,
  ⟨some 3, .mv (.tmp 22), none, Q0⟩] true (some [2, 3]))
  .ret) .skip))
  (.seq (.reg 7 [⟨some 23, .mv (.tmp 4), none, Q0⟩,
  ⟨some 24, .nck (.tmp 23), none, Q0⟩,
  ⟨some 25, .fA 2 (.tmp 24), none, Q0⟩,
  ⟨some 26, .ld none (.tmp 25), none, Q0⟩,
  ⟨some 27, .mv (.tmp 0), none, Q0⟩,
  ⟨some 28, .len true (.tmp 27), none, Q0⟩,
  ⟨some 29, .build [(.int .i64 0), (.int .i64 0), (.str ⟨#[]⟩), (.int .i64 0)] [(0, 1, (.con (.int .i64 0))), (3, 1, (.tmp 28))], none, Q0⟩,
  ⟨some 30, .rows 1 4 [(.int .i64 0), (.int .i64 0), (.str ⟨#[]⟩), (.int .i64 0)] [(0, (.tmp 29))], none, Q0⟩,
  ⟨some 31, .app 29 4 40 (.tmp 26) (.tmp 30), none, Q0⟩,
  ⟨some 2, .mv (.tmp 31), none, Q0⟩,
  ⟨some 3, .mv (.con .nilifc), none, Q0⟩] false (some [2, 3]))
  .ret))))))
def c9 : EFn := ⟨1, 32, [.tmp 2, .tmp 3], c9_b, none, true⟩
theorem c9_l0_step {E : Env} {fin : Kont (PV × St)} {st : List Fr} {ts : Tmps} {S : St} {n : Nat} : (lvl E (n + 1)).ev c9_l0 ts S (kont E fin st) = (lvl E (n + 1)).ev c9_l0_b (sel (some [0, 4]) ts) S (kont E fin (.again n c9_l0 :: st)) := rfl
theorem c9_l0_w {E : Env} {fin : Kont (PV × St)} {st : List Fw} {ts : Tmps} {S : St} : run E fin st c9_l0 ts S = run E fin (.again c9_l0 :: st) c9_l0_b (sel (some [0, 4]) ts) S := w_loop
theorem c9_l0_a {E : Env} {fin : Kont (PV × St)} {st : List Fw} {ts : Tmps} {S : St} : aft E fin (.again c9_l0 :: st) .normal ts S = run E fin st c9_l0 (sel (some [0, 4]) ts) S := a_again_s
theorem c9_ok : cFn Tryd.prog Tryd.f9 = some c9.strip := by kernel_rfl
-- limbeck/lex.Quote
def c26_r7 : List EI := [⟨some 17, .mv (.tmp 5), none, Q0⟩,
  ⟨some 18, .bin .eql (.tmp 17) (.con (.int .u8 34)), none, Q0⟩,
  ⟨some 19, .mv (.tmp 18), none, Q0⟩,
  ⟨some 20, .mv (.tmp 5), some (19, false), Q0⟩,
  ⟨some 21, .bin .eql (.tmp 20) (.con (.int .u8 92)), some (19, false), Q0⟩,
  ⟨some 22, .pick (.tmp 19) (.con (.bool true)) (.tmp 21), none, Q0⟩,
  ⟨some 16, .mv (.tmp 22), none, Q0⟩]
def c26_r12 : List EI := [⟨some 31, .mv (.tmp 5), none, Q0⟩,
  ⟨some 32, .bin .lss (.tmp 31) (.con (.int .u8 32)), none, Q0⟩,
  ⟨some 33, .mv (.tmp 32), none, Q0⟩,
  ⟨some 34, .mv (.tmp 5), some (33, false), Q0⟩,
  ⟨some 35, .bin .gtr (.tmp 34) (.con (.int .u8 126)), some (33, false), Q0⟩,
  ⟨some 36, .pick (.tmp 33) (.con (.bool true)) (.tmp 35), none, Q0⟩,
  ⟨some 30, .mv (.tmp 36), none, Q0⟩]
def c26_l0_b : EC := (.seq (.reg 4 [⟨some 11, .bin .lss (.tmp 10) (.tmp 9), none, Q0⟩] false (some [3, 8, 9, 10, 11]))
  (.seq (.cond (.tmp 11) .skip (.exit 0))
  (.seq (.block 1 (.seq (.reg 5 [⟨some 12, .ixL 1 (.tmp 8) (.tmp 10), none, Q0⟩,
  ⟨some 13, .ld none (.tmp 12), none, Q0⟩,
  ⟨some 5, .mv (.tmp 13), none, Q0⟩] false (some [3, 5, 8, 9, 10]))
  (.block 2 (.seq (.reg 7 c26_r7 false (some [3, 5, 8, 9, 10, 16]))
  (.cond (.tmp 16) (.seq (.reg 8 [⟨some 23, .call (.con (.fn 39 [] [])) [(.tmp 3), (.con (.int .u8 92))], none, Q0⟩] false (some [3, 5, 8, 9, 10]))
  (.reg 9 [⟨some 24, .mv (.tmp 5), none, Q0⟩,
  ⟨some 25, .call (.con (.fn 39 [] [])) [(.tmp 3), (.tmp 24)], none, Q0⟩] false (some [3, 8, 9, 10]))) (.seq (.reg 10 [⟨some 27, .mv (.tmp 5), none, Q0⟩,
  ⟨some 28, .bin .eql (.tmp 27) (.con (.int .u8 10)), none, Q0⟩,
  ⟨some 26, .mv (.tmp 28), none, Q0⟩] false (some [3, 5, 8, 9, 10, 26]))
  (.cond (.tmp 26) (.reg 11 [⟨some 29, .call (.con (.fn 35 [] [])) [(.tmp 3), (.con (.str ⟨#[92, 110]⟩))], none, Q0⟩] false (some [3, 8, 9, 10])) (.seq (.reg 12 c26_r12 false (some [3, 5, 8, 9, 10, 30]))
  (.cond (.tmp 30) (.seq (.reg 13 [⟨some 37, .call (.con (.fn 35 [] [])) [(.tmp 3), (.con (.str ⟨#[92, 120]⟩))], none, Q0⟩] false (some [3, 5, 8, 9, 10]))
  (.seq (.reg 14 [⟨some 38, .mv (.tmp 5), none, Q0⟩,
  ⟨some 39, .bin .shr (.tmp 38) (.con (.int .u64 4)), none, Q0⟩,
  ⟨some 40, .ixS (.con (.str ⟨#[48, 49, 50, 51, 52, 53, 54, 55, 56, 57, 97, 98, 99, 100, 101, 102]⟩)) (.tmp 39), none, Q0⟩,
  ⟨some 41, .call (.con (.fn 39 [] [])) [(.tmp 3), (.tmp 40)], none, Q0⟩] false (some [3, 5, 8, 9, 10]))
  (.reg 15 [⟨some 42, .mv (.tmp 5), none, Q0⟩,
  ⟨some 43, .bin .and (.tmp 42) (.con (.int .u8 15)), none, Q0⟩,
  ⟨some 44, .ixS (.con (.str ⟨#[48, 49, 50, 51, 52, 53, 54, 55, 56, 57, 97, 98, 99, 100, 101, 102]⟩)) (.tmp 43), none, Q0⟩,
  ⟨some 45, .call (.con (.fn 39 [] [])) [(.tmp 3), (.tmp 44)], none, Q0⟩] false (some [3, 8, 9, 10])))) (.reg 6 [⟨some 14, .mv (.tmp 5), none, Q0⟩,
  ⟨some 15, .call (.con (.fn 39 [] [])) [(.tmp 3), (.tmp 14)], none, Q0⟩] false (some [3, 8, 9, 10])))))))))))
  (.reg 16 [⟨some 46, .bin .add (.tmp 10) (.con (.int .i64 1)), none, Q0⟩,
  ⟨some 10, .mv (.tmp 46), none, Q0⟩] false (some [3, 8, 9, 10])))))
def c26_l0 : EC := .loop (some [3, 8, 9, 10]) c26_l0_b
def c26_b : EC := (.seq (.reg 0 [⟨some 2, .mv (.con (.str ⟨#[]⟩)), none, Q0⟩] false (some [0]))
  (.seq (.reg 1 [⟨some 3, .new 76 [.nilp, (.sl .null [])], none, Q0⟩] false (some [0, 3]))
  (.seq (.reg 2 [⟨some 6, .call (.con (.fn 39 [] [])) [(.tmp 3), (.con (.int .u8 34))], none, Q0⟩] false (some [0, 3]))
  (.seq (.seq (.reg 3 [⟨some 7, .mv (.tmp 0), none, Q0⟩,
  ⟨some 8, .s2b (.tmp 7), none, Q0⟩,
  ⟨some 9, .len false (.tmp 8), none, Q0⟩,
  ⟨some 10, .mv (.con (.int .i64 0)), none, Q0⟩] false (some [3, 8, 9, 10]))
  (.block 0 c26_l0))
  (.seq (.reg 17 [⟨some 47, .call (.con (.fn 39 [] [])) [(.tmp 3), (.con (.int .u8 34))], none, Q0⟩] false (some [3]))
  (.seq (.reg 18 [⟨some 48, .call (.con (.fn 37 [] [])) [(.tmp 3)], none, Q0⟩,
  ⟨some 2, .mv (.tmp 48), none, Q0⟩] false (some [2]))
  .ret))))))
def c26 : EFn := ⟨1, 49, [.tmp 2], c26_b, none, true⟩
theorem c26_l0_step {E : Env} {fin : Kont (PV × St)} {st : List Fr} {ts : Tmps} {S : St} {n : Nat} : (lvl E (n + 1)).ev c26_l0 ts S (kont E fin st) = (lvl E (n + 1)).ev c26_l0_b (sel (some [3, 8, 9, 10]) ts) S (kont E fin (.again n c26_l0 :: st)) := rfl
theorem c26_l0_w {E : Env} {fin : Kont (PV × St)} {st : List Fw} {ts : Tmps} {S : St} : run E fin st c26_l0 ts S = run E fin (.again c26_l0 :: st) c26_l0_b (sel (some [3, 8, 9, 10]) ts) S := w_loop
theorem c26_l0_a {E : Env} {fin : Kont (PV × St)} {st : List Fw} {ts : Tmps} {S : St} : aft E fin (.again c26_l0 :: st) .normal ts S = run E fin st c26_l0 (sel (some [3, 8, 9, 10]) ts) S := a_again_s
theorem c26_ok : cFn Tryd.prog Tryd.f26 = some c26.strip := by kernel_rfl
-- limbeck/fault.New
def c27_b : EC := (.seq (.reg 0 [⟨some 4, .mv (.con .nilifc), none, Q0⟩] false (some [0, 1]))
  (.seq (.seq (.reg 1 [⟨some 5, .mv (.tmp 0), none, Q0⟩,
  ⟨some 6, .bin .eql (.tmp 5) (.con (.int .i64 0)), none, Q0⟩] false (some [0, 1, 6]))
  (.cond (.tmp 6) (.seq (.reg 2 [⟨some 4, .mv (.con .nilifc), none, Q0⟩] false (some [4]))
  .ret) .skip))
  (.seq (.reg 3 [⟨some 7, .mv (.tmp 0), none, Q0⟩,
  ⟨some 8, .mv (.tmp 1), none, Q0⟩,
  ⟨some 9, .build [(.int .i64 0), (.int .i64 0)] [(0, 1, (.tmp 7)), (1, 1, (.tmp 8))], none, Q0⟩,
  ⟨some 10, .boxI 69 (.tmp 9), none, Q0⟩,
  ⟨some 11, .ifc 65 (.tmp 10), none, Q0⟩,
  ⟨some 4, .mv (.tmp 11), none, Q0⟩] false (some [4]))
  .ret)))
def c27 : EFn := ⟨2, 12, [.tmp 4], c27_b, none, true⟩
theorem c27_ok : cFn Tryd.prog Tryd.f27 = some c27.strip := by kernel_rfl
-- (*limbeck/lex.reader).next
def c28_b : EC := (.seq (.reg 0 [⟨some 2, .mv (.con (.bool false)), none, Q0⟩] false (some [0]))
  (.seq (.reg 1 [⟨some 4, .mv (.tmp 0), none, Q0⟩,
  ⟨some 5, .call (.con (.fn 40 [] [])) [(.tmp 4)], none, Q0⟩] false (some [0]))
  (.seq (.seq (.reg 2 [⟨some 6, .mv (.tmp 0), none, ⟨.no, false⟩⟩,
  ⟨some 7, .nck (.tmp 6), none, ⟨.no, false⟩⟩,
  ⟨some 8, .fA 1 (.tmp 7), none, ⟨.no, false⟩⟩,
  ⟨some 9, .ld none (.tmp 8), none, ⟨.still, false⟩⟩,
  ⟨some 10, .mv (.tmp 0), none, Q0⟩,
  ⟨some 11, .nck (.tmp 10), none, Q0⟩,
  ⟨some 12, .fA 0 (.tmp 11), none, Q0⟩,
  ⟨some 13, .ld none (.tmp 12), none, Q1⟩,
  ⟨some 14, .len true (.tmp 13), none, Q0⟩,
  ⟨some 15, .bin .geq (.tmp 9) (.tmp 14), none, Q0⟩] true (some [0, 15]))
  (.cond (.tmp 15) (.seq (.reg 3 [⟨some 2, .mv (.con (.bool false)), none, Q0⟩] false (some [2]))
  .ret) .skip))
  (.seq (.seq (.reg 4 [⟨some 16, .mv (.tmp 0), none, ⟨.no, false⟩⟩,
  ⟨some 17, .nck (.tmp 16), none, ⟨.no, false⟩⟩,
  ⟨some 18, .fA 0 (.tmp 17), none, ⟨.no, false⟩⟩,
  ⟨some 19, .ld none (.tmp 18), none, ⟨.still, false⟩⟩,
  ⟨some 20, .mv (.tmp 0), none, Q0⟩,
  ⟨some 21, .nck (.tmp 20), none, Q0⟩,
  ⟨some 22, .fA 1 (.tmp 21), none, Q0⟩,
  ⟨some 23, .ld none (.tmp 22), none, Q1⟩,
  ⟨some 24, .ixS (.tmp 19) (.tmp 23), none, Q0⟩,
  ⟨some 3, .mv (.tmp 24), none, Q0⟩] true (some [0, 3]))
  (.block 0 (.seq (.reg 5 [⟨some 26, .mv (.tmp 3), none, Q0⟩,
  ⟨some 27, .call (.con (.fn 41 [] [])) [(.tmp 26)], none, Q0⟩,
  ⟨some 25, .mv (.tmp 27), none, Q0⟩] false (some [0, 3, 25]))
  (.cond (.tmp 25) (.seq (.reg 6 [⟨some 28, .mv (.tmp 0), none, Q0⟩,
  ⟨some 29, .call (.con (.fn 42 [] [])) [(.tmp 28)], none, Q0⟩,
  ⟨some 2, .mv (.tmp 29), none, Q0⟩] false (some [2]))
  .ret) (.seq (.reg 7 [⟨some 31, .mv (.tmp 3), none, Q0⟩,
  ⟨some 32, .call (.con (.fn 43 [] [])) [(.tmp 31)], none, Q0⟩,
  ⟨some 30, .mv (.tmp 32), none, Q0⟩] false (some [0, 3, 30]))
  (.cond (.tmp 30) (.seq (.reg 8 [⟨some 33, .mv (.tmp 0), none, Q0⟩,
  ⟨some 34, .call (.con (.fn 44 [] [])) [(.tmp 33)], none, Q0⟩,
  ⟨some 2, .mv (.tmp 34), none, Q0⟩] false (some [2]))
  .ret) (.seq (.reg 9 [⟨some 36, .mv (.tmp 3), none, Q0⟩,
  ⟨some 37, .bin .eql (.tmp 36) (.con (.int .u8 34)), none, Q0⟩,
  ⟨some 35, .mv (.tmp 37), none, Q0⟩] false (some [0, 35]))
  (.cond (.tmp 35) (.seq (.reg 10 [⟨some 38, .mv (.tmp 0), none, Q0⟩,
  ⟨some 39, .call (.con (.fn 45 [] [])) [(.tmp 38)], none, Q0⟩,
  ⟨some 2, .mv (.tmp 39), none, Q0⟩] false (some [2]))
  .ret) .skip))))))))
  (.seq (.reg 11 [⟨some 40, .mv (.tmp 0), none, Q0⟩,
  ⟨some 41, .call (.con (.fn 46 [] [])) [(.tmp 40)], none, Q0⟩,
  ⟨some 2, .mv (.tmp 41), none, Q0⟩] false (some [2]))
  .ret)))))
def c28 : EFn := ⟨1, 42, [.tmp 2], c28_b, none, true⟩
theorem c28_ok : cFn Tryd.prog Tryd.f28 = some c28.strip := by kernel_rfl
-- (*strings.Builder).WriteString
def c35_b : EC := (.seq (.reg 0 [⟨some 4, .mv (.con (.int .i64 0)), none, Q0⟩,
  ⟨some 5, .mv (.con .nilifc), none, Q0⟩] false (some [0, 1]))
  (.seq (.reg 1 [⟨some 6, .mv (.tmp 0), none, Q0⟩,
  ⟨some 7, .call (.con (.fn 57 [] [])) [(.tmp 6)], none, Q0⟩] false (some [0, 1]))
  (.seq (.reg 2 [⟨some 8, .mv (.tmp 0), none, Q0⟩,
  ⟨some 9, .mv (.tmp 0), none, Q0⟩,
  ⟨some 10, .nck (.tmp 9), none, Q0⟩,
  ⟨some 11, .fA 1 (.tmp 10), none, Q0⟩,
  ⟨some 12, .ld none (.tmp 11), none, Q0⟩,
  ⟨some 13, .mv (.tmp 1), none, Q0⟩,
  ⟨some 14, .apS 5 (.tmp 12) (.tmp 13), none, Q0⟩,
  ⟨some 15, .nck (.tmp 8), none, Q0⟩,
  ⟨some 16, .fA 1 (.tmp 15), none, Q0⟩,
  ⟨none, .st 1 (.tmp 16) (.tmp 14), none, Q0⟩] false (some [1]))
  (.seq (.reg 3 [⟨some 17, .mv (.tmp 1), none, Q0⟩,
  ⟨some 18, .len true (.tmp 17), none, Q0⟩,
  ⟨some 4, .mv (.tmp 18), none, Q0⟩,
  ⟨some 5, .mv (.con .nilifc), none, Q0⟩] false (some [4, 5]))
  .ret))))
def c35 : EFn := ⟨2, 19, [.tmp 4, .tmp 5], c35_b, none, true⟩
theorem c35_ok : cFn Tryd.prog Tryd.f35 = some c35.strip := by kernel_rfl
-- (*strings.Builder).String
def c37_b : EC := (.seq (.reg 0 [⟨some 2, .mv (.con (.str ⟨#[]⟩)), none, Q0⟩] false (some [0]))
  (.seq (.reg 1 [⟨some 3, .mv (.tmp 0), none, ⟨.no, false⟩⟩,
  ⟨some 4, .nck (.tmp 3), none, ⟨.no, false⟩⟩,
  ⟨some 5, .fA 1 (.tmp 4), none, ⟨.no, false⟩⟩,
  ⟨some 6, .ld none (.tmp 5), none, ⟨.still, false⟩⟩,
  ⟨some 7, .usd (.tmp 6), none, ⟨.no, false⟩⟩,
  ⟨some 8, .mv (.tmp 0), none, Q0⟩,
  ⟨some 9, .nck (.tmp 8), none, Q0⟩,
  ⟨some 10, .fA 1 (.tmp 9), none, Q0⟩,
  ⟨some 11, .ld none (.tmp 10), none, Q1⟩,
  ⟨some 12, .len false (.tmp 11), none, Q0⟩,
  ⟨some 13, .ust 5 (.tmp 7) (.tmp 12), none, Q0⟩,
  ⟨some 2, .mv (.tmp 13), none, Q0⟩] true (some [2]))
  .ret))
def c37 : EFn := ⟨1, 14, [.tmp 2], c37_b, none, true⟩
theorem c37_ok : cFn Tryd.prog Tryd.f37 = some c37.strip := by kernel_rfl
-- (*strings.Builder).WriteByte
def c39_b : EC := (.seq (.reg 0 [⟨some 4, .mv (.con .nilifc), none, Q0⟩] false (some [0, 1]))
  (.seq (.reg 1 [⟨some 5, .mv (.tmp 0), none, Q0⟩,
  ⟨some 6, .call (.con (.fn 57 [] [])) [(.tmp 5)], none, Q0⟩] false (some [0, 1]))
  (.seq (.reg 2 [⟨some 7, .mv (.tmp 0), none, Q0⟩,
  ⟨some 8, .mv (.tmp 0), none, Q0⟩,
  ⟨some 9, .nck (.tmp 8), none, Q0⟩,
  ⟨some 10, .fA 1 (.tmp 9), none, Q0⟩,
  ⟨some 11, .ld none (.tmp 10), none, Q0⟩,
  ⟨some 12, .mv (.tmp 1), none, Q0⟩,
  ⟨some 13, .rows 1 1 [(.int .u8 0)] [(0, (.tmp 12))], none, Q0⟩,
  ⟨some 14, .app 5 1 1 (.tmp 11) (.tmp 13), none, Q0⟩,
  ⟨some 15, .nck (.tmp 7), none, Q0⟩,
  ⟨some 16, .fA 1 (.tmp 15), none, Q0⟩,
  ⟨none, .st 1 (.tmp 16) (.tmp 14), none, Q0⟩] false (some []))
  (.seq (.reg 3 [⟨some 4, .mv (.con .nilifc), none, Q0⟩] false (some [4]))
  .ret))))
def c39 : EFn := ⟨2, 17, [.tmp 4], c39_b, none, true⟩
theorem c39_ok : cFn Tryd.prog Tryd.f39 = some c39.strip := by kernel_rfl
-- (*limbeck/lex.reader).pass
def c40_l0_b : EC := (.seq (.seq (.reg 0 [⟨some 2, .mv (.tmp 0), none, ⟨.no, false⟩⟩,
  ⟨some 3, .nck (.tmp 2), none, ⟨.no, false⟩⟩,
  ⟨some 4, .fA 1 (.tmp 3), none, ⟨.no, false⟩⟩,
  ⟨some 5, .ld none (.tmp 4), none, ⟨.still, false⟩⟩,
  ⟨some 6, .mv (.tmp 0), none, Q0⟩,
  ⟨some 7, .nck (.tmp 6), none, Q0⟩,
  ⟨some 8, .fA 0 (.tmp 7), none, Q0⟩,
  ⟨some 9, .ld none (.tmp 8), none, Q1⟩,
  ⟨some 10, .len true (.tmp 9), none, Q0⟩,
  ⟨some 11, .bin .lss (.tmp 5) (.tmp 10), none, Q0⟩] true (some [0, 11]))
  (.cond (.tmp 11) .skip (.exit 0)))
  (.block 1 (.block 2 (.seq (.reg 1 [⟨some 13, .mv (.tmp 0), none, ⟨.no, false⟩⟩,
  ⟨some 14, .nck (.tmp 13), none, ⟨.no, false⟩⟩,
  ⟨some 15, .fA 0 (.tmp 14), none, ⟨.no, false⟩⟩,
  ⟨some 16, .ld none (.tmp 15), none, ⟨.still, false⟩⟩,
  ⟨some 17, .mv (.tmp 0), none, Q0⟩,
  ⟨some 18, .nck (.tmp 17), none, Q0⟩,
  ⟨some 19, .fA 1 (.tmp 18), none, Q0⟩,
  ⟨some 20, .ld none (.tmp 19), none, Q1⟩,
  ⟨some 21, .ixS (.tmp 16) (.tmp 20), none, Q0⟩,
  ⟨some 22, .call (.con (.fn 60 [] [])) [(.con (.str ⟨#[32, 9, 10, 13]⟩)), (.tmp 21)], none, Q0⟩,
  ⟨some 23, .bin .geq (.tmp 22) (.con (.int .i64 0)), none, Q0⟩,
  ⟨some 12, .mv (.tmp 23), none, Q0⟩] true (some [0, 12]))
  (.cond (.tmp 12) (.reg 2 [⟨some 24, .mv (.tmp 0), none, Q0⟩,
  ⟨some 25, .nck (.tmp 24), none, Q0⟩,
  ⟨some 26, .fA 1 (.tmp 25), none, Q0⟩,
  ⟨some 27, .ld none (.tmp 26), none, Q0⟩,
  ⟨some 28, .bin .add (.tmp 27) (.con (.int .i64 1)), none, Q0⟩,
  ⟨some 29, .nck (.tmp 24), none, Q0⟩,
  ⟨some 30, .fA 1 (.tmp 29), none, Q0⟩,
  ⟨none, .st 1 (.tmp 30) (.tmp 28), none, Q0⟩] false (some [0])) (.seq (.reg 3 [⟨some 32, .mv (.tmp 0), none, ⟨.no, false⟩⟩,
  ⟨some 33, .nck (.tmp 32), none, ⟨.no, false⟩⟩,
  ⟨some 34, .fA 0 (.tmp 33), none, ⟨.no, false⟩⟩,
  ⟨some 35, .ld none (.tmp 34), none, ⟨.still, false⟩⟩,
  ⟨some 36, .mv (.tmp 0), none, Q0⟩,
  ⟨some 37, .nck (.tmp 36), none, Q0⟩,
  ⟨some 38, .fA 1 (.tmp 37), none, Q0⟩,
  ⟨some 39, .ld none (.tmp 38), none, Q1⟩,
  ⟨some 40, .ixS (.tmp 35) (.tmp 39), none, Q0⟩,
  ⟨some 41, .bin .eql (.tmp 40) (.con (.int .u8 59)), none, Q0⟩,
  ⟨some 31, .mv (.tmp 41), none, Q0⟩] true (some [0, 31]))
  (.cond (.tmp 31) (.reg 4 [⟨some 42, .mv (.tmp 0), none, Q0⟩,
  ⟨some 43, .mv (.tmp 0), none, Q0⟩,
  ⟨some 44, .call (.con (.fn 61 [] [])) [(.tmp 43), (.con (.fn 62 [] []))], none, Q0⟩,
  ⟨some 45, .nck (.tmp 42), none, Q0⟩,
  ⟨some 46, .fA 1 (.tmp 45), none, Q0⟩,
  ⟨none, .st 1 (.tmp 46) (.tmp 44), none, Q0⟩] false (some [0])) (.exit 0))))))))
def c40_l0 : EC := .loop (some [0]) c40_l0_b
def c40_b : EC := (.seq .skip
  (.block 0 c40_l0))
def c40 : EFn := ⟨1, 47, [], c40_b, none, false⟩
theorem c40_l0_step {E : Env} {fin : Kont (PV × St)} {st : List Fr} {ts : Tmps} {S : St} {n : Nat} : (lvl E (n + 1)).ev c40_l0 ts S (kont E fin st) = (lvl E (n + 1)).ev c40_l0_b (sel (some [0]) ts) S (kont E fin (.again n c40_l0 :: st)) := rfl
theorem c40_l0_w {E : Env} {fin : Kont (PV × St)} {st : List Fw} {ts : Tmps} {S : St} : run E fin st c40_l0 ts S = run E fin (.again c40_l0 :: st) c40_l0_b (sel (some [0]) ts) S := w_loop
theorem c40_l0_a {E : Env} {fin : Kont (PV × St)} {st : List Fw} {ts : Tmps} {S : St} : aft E fin (.again c40_l0 :: st) .normal ts S = run E fin st c40_l0 (sel (some [0]) ts) S := a_again_s
theorem c40_ok : cFn Tryd.prog Tryd.f40 = some c40.strip := by kernel_rfl
-- limbeck/lex.digit
def c41_r1 : List EI := [⟨some 3, .mv (.tmp 0), none, Q0⟩,
  ⟨some 4, .bin .geq (.tmp 3) (.con (.int .u8 48)), none, Q0⟩,
  ⟨some 5, .mv (.tmp 4), none, Q0⟩,
  ⟨some 6, .mv (.tmp 0), some (5, true), Q0⟩,
  ⟨some 7, .bin .leq (.tmp 6) (.con (.int .u8 57)), some (5, true), Q0⟩,
  ⟨some 8, .pick (.tmp 5) (.tmp 7) (.con (.bool false)), none, Q0⟩,
  ⟨some 2, .mv (.tmp 8), none, Q0⟩]
def c41_b : EC := (.seq (.reg 0 [⟨some 2, .mv (.con (.bool false)), none, Q0⟩] false (some [0]))
  (.seq (.reg 1 c41_r1 false (some [2]))
  .ret))
def c41 : EFn := ⟨1, 9, [.tmp 2], c41_b, none, true⟩
theorem c41_ok : cFn Tryd.prog Tryd.f41 = some c41.strip := by kernel_rfl
-- (*limbeck/lex.reader).number
def c42_r3 : List EI := [⟨some 21, .mv (.tmp 5), none, Q0⟩,
  ⟨some 22, .ixS (.tmp 21) (.con (.int .i64 0)), none, Q0⟩,
  ⟨some 23, .bin .eql (.tmp 22) (.con (.int .u8 48)), none, Q0⟩,
  ⟨some 24, .mv (.tmp 23), none, Q0⟩,
  ⟨some 25, .mv (.tmp 5), some (24, true), Q0⟩,
  ⟨some 26, .len true (.tmp 25), some (24, true), Q0⟩,
  ⟨some 27, .bin .gtr (.tmp 26) (.con (.int .i64 1)), some (24, true), Q0⟩,
  ⟨some 28, .pick (.tmp 24) (.tmp 27) (.con (.bool false)), none, Q0⟩]
def c42_b : EC := (.seq (.reg 0 [⟨some 2, .mv (.con (.bool false)), none, Q0⟩] false (some [0]))
  (.seq (.reg 1 [⟨some 8, .mv (.tmp 0), none, ⟨.no, false⟩⟩,
  ⟨some 9, .nck (.tmp 8), none, ⟨.no, false⟩⟩,
  ⟨some 10, .fA 1 (.tmp 9), none, ⟨.no, false⟩⟩,
  ⟨some 11, .ld none (.tmp 10), none, ⟨.still, false⟩⟩,
  ⟨some 12, .mv (.tmp 0), none, Q0⟩,
  ⟨some 13, .call (.con (.fn 61 [] [])) [(.tmp 12), (.con (.fn 41 [] []))], none, Q1⟩,
  ⟨some 3, .mv (.tmp 11), none, Q0⟩,
  ⟨some 4, .mv (.tmp 13), none, Q0⟩] true (some [0, 3, 4]))
  (.seq (.reg 2 [⟨some 14, .mv (.tmp 0), none, Q0⟩,
  ⟨some 15, .nck (.tmp 14), none, Q0⟩,
  ⟨some 16, .fA 0 (.tmp 15), none, Q0⟩,
  ⟨some 17, .ld none (.tmp 16), none, Q0⟩,
  ⟨some 18, .mv (.tmp 3), none, Q0⟩,
  ⟨some 19, .mv (.tmp 4), none, Q0⟩,
  ⟨some 20, .slS (.tmp 17) (some (.tmp 18)) (some (.tmp 19)), none, Q0⟩,
  ⟨some 5, .mv (.tmp 20), none, Q0⟩] false (some [0, 3, 4, 5]))
  (.seq (.seq (.reg 3 c42_r3 false (some [0, 3, 4, 5, 28]))
  (.cond (.tmp 28) (.seq (.reg 4 [⟨some 29, .mv (.tmp 0), none, Q0⟩,
  ⟨some 30, .mv (.tmp 3), none, Q0⟩,
  ⟨some 31, .call (.con (.fn 63 [] [])) [(.tmp 29), (.con (.int .i64 21)), (.tmp 30)], none, Q0⟩,
  ⟨some 2, .mv (.tmp 31), none, Q0⟩] false (some [2]))
  .ret) .skip))
  (.seq (.reg 5 [⟨some 33, .mv (.tmp 5), none, Q0⟩,
  ⟨some 34, .call (.con (.fn 64 [] [])) [(.tmp 33), (.con (.int .i64 10)), (.con (.int .i64 64))], none, Q0⟩,
  ⟨some 32, .mv (.tmp 34), none, Q0⟩,
  ⟨some 35, .ext (.tmp 32) 0, none, Q0⟩,
  ⟨some 36, .ext (.tmp 32) 1, none, Q0⟩,
  ⟨some 6, .mv (.tmp 35), none, Q0⟩,
  ⟨some 7, .mv (.tmp 36), none, Q0⟩] false (some [0, 3, 4, 6, 7]))
  (.seq (.seq (.reg 6 [⟨some 37, .mv (.tmp 7), none, Q0⟩,
  ⟨some 38, .eqI true (.tmp 37) (.con .nilifc), none, Q0⟩] false (some [0, 3, 4, 6, 38]))
  (.cond (.tmp 38) (.seq (.reg 7 [⟨some 39, .mv (.tmp 0), none, Q0⟩,
  ⟨some 40, .mv (.tmp 3), none, Q0⟩,
  ⟨some 41, .call (.con (.fn 63 [] [])) [(.tmp 39), (.con (.int .i64 6)), (.tmp 40)], none, Q0⟩,
  ⟨some 2, .mv (.tmp 41), none, Q0⟩] false (some [2]))
  .ret) .skip))
  (.seq (.reg 8 [⟨some 42, .mv (.tmp 0), none, Q0⟩,
  ⟨some 43, .mv (.tmp 6), none, Q0⟩,
  ⟨some 44, .build [(.int .i64 0), (.int .i64 0), (.str ⟨#[]⟩), (.int .i64 0)] [(0, 1, (.con (.int .i64 1))), (1, 1, (.tmp 43))], none, Q0⟩,
  ⟨some 45, .mv (.tmp 3), none, Q0⟩,
  ⟨some 46, .mv (.tmp 4), none, Q0⟩,
  ⟨some 47, .call (.con (.fn 65 [] [])) [(.tmp 42), (.tmp 44), (.tmp 45), (.tmp 46)], none, Q0⟩,
  ⟨some 2, .mv (.tmp 47), none, Q0⟩] false (some [2]))
  .ret)))))))
def c42 : EFn := ⟨1, 48, [.tmp 2], c42_b, none, true⟩
theorem c42_ok : cFn Tryd.prog Tryd.f42 = some c42.strip := by kernel_rfl
-- limbeck/lex.letter
def c43_r1 : List EI := [⟨some 3, .mv (.tmp 0), none, Q0⟩,
  ⟨some 4, .bin .geq (.tmp 3) (.con (.int .u8 97)), none, Q0⟩,
  ⟨some 5, .mv (.tmp 4), none, Q0⟩,
  ⟨some 6, .mv (.tmp 0), some (5, true), Q0⟩,
  ⟨some 7, .bin .leq (.tmp 6) (.con (.int .u8 122)), some (5, true), Q0⟩,
  ⟨some 8, .pick (.tmp 5) (.tmp 7) (.con (.bool false)), none, Q0⟩,
  ⟨some 9, .mv (.tmp 8), none, Q0⟩,
  ⟨some 10, .mv (.tmp 0), some (9, false), Q0⟩,
  ⟨some 11, .bin .geq (.tmp 10) (.con (.int .u8 65)), some (9, false), Q0⟩,
  ⟨some 12, .mv (.tmp 11), some (9, false), Q0⟩,
  ⟨some 13, .mv (.tmp 0), some (12, true), Q0⟩,
  ⟨some 14, .bin .leq (.tmp 13) (.con (.int .u8 90)), some (12, true), Q0⟩,
  ⟨some 15, .pick (.tmp 12) (.tmp 14) (.con (.bool false)), some (9, false), Q0⟩,
  ⟨some 16, .pick (.tmp 9) (.con (.bool true)) (.tmp 15), none, Q0⟩,
  ⟨some 2, .mv (.tmp 16), none, Q0⟩]
def c43_b : EC := (.seq (.reg 0 [⟨some 2, .mv (.con (.bool false)), none, Q0⟩] false (some [0]))
  (.seq (.reg 1 c43_r1 false (some [2]))
  .ret))
def c43 : EFn := ⟨1, 17, [.tmp 2], c43_b, none, true⟩
theorem c43_ok : cFn Tryd.prog Tryd.f43 = some c43.strip := by kernel_rfl
-- (*limbeck/lex.reader).word
def c44_b : EC := (.seq (.reg 0 [⟨some 2, .mv (.con (.bool false)), none, Q0⟩] false (some [0]))
  (.seq (.reg 1 [⟨some 7, .mv (.tmp 0), none, Q0⟩,
  ⟨some 8, .nck (.tmp 7), none, Q0⟩,
  ⟨some 9, .fA 1 (.tmp 8), none, Q0⟩,
  ⟨some 10, .ld none (.tmp 9), none, Q0⟩,
  ⟨some 3, .mv (.tmp 10), none, Q0⟩] false (some [0, 3]))
  (.seq (.reg 2 [⟨some 11, .mv (.tmp 0), none, Q0⟩,
  ⟨some 12, .call (.con (.fn 61 [] [])) [(.tmp 11), (.con (.fn 66 [] []))], none, Q0⟩,
  ⟨some 4, .mv (.tmp 12), none, Q0⟩] false (some [0, 3, 4]))
  (.seq (.reg 3 [⟨some 13, .mv (.tmp 0), none, Q0⟩,
  ⟨some 14, .nck (.tmp 13), none, Q0⟩,
  ⟨some 15, .fA 0 (.tmp 14), none, Q0⟩,
  ⟨some 16, .ld none (.tmp 15), none, Q0⟩,
  ⟨some 17, .mv (.tmp 3), none, Q0⟩,
  ⟨some 18, .mv (.tmp 4), none, Q0⟩,
  ⟨some 19, .slS (.tmp 16) (some (.tmp 17)) (some (.tmp 18)), none, Q0⟩,
  ⟨some 5, .mv (.tmp 19), none, Q0⟩] false (some [0, 3, 4, 5]))
  (.seq (.seq (.reg 4 [⟨some 20, .mv (.tmp 5), none, Q0⟩,
  ⟨some 21, .len true (.tmp 20), none, Q0⟩,
  ⟨some 22, .bin .gtr (.tmp 21) (.con (.int .i64 8)), none, Q0⟩] false (some [0, 3, 4, 5, 22]))
  (.cond (.tmp 22) (.seq (.reg 5 [⟨some 23, .mv (.tmp 0), none, Q0⟩,
  ⟨some 24, .mv (.tmp 3), none, Q0⟩,
  ⟨some 25, .call (.con (.fn 63 [] [])) [(.tmp 23), (.con (.int .i64 6)), (.tmp 24)], none, Q0⟩,
  ⟨some 2, .mv (.tmp 25), none, Q0⟩] false (some [2]))
  .ret) .skip))
  (.seq (.reg 6 [⟨some 6, .mv (.con (.int .i64 3)), none, Q0⟩] false (some [0, 3, 4, 5, 6]))
  (.seq (.seq (.reg 7 [⟨some 26, .mv (.tmp 5), none, Q0⟩,
  ⟨some 27, .call (.con (.fn 67 [] [])) [(.tmp 26)], none, Q0⟩] false (some [0, 3, 4, 5, 6, 27]))
  (.block 0 (.seq (.reg 8 [⟨some 29, .bin .eql (.tmp 27) (.con (.int .i64 0)), none, Q0⟩,
  ⟨some 28, .mv (.tmp 29), none, Q0⟩] false (some [0, 3, 4, 5, 6, 27, 28]))
  (.cond (.tmp 28) (.seq (.reg 9 [⟨some 30, .mv (.tmp 0), none, Q0⟩,
  ⟨some 31, .mv (.tmp 3), none, Q0⟩,
  ⟨some 32, .call (.con (.fn 63 [] [])) [(.tmp 30), (.con (.int .i64 2)), (.tmp 31)], none, Q0⟩,
  ⟨some 2, .mv (.tmp 32), none, Q0⟩] false (some [2]))
  .ret) (.seq (.seq (.reg 10 [⟨some 34, .bin .eql (.tmp 27) (.con (.int .i64 2)), none, Q0⟩,
  ⟨some 33, .mv (.tmp 34), none, Q0⟩] false (some [0, 3, 4, 5, 6, 27, 33]))
  (.cond (.tmp 33) .skip (.reg 11 [⟨some 35, .bin .eql (.tmp 27) (.con (.int .i64 4)), none, Q0⟩,
  ⟨some 33, .mv (.tmp 35), none, Q0⟩] false (some [0, 3, 4, 5, 6, 33]))))
  (.cond (.tmp 33) (.reg 12 [⟨some 6, .mv (.con (.int .i64 4)), none, Q0⟩] false (some [0, 3, 4, 5, 6])) .skip))))))
  (.seq (.reg 13 [⟨some 36, .mv (.tmp 0), none, Q0⟩,
  ⟨some 37, .mv (.tmp 6), none, Q0⟩,
  ⟨some 38, .mv (.tmp 5), none, Q0⟩,
  ⟨some 39, .build [(.int .i64 0), (.int .i64 0), (.str ⟨#[]⟩), (.int .i64 0)] [(0, 1, (.tmp 37)), (2, 1, (.tmp 38))], none, Q0⟩,
  ⟨some 40, .mv (.tmp 3), none, Q0⟩,
  ⟨some 41, .mv (.tmp 4), none, Q0⟩,
  ⟨some 42, .call (.con (.fn 65 [] [])) [(.tmp 36), (.tmp 39), (.tmp 40), (.tmp 41)], none, Q0⟩,
  ⟨some 2, .mv (.tmp 42), none, Q0⟩] false (some [2]))
  .ret))))))))
def c44 : EFn := ⟨1, 43, [.tmp 2], c44_b, none, true⟩
theorem c44_ok : cFn Tryd.prog Tryd.f44 = some c44.strip := by kernel_rfl
-- (*limbeck/lex.reader).text
def c45_r10 : List EI := [⟨some 51, .mv (.tmp 6), none, Q0⟩,
  ⟨some 52, .bin .lss (.tmp 51) (.con (.int .u8 32)), none, Q0⟩,
  ⟨some 53, .mv (.tmp 52), none, Q0⟩,
  ⟨some 54, .mv (.tmp 6), some (53, false), Q0⟩,
  ⟨some 55, .bin .gtr (.tmp 54) (.con (.int .u8 126)), some (53, false), Q0⟩,
  ⟨some 56, .pick (.tmp 53) (.con (.bool true)) (.tmp 55), none, Q0⟩,
  ⟨some 50, .mv (.tmp 56), none, Q0⟩]
def c45_l0_b : EC := (.seq (.seq (.reg 4 [⟨some 14, .mv (.tmp 5), none, Q0⟩,
  ⟨some 15, .mv (.tmp 0), none, Q0⟩,
  ⟨some 16, .nck (.tmp 15), none, Q0⟩,
  ⟨some 17, .fA 0 (.tmp 16), none, Q0⟩,
  ⟨some 18, .ld none (.tmp 17), none, Q0⟩,
  ⟨some 19, .len true (.tmp 18), none, Q0⟩,
  ⟨some 20, .bin .lss (.tmp 14) (.tmp 19), none, Q0⟩] false (some [0, 3, 4, 5, 20]))
  (.cond (.tmp 20) .skip (.exit 0)))
  (.block 1 (.seq (.reg 5 [⟨some 21, .mv (.tmp 0), none, Q0⟩,
  ⟨some 22, .nck (.tmp 21), none, Q0⟩,
  ⟨some 23, .fA 0 (.tmp 22), none, Q0⟩,
  ⟨some 24, .ld none (.tmp 23), none, Q0⟩,
  ⟨some 25, .mv (.tmp 5), none, Q0⟩,
  ⟨some 26, .ixS (.tmp 24) (.tmp 25), none, Q0⟩,
  ⟨some 6, .mv (.tmp 26), none, Q0⟩,
  ⟨some 7, .mv (.con (.int .i64 1)), none, Q0⟩] false (some [0, 3, 4, 5, 6, 7]))
  (.seq (.block 2 (.seq (.reg 6 [⟨some 28, .mv (.tmp 6), none, Q0⟩,
  ⟨some 29, .bin .eql (.tmp 28) (.con (.int .u8 34)), none, Q0⟩,
  ⟨some 27, .mv (.tmp 29), none, Q0⟩] false (some [0, 3, 4, 5, 6, 7, 27]))
  (.cond (.tmp 27) (.seq (.reg 7 [⟨some 30, .mv (.tmp 0), none, Q0⟩,
  ⟨some 31, .call (.con (.fn 37 [] [])) [(.tmp 4)], none, Q0⟩,
  ⟨some 32, .build [(.int .i64 0), (.int .i64 0), (.str ⟨#[]⟩), (.int .i64 0)] [(0, 1, (.con (.int .i64 2))), (2, 1, (.tmp 31))], none, Q0⟩,
  ⟨some 33, .mv (.tmp 3), none, Q0⟩,
  ⟨some 34, .mv (.tmp 5), none, Q0⟩,
  ⟨some 35, .bin .add (.tmp 34) (.con (.int .i64 1)), none, Q0⟩,
  ⟨some 36, .call (.con (.fn 65 [] [])) [(.tmp 30), (.tmp 32), (.tmp 33), (.tmp 35)], none, Q0⟩,
  ⟨some 2, .mv (.tmp 36), none, Q0⟩] false (some [2]))
  .ret) (.seq (.reg 8 [⟨some 38, .mv (.tmp 6), none, Q0⟩,
  ⟨some 39, .bin .eql (.tmp 38) (.con (.int .u8 92)), none, Q0⟩,
  ⟨some 37, .mv (.tmp 39), none, Q0⟩] false (some [0, 3, 4, 5, 6, 7, 37]))
  (.cond (.tmp 37) (.reg 9 [⟨some 41, .mv (.tmp 0), none, Q0⟩,
  ⟨some 42, .nck (.tmp 41), none, Q0⟩,
  ⟨some 43, .fA 0 (.tmp 42), none, Q0⟩,
  ⟨some 44, .ld none (.tmp 43), none, Q0⟩,
  ⟨some 45, .mv (.tmp 5), none, Q0⟩,
  ⟨some 46, .slS (.tmp 44) (some (.tmp 45)) none, none, Q0⟩,
  ⟨some 47, .call (.con (.fn 68 [] [])) [(.tmp 46)], none, Q0⟩,
  ⟨some 40, .mv (.tmp 47), none, Q0⟩,
  ⟨some 48, .ext (.tmp 40) 0, none, Q0⟩,
  ⟨some 49, .ext (.tmp 40) 1, none, Q0⟩,
  ⟨some 6, .mv (.tmp 48), none, Q0⟩,
  ⟨some 7, .mv (.tmp 49), none, Q0⟩] false (some [0, 3, 4, 5, 6, 7])) (.seq (.reg 10 c45_r10 false (some [0, 3, 4, 5, 6, 7, 50]))
  (.cond (.tmp 50) (.reg 11 [⟨some 7, .mv (.con (.int .i64 0)), none, Q0⟩] false (some [0, 3, 4, 5, 6, 7])) .skip)))))))
  (.seq (.seq (.reg 12 [⟨some 57, .mv (.tmp 7), none, Q0⟩,
  ⟨some 58, .bin .eql (.tmp 57) (.con (.int .i64 0)), none, Q0⟩] false (some [0, 3, 4, 5, 6, 7, 58]))
  (.cond (.tmp 58) (.seq (.reg 13 [⟨some 59, .mv (.tmp 0), none, Q0⟩,
  ⟨some 60, .mv (.tmp 5), none, Q0⟩,
  ⟨some 61, .call (.con (.fn 63 [] [])) [(.tmp 59), (.con (.int .i64 3)), (.tmp 60)], none, Q0⟩,
  ⟨some 2, .mv (.tmp 61), none, Q0⟩] false (some [2]))
  .ret) .skip))
  (.seq (.reg 14 [⟨some 62, .mv (.tmp 6), none, Q0⟩,
  ⟨some 63, .call (.con (.fn 39 [] [])) [(.tmp 4), (.tmp 62)], none, Q0⟩] false (some [0, 3, 4, 5, 7]))
  (.seq (.seq (.reg 15 [⟨some 64, .call (.con (.fn 69 [] [])) [(.tmp 4)], none, Q0⟩,
  ⟨some 65, .bin .gtr (.tmp 64) (.con (.int .i64 40)), none, Q0⟩] false (some [0, 3, 4, 5, 7, 65]))
  (.cond (.tmp 65) (.seq (.reg 16 [⟨some 66, .mv (.tmp 0), none, Q0⟩,
  ⟨some 67, .mv (.tmp 3), none, Q0⟩,
  ⟨some 68, .call (.con (.fn 63 [] [])) [(.tmp 66), (.con (.int .i64 6)), (.tmp 67)], none, Q0⟩,
  ⟨some 2, .mv (.tmp 68), none, Q0⟩] false (some [2]))
  .ret) .skip))
  (.reg 17 [⟨some 69, .mv (.tmp 5), none, Q0⟩,
  ⟨some 70, .mv (.tmp 7), none, Q0⟩,
  ⟨some 71, .bin .add (.tmp 69) (.tmp 70), none, Q0⟩,
  ⟨some 5, .mv (.tmp 71), none, Q0⟩] false (some [0, 3, 4, 5])))))))))
def c45_l0 : EC := .loop (some [0, 3, 4, 5]) c45_l0_b
def c45_b : EC := (.seq (.reg 0 [⟨some 2, .mv (.con (.bool false)), none, Q0⟩] false (some [0]))
  (.seq (.reg 1 [⟨some 8, .mv (.tmp 0), none, Q0⟩,
  ⟨some 9, .nck (.tmp 8), none, Q0⟩,
  ⟨some 10, .fA 1 (.tmp 9), none, Q0⟩,
  ⟨some 11, .ld none (.tmp 10), none, Q0⟩,
  ⟨some 3, .mv (.tmp 11), none, Q0⟩] false (some [0, 3]))
  (.seq (.reg 2 [⟨some 4, .new 76 [.nilp, (.sl .null [])], none, Q0⟩] false (some [0, 3, 4]))
  (.seq (.seq (.reg 3 [⟨some 12, .mv (.tmp 3), none, Q0⟩,
  ⟨some 13, .bin .add (.tmp 12) (.con (.int .i64 1)), none, Q0⟩,
  ⟨some 5, .mv (.tmp 13), none, Q0⟩] false (some [0, 3, 4, 5]))
  (.block 0 c45_l0))
  (.seq (.reg 18 [⟨some 72, .mv (.tmp 0), none, Q0⟩,
  ⟨some 73, .mv (.tmp 0), none, Q0⟩,
  ⟨some 74, .nck (.tmp 73), none, Q0⟩,
  ⟨some 75, .fA 0 (.tmp 74), none, Q0⟩,
  ⟨some 76, .ld none (.tmp 75), none, Q0⟩,
  ⟨some 77, .len true (.tmp 76), none, Q0⟩,
  ⟨some 78, .call (.con (.fn 63 [] [])) [(.tmp 72), (.con (.int .i64 5)), (.tmp 77)], none, Q0⟩,
  ⟨some 2, .mv (.tmp 78), none, Q0⟩] false (some [2]))
  .ret)))))
def c45 : EFn := ⟨1, 79, [.tmp 2], c45_b, none, true⟩
theorem c45_l0_step {E : Env} {fin : Kont (PV × St)} {st : List Fr} {ts : Tmps} {S : St} {n : Nat} : (lvl E (n + 1)).ev c45_l0 ts S (kont E fin st) = (lvl E (n + 1)).ev c45_l0_b (sel (some [0, 3, 4, 5]) ts) S (kont E fin (.again n c45_l0 :: st)) := rfl
theorem c45_l0_w {E : Env} {fin : Kont (PV × St)} {st : List Fw} {ts : Tmps} {S : St} : run E fin st c45_l0 ts S = run E fin (.again c45_l0 :: st) c45_l0_b (sel (some [0, 3, 4, 5]) ts) S := w_loop
theorem c45_l0_a {E : Env} {fin : Kont (PV × St)} {st : List Fw} {ts : Tmps} {S : St} : aft E fin (.again c45_l0 :: st) .normal ts S = run E fin st c45_l0 (sel (some [0, 3, 4, 5]) ts) S := a_again_s
theorem c45_ok : cFn Tryd.prog Tryd.f45 = some c45.strip := by kernel_rfl
-- (*limbeck/lex.reader).sign
def c46_r4 : List EI := [⟨some 21, .mv (.tmp 3), none, Q0⟩,
  ⟨some 22, .len true (.tmp 21), none, Q0⟩,
  ⟨some 23, .bin .geq (.tmp 22) (.con (.int .i64 2)), none, Q0⟩,
  ⟨some 24, .mv (.tmp 23), none, Q0⟩,
  ⟨some 25, .mv (.tmp 3), some (24, true), Q0⟩,
  ⟨some 26, .slS (.tmp 25) none (some (.con (.int .i64 2))), some (24, true), Q0⟩,
  ⟨some 27, .bin .eql (.tmp 26) (.con (.str ⟨#[61, 62]⟩)), some (24, true), Q0⟩,
  ⟨some 28, .mv (.tmp 27), some (24, true), Q0⟩,
  ⟨some 29, .mv (.tmp 3), some (28, false), Q0⟩,
  ⟨some 30, .slS (.tmp 29) none (some (.con (.int .i64 2))), some (28, false), Q0⟩,
  ⟨some 31, .bin .eql (.tmp 30) (.con (.str ⟨#[45, 62]⟩)), some (28, false), Q0⟩,
  ⟨some 32, .pick (.tmp 28) (.con (.bool true)) (.tmp 31), some (24, true), Q0⟩,
  ⟨some 33, .mv (.tmp 32), some (24, true), Q0⟩,
  ⟨some 34, .mv (.tmp 3), some (33, false), Q0⟩,
  ⟨some 35, .slS (.tmp 34) none (some (.con (.int .i64 2))), some (33, false), Q0⟩,
  ⟨some 36, .bin .eql (.tmp 35) (.con (.str ⟨#[60, 58]⟩)), some (33, false), Q0⟩,
  ⟨some 37, .pick (.tmp 33) (.con (.bool true)) (.tmp 36), some (24, true), Q0⟩,
  ⟨some 38, .mv (.tmp 37), some (24, true), Q0⟩,
  ⟨some 39, .mv (.tmp 3), some (38, false), Q0⟩,
  ⟨some 40, .slS (.tmp 39) none (some (.con (.int .i64 2))), some (38, false), Q0⟩,
  ⟨some 41, .bin .eql (.tmp 40) (.con (.str ⟨#[43, 43]⟩)), some (38, false), Q0⟩,
  ⟨some 42, .pick (.tmp 38) (.con (.bool true)) (.tmp 41), some (24, true), Q0⟩,
  ⟨some 43, .mv (.tmp 42), some (24, true), Q0⟩,
  ⟨some 44, .mv (.tmp 3), some (43, false), Q0⟩,
  ⟨some 45, .slS (.tmp 44) none (some (.con (.int .i64 2))), some (43, false), Q0⟩,
  ⟨some 46, .bin .eql (.tmp 45) (.con (.str ⟨#[61, 61]⟩)), some (43, false), Q0⟩,
  ⟨some 47, .pick (.tmp 43) (.con (.bool true)) (.tmp 46), some (24, true), Q0⟩,
  ⟨some 48, .pick (.tmp 24) (.tmp 47) (.con (.bool false)), none, Q0⟩,
  ⟨some 20, .mv (.tmp 48), none, Q0⟩]
def c46_b : EC := (.seq (.reg 0 [⟨some 2, .mv (.con (.bool false)), none, Q0⟩] false (some [0]))
  (.seq (.reg 1 [⟨some 5, .mv (.tmp 0), none, ⟨.no, false⟩⟩,
  ⟨some 6, .nck (.tmp 5), none, ⟨.no, false⟩⟩,
  ⟨some 7, .fA 0 (.tmp 6), none, ⟨.no, false⟩⟩,
  ⟨some 8, .ld none (.tmp 7), none, ⟨.still, false⟩⟩,
  ⟨some 9, .mv (.tmp 0), none, Q0⟩,
  ⟨some 10, .nck (.tmp 9), none, Q0⟩,
  ⟨some 11, .fA 1 (.tmp 10), none, Q0⟩,
  ⟨some 12, .ld none (.tmp 11), none, Q1⟩,
  ⟨some 13, .slS (.tmp 8) (some (.tmp 12)) none, none, Q0⟩,
  ⟨some 3, .mv (.tmp 13), none, Q0⟩] true (some [0, 3]))
  (.seq (.reg 2 [⟨some 4, .mv (.con (.int .i64 0)), none, Q0⟩] false (some [0, 3]))
  (.seq (.block 0 (.seq (.reg 4 c46_r4 false (some [0, 3, 20]))
  (.cond (.tmp 20) (.reg 5 [⟨some 4, .mv (.con (.int .i64 2)), none, Q0⟩] false (some [0, 3, 4])) (.seq (.reg 6 [⟨some 50, .mv (.tmp 3), none, Q0⟩,
  ⟨some 51, .ixS (.tmp 50) (.con (.int .i64 0)), none, Q0⟩,
  ⟨some 52, .call (.con (.fn 60 [] [])) [(.con (.str ⟨#[40, 41, 123, 125, 91, 93, 44, 58, 46, 61, 63, 43, 45, 42, 47, 60]⟩)), (.tmp 51)], none, Q0⟩,
  ⟨some 53, .bin .geq (.tmp 52) (.con (.int .i64 0)), none, Q0⟩,
  ⟨some 49, .mv (.tmp 53), none, Q0⟩] false (some [0, 3, 49]))
  (.cond (.tmp 49) (.reg 7 [⟨some 4, .mv (.con (.int .i64 1)), none, Q0⟩] false (some [0, 3, 4])) (.seq (.reg 3 [⟨some 14, .mv (.tmp 0), none, Q0⟩,
  ⟨some 15, .mv (.tmp 0), none, Q0⟩,
  ⟨some 16, .nck (.tmp 15), none, Q0⟩,
  ⟨some 17, .fA 1 (.tmp 16), none, Q0⟩,
  ⟨some 18, .ld none (.tmp 17), none, Q0⟩,
  ⟨some 19, .call (.con (.fn 63 [] [])) [(.tmp 14), (.con (.int .i64 3)), (.tmp 18)], none, Q0⟩,
  ⟨some 2, .mv (.tmp 19), none, Q0⟩] false (some [2]))
  .ret))))))
  (.seq (.reg 8 [⟨some 54, .mv (.tmp 0), none, ⟨.no, false⟩⟩,
  ⟨some 55, .mv (.tmp 3), none, ⟨.no, false⟩⟩,
  ⟨some 56, .mv (.tmp 4), none, ⟨.no, false⟩⟩,
  ⟨some 57, .slS (.tmp 55) none (some (.tmp 56)), none, ⟨.no, false⟩⟩,
  ⟨some 58, .build [(.int .i64 0), (.int .i64 0), (.str ⟨#[]⟩), (.int .i64 0)] [(0, 1, (.con (.int .i64 5))), (2, 1, (.tmp 57))], none, ⟨.no, false⟩⟩,
  ⟨some 59, .mv (.tmp 0), none, ⟨.no, false⟩⟩,
  ⟨some 60, .nck (.tmp 59), none, ⟨.no, false⟩⟩,
  ⟨some 61, .fA 1 (.tmp 60), none, ⟨.no, false⟩⟩,
  ⟨some 62, .ld none (.tmp 61), none, ⟨.still, false⟩⟩,
  ⟨some 63, .mv (.tmp 0), none, ⟨.no, false⟩⟩,
  ⟨some 64, .nck (.tmp 63), none, ⟨.no, false⟩⟩,
  ⟨some 65, .fA 1 (.tmp 64), none, ⟨.no, false⟩⟩,
  ⟨some 66, .ld none (.tmp 65), none, ⟨.still, false⟩⟩,
  ⟨some 67, .mv (.tmp 4), none, Q0⟩,
  ⟨some 68, .bin .add (.tmp 66) (.tmp 67), none, Q0⟩,
  ⟨some 69, .call (.con (.fn 65 [] [])) [(.tmp 54), (.tmp 58), (.tmp 62), (.tmp 68)], none, Q0⟩,
  ⟨some 2, .mv (.tmp 69), none, Q0⟩] true (some [2]))
  .ret)))))
def c46 : EFn := ⟨1, 70, [.tmp 2], c46_b, none, true⟩
theorem c46_ok : cFn Tryd.prog Tryd.f46 = some c46.strip := by kernel_rfl
-- (*limbeck/lex.reader).while
def c61_r2 : List EI := [⟨some 10, .mv (.tmp 5), none, Q0⟩,
  ⟨some 11, .mv (.tmp 0), none, Q0⟩,
  ⟨some 12, .nck (.tmp 11), none, Q0⟩,
  ⟨some 13, .fA 0 (.tmp 12), none, Q0⟩,
  ⟨some 14, .ld none (.tmp 13), none, Q0⟩,
  ⟨some 15, .len true (.tmp 14), none, Q0⟩,
  ⟨some 16, .bin .lss (.tmp 10) (.tmp 15), none, Q0⟩,
  ⟨some 17, .mv (.tmp 16), none, Q0⟩,
  ⟨some 18, .mv (.tmp 1), some (17, true), Q0⟩,
  ⟨some 19, .mv (.tmp 0), some (17, true), Q0⟩,
  ⟨some 20, .nck (.tmp 19), some (17, true), Q0⟩,
  ⟨some 21, .fA 0 (.tmp 20), some (17, true), Q0⟩,
  ⟨some 22, .ld none (.tmp 21), some (17, true), Q0⟩,
  ⟨some 23, .mv (.tmp 5), some (17, true), Q0⟩,
  ⟨some 24, .ixS (.tmp 22) (.tmp 23), some (17, true), Q0⟩,
  ⟨some 25, .call (.tmp 18) [(.tmp 24)], some (17, true), Q0⟩,
  ⟨some 26, .pick (.tmp 17) (.tmp 25) (.con (.bool false)), none, Q0⟩]
def c61_l0_b : EC := (.seq (.seq (.reg 2 c61_r2 false (some [0, 1, 5, 26]))
  (.cond (.tmp 26) .skip (.exit 0)))
  (.block 1 (.reg 3 [⟨some 27, .mv (.tmp 5), none, Q0⟩,
  ⟨some 28, .bin .add (.tmp 27) (.con (.int .i64 1)), none, Q0⟩,
  ⟨some 5, .mv (.tmp 28), none, Q0⟩] false (some [0, 1, 5]))))
def c61_l0 : EC := .loop (some [0, 1, 5]) c61_l0_b
def c61_b : EC := (.seq (.reg 0 [⟨some 4, .mv (.con (.int .i64 0)), none, Q0⟩] false (some [0, 1]))
  (.seq (.reg 1 [⟨some 6, .mv (.tmp 0), none, Q0⟩,
  ⟨some 7, .nck (.tmp 6), none, Q0⟩,
  ⟨some 8, .fA 1 (.tmp 7), none, Q0⟩,
  ⟨some 9, .ld none (.tmp 8), none, Q0⟩,
  ⟨some 5, .mv (.tmp 9), none, Q0⟩] false (some [0, 1, 5]))
  (.seq (.block 0 c61_l0)
  (.seq (.reg 4 [⟨some 29, .mv (.tmp 5), none, Q0⟩,
  ⟨some 4, .mv (.tmp 29), none, Q0⟩] false (some [4]))
  .ret))))
def c61 : EFn := ⟨2, 30, [.tmp 4], c61_b, none, true⟩
theorem c61_l0_step {E : Env} {fin : Kont (PV × St)} {st : List Fr} {ts : Tmps} {S : St} {n : Nat} : (lvl E (n + 1)).ev c61_l0 ts S (kont E fin st) = (lvl E (n + 1)).ev c61_l0_b (sel (some [0, 1, 5]) ts) S (kont E fin (.again n c61_l0 :: st)) := rfl
theorem c61_l0_w {E : Env} {fin : Kont (PV × St)} {st : List Fw} {ts : Tmps} {S : St} : run E fin st c61_l0 ts S = run E fin (.again c61_l0 :: st) c61_l0_b (sel (some [0, 1, 5]) ts) S := w_loop
theorem c61_l0_a {E : Env} {fin : Kont (PV × St)} {st : List Fw} {ts : Tmps} {S : St} : aft E fin (.again c61_l0 :: st) .normal ts S = run E fin st c61_l0 (sel (some [0, 1, 5]) ts) S := a_again_s
theorem c61_ok : cFn Tryd.prog Tryd.f61 = some c61.strip := by kernel_rfl
-- (*limbeck/lex.reader).pass$1
def c62_b : EC := (.seq (.reg 0 [⟨some 2, .mv (.con (.bool false)), none, Q0⟩] false (some [0]))
  (.seq (.reg 1 [⟨some 3, .mv (.tmp 0), none, Q0⟩,
  ⟨some 4, .bin .neq (.tmp 3) (.con (.int .u8 10)), none, Q0⟩,
  ⟨some 2, .mv (.tmp 4), none, Q0⟩] false (some [2]))
  .ret))
def c62 : EFn := ⟨1, 5, [.tmp 2], c62_b, none, true⟩
theorem c62_ok : cFn Tryd.prog Tryd.f62 = some c62.strip := by kernel_rfl
-- (*limbeck/lex.reader).fail
def c63_b : EC := (.seq (.reg 0 [⟨some 6, .mv (.con (.bool false)), none, Q0⟩] false (some [0, 1, 2]))
  (.seq (.reg 1 [⟨some 7, .mv (.tmp 0), none, Q0⟩,
  ⟨some 8, .mv (.tmp 1), none, Q0⟩,
  ⟨some 9, .mv (.tmp 2), none, Q0⟩,
  ⟨some 10, .call (.con (.fn 27 [] [])) [(.tmp 8), (.tmp 9)], none, Q0⟩,
  ⟨some 11, .nck (.tmp 7), none, Q0⟩,
  ⟨some 12, .fA 3 (.tmp 11), none, Q0⟩,
  ⟨none, .st 1 (.tmp 12) (.tmp 10), none, Q0⟩] false (some []))
  (.seq (.reg 2 [⟨some 6, .mv (.con (.bool false)), none, Q0⟩] false (some [6]))
  .ret)))
def c63 : EFn := ⟨3, 13, [.tmp 6], c63_b, none, true⟩
theorem c63_ok : cFn Tryd.prog Tryd.f63 = some c63.strip := by kernel_rfl
-- (*limbeck/lex.reader).put
def c65_b : EC := (.seq (.reg 0 [⟨some 5, .box 29 (.tmp 1), none, Q0⟩,
  ⟨some 8, .mv (.con (.bool false)), none, Q0⟩] false (some [0, 2, 3, 5]))
  (.seq (.reg 1 [⟨some 9, .mv (.tmp 2), none, Q0⟩,
  ⟨some 10, .fA 3 (.tmp 5), none, Q0⟩,
  ⟨none, .st 1 (.tmp 10) (.tmp 9), none, Q0⟩] false (some [0, 3, 5]))
  (.seq (.reg 2 [⟨some 11, .mv (.tmp 0), none, ⟨.no, false⟩⟩,
  ⟨some 12, .mv (.tmp 0), none, ⟨.no, false⟩⟩,
  ⟨some 13, .nck (.tmp 12), none, ⟨.no, false⟩⟩,
  ⟨some 14, .fA 2 (.tmp 13), none, ⟨.no, false⟩⟩,
  ⟨some 15, .ld none (.tmp 14), none, ⟨.lds [(some 4, (.tmp 5))], false⟩⟩,
  ⟨some 16, .ld (some 4) (.tmp 5), none, Q1⟩,
  ⟨some 17, .rows 1 4 [(.int .i64 0), (.int .i64 0), (.str ⟨#[]⟩), (.int .i64 0)] [(0, (.tmp 16))], none, Q0⟩,
  ⟨some 18, .app 29 4 40 (.tmp 15) (.tmp 17), none, Q0⟩,
  ⟨some 19, .nck (.tmp 11), none, Q0⟩,
  ⟨some 20, .fA 2 (.tmp 19), none, Q0⟩,
  ⟨none, .st 1 (.tmp 20) (.tmp 18), none, Q0⟩] true (some [0, 3]))
  (.seq (.reg 3 [⟨some 21, .mv (.tmp 0), none, Q0⟩,
  ⟨some 22, .mv (.tmp 3), none, Q0⟩,
  ⟨some 23, .nck (.tmp 21), none, Q0⟩,
  ⟨some 24, .fA 1 (.tmp 23), none, Q0⟩,
  ⟨none, .st 1 (.tmp 24) (.tmp 22), none, Q0⟩] false (some []))
  (.seq (.reg 4 [⟨some 8, .mv (.con (.bool true)), none, Q0⟩] false (some [8]))
  .ret)))))
def c65 : EFn := ⟨4, 25, [.tmp 8], c65_b, none, true⟩
theorem c65_ok : cFn Tryd.prog Tryd.f65 = some c65.strip := by kernel_rfl
-- (*limbeck/lex.reader).word$1
def c66_r1 : List EI := [⟨some 3, .mv (.tmp 0), none, Q0⟩,
  ⟨some 4, .call (.con (.fn 43 [] [])) [(.tmp 3)], none, Q0⟩,
  ⟨some 5, .mv (.tmp 4), none, Q0⟩,
  ⟨some 6, .mv (.tmp 0), some (5, false), Q0⟩,
  ⟨some 7, .call (.con (.fn 41 [] [])) [(.tmp 6)], some (5, false), Q0⟩,
  ⟨some 8, .pick (.tmp 5) (.con (.bool true)) (.tmp 7), none, Q0⟩,
  ⟨some 2, .mv (.tmp 8), none, Q0⟩]
def c66_b : EC := (.seq (.reg 0 [⟨some 2, .mv (.con (.bool false)), none, Q0⟩] false (some [0]))
  (.seq (.reg 1 c66_r1 false (some [2]))
  .ret))
def c66 : EFn := ⟨1, 9, [.tmp 2], c66_b, none, true⟩
theorem c66_ok : cFn Tryd.prog Tryd.f66 = some c66.strip := by kernel_rfl
-- limbeck/name.Kind
def c67_b : EC := (.seq (.reg 0 [⟨some 2, .mv (.con (.int .i64 0)), none, Q0⟩] false (some [0]))
  (.seq (.reg 1 [⟨some 4, .mv (.tmp 0), none, Q0⟩,
  ⟨some 5, .call (.con (.fn 91 [] [])) [(.tmp 4)], none, Q0⟩,
  ⟨some 3, .mv (.tmp 5), none, Q0⟩] false (some [0, 3]))
  (.seq (.seq (.reg 2 [⟨some 6, .mv (.tmp 0), none, Q0⟩] false (some [3, 6]))
  (.block 0 (.seq (.block 3 (.seq (.block 2 (.block 1 (.seq (.seq (.seq (.seq (.reg 3 [⟨some 8, .bin .eql (.tmp 6) (.con (.str ⟨#[108, 101, 116]⟩)), none, Q0⟩,
  ⟨some 7, .mv (.tmp 8), none, Q0⟩] false (some [3, 6, 7]))
  (.cond (.tmp 7) .skip (.seq (.reg 4 [⟨some 9, .bin .eql (.tmp 6) (.con (.str ⟨#[105, 110]⟩)), none, Q0⟩,
  ⟨some 7, .mv (.tmp 9), none, Q0⟩] false (some [3, 6, 7]))
  (.cond (.tmp 7) .skip (.seq (.reg 5 [⟨some 10, .bin .eql (.tmp 6) (.con (.str ⟨#[105, 102]⟩)), none, Q0⟩,
  ⟨some 7, .mv (.tmp 10), none, Q0⟩] false (some [3, 6, 7]))
  (.cond (.tmp 7) .skip (.seq (.reg 6 [⟨some 11, .bin .eql (.tmp 6) (.con (.str ⟨#[116, 104, 101, 110]⟩)), none, Q0⟩,
  ⟨some 7, .mv (.tmp 11), none, Q0⟩] false (some [3, 6, 7]))
  (.cond (.tmp 7) .skip (.reg 7 [⟨some 12, .bin .eql (.tmp 6) (.con (.str ⟨#[101, 108, 115, 101]⟩)), none, Q0⟩,
  ⟨some 7, .mv (.tmp 12), none, Q0⟩] false (some [3, 6, 7]))))))))))
  (.cond (.tmp 7) (.exit 1) .skip))
  (.seq (.seq (.seq (.reg 8 [⟨some 14, .bin .eql (.tmp 6) (.con (.str ⟨#[102, 110]⟩)), none, Q0⟩,
  ⟨some 13, .mv (.tmp 14), none, Q0⟩] false (some [3, 6, 13]))
  (.cond (.tmp 13) .skip (.seq (.reg 9 [⟨some 15, .bin .eql (.tmp 6) (.con (.str ⟨#[99, 97, 108, 108]⟩)), none, Q0⟩,
  ⟨some 13, .mv (.tmp 15), none, Q0⟩] false (some [3, 6, 13]))
  (.cond (.tmp 13) .skip (.seq (.reg 10 [⟨some 16, .bin .eql (.tmp 6) (.con (.str ⟨#[100, 101, 102]⟩)), none, Q0⟩,
  ⟨some 13, .mv (.tmp 16), none, Q0⟩] false (some [3, 6, 13]))
  (.cond (.tmp 13) .skip (.seq (.reg 11 [⟨some 17, .bin .eql (.tmp 6) (.con (.str ⟨#[116, 114, 117, 101]⟩)), none, Q0⟩,
  ⟨some 13, .mv (.tmp 17), none, Q0⟩] false (some [3, 6, 13]))
  (.cond (.tmp 13) .skip (.reg 12 [⟨some 18, .bin .eql (.tmp 6) (.con (.str ⟨#[102, 97, 108, 115, 101]⟩)), none, Q0⟩,
  ⟨some 13, .mv (.tmp 18), none, Q0⟩] false (some [3, 6, 13]))))))))))
  (.cond (.tmp 13) (.exit 2) .skip))
  (.seq (.seq (.reg 13 [⟨some 20, .bin .eql (.tmp 6) (.con (.str ⟨#[73, 110, 116]⟩)), none, Q0⟩,
  ⟨some 19, .mv (.tmp 20), none, Q0⟩] false (some [3, 6, 19]))
  (.cond (.tmp 19) .skip (.seq (.reg 14 [⟨some 21, .bin .eql (.tmp 6) (.con (.str ⟨#[66, 111, 111, 108]⟩)), none, Q0⟩,
  ⟨some 19, .mv (.tmp 21), none, Q0⟩] false (some [3, 6, 19]))
  (.cond (.tmp 19) .skip (.seq (.reg 15 [⟨some 22, .bin .eql (.tmp 6) (.con (.str ⟨#[83, 116, 114, 105, 110, 103]⟩)), none, Q0⟩,
  ⟨some 19, .mv (.tmp 22), none, Q0⟩] false (some [3, 6, 19]))
  (.cond (.tmp 19) .skip (.reg 16 [⟨some 23, .bin .eql (.tmp 6) (.con (.str ⟨#[84, 111, 112]⟩)), none, Q0⟩,
  ⟨some 19, .mv (.tmp 23), none, Q0⟩] false (some [3, 19]))))))))
  (.cond (.tmp 19) (.exit 3) .skip))))
  (.exit 0))))
  (.seq (.seq (.reg 17 [⟨some 2, .mv (.con (.int .i64 3)), none, Q0⟩] false (some [2]))
  .ret)
  (.exit 0))))
  (.seq (.seq (.reg 18 [⟨some 2, .mv (.con (.int .i64 4)), none, Q0⟩] false (some [2]))
  .ret)
  (.exit 0)))))
  (.seq (.reg 19 [⟨some 24, .mv (.tmp 3), none, Q0⟩,
  ⟨some 2, .mv (.tmp 24), none, Q0⟩] false (some [2]))
  .ret))))
def c67 : EFn := ⟨1, 25, [.tmp 2], c67_b, none, true⟩
theorem c67_ok : cFn Tryd.prog Tryd.f67 = some c67.strip := by kernel_rfl
-- limbeck/lex.escaped
def c68_r5 : List EI := [⟨some 13, .mv (.tmp 5), none, Q0⟩,
  ⟨some 14, .bin .eql (.tmp 13) (.con (.int .u8 34)), none, Q0⟩,
  ⟨some 15, .mv (.tmp 14), none, Q0⟩,
  ⟨some 16, .mv (.tmp 5), some (15, false), Q0⟩,
  ⟨some 17, .bin .eql (.tmp 16) (.con (.int .u8 92)), some (15, false), Q0⟩,
  ⟨some 18, .pick (.tmp 15) (.con (.bool true)) (.tmp 17), none, Q0⟩,
  ⟨some 12, .mv (.tmp 18), none, Q0⟩]
def c68_r9 : List EI := [⟨some 24, .mv (.tmp 5), none, Q0⟩,
  ⟨some 25, .bin .eql (.tmp 24) (.con (.int .u8 120)), none, Q0⟩,
  ⟨some 26, .mv (.tmp 25), none, Q0⟩,
  ⟨some 27, .mv (.tmp 4), some (26, true), Q0⟩,
  ⟨some 28, .call (.tmp 27) [(.con (.int .i64 2))], some (26, true), Q0⟩,
  ⟨some 29, .bin .geq (.tmp 28) (.con (.int .i64 0)), some (26, true), Q0⟩,
  ⟨some 30, .pick (.tmp 26) (.tmp 29) (.con (.bool false)), none, Q0⟩,
  ⟨some 31, .mv (.tmp 30), none, Q0⟩,
  ⟨some 32, .mv (.tmp 4), some (31, true), Q0⟩,
  ⟨some 33, .call (.tmp 32) [(.con (.int .i64 3))], some (31, true), Q0⟩,
  ⟨some 34, .bin .geq (.tmp 33) (.con (.int .i64 0)), some (31, true), Q0⟩,
  ⟨some 35, .pick (.tmp 31) (.tmp 34) (.con (.bool false)), none, Q0⟩,
  ⟨some 23, .mv (.tmp 35), none, Q0⟩]
def c68_b : EC := (.seq (.reg 0 [⟨some 1, .boxI 9 (.tmp 0), none, Q0⟩,
  ⟨some 2, .mv (.con (.int .u8 0)), none, Q0⟩,
  ⟨some 3, .mv (.con (.int .i64 0)), none, Q0⟩] false (some [1]))
  (.seq (.reg 1 [⟨some 6, .fnv 92 [] [(.tmp 1)], none, Q0⟩,
  ⟨some 4, .mv (.tmp 6), none, Q0⟩] false (some [1, 4]))
  (.seq (.seq (.reg 2 [⟨some 7, .ld none (.tmp 1), none, Q0⟩,
  ⟨some 8, .len true (.tmp 7), none, Q0⟩,
  ⟨some 9, .bin .lss (.tmp 8) (.con (.int .i64 2)), none, Q0⟩] false (some [1, 4, 9]))
  (.cond (.tmp 9) (.seq (.reg 3 [⟨some 2, .mv (.con (.int .u8 0)), none, Q0⟩,
  ⟨some 3, .mv (.con (.int .i64 0)), none, Q0⟩] false (some [2, 3]))
  .ret) .skip))
  (.seq (.seq (.reg 4 [⟨some 10, .ld none (.tmp 1), none, Q0⟩,
  ⟨some 11, .ixS (.tmp 10) (.con (.int .i64 1)), none, Q0⟩,
  ⟨some 5, .mv (.tmp 11), none, Q0⟩] false (some [4, 5]))
  (.block 0 (.seq (.reg 5 c68_r5 false (some [4, 5, 12]))
  (.cond (.tmp 12) (.seq (.reg 6 [⟨some 19, .mv (.tmp 5), none, Q0⟩,
  ⟨some 2, .mv (.tmp 19), none, Q0⟩,
  ⟨some 3, .mv (.con (.int .i64 2)), none, Q0⟩] false (some [2, 3]))
  .ret) (.seq (.reg 7 [⟨some 21, .mv (.tmp 5), none, Q0⟩,
  ⟨some 22, .bin .eql (.tmp 21) (.con (.int .u8 110)), none, Q0⟩,
  ⟨some 20, .mv (.tmp 22), none, Q0⟩] false (some [4, 5, 20]))
  (.cond (.tmp 20) (.seq (.reg 8 [⟨some 2, .mv (.con (.int .u8 10)), none, Q0⟩,
  ⟨some 3, .mv (.con (.int .i64 2)), none, Q0⟩] false (some [2, 3]))
  .ret) (.seq (.reg 9 c68_r9 false (some [4, 23]))
  (.cond (.tmp 23) (.seq (.reg 10 [⟨some 36, .mv (.tmp 4), none, Q0⟩,
  ⟨some 37, .call (.tmp 36) [(.con (.int .i64 2))], none, Q0⟩,
  ⟨some 38, .bin .shl (.tmp 37) (.con (.int .u64 4)), none, Q0⟩,
  ⟨some 39, .mv (.tmp 4), none, Q0⟩,
  ⟨some 40, .call (.tmp 39) [(.con (.int .i64 3))], none, Q0⟩,
  ⟨some 41, .bin .or (.tmp 38) (.tmp 40), none, Q0⟩,
  ⟨some 42, .cvI .u8 (.tmp 41), none, Q0⟩,
  ⟨some 2, .mv (.tmp 42), none, Q0⟩,
  ⟨some 3, .mv (.con (.int .i64 4)), none, Q0⟩] false (some [2, 3]))
  .ret) .skip))))))))
  (.seq (.reg 11 [⟨some 2, .mv (.con (.int .u8 0)), none, Q0⟩,
  ⟨some 3, .mv (.con (.int .i64 0)), none, Q0⟩] false (some [2, 3]))
  .ret)))))
def c68 : EFn := ⟨1, 43, [.tmp 2, .tmp 3], c68_b, none, true⟩
theorem c68_ok : cFn Tryd.prog Tryd.f68 = some c68.strip := by kernel_rfl
-- (*strings.Builder).Len
def c69_b : EC := (.seq (.reg 0 [⟨some 2, .mv (.con (.int .i64 0)), none, Q0⟩] false (some [0]))
  (.seq (.reg 1 [⟨some 3, .mv (.tmp 0), none, Q0⟩,
  ⟨some 4, .nck (.tmp 3), none, Q0⟩,
  ⟨some 5, .fA 1 (.tmp 4), none, Q0⟩,
  ⟨some 6, .ld none (.tmp 5), none, Q0⟩,
  ⟨some 7, .len false (.tmp 6), none, Q0⟩,
  ⟨some 2, .mv (.tmp 7), none, Q0⟩] false (some [2]))
  .ret))
def c69 : EFn := ⟨1, 8, [.tmp 2], c69_b, none, true⟩
theorem c69_ok : cFn Tryd.prog Tryd.f69 = some c69.strip := by kernel_rfl
-- limbeck/name.shape
def c91_r8 : List EI := [⟨some 16, .mv (.tmp 4), none, Q0⟩,
  ⟨some 17, .bin .eql (.tmp 16) (.con (.int .i64 0)), none, Q0⟩,
  ⟨some 18, .mv (.tmp 17), none, Q0⟩,
  ⟨some 19, .mv (.tmp 5), some (18, true), Q0⟩,
  ⟨some 20, .call (.con (.fn 109 [] [])) [(.tmp 19)], some (18, true), Q0⟩,
  ⟨some 21, .pick (.tmp 18) (.tmp 20) (.con (.bool false)), none, Q0⟩,
  ⟨some 15, .mv (.tmp 21), none, Q0⟩]
def c91_r10 : List EI := [⟨some 23, .mv (.tmp 4), none, Q0⟩,
  ⟨some 24, .bin .eql (.tmp 23) (.con (.int .i64 0)), none, Q0⟩,
  ⟨some 25, .mv (.tmp 24), none, Q0⟩,
  ⟨some 26, .mv (.tmp 5), some (25, true), Q0⟩,
  ⟨some 27, .call (.con (.fn 110 [] [])) [(.tmp 26)], some (25, true), Q0⟩,
  ⟨some 28, .pick (.tmp 25) (.tmp 27) (.con (.bool false)), none, Q0⟩,
  ⟨some 22, .mv (.tmp 28), none, Q0⟩]
def c91_r12 : List EI := [⟨some 30, .mv (.tmp 4), none, Q0⟩,
  ⟨some 31, .bin .gtr (.tmp 30) (.con (.int .i64 0)), none, Q0⟩,
  ⟨some 32, .mv (.tmp 31), none, Q0⟩,
  ⟨some 33, .mv (.tmp 3), some (32, true), Q0⟩,
  ⟨some 34, .bin .neq (.tmp 33) (.con (.int .i64 0)), some (32, true), Q0⟩,
  ⟨some 35, .pick (.tmp 32) (.tmp 34) (.con (.bool false)), none, Q0⟩,
  ⟨some 36, .mv (.tmp 35), none, Q0⟩,
  ⟨some 37, .mv (.tmp 5), some (36, true), Q0⟩,
  ⟨some 38, .call (.con (.fn 109 [] [])) [(.tmp 37)], some (36, true), Q0⟩,
  ⟨some 39, .mv (.tmp 38), some (36, true), Q0⟩,
  ⟨some 40, .mv (.tmp 5), some (39, false), Q0⟩,
  ⟨some 41, .call (.con (.fn 111 [] [])) [(.tmp 40)], some (39, false), Q0⟩,
  ⟨some 42, .pick (.tmp 39) (.con (.bool true)) (.tmp 41), some (36, true), Q0⟩,
  ⟨some 43, .pick (.tmp 36) (.tmp 42) (.con (.bool false)), none, Q0⟩,
  ⟨some 29, .mv (.tmp 43), none, Q0⟩]
def c91_r13 : List EI := [⟨some 45, .mv (.tmp 4), none, Q0⟩,
  ⟨some 46, .bin .gtr (.tmp 45) (.con (.int .i64 0)), none, Q0⟩,
  ⟨some 47, .mv (.tmp 46), none, Q0⟩,
  ⟨some 48, .mv (.tmp 3), some (47, true), Q0⟩,
  ⟨some 49, .bin .eql (.tmp 48) (.con (.int .i64 2)), some (47, true), Q0⟩,
  ⟨some 50, .pick (.tmp 47) (.tmp 49) (.con (.bool false)), none, Q0⟩,
  ⟨some 51, .mv (.tmp 50), none, Q0⟩,
  ⟨some 52, .mv (.tmp 5), some (51, true), Q0⟩,
  ⟨some 53, .call (.con (.fn 110 [] [])) [(.tmp 52)], some (51, true), Q0⟩,
  ⟨some 54, .pick (.tmp 51) (.tmp 53) (.con (.bool false)), none, Q0⟩,
  ⟨some 44, .mv (.tmp 54), none, Q0⟩]
def c91_l0_b : EC := (.seq (.reg 5 [⟨some 11, .nxt (.tmp 10), none, Q0⟩,
  ⟨some 12, .ext (.tmp 11) 0, none, Q0⟩] false (some [3, 10, 11, 12]))
  (.seq (.cond (.tmp 12) .skip (.exit 0))
  (.block 1 (.seq (.reg 6 [⟨some 13, .ext (.tmp 11) 1, none, Q0⟩,
  ⟨some 14, .ext (.tmp 11) 2, none, Q0⟩,
  ⟨some 4, .mv (.tmp 13), none, Q0⟩,
  ⟨some 5, .mv (.tmp 14), none, Q0⟩] false (some [3, 4, 5, 10]))
  (.block 2 (.seq (.reg 8 c91_r8 false (some [3, 4, 5, 10, 15]))
  (.cond (.tmp 15) (.reg 9 [⟨some 3, .mv (.con (.int .i64 1)), none, Q0⟩] false (some [3, 10])) (.seq (.reg 10 c91_r10 false (some [3, 4, 5, 10, 22]))
  (.cond (.tmp 22) (.reg 11 [⟨some 3, .mv (.con (.int .i64 2)), none, Q0⟩] false (some [3, 10])) (.seq (.reg 12 c91_r12 false (some [3, 4, 5, 10, 29]))
  (.cond (.tmp 29) .skip (.seq (.reg 13 c91_r13 false (some [3, 10, 44]))
  (.cond (.tmp 44) .skip (.seq (.reg 7 [⟨some 2, .mv (.con (.int .i64 0)), none, Q0⟩] false (some [2]))
  .ret))))))))))))))
def c91_l0 : EC := .loop (some [3, 10]) c91_l0_b
def c91_b : EC := (.seq (.reg 0 [⟨some 2, .mv (.con (.int .i64 0)), none, Q0⟩] false (some [0]))
  (.seq (.seq (.reg 1 [⟨some 6, .mv (.tmp 0), none, Q0⟩,
  ⟨some 7, .len true (.tmp 6), none, Q0⟩,
  ⟨some 8, .bin .gtr (.tmp 7) (.con (.int .i64 8)), none, Q0⟩] false (some [0, 8]))
  (.cond (.tmp 8) (.seq (.reg 2 [⟨some 2, .mv (.con (.int .i64 0)), none, Q0⟩] false (some [2]))
  .ret) .skip))
  (.seq (.reg 3 [⟨some 3, .mv (.con (.int .i64 0)), none, Q0⟩] false (some [0, 3]))
  (.seq (.seq (.reg 4 [⟨some 9, .mv (.tmp 0), none, Q0⟩,
  ⟨some 10, .rng (.tmp 9), none, Q0⟩] false (some [3, 10]))
  (.block 0 c91_l0))
  (.seq (.reg 14 [⟨some 55, .mv (.tmp 3), none, Q0⟩,
  ⟨some 2, .mv (.tmp 55), none, Q0⟩] false (some [2]))
  .ret)))))
def c91 : EFn := ⟨1, 56, [.tmp 2], c91_b, none, true⟩
theorem c91_l0_step {E : Env} {fin : Kont (PV × St)} {st : List Fr} {ts : Tmps} {S : St} {n : Nat} : (lvl E (n + 1)).ev c91_l0 ts S (kont E fin st) = (lvl E (n + 1)).ev c91_l0_b (sel (some [3, 10]) ts) S (kont E fin (.again n c91_l0 :: st)) := rfl
theorem c91_l0_w {E : Env} {fin : Kont (PV × St)} {st : List Fw} {ts : Tmps} {S : St} : run E fin st c91_l0 ts S = run E fin (.again c91_l0 :: st) c91_l0_b (sel (some [3, 10]) ts) S := w_loop
theorem c91_l0_a {E : Env} {fin : Kont (PV × St)} {st : List Fw} {ts : Tmps} {S : St} : aft E fin (.again c91_l0 :: st) .normal ts S = run E fin st c91_l0 (sel (some [3, 10]) ts) S := a_again_s
theorem c91_ok : cFn Tryd.prog Tryd.f91 = some c91.strip := by kernel_rfl
-- limbeck/lex.escaped$1
def c92_b : EC := (.seq (.reg 0 [⟨some 3, .mv (.con (.int .i64 0)), none, Q0⟩] false (some [0, 1]))
  (.seq (.seq (.reg 1 [⟨some 4, .mv (.tmp 0), none, Q0⟩,
  ⟨some 5, .ld none (.tmp 1), none, Q0⟩,
  ⟨some 6, .len true (.tmp 5), none, Q0⟩,
  ⟨some 7, .bin .geq (.tmp 4) (.tmp 6), none, Q0⟩] false (some [0, 1, 7]))
  (.cond (.tmp 7) (.seq (.reg 2 [⟨some 3, .mv (.con (.int .i64 (-1))), none, Q0⟩] false (some [3]))
  .ret) .skip))
  (.seq (.reg 3 [⟨some 8, .ld none (.tmp 1), none, Q0⟩,
  ⟨some 9, .mv (.tmp 0), none, Q0⟩,
  ⟨some 10, .ixS (.tmp 8) (.tmp 9), none, Q0⟩,
  ⟨some 11, .call (.con (.fn 60 [] [])) [(.con (.str ⟨#[48, 49, 50, 51, 52, 53, 54, 55, 56, 57, 97, 98, 99, 100, 101, 102]⟩)), (.tmp 10)], none, Q0⟩,
  ⟨some 3, .mv (.tmp 11), none, Q0⟩] false (some [3]))
  .ret)))
def c92 : EFn := ⟨2, 12, [.tmp 3], c92_b, none, true⟩
theorem c92_ok : cFn Tryd.prog Tryd.f92 = some c92.strip := by kernel_rfl
-- limbeck/name.low
def c109_r1 : List EI := [⟨some 3, .mv (.tmp 0), none, Q0⟩,
  ⟨some 4, .bin .geq (.tmp 3) (.con (.int .i32 97)), none, Q0⟩,
  ⟨some 5, .mv (.tmp 4), none, Q0⟩,
  ⟨some 6, .mv (.tmp 0), some (5, true), Q0⟩,
  ⟨some 7, .bin .leq (.tmp 6) (.con (.int .i32 122)), some (5, true), Q0⟩,
  ⟨some 8, .pick (.tmp 5) (.tmp 7) (.con (.bool false)), none, Q0⟩,
  ⟨some 2, .mv (.tmp 8), none, Q0⟩]
def c109_b : EC := (.seq (.reg 0 [⟨some 2, .mv (.con (.bool false)), none, Q0⟩] false (some [0]))
  (.seq (.reg 1 c109_r1 false (some [2]))
  .ret))
def c109 : EFn := ⟨1, 9, [.tmp 2], c109_b, none, true⟩
theorem c109_ok : cFn Tryd.prog Tryd.f109 = some c109.strip := by kernel_rfl
-- limbeck/name.up
def c110_r1 : List EI := [⟨some 3, .mv (.tmp 0), none, Q0⟩,
  ⟨some 4, .bin .geq (.tmp 3) (.con (.int .i32 65)), none, Q0⟩,
  ⟨some 5, .mv (.tmp 4), none, Q0⟩,
  ⟨some 6, .mv (.tmp 0), some (5, true), Q0⟩,
  ⟨some 7, .bin .leq (.tmp 6) (.con (.int .i32 90)), some (5, true), Q0⟩,
  ⟨some 8, .pick (.tmp 5) (.tmp 7) (.con (.bool false)), none, Q0⟩,
  ⟨some 2, .mv (.tmp 8), none, Q0⟩]
def c110_b : EC := (.seq (.reg 0 [⟨some 2, .mv (.con (.bool false)), none, Q0⟩] false (some [0]))
  (.seq (.reg 1 c110_r1 false (some [2]))
  .ret))
def c110 : EFn := ⟨1, 9, [.tmp 2], c110_b, none, true⟩
theorem c110_ok : cFn Tryd.prog Tryd.f110 = some c110.strip := by kernel_rfl
-- limbeck/name.digit
def c111_r1 : List EI := [⟨some 3, .mv (.tmp 0), none, Q0⟩,
  ⟨some 4, .bin .geq (.tmp 3) (.con (.int .i32 48)), none, Q0⟩,
  ⟨some 5, .mv (.tmp 4), none, Q0⟩,
  ⟨some 6, .mv (.tmp 0), some (5, true), Q0⟩,
  ⟨some 7, .bin .leq (.tmp 6) (.con (.int .i32 57)), some (5, true), Q0⟩,
  ⟨some 8, .pick (.tmp 5) (.tmp 7) (.con (.bool false)), none, Q0⟩,
  ⟨some 2, .mv (.tmp 8), none, Q0⟩]
def c111_b : EC := (.seq (.reg 0 [⟨some 2, .mv (.con (.bool false)), none, Q0⟩] false (some [0]))
  (.seq (.reg 1 c111_r1 false (some [2]))
  .ret))
def c111 : EFn := ⟨1, 9, [.tmp 2], c111_b, none, true⟩
theorem c111_ok : cFn Tryd.prog Tryd.f111 = some c111.strip := by kernel_rfl
end Go.PE
