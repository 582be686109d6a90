/-
  The functions of this seat, as the evaluator's code (printed by a program out of the translation), and that each is what the compiler makes of it. No conditions.
-/
import Derived.Test.YtaofeleeinjclaaGreatDoorPE21
import Derived.Test.YtaofeleeinjclaaGreatDoorProg
import Derived.KernelRfl
namespace Go.PE
open Go Go.Proofs
set_option linter.unusedVariables false
set_option maxRecDepth 100000
-- limbeck/limbecklaw03.LexReads
def c3_r5 : List EI := [⟨some 23, .mv (.tmp 4), none, Q0⟩,
  ⟨some 24, .eqI false (.tmp 23) (.con .nilifc), none, Q0⟩,
  ⟨some 25, .mv (.tmp 6), none, Q0⟩,
  ⟨some 26, .bin .eql (.tmp 25) (.con (.int .i64 0)), none, Q0⟩,
  ⟨some 27, .eqB true (.tmp 24) (.tmp 26), none, Q0⟩,
  ⟨some 28, .mv (.tmp 27), none, Q0⟩,
  ⟨some 29, .mv (.tmp 4), some (28, false), Q0⟩,
  ⟨some 30, .eqI true (.tmp 29) (.con .nilifc), some (28, false), Q0⟩,
  ⟨some 31, .mv (.tmp 30), some (28, false), Q0⟩,
  ⟨some 32, .mv (.tmp 4), some (31, true), Q0⟩,
  ⟨some 33, .call (.con (.fn 11 [] [])) [(.tmp 32)], some (31, true), Q0⟩,
  ⟨some 34, .mv (.tmp 6), some (31, true), Q0⟩,
  ⟨some 35, .bin .neq (.tmp 33) (.tmp 34), some (31, true), Q0⟩,
  ⟨some 36, .mv (.tmp 35), some (31, true), Q0⟩,
  ⟨some 37, .mv (.tmp 4), some (36, false), Q0⟩,
  ⟨some 38, .call (.con (.fn 12 [] [])) [(.tmp 37)], some (36, false), Q0⟩,
  ⟨some 39, .mv (.tmp 7), some (36, false), Q0⟩,
  ⟨some 40, .bin .neq (.tmp 38) (.tmp 39), some (36, false), Q0⟩,
  ⟨some 41, .pick (.tmp 36) (.con (.bool true)) (.tmp 40), some (31, true), Q0⟩,
  ⟨some 42, .pick (.tmp 31) (.tmp 41) (.con (.bool false)), some (28, false), Q0⟩,
  ⟨some 43, .pick (.tmp 28) (.con (.bool true)) (.tmp 42), none, Q0⟩]
def c3_r7 : List EI := [⟨some 44, .mv (.tmp 3), none, Q0⟩,
  ⟨some 45, .mv (.tmp 5), none, Q0⟩,
  ⟨some 46, .call (.con (.fn 13 [] [])) [(.tmp 44), (.tmp 45)], none, Q0⟩,
  ⟨some 47, .mv (.tmp 46), none, Q0⟩,
  ⟨some 48, .mv (.tmp 0), some (47, true), Q0⟩,
  ⟨some 49, .call (.con (.fn 14 [] [])) [(.tmp 48)], some (47, true), Q0⟩,
  ⟨some 50, .mv (.tmp 0), some (47, true), Q0⟩,
  ⟨some 51, .call (.con (.fn 15 [] [])) [(.tmp 50)], some (47, true), Q0⟩,
  ⟨some 52, .bin .eql (.tmp 49) (.tmp 51), some (47, true), Q0⟩,
  ⟨some 53, .pick (.tmp 47) (.tmp 52) (.con (.bool false)), none, Q0⟩,
  ⟨some 54, .mv (.tmp 53), none, Q0⟩,
  ⟨some 55, .call (.con (.fn 8 [] [])) [], some (54, true), Q0⟩,
  ⟨some 56, .pick (.tmp 54) (.tmp 55) (.con (.bool false)), none, Q0⟩,
  ⟨some 2, .mv (.tmp 56), none, Q0⟩]
def c3_b : EC := (.seq (.reg 0 [⟨some 2, .mv (.con (.bool false)), none, Q0⟩] false (some [0]))
  (.seq (.seq (.reg 1 [⟨some 8, .mv (.tmp 0), none, Q0⟩,
  ⟨some 9, .len true (.tmp 8), none, Q0⟩,
  ⟨some 10, .bin .gtr (.tmp 9) (.con (.int .i64 3000)), none, Q0⟩] false (some [0, 10]))
  (.cond (.tmp 10) (.seq (.reg 2 [⟨some 11, .call (.con (.fn 8 [] [])) [], none, Q0⟩,
  ⟨some 2, .mv (.tmp 11), none, Q0⟩] false (some [2]))
  .ret) .skip))
  (.seq (.reg 3 [⟨some 13, .mv (.tmp 0), none, Q0⟩,
  ⟨some 14, .call (.con (.fn 9 [] [])) [(.tmp 13)], none, Q0⟩,
  ⟨some 12, .mv (.tmp 14), none, Q0⟩,
  ⟨some 15, .ext (.tmp 12) 0, none, Q0⟩,
  ⟨some 16, .ext (.tmp 12) 1, none, Q0⟩,
  ⟨some 3, .mv (.tmp 15), none, Q0⟩,
  ⟨some 4, .mv (.tmp 16), none, Q0⟩] false (some [0, 3, 4]))
  (.seq (.reg 4 [⟨some 18, .mv (.tmp 0), none, Q0⟩,
  ⟨some 19, .call (.con (.fn 10 [] [])) [(.tmp 18)], none, Q0⟩,
  ⟨some 17, .mv (.tmp 19), none, Q0⟩,
  ⟨some 20, .ext (.tmp 17) 0, none, Q0⟩,
  ⟨some 21, .ext (.tmp 17) 1, none, Q0⟩,
  ⟨some 22, .ext (.tmp 17) 2, none, Q0⟩,
  ⟨some 5, .mv (.tmp 20), none, Q0⟩,
  ⟨some 6, .mv (.tmp 21), none, Q0⟩,
  ⟨some 7, .mv (.tmp 22), none, Q0⟩] false (some [0, 3, 4, 5, 6, 7]))
  (.seq (.seq (.reg 5 c3_r5 false (some [0, 3, 5, 43]))
  (.cond (.tmp 43) (.seq (.reg 6 [⟨some 2, .mv (.con (.bool false)), none, Q0⟩] false (some [2]))
  .ret) .skip))
  (.seq (.reg 7 c3_r7 false (some [2]))
  .ret))))))
def c3 : EFn := ⟨1, 57, [.tmp 2], c3_b, none, true⟩
theorem c3_ok : cFn Tryz.prog Tryz.f3 = some c3.strip := by kernel_rfl
-- limbeck/limbecklaw03.awake
def c8_r2 : List EI := [⟨some 7, .mv (.tmp 2), none, Q0⟩,
  ⟨some 8, .eqI false (.tmp 7) (.con .nilifc), none, Q0⟩,
  ⟨some 9, .mv (.tmp 8), none, Q0⟩,
  ⟨some 10, .mv (.tmp 1), some (9, true), Q0⟩,
  ⟨some 11, .len false (.tmp 10), some (9, true), Q0⟩,
  ⟨some 12, .bin .eql (.tmp 11) (.con (.int .i64 5)), some (9, true), Q0⟩,
  ⟨some 13, .pick (.tmp 9) (.tmp 12) (.con (.bool false)), none, Q0⟩,
  ⟨some 14, .mv (.tmp 13), none, Q0⟩,
  ⟨some 15, .mv (.tmp 1), some (14, true), Q0⟩,
  ⟨some 16, .ixL 4 (.tmp 15) (.con (.int .i64 0)), some (14, true), Q0⟩,
  ⟨some 17, .fA 2 (.tmp 16), some (14, true), Q0⟩,
  ⟨some 18, .ld none (.tmp 17), some (14, true), Q0⟩,
  ⟨some 19, .bin .eql (.tmp 18) (.con (.str ⟨#[97]⟩)), some (14, true), Q0⟩,
  ⟨some 20, .pick (.tmp 14) (.tmp 19) (.con (.bool false)), none, Q0⟩,
  ⟨some 21, .mv (.tmp 20), none, Q0⟩,
  ⟨some 22, .mv (.tmp 1), some (21, true), Q0⟩,
  ⟨some 23, .ixL 4 (.tmp 22) (.con (.int .i64 1)), some (21, true), Q0⟩,
  ⟨some 24, .fA 2 (.tmp 23), some (21, true), Q0⟩,
  ⟨some 25, .ld none (.tmp 24), some (21, true), Q0⟩,
  ⟨some 26, .bin .eql (.tmp 25) (.con (.str ⟨#[60, 58]⟩)), some (21, true), Q0⟩,
  ⟨some 27, .pick (.tmp 21) (.tmp 26) (.con (.bool false)), none, Q0⟩,
  ⟨some 28, .mv (.tmp 27), none, Q0⟩,
  ⟨some 29, .mv (.tmp 1), some (28, true), Q0⟩,
  ⟨some 30, .ixL 4 (.tmp 29) (.con (.int .i64 2)), some (28, true), Q0⟩,
  ⟨some 31, .fA 0 (.tmp 30), some (28, true), Q0⟩,
  ⟨some 32, .ld none (.tmp 31), some (28, true), Q0⟩,
  ⟨some 33, .bin .eql (.tmp 32) (.con (.int .i64 4)), some (28, true), Q0⟩,
  ⟨some 34, .pick (.tmp 28) (.tmp 33) (.con (.bool false)), none, Q0⟩,
  ⟨some 35, .mv (.tmp 34), none, Q0⟩,
  ⟨some 36, .mv (.tmp 1), some (35, true), Q0⟩,
  ⟨some 37, .ixL 4 (.tmp 36) (.con (.int .i64 3)), some (35, true), Q0⟩,
  ⟨some 38, .fA 1 (.tmp 37), some (35, true), Q0⟩,
  ⟨some 39, .ld none (.tmp 38), some (35, true), Q0⟩,
  ⟨some 40, .bin .eql (.tmp 39) (.con (.int .i64 7)), some (35, true), Q0⟩,
  ⟨some 41, .pick (.tmp 35) (.tmp 40) (.con (.bool false)), none, Q0⟩,
  ⟨some 42, .mv (.tmp 41), none, Q0⟩,
  ⟨some 43, .call (.con (.fn 14 [] [])) [(.con (.str ⟨#[97, 10]⟩))], some (42, true), Q0⟩,
  ⟨some 44, .bin .eql (.tmp 43) (.con (.str ⟨#[34, 97, 92, 110, 34]⟩)), some (42, true), Q0⟩,
  ⟨some 45, .pick (.tmp 42) (.tmp 44) (.con (.bool false)), none, Q0⟩,
  ⟨some 0, .mv (.tmp 45), none, Q0⟩]
def c8_b : EC := (.seq (.reg 0 [⟨some 0, .mv (.con (.bool false)), none, Q0⟩] false (some []))
  (.seq (.reg 1 [⟨some 4, .call (.con (.fn 9 [] [])) [(.con (.str ⟨#[97, 60, 58, 88, 32, 55]⟩))], none, Q0⟩,
  ⟨some 3, .mv (.tmp 4), none, Q0⟩,
  ⟨some 5, .ext (.tmp 3) 0, none, Q0⟩,
  ⟨some 6, .ext (.tmp 3) 1, none, Q0⟩,
  ⟨some 1, .mv (.tmp 5), none, Q0⟩,
  ⟨some 2, .mv (.tmp 6), none, Q0⟩] false (some [1, 2]))
  (.seq (.reg 2 c8_r2 false (some [0]))
  .ret)))
def c8 : EFn := ⟨0, 46, [.tmp 0], c8_b, none, true⟩
theorem c8_ok : cFn Tryz.prog Tryz.f8 = some c8.strip := by kernel_rfl
-- limbeck/lex.All
def c9_l0_b : EC := (.seq (.seq (.reg 4 [⟨some 12, .mv (.tmp 4), none, Q0⟩,
  ⟨some 13, .call (.con (.fn 31 [] [])) [(.tmp 12)], none, Q0⟩] false (some [0, 4, 13]))
  (.cond (.tmp 13) .skip (.exit 0)))
  (.block 1 .skip))
def c9_l0 : EC := .loop (some [0, 4]) c9_l0_b
def c9_b : EC := (.seq (.reg 0 [⟨some 2, .mv (.con (.sl .null [])), none, Q0⟩,
  ⟨some 3, .mv (.con .nilifc), none, Q0⟩] false (some [0]))
  (.seq (.seq (.reg 1 [⟨some 5, .mv (.tmp 0), none, Q0⟩,
  ⟨some 6, .len true (.tmp 5), none, Q0⟩,
  ⟨some 7, .bin .gtr (.tmp 6) (.con (.int .i64 65536)), none, Q0⟩] false (some [0, 7]))
  (.cond (.tmp 7) (.seq (.reg 2 [⟨some 8, .call (.con (.fn 30 [] [])) [(.con (.int .i64 6)), (.con (.int .i64 0))], none, Q0⟩,
  ⟨some 2, .mv (.con (.sl .null [])), none, Q0⟩,
  ⟨some 3, .mv (.tmp 8), none, Q0⟩] false (some [2, 3]))
  .ret) .skip))
  (.seq (.reg 3 [⟨some 9, .mv (.tmp 0), none, Q0⟩,
  ⟨some 10, .build [(.str ⟨#[]⟩), (.int .i64 0), (.sl .null []), .nilifc] [(0, 1, (.tmp 9))], none, Q0⟩,
  ⟨some 11, .box 65 (.tmp 10), none, Q0⟩,
  ⟨some 4, .mv (.tmp 11), none, Q0⟩] false (some [0, 4]))
  (.seq (.block 0 c9_l0)
  (.seq (.seq (.reg 5 [⟨some 14, .mv (.tmp 4), none, Q0⟩,
  ⟨some 15, .nck (.tmp 14), none, Q0⟩,
  ⟨some 16, .fA 3 (.tmp 15), none, Q0⟩,
  ⟨some 17, .ld none (.tmp 16), none, Q0⟩,
  ⟨some 18, .eqI true (.tmp 17) (.con .nilifc), none, Q0⟩] false (some [0, 4, 18]))
  (.cond (.tmp 18) (.seq (.reg 6 [⟨some 19, .mv (.tmp 4), none, ⟨.no, false⟩⟩,
  ⟨some 20, .nck (.tmp 19), none, ⟨.no, false⟩⟩,
  ⟨some 21, .fA 3 (.tmp 20), none, ⟨.no, false⟩⟩,
  ⟨some 22, .ld none (.tmp 21), none, ⟨.no, false⟩⟩,
  ⟨some 2, .mv (.con (.sl .null [])), none, Q0⟩,
  ⟨some 3, .mv (.tmp 22), none, Q0⟩] true (some [2, 3]))
  .ret) .skip))
  (.seq (.reg 7 [⟨some 23, .mv (.tmp 4), none, Q0⟩,
  ⟨some 24, .nck (.tmp 23), none, Q0⟩,
  ⟨some 25, .fA 2 (.tmp 24), none, Q0⟩,
  ⟨some 26, .ld none (.tmp 25), none, Q0⟩,
  ⟨some 27, .mv (.tmp 0), none, Q0⟩,
  ⟨some 28, .len true (.tmp 27), none, Q0⟩,
  ⟨some 29, .build [(.int .i64 0), (.int .i64 0), (.str ⟨#[]⟩), (.int .i64 0)] [(0, 1, (.con (.int .i64 0))), (3, 1, (.tmp 28))], none, Q0⟩,
  ⟨some 30, .rows 1 4 [(.int .i64 0), (.int .i64 0), (.str ⟨#[]⟩), (.int .i64 0)] [(0, (.tmp 29))], none, Q0⟩,
  ⟨some 31, .app 53 4 40 (.tmp 26) (.tmp 30), none, Q0⟩,
  ⟨some 2, .mv (.tmp 31), none, Q0⟩,
  ⟨some 3, .mv (.con .nilifc), none, Q0⟩] false (some [2, 3]))
  .ret))))))
def c9 : EFn := ⟨1, 32, [.tmp 2, .tmp 3], c9_b, none, true⟩
theorem c9_l0_step {E : Env} {fin : Kont (PV × St)} {st : List Fr} {ts : Tmps} {S : St} {n : Nat} : (lvl E (n + 1)).ev c9_l0 ts S (kont E fin st) = (lvl E (n + 1)).ev c9_l0_b (sel (some [0, 4]) ts) S (kont E fin (.again n c9_l0 :: st)) := rfl
theorem c9_l0_w {E : Env} {fin : Kont (PV × St)} {st : List Fw} {ts : Tmps} {S : St} : run E fin st c9_l0 ts S = run E fin (.again c9_l0 :: st) c9_l0_b (sel (some [0, 4]) ts) S := w_loop
theorem c9_l0_a {E : Env} {fin : Kont (PV × St)} {st : List Fw} {ts : Tmps} {S : St} : aft E fin (.again c9_l0 :: st) .normal ts S = run E fin st c9_l0 (sel (some [0, 4]) ts) S := a_again_s
theorem c9_ok : cFn Tryz.prog Tryz.f9 = some c9.strip := by kernel_rfl
-- limbeck/limbeckref03.All
def c10_l0_b : EC := (.seq (.seq (.reg 5 [⟨some 11, .mv (.tmp 6), none, Q0⟩,
  ⟨some 12, .mv (.tmp 0), none, Q0⟩,
  ⟨some 13, .len true (.tmp 12), none, Q0⟩,
  ⟨some 14, .bin .lss (.tmp 11) (.tmp 13), none, Q0⟩] false (some [0, 5, 6, 14]))
  (.cond (.tmp 14) .skip (.exit 0)))
  (.block 1 (.seq (.reg 6 [⟨some 15, .mv (.tmp 0), none, Q0⟩,
  ⟨some 16, .mv (.tmp 6), none, Q0⟩,
  ⟨some 17, .call (.con (.fn 32 [] [])) [(.tmp 15), (.tmp 16)], none, Q0⟩,
  ⟨some 7, .new 67 [(.int .i64 0), (.int .i64 0), (.str ⟨#[]⟩), (.int .i64 0), (.bool false), (.int .i64 0), (.int .i64 0), (.int .i64 0)], none, Q0⟩,
  ⟨none, .st 8 (.tmp 7) (.tmp 17), none, Q0⟩] false (some [0, 5, 7]))
  (.seq (.seq (.reg 7 [⟨some 18, .fA 6 (.tmp 7), none, Q0⟩,
  ⟨some 19, .ld none (.tmp 18), none, Q0⟩,
  ⟨some 20, .bin .neq (.tmp 19) (.con (.int .i64 0)), none, Q0⟩] false (some [0, 5, 7, 20]))
  (.cond (.tmp 20) (.seq (.reg 8 [⟨some 21, .fA 6 (.tmp 7), none, ⟨.no, false⟩⟩,
  ⟨some 22, .ld none (.tmp 21), none, ⟨.still, false⟩⟩,
  ⟨some 23, .fA 7 (.tmp 7), none, ⟨.no, false⟩⟩,
  ⟨some 24, .ld none (.tmp 23), none, ⟨.still, false⟩⟩,
  ⟨some 2, .mv (.con (.sl .null [])), none, Q0⟩,
  ⟨some 3, .mv (.tmp 22), none, Q0⟩,
  ⟨some 4, .mv (.tmp 24), none, Q0⟩] true (some [2, 3, 4]))
  .ret) .skip))
  (.seq (.seq (.reg 9 [⟨some 25, .fA 4 (.tmp 7), none, Q0⟩,
  ⟨some 26, .ld none (.tmp 25), none, Q0⟩,
  ⟨some 27, .un .not (.tmp 26), none, Q0⟩] false (some [0, 5, 7, 27]))
  (.cond (.tmp 27) (.reg 10 [⟨some 28, .mv (.tmp 5), none, Q0⟩,
  ⟨some 29, .fA 0 (.tmp 7), none, Q0⟩,
  ⟨some 30, .ld (some 4) (.tmp 29), none, Q0⟩,
  ⟨some 31, .rows 1 4 [(.int .i64 0), (.int .i64 0), (.str ⟨#[]⟩), (.int .i64 0)] [(0, (.tmp 30))], none, Q0⟩,
  ⟨some 32, .app 53 4 40 (.tmp 28) (.tmp 31), none, Q0⟩,
  ⟨some 5, .mv (.tmp 32), none, Q0⟩] false (some [0, 5, 7])) .skip))
  (.reg 11 [⟨some 33, .fA 5 (.tmp 7), none, Q0⟩,
  ⟨some 34, .ld none (.tmp 33), none, Q0⟩,
  ⟨some 6, .mv (.tmp 34), none, Q0⟩] false (some [0, 5, 6])))))))
def c10_l0 : EC := .loop (some [0, 5, 6]) c10_l0_b
def c10_b : EC := (.seq (.reg 0 [⟨some 2, .mv (.con (.sl .null [])), none, Q0⟩,
  ⟨some 3, .mv (.con (.int .i64 0)), none, Q0⟩,
  ⟨some 4, .mv (.con (.int .i64 0)), none, Q0⟩] false (some [0]))
  (.seq (.seq (.reg 1 [⟨some 8, .mv (.tmp 0), none, Q0⟩,
  ⟨some 9, .len true (.tmp 8), none, Q0⟩,
  ⟨some 10, .bin .gtr (.tmp 9) (.con (.int .i64 65536)), none, Q0⟩] false (some [0, 10]))
  (.cond (.tmp 10) (.seq (.reg 2 [⟨some 2, .mv (.con (.sl .null [])), none, Q0⟩,
  ⟨some 3, .mv (.con (.int .i64 6)), none, Q0⟩,
  ⟨some 4, .mv (.con (.int .i64 0)), none, Q0⟩] false (some [2, 3, 4]))
  .ret) .skip))
  (.seq (.reg 3 [⟨some 5, .mv (.con (.sl .null [])), none, Q0⟩] false (some [0, 5]))
  (.seq (.reg 4 [⟨some 6, .mv (.con (.int .i64 0)), none, Q0⟩] false (some [0, 5, 6]))
  (.seq (.block 0 c10_l0)
  (.seq (.reg 12 [⟨some 35, .mv (.tmp 5), none, Q0⟩,
  ⟨some 36, .mv (.tmp 0), none, Q0⟩,
  ⟨some 37, .len true (.tmp 36), none, Q0⟩,
  ⟨some 38, .build [(.int .i64 0), (.int .i64 0), (.str ⟨#[]⟩), (.int .i64 0)] [(0, 1, (.con (.int .i64 0))), (3, 1, (.tmp 37))], none, Q0⟩,
  ⟨some 39, .rows 1 4 [(.int .i64 0), (.int .i64 0), (.str ⟨#[]⟩), (.int .i64 0)] [(0, (.tmp 38))], none, Q0⟩,
  ⟨some 40, .app 53 4 40 (.tmp 35) (.tmp 39), none, Q0⟩,
  ⟨some 2, .mv (.tmp 40), none, Q0⟩,
  ⟨some 3, .mv (.con (.int .i64 0)), none, Q0⟩,
  ⟨some 4, .mv (.con (.int .i64 0)), none, Q0⟩] false (some [2, 3, 4]))
  .ret))))))
def c10 : EFn := ⟨1, 41, [.tmp 2, .tmp 3, .tmp 4], c10_b, none, true⟩
theorem c10_l0_step {E : Env} {fin : Kont (PV × St)} {st : List Fr} {ts : Tmps} {S : St} {n : Nat} : (lvl E (n + 1)).ev c10_l0 ts S (kont E fin st) = (lvl E (n + 1)).ev c10_l0_b (sel (some [0, 5, 6]) ts) S (kont E fin (.again n c10_l0 :: st)) := rfl
theorem c10_l0_w {E : Env} {fin : Kont (PV × St)} {st : List Fw} {ts : Tmps} {S : St} : run E fin st c10_l0 ts S = run E fin (.again c10_l0 :: st) c10_l0_b (sel (some [0, 5, 6]) ts) S := w_loop
theorem c10_l0_a {E : Env} {fin : Kont (PV × St)} {st : List Fw} {ts : Tmps} {S : St} : aft E fin (.again c10_l0 :: st) .normal ts S = run E fin st c10_l0 (sel (some [0, 5, 6]) ts) S := a_again_s
theorem c10_ok : cFn Tryz.prog Tryz.f10 = some c10.strip := by kernel_rfl
-- limbeck/limbeckref03.Same
def c13_r4 : List EI := [⟨some 11, .mv (.tmp 5), none, Q0⟩,
  ⟨some 12, .mv (.tmp 0), none, Q0⟩,
  ⟨some 13, .len false (.tmp 12), none, Q0⟩,
  ⟨some 14, .bin .lss (.tmp 11) (.tmp 13), none, Q0⟩,
  ⟨some 15, .mv (.tmp 14), none, Q0⟩,
  ⟨some 16, .mv (.tmp 5), some (15, true), Q0⟩,
  ⟨some 17, .mv (.tmp 1), some (15, true), Q0⟩,
  ⟨some 18, .len false (.tmp 17), some (15, true), Q0⟩,
  ⟨some 19, .bin .lss (.tmp 16) (.tmp 18), some (15, true), Q0⟩,
  ⟨some 20, .pick (.tmp 15) (.tmp 19) (.con (.bool false)), none, Q0⟩]
def c13_l0_b : EC := (.seq (.seq (.reg 4 c13_r4 false (some [0, 1, 5, 20]))
  (.cond (.tmp 20) .skip (.exit 0)))
  (.seq (.block 1 (.seq (.reg 6 [⟨some 23, .mv (.tmp 0), none, ⟨.no, false⟩⟩,
  ⟨some 24, .mv (.tmp 5), none, ⟨.no, false⟩⟩,
  ⟨some 25, .ixL 4 (.tmp 23) (.tmp 24), none, ⟨.no, false⟩⟩,
  ⟨some 26, .ld (some 4) (.tmp 25), none, ⟨.still, false⟩⟩,
  ⟨some 27, .mv (.tmp 1), none, ⟨.no, false⟩⟩,
  ⟨some 28, .mv (.tmp 5), none, Q0⟩,
  ⟨some 29, .ixL 4 (.tmp 27) (.tmp 28), none, Q0⟩,
  ⟨some 30, .ld (some 4) (.tmp 29), none, Q1⟩,
  ⟨some 31, .eqG true 4 [(0, 0), (1, 0), (2, 1), (3, 0)] (.tmp 26) (.tmp 30), none, Q0⟩] true (some [0, 1, 5, 31]))
  (.cond (.tmp 31) (.seq (.reg 7 [⟨some 4, .mv (.con (.bool false)), none, Q0⟩] false (some [4]))
  .ret) .skip)))
  (.reg 5 [⟨some 21, .mv (.tmp 5), none, Q0⟩,
  ⟨some 22, .bin .add (.tmp 21) (.con (.int .i64 1)), none, Q0⟩,
  ⟨some 5, .mv (.tmp 22), none, Q0⟩] false (some [0, 1, 5]))))
def c13_l0 : EC := .loop (some [0, 1, 5]) c13_l0_b
def c13_b : EC := (.seq (.reg 0 [⟨some 4, .mv (.con (.bool false)), none, Q0⟩] false (some [0, 1]))
  (.seq (.seq (.reg 1 [⟨some 6, .mv (.tmp 0), none, Q0⟩,
  ⟨some 7, .len false (.tmp 6), none, Q0⟩,
  ⟨some 8, .mv (.tmp 1), none, Q0⟩,
  ⟨some 9, .len false (.tmp 8), none, Q0⟩,
  ⟨some 10, .bin .neq (.tmp 7) (.tmp 9), none, Q0⟩] false (some [0, 1, 10]))
  (.cond (.tmp 10) (.seq (.reg 2 [⟨some 4, .mv (.con (.bool false)), none, Q0⟩] false (some [4]))
  .ret) .skip))
  (.seq (.seq (.reg 3 [⟨some 5, .mv (.con (.int .i64 0)), none, Q0⟩] false (some [0, 1, 5]))
  (.block 0 c13_l0))
  (.seq (.reg 8 [⟨some 4, .mv (.con (.bool true)), none, Q0⟩] false (some [4]))
  .ret))))
def c13 : EFn := ⟨2, 32, [.tmp 4], c13_b, none, true⟩
theorem c13_l0_step {E : Env} {fin : Kont (PV × St)} {st : List Fr} {ts : Tmps} {S : St} {n : Nat} : (lvl E (n + 1)).ev c13_l0 ts S (kont E fin st) = (lvl E (n + 1)).ev c13_l0_b (sel (some [0, 1, 5]) ts) S (kont E fin (.again n c13_l0 :: st)) := rfl
theorem c13_l0_w {E : Env} {fin : Kont (PV × St)} {st : List Fw} {ts : Tmps} {S : St} : run E fin st c13_l0 ts S = run E fin (.again c13_l0 :: st) c13_l0_b (sel (some [0, 1, 5]) ts) S := w_loop
theorem c13_l0_a {E : Env} {fin : Kont (PV × St)} {st : List Fw} {ts : Tmps} {S : St} : aft E fin (.again c13_l0 :: st) .normal ts S = run E fin st c13_l0 (sel (some [0, 1, 5]) ts) S := a_again_s
theorem c13_ok : cFn Tryz.prog Tryz.f13 = some c13.strip := by kernel_rfl
-- limbeck/lex.Quote
def c14_r7 : List EI := [⟨some 17, .mv (.tmp 5), none, Q0⟩,
  ⟨some 18, .bin .eql (.tmp 17) (.con (.int .u8 34)), none, Q0⟩,
  ⟨some 19, .mv (.tmp 18), none, Q0⟩,
  ⟨some 20, .mv (.tmp 5), some (19, false), Q0⟩,
  ⟨some 21, .bin .eql (.tmp 20) (.con (.int .u8 92)), some (19, false), Q0⟩,
  ⟨some 22, .pick (.tmp 19) (.con (.bool true)) (.tmp 21), none, Q0⟩,
  ⟨some 16, .mv (.tmp 22), none, Q0⟩]
def c14_r12 : List EI := [⟨some 31, .mv (.tmp 5), none, Q0⟩,
  ⟨some 32, .bin .lss (.tmp 31) (.con (.int .u8 32)), none, Q0⟩,
  ⟨some 33, .mv (.tmp 32), none, Q0⟩,
  ⟨some 34, .mv (.tmp 5), some (33, false), Q0⟩,
  ⟨some 35, .bin .gtr (.tmp 34) (.con (.int .u8 126)), some (33, false), Q0⟩,
  ⟨some 36, .pick (.tmp 33) (.con (.bool true)) (.tmp 35), none, Q0⟩,
  ⟨some 30, .mv (.tmp 36), none, Q0⟩]
def c14_l0_b : EC := (.seq (.reg 4 [⟨some 11, .bin .lss (.tmp 10) (.tmp 9), none, Q0⟩] false (some [3, 8, 9, 10, 11]))
  (.seq (.cond (.tmp 11) .skip (.exit 0))
  (.seq (.block 1 (.seq (.reg 5 [⟨some 12, .ixL 1 (.tmp 8) (.tmp 10), none, Q0⟩,
  ⟨some 13, .ld none (.tmp 12), none, Q0⟩,
  ⟨some 5, .mv (.tmp 13), none, Q0⟩] false (some [3, 5, 8, 9, 10]))
  (.block 2 (.seq (.reg 7 c14_r7 false (some [3, 5, 8, 9, 10, 16]))
  (.cond (.tmp 16) (.seq (.reg 8 [⟨some 23, .call (.con (.fn 34 [] [])) [(.tmp 3), (.con (.int .u8 92))], none, Q0⟩] false (some [3, 5, 8, 9, 10]))
  (.reg 9 [⟨some 24, .mv (.tmp 5), none, Q0⟩,
  ⟨some 25, .call (.con (.fn 34 [] [])) [(.tmp 3), (.tmp 24)], none, Q0⟩] false (some [3, 8, 9, 10]))) (.seq (.reg 10 [⟨some 27, .mv (.tmp 5), none, Q0⟩,
  ⟨some 28, .bin .eql (.tmp 27) (.con (.int .u8 10)), none, Q0⟩,
  ⟨some 26, .mv (.tmp 28), none, Q0⟩] false (some [3, 5, 8, 9, 10, 26]))
  (.cond (.tmp 26) (.reg 11 [⟨some 29, .call (.con (.fn 35 [] [])) [(.tmp 3), (.con (.str ⟨#[92, 110]⟩))], none, Q0⟩] false (some [3, 8, 9, 10])) (.seq (.reg 12 c14_r12 false (some [3, 5, 8, 9, 10, 30]))
  (.cond (.tmp 30) (.seq (.reg 13 [⟨some 37, .call (.con (.fn 35 [] [])) [(.tmp 3), (.con (.str ⟨#[92, 120]⟩))], none, Q0⟩] false (some [3, 5, 8, 9, 10]))
  (.seq (.reg 14 [⟨some 38, .mv (.tmp 5), none, Q0⟩,
  ⟨some 39, .bin .shr (.tmp 38) (.con (.int .u64 4)), none, Q0⟩,
  ⟨some 40, .ixS (.con (.str ⟨#[48, 49, 50, 51, 52, 53, 54, 55, 56, 57, 97, 98, 99, 100, 101, 102]⟩)) (.tmp 39), none, Q0⟩,
  ⟨some 41, .call (.con (.fn 34 [] [])) [(.tmp 3), (.tmp 40)], none, Q0⟩] false (some [3, 5, 8, 9, 10]))
  (.reg 15 [⟨some 42, .mv (.tmp 5), none, Q0⟩,
  ⟨some 43, .bin .and (.tmp 42) (.con (.int .u8 15)), none, Q0⟩,
  ⟨some 44, .ixS (.con (.str ⟨#[48, 49, 50, 51, 52, 53, 54, 55, 56, 57, 97, 98, 99, 100, 101, 102]⟩)) (.tmp 43), none, Q0⟩,
  ⟨some 45, .call (.con (.fn 34 [] [])) [(.tmp 3), (.tmp 44)], none, Q0⟩] false (some [3, 8, 9, 10])))) (.reg 6 [⟨some 14, .mv (.tmp 5), none, Q0⟩,
  ⟨some 15, .call (.con (.fn 34 [] [])) [(.tmp 3), (.tmp 14)], none, Q0⟩] false (some [3, 8, 9, 10])))))))))))
  (.reg 16 [⟨some 46, .bin .add (.tmp 10) (.con (.int .i64 1)), none, Q0⟩,
  ⟨some 10, .mv (.tmp 46), none, Q0⟩] false (some [3, 8, 9, 10])))))
def c14_l0 : EC := .loop (some [3, 8, 9, 10]) c14_l0_b
def c14_b : EC := (.seq (.reg 0 [⟨some 2, .mv (.con (.str ⟨#[]⟩)), none, Q0⟩] false (some [0]))
  (.seq (.reg 1 [⟨some 3, .new 77 [.nilp, (.sl .null [])], none, Q0⟩] false (some [0, 3]))
  (.seq (.reg 2 [⟨some 6, .call (.con (.fn 34 [] [])) [(.tmp 3), (.con (.int .u8 34))], none, Q0⟩] false (some [0, 3]))
  (.seq (.seq (.reg 3 [⟨some 7, .mv (.tmp 0), none, Q0⟩,
  ⟨some 8, .s2b (.tmp 7), none, Q0⟩,
  ⟨some 9, .len false (.tmp 8), none, Q0⟩,
  ⟨some 10, .mv (.con (.int .i64 0)), none, Q0⟩] false (some [3, 8, 9, 10]))
  (.block 0 c14_l0))
  (.seq (.reg 17 [⟨some 47, .call (.con (.fn 34 [] [])) [(.tmp 3), (.con (.int .u8 34))], none, Q0⟩] false (some [3]))
  (.seq (.reg 18 [⟨some 48, .call (.con (.fn 36 [] [])) [(.tmp 3)], none, Q0⟩,
  ⟨some 2, .mv (.tmp 48), none, Q0⟩] false (some [2]))
  .ret))))))
def c14 : EFn := ⟨1, 49, [.tmp 2], c14_b, none, true⟩
theorem c14_l0_step {E : Env} {fin : Kont (PV × St)} {st : List Fr} {ts : Tmps} {S : St} {n : Nat} : (lvl E (n + 1)).ev c14_l0 ts S (kont E fin st) = (lvl E (n + 1)).ev c14_l0_b (sel (some [3, 8, 9, 10]) ts) S (kont E fin (.again n c14_l0 :: st)) := rfl
theorem c14_l0_w {E : Env} {fin : Kont (PV × St)} {st : List Fw} {ts : Tmps} {S : St} : run E fin st c14_l0 ts S = run E fin (.again c14_l0 :: st) c14_l0_b (sel (some [3, 8, 9, 10]) ts) S := w_loop
theorem c14_l0_a {E : Env} {fin : Kont (PV × St)} {st : List Fw} {ts : Tmps} {S : St} : aft E fin (.again c14_l0 :: st) .normal ts S = run E fin st c14_l0 (sel (some [3, 8, 9, 10]) ts) S := a_again_s
theorem c14_ok : cFn Tryz.prog Tryz.f14 = some c14.strip := by kernel_rfl
-- limbeck/limbeckref03.Quote
def c15_r6 : List EI := [⟨some 16, .mv (.tmp 5), none, Q0⟩,
  ⟨some 17, .bin .eql (.tmp 16) (.con (.int .u8 34)), none, Q0⟩,
  ⟨some 18, .mv (.tmp 17), none, Q0⟩,
  ⟨some 19, .mv (.tmp 5), some (18, false), Q0⟩,
  ⟨some 20, .bin .eql (.tmp 19) (.con (.int .u8 92)), some (18, false), Q0⟩,
  ⟨some 21, .pick (.tmp 18) (.con (.bool true)) (.tmp 20), none, Q0⟩]
def c15_r10 : List EI := [⟨some 31, .mv (.tmp 5), none, Q0⟩,
  ⟨some 32, .bin .geq (.tmp 31) (.con (.int .u8 32)), none, Q0⟩,
  ⟨some 33, .mv (.tmp 32), none, Q0⟩,
  ⟨some 34, .mv (.tmp 5), some (33, true), Q0⟩,
  ⟨some 35, .bin .leq (.tmp 34) (.con (.int .u8 126)), some (33, true), Q0⟩,
  ⟨some 36, .pick (.tmp 33) (.tmp 35) (.con (.bool false)), none, Q0⟩]
def c15_l0_b : EC := (.seq (.seq (.reg 3 [⟨some 7, .mv (.tmp 4), none, Q0⟩,
  ⟨some 8, .mv (.tmp 0), none, Q0⟩,
  ⟨some 9, .len true (.tmp 8), none, Q0⟩,
  ⟨some 10, .bin .lss (.tmp 7) (.tmp 9), none, Q0⟩] false (some [0, 3, 4, 10]))
  (.cond (.tmp 10) .skip (.exit 0)))
  (.seq (.block 1 (.seq (.reg 5 [⟨some 13, .mv (.tmp 0), none, Q0⟩,
  ⟨some 14, .mv (.tmp 4), none, Q0⟩,
  ⟨some 15, .ixS (.tmp 13) (.tmp 14), none, Q0⟩,
  ⟨some 5, .mv (.tmp 15), none, Q0⟩] false (some [0, 3, 4, 5]))
  (.seq (.reg 6 c15_r6 false (some [0, 3, 4, 5, 21]))
  (.cond (.tmp 21) (.reg 7 [⟨some 22, .mv (.tmp 3), none, Q0⟩,
  ⟨some 23, .mv (.tmp 5), none, Q0⟩,
  ⟨some 24, .rows 2 1 [(.int .u8 0)] [(0, (.con (.int .u8 92))), (1, (.tmp 23))], none, Q0⟩,
  ⟨some 25, .app 5 1 1 (.tmp 22) (.tmp 24), none, Q0⟩,
  ⟨some 3, .mv (.tmp 25), none, Q0⟩] false (some [0, 3, 4])) (.seq (.reg 8 [⟨some 26, .mv (.tmp 5), none, Q0⟩,
  ⟨some 27, .bin .eql (.tmp 26) (.con (.int .u8 10)), none, Q0⟩] false (some [0, 3, 4, 5, 27]))
  (.cond (.tmp 27) (.reg 9 [⟨some 28, .mv (.tmp 3), none, Q0⟩,
  ⟨some 29, .rows 2 1 [(.int .u8 0)] [(0, (.con (.int .u8 92))), (1, (.con (.int .u8 110)))], none, Q0⟩,
  ⟨some 30, .app 5 1 1 (.tmp 28) (.tmp 29), none, Q0⟩,
  ⟨some 3, .mv (.tmp 30), none, Q0⟩] false (some [0, 3, 4])) (.seq (.reg 10 c15_r10 false (some [0, 3, 4, 5, 36]))
  (.cond (.tmp 36) (.reg 11 [⟨some 37, .mv (.tmp 3), none, Q0⟩,
  ⟨some 38, .mv (.tmp 5), none, Q0⟩,
  ⟨some 39, .rows 1 1 [(.int .u8 0)] [(0, (.tmp 38))], none, Q0⟩,
  ⟨some 40, .app 5 1 1 (.tmp 37) (.tmp 39), none, Q0⟩,
  ⟨some 3, .mv (.tmp 40), none, Q0⟩] false (some [0, 3, 4])) (.reg 12 [⟨some 41, .mv (.tmp 3), none, Q0⟩,
  ⟨some 42, .mv (.tmp 5), none, Q0⟩,
  ⟨some 43, .bin .quo (.tmp 42) (.con (.int .u8 16)), none, Q0⟩,
  ⟨some 44, .call (.con (.fn 37 [] [])) [(.tmp 43)], none, Q0⟩,
  ⟨some 45, .mv (.tmp 5), none, Q0⟩,
  ⟨some 46, .bin .rem (.tmp 45) (.con (.int .u8 16)), none, Q0⟩,
  ⟨some 47, .call (.con (.fn 37 [] [])) [(.tmp 46)], none, Q0⟩,
  ⟨some 48, .rows 4 1 [(.int .u8 0)] [(0, (.con (.int .u8 92))), (1, (.con (.int .u8 120))), (2, (.tmp 44)), (3, (.tmp 47))], none, Q0⟩,
  ⟨some 49, .app 5 1 1 (.tmp 41) (.tmp 48), none, Q0⟩,
  ⟨some 3, .mv (.tmp 49), none, Q0⟩] false (some [0, 3, 4]))))))))))
  (.reg 4 [⟨some 11, .mv (.tmp 4), none, Q0⟩,
  ⟨some 12, .bin .add (.tmp 11) (.con (.int .i64 1)), none, Q0⟩,
  ⟨some 4, .mv (.tmp 12), none, Q0⟩] false (some [0, 3, 4]))))
def c15_l0 : EC := .loop (some [0, 3, 4]) c15_l0_b
def c15_b : EC := (.seq (.reg 0 [⟨some 2, .mv (.con (.str ⟨#[]⟩)), none, Q0⟩] false (some [0]))
  (.seq (.reg 1 [⟨some 6, .rows 1 1 [(.int .u8 0)] [(0, (.con (.int .u8 34)))], none, Q0⟩,
  ⟨some 3, .mv (.tmp 6), none, Q0⟩] false (some [0, 3]))
  (.seq (.seq (.reg 2 [⟨some 4, .mv (.con (.int .i64 0)), none, Q0⟩] false (some [0, 3, 4]))
  (.block 0 c15_l0))
  (.seq (.reg 13 [⟨some 50, .mv (.tmp 3), none, Q0⟩,
  ⟨some 51, .rows 1 1 [(.int .u8 0)] [(0, (.con (.int .u8 34)))], none, Q0⟩,
  ⟨some 52, .app 5 1 1 (.tmp 50) (.tmp 51), none, Q0⟩,
  ⟨some 53, .b2s (.tmp 52), none, Q0⟩,
  ⟨some 2, .mv (.tmp 53), none, Q0⟩] false (some [2]))
  .ret))))
def c15 : EFn := ⟨1, 54, [.tmp 2], c15_b, none, true⟩
theorem c15_l0_step {E : Env} {fin : Kont (PV × St)} {st : List Fr} {ts : Tmps} {S : St} {n : Nat} : (lvl E (n + 1)).ev c15_l0 ts S (kont E fin st) = (lvl E (n + 1)).ev c15_l0_b (sel (some [0, 3, 4]) ts) S (kont E fin (.again n c15_l0 :: st)) := rfl
theorem c15_l0_w {E : Env} {fin : Kont (PV × St)} {st : List Fw} {ts : Tmps} {S : St} : run E fin st c15_l0 ts S = run E fin (.again c15_l0 :: st) c15_l0_b (sel (some [0, 3, 4]) ts) S := w_loop
theorem c15_l0_a {E : Env} {fin : Kont (PV × St)} {st : List Fw} {ts : Tmps} {S : St} : aft E fin (.again c15_l0 :: st) .normal ts S = run E fin st c15_l0 (sel (some [0, 3, 4]) ts) S := a_again_s
theorem c15_ok : cFn Tryz.prog Tryz.f15 = some c15.strip := by kernel_rfl
-- limbeck/fault.New
def c30_b : EC := (.seq (.reg 0 [⟨some 4, .mv (.con .nilifc), none, Q0⟩] false (some [0, 1]))
  (.seq (.seq (.reg 1 [⟨some 5, .mv (.tmp 0), none, Q0⟩,
  ⟨some 6, .bin .eql (.tmp 5) (.con (.int .i64 0)), none, Q0⟩] false (some [0, 1, 6]))
  (.cond (.tmp 6) (.seq (.reg 2 [⟨some 4, .mv (.con .nilifc), none, Q0⟩] false (some [4]))
  .ret) .skip))
  (.seq (.reg 3 [⟨some 7, .mv (.tmp 0), none, Q0⟩,
  ⟨some 8, .mv (.tmp 1), none, Q0⟩,
  ⟨some 9, .build [(.int .i64 0), (.int .i64 0)] [(0, 1, (.tmp 7)), (1, 1, (.tmp 8))], none, Q0⟩,
  ⟨some 10, .boxI 73 (.tmp 9), none, Q0⟩,
  ⟨some 11, .ifc 69 (.tmp 10), none, Q0⟩,
  ⟨some 4, .mv (.tmp 11), none, Q0⟩] false (some [4]))
  .ret)))
def c30 : EFn := ⟨2, 12, [.tmp 4], c30_b, none, true⟩
theorem c30_ok : cFn Tryz.prog Tryz.f30 = some c30.strip := by kernel_rfl
-- (*limbeck/lex.reader).next
def c31_b : EC := (.seq (.reg 0 [⟨some 2, .mv (.con (.bool false)), none, Q0⟩] false (some [0]))
  (.seq (.reg 1 [⟨some 4, .mv (.tmp 0), none, Q0⟩,
  ⟨some 5, .call (.con (.fn 55 [] [])) [(.tmp 4)], none, Q0⟩] false (some [0]))
  (.seq (.seq (.reg 2 [⟨some 6, .mv (.tmp 0), none, ⟨.no, false⟩⟩,
  ⟨some 7, .nck (.tmp 6), none, ⟨.no, false⟩⟩,
  ⟨some 8, .fA 1 (.tmp 7), none, ⟨.no, false⟩⟩,
  ⟨some 9, .ld none (.tmp 8), none, ⟨.still, false⟩⟩,
  ⟨some 10, .mv (.tmp 0), none, Q0⟩,
  ⟨some 11, .nck (.tmp 10), none, Q0⟩,
  ⟨some 12, .fA 0 (.tmp 11), none, Q0⟩,
  ⟨some 13, .ld none (.tmp 12), none, Q1⟩,
  ⟨some 14, .len true (.tmp 13), none, Q0⟩,
  ⟨some 15, .bin .geq (.tmp 9) (.tmp 14), none, Q0⟩] true (some [0, 15]))
  (.cond (.tmp 15) (.seq (.reg 3 [⟨some 2, .mv (.con (.bool false)), none, Q0⟩] false (some [2]))
  .ret) .skip))
  (.seq (.seq (.reg 4 [⟨some 16, .mv (.tmp 0), none, ⟨.no, false⟩⟩,
  ⟨some 17, .nck (.tmp 16), none, ⟨.no, false⟩⟩,
  ⟨some 18, .fA 0 (.tmp 17), none, ⟨.no, false⟩⟩,
  ⟨some 19, .ld none (.tmp 18), none, ⟨.still, false⟩⟩,
  ⟨some 20, .mv (.tmp 0), none, Q0⟩,
  ⟨some 21, .nck (.tmp 20), none, Q0⟩,
  ⟨some 22, .fA 1 (.tmp 21), none, Q0⟩,
  ⟨some 23, .ld none (.tmp 22), none, Q1⟩,
  ⟨some 24, .ixS (.tmp 19) (.tmp 23), none, Q0⟩,
  ⟨some 3, .mv (.tmp 24), none, Q0⟩] true (some [0, 3]))
  (.block 0 (.seq (.reg 5 [⟨some 26, .mv (.tmp 3), none, Q0⟩,
  ⟨some 27, .call (.con (.fn 56 [] [])) [(.tmp 26)], none, Q0⟩,
  ⟨some 25, .mv (.tmp 27), none, Q0⟩] false (some [0, 3, 25]))
  (.cond (.tmp 25) (.seq (.reg 6 [⟨some 28, .mv (.tmp 0), none, Q0⟩,
  ⟨some 29, .call (.con (.fn 57 [] [])) [(.tmp 28)], none, Q0⟩,
  ⟨some 2, .mv (.tmp 29), none, Q0⟩] false (some [2]))
  .ret) (.seq (.reg 7 [⟨some 31, .mv (.tmp 3), none, Q0⟩,
  ⟨some 32, .call (.con (.fn 58 [] [])) [(.tmp 31)], none, Q0⟩,
  ⟨some 30, .mv (.tmp 32), none, Q0⟩] false (some [0, 3, 30]))
  (.cond (.tmp 30) (.seq (.reg 8 [⟨some 33, .mv (.tmp 0), none, Q0⟩,
  ⟨some 34, .call (.con (.fn 59 [] [])) [(.tmp 33)], none, Q0⟩,
  ⟨some 2, .mv (.tmp 34), none, Q0⟩] false (some [2]))
  .ret) (.seq (.reg 9 [⟨some 36, .mv (.tmp 3), none, Q0⟩,
  ⟨some 37, .bin .eql (.tmp 36) (.con (.int .u8 34)), none, Q0⟩,
  ⟨some 35, .mv (.tmp 37), none, Q0⟩] false (some [0, 35]))
  (.cond (.tmp 35) (.seq (.reg 10 [⟨some 38, .mv (.tmp 0), none, Q0⟩,
  ⟨some 39, .call (.con (.fn 60 [] [])) [(.tmp 38)], none, Q0⟩,
  ⟨some 2, .mv (.tmp 39), none, Q0⟩] false (some [2]))
  .ret) .skip))))))))
  (.seq (.reg 11 [⟨some 40, .mv (.tmp 0), none, Q0⟩,
  ⟨some 41, .call (.con (.fn 61 [] [])) [(.tmp 40)], none, Q0⟩,
  ⟨some 2, .mv (.tmp 41), none, Q0⟩] false (some [2]))
  .ret)))))
def c31 : EFn := ⟨1, 42, [.tmp 2], c31_b, none, true⟩
theorem c31_ok : cFn Tryz.prog Tryz.f31 = some c31.strip := by kernel_rfl
-- limbeck/limbeckref03.next
def c32_r2 : List EI := [⟨some 10, .mv (.tmp 5), none, Q0⟩,
  ⟨some 11, .bin .eql (.tmp 10) (.con (.int .u8 32)), none, Q0⟩,
  ⟨some 12, .mv (.tmp 11), none, Q0⟩,
  ⟨some 13, .mv (.tmp 5), some (12, false), Q0⟩,
  ⟨some 14, .bin .eql (.tmp 13) (.con (.int .u8 9)), some (12, false), Q0⟩,
  ⟨some 15, .pick (.tmp 12) (.con (.bool true)) (.tmp 14), none, Q0⟩,
  ⟨some 16, .mv (.tmp 15), none, Q0⟩,
  ⟨some 17, .mv (.tmp 5), some (16, false), Q0⟩,
  ⟨some 18, .bin .eql (.tmp 17) (.con (.int .u8 10)), some (16, false), Q0⟩,
  ⟨some 19, .pick (.tmp 16) (.con (.bool true)) (.tmp 18), none, Q0⟩,
  ⟨some 20, .mv (.tmp 19), none, Q0⟩,
  ⟨some 21, .mv (.tmp 5), some (20, false), Q0⟩,
  ⟨some 22, .bin .eql (.tmp 21) (.con (.int .u8 13)), some (20, false), Q0⟩,
  ⟨some 23, .pick (.tmp 20) (.con (.bool true)) (.tmp 22), none, Q0⟩]
def c32_r6 : List EI := [⟨some 30, .mv (.tmp 6), none, Q0⟩,
  ⟨some 31, .mv (.tmp 0), none, Q0⟩,
  ⟨some 32, .len true (.tmp 31), none, Q0⟩,
  ⟨some 33, .bin .lss (.tmp 30) (.tmp 32), none, Q0⟩,
  ⟨some 34, .mv (.tmp 33), none, Q0⟩,
  ⟨some 35, .mv (.tmp 0), some (34, true), Q0⟩,
  ⟨some 36, .mv (.tmp 6), some (34, true), Q0⟩,
  ⟨some 37, .ixS (.tmp 35) (.tmp 36), some (34, true), Q0⟩,
  ⟨some 38, .bin .neq (.tmp 37) (.con (.int .u8 10)), some (34, true), Q0⟩,
  ⟨some 39, .pick (.tmp 34) (.tmp 38) (.con (.bool false)), none, Q0⟩]
def c32_l0_b : EC := (.seq (.seq (.reg 6 c32_r6 false (some [0, 4, 6, 39]))
  (.cond (.tmp 39) .skip (.exit 0)))
  (.block 1 (.reg 7 [⟨some 40, .mv (.tmp 6), none, Q0⟩,
  ⟨some 41, .bin .add (.tmp 40) (.con (.int .i64 1)), none, Q0⟩,
  ⟨some 6, .mv (.tmp 41), none, Q0⟩] false (some [0, 4, 6]))))
def c32_l0 : EC := .loop (some [0, 4, 6]) c32_l0_b
def c32_b : EC := (.seq (.reg 0 [⟨some 4, .new 67 [(.int .i64 0), (.int .i64 0), (.str ⟨#[]⟩), (.int .i64 0), (.bool false), (.int .i64 0), (.int .i64 0), (.int .i64 0)], none, Q0⟩] false (some [0, 1, 4]))
  (.seq (.reg 1 [⟨some 7, .mv (.tmp 0), none, Q0⟩,
  ⟨some 8, .mv (.tmp 1), none, Q0⟩,
  ⟨some 9, .ixS (.tmp 7) (.tmp 8), none, Q0⟩,
  ⟨some 5, .mv (.tmp 9), none, Q0⟩] false (some [0, 1, 4, 5]))
  (.seq (.seq (.reg 2 c32_r2 false (some [0, 1, 4, 5, 23]))
  (.cond (.tmp 23) (.seq (.reg 3 [⟨some 24, .mv (.tmp 1), none, Q0⟩,
  ⟨some 25, .bin .add (.tmp 24) (.con (.int .i64 1)), none, Q0⟩,
  ⟨some 26, .build [(.int .i64 0), (.int .i64 0), (.str ⟨#[]⟩), (.int .i64 0), (.bool false), (.int .i64 0), (.int .i64 0), (.int .i64 0)] [(4, 1, (.con (.bool true))), (5, 1, (.tmp 25))], none, Q0⟩,
  ⟨none, .st 8 (.tmp 4) (.tmp 26), none, Q0⟩] false (some [4]))
  .ret) .skip))
  (.seq (.seq (.reg 4 [⟨some 27, .mv (.tmp 5), none, Q0⟩,
  ⟨some 28, .bin .eql (.tmp 27) (.con (.int .u8 59)), none, Q0⟩] false (some [0, 1, 4, 5, 28]))
  (.cond (.tmp 28) (.seq (.reg 5 [⟨some 29, .mv (.tmp 1), none, Q0⟩,
  ⟨some 6, .mv (.tmp 29), none, Q0⟩] false (some [0, 4, 6]))
  (.seq (.block 0 c32_l0)
  (.seq (.reg 8 [⟨some 42, .mv (.tmp 6), none, Q0⟩,
  ⟨some 43, .build [(.int .i64 0), (.int .i64 0), (.str ⟨#[]⟩), (.int .i64 0), (.bool false), (.int .i64 0), (.int .i64 0), (.int .i64 0)] [(4, 1, (.con (.bool true))), (5, 1, (.tmp 42))], none, Q0⟩,
  ⟨none, .st 8 (.tmp 4) (.tmp 43), none, Q0⟩] false (some [4]))
  .ret))) .skip))
  (.seq (.seq (.reg 9 [⟨some 44, .mv (.tmp 5), none, Q0⟩,
  ⟨some 45, .call (.con (.fn 62 [] [])) [(.tmp 44)], none, Q0⟩] false (some [0, 1, 4, 5, 45]))
  (.cond (.tmp 45) (.seq (.reg 10 [⟨some 46, .mv (.tmp 0), none, Q0⟩,
  ⟨some 47, .mv (.tmp 1), none, Q0⟩,
  ⟨some 48, .call (.con (.fn 63 [] [])) [(.tmp 46), (.tmp 47)], none, Q0⟩,
  ⟨none, .st 8 (.tmp 4) (.tmp 48), none, Q0⟩] false (some [4]))
  .ret) .skip))
  (.seq (.seq (.reg 11 [⟨some 49, .mv (.tmp 5), none, Q0⟩,
  ⟨some 50, .call (.con (.fn 64 [] [])) [(.tmp 49)], none, Q0⟩] false (some [0, 1, 4, 5, 50]))
  (.cond (.tmp 50) (.seq (.reg 12 [⟨some 51, .mv (.tmp 0), none, Q0⟩,
  ⟨some 52, .mv (.tmp 1), none, Q0⟩,
  ⟨some 53, .call (.con (.fn 65 [] [])) [(.tmp 51), (.tmp 52)], none, Q0⟩,
  ⟨none, .st 8 (.tmp 4) (.tmp 53), none, Q0⟩] false (some [4]))
  .ret) .skip))
  (.seq (.seq (.reg 13 [⟨some 54, .mv (.tmp 5), none, Q0⟩,
  ⟨some 55, .bin .eql (.tmp 54) (.con (.int .u8 34)), none, Q0⟩] false (some [0, 1, 4, 55]))
  (.cond (.tmp 55) (.seq (.reg 14 [⟨some 56, .mv (.tmp 0), none, Q0⟩,
  ⟨some 57, .mv (.tmp 1), none, Q0⟩,
  ⟨some 58, .call (.con (.fn 66 [] [])) [(.tmp 56), (.tmp 57)], none, Q0⟩,
  ⟨none, .st 8 (.tmp 4) (.tmp 58), none, Q0⟩] false (some [4]))
  .ret) .skip))
  (.seq (.reg 15 [⟨some 59, .mv (.tmp 0), none, Q0⟩,
  ⟨some 60, .mv (.tmp 1), none, Q0⟩,
  ⟨some 61, .call (.con (.fn 67 [] [])) [(.tmp 59), (.tmp 60)], none, Q0⟩,
  ⟨none, .st 8 (.tmp 4) (.tmp 61), none, Q0⟩] false (some [4]))
  .ret))))))))
def c32 : EFn := ⟨2, 62, [.cell 4 (some 8)], c32_b, none, true⟩
theorem c32_l0_step {E : Env} {fin : Kont (PV × St)} {st : List Fr} {ts : Tmps} {S : St} {n : Nat} : (lvl E (n + 1)).ev c32_l0 ts S (kont E fin st) = (lvl E (n + 1)).ev c32_l0_b (sel (some [0, 4, 6]) ts) S (kont E fin (.again n c32_l0 :: st)) := rfl
theorem c32_l0_w {E : Env} {fin : Kont (PV × St)} {st : List Fw} {ts : Tmps} {S : St} : run E fin st c32_l0 ts S = run E fin (.again c32_l0 :: st) c32_l0_b (sel (some [0, 4, 6]) ts) S := w_loop
theorem c32_l0_a {E : Env} {fin : Kont (PV × St)} {st : List Fw} {ts : Tmps} {S : St} : aft E fin (.again c32_l0 :: st) .normal ts S = run E fin st c32_l0 (sel (some [0, 4, 6]) ts) S := a_again_s
theorem c32_ok : cFn Tryz.prog Tryz.f32 = some c32.strip := by kernel_rfl
-- (*strings.Builder).WriteByte
def c34_b : EC := (.seq (.reg 0 [⟨some 4, .mv (.con .nilifc), none, Q0⟩] false (some [0, 1]))
  (.seq (.reg 1 [⟨some 5, .mv (.tmp 0), none, Q0⟩,
  ⟨some 6, .call (.con (.fn 72 [] [])) [(.tmp 5)], none, Q0⟩] false (some [0, 1]))
  (.seq (.reg 2 [⟨some 7, .mv (.tmp 0), none, Q0⟩,
  ⟨some 8, .mv (.tmp 0), none, Q0⟩,
  ⟨some 9, .nck (.tmp 8), none, Q0⟩,
  ⟨some 10, .fA 1 (.tmp 9), none, Q0⟩,
  ⟨some 11, .ld none (.tmp 10), none, Q0⟩,
  ⟨some 12, .mv (.tmp 1), none, Q0⟩,
  ⟨some 13, .rows 1 1 [(.int .u8 0)] [(0, (.tmp 12))], none, Q0⟩,
  ⟨some 14, .app 5 1 1 (.tmp 11) (.tmp 13), none, Q0⟩,
  ⟨some 15, .nck (.tmp 7), none, Q0⟩,
  ⟨some 16, .fA 1 (.tmp 15), none, Q0⟩,
  ⟨none, .st 1 (.tmp 16) (.tmp 14), none, Q0⟩] false (some []))
  (.seq (.reg 3 [⟨some 4, .mv (.con .nilifc), none, Q0⟩] false (some [4]))
  .ret))))
def c34 : EFn := ⟨2, 17, [.tmp 4], c34_b, none, true⟩
theorem c34_ok : cFn Tryz.prog Tryz.f34 = some c34.strip := by kernel_rfl
-- (*strings.Builder).WriteString
def c35_b : EC := (.seq (.reg 0 [⟨some 4, .mv (.con (.int .i64 0)), none, Q0⟩,
  ⟨some 5, .mv (.con .nilifc), none, Q0⟩] false (some [0, 1]))
  (.seq (.reg 1 [⟨some 6, .mv (.tmp 0), none, Q0⟩,
  ⟨some 7, .call (.con (.fn 72 [] [])) [(.tmp 6)], none, Q0⟩] false (some [0, 1]))
  (.seq (.reg 2 [⟨some 8, .mv (.tmp 0), none, Q0⟩,
  ⟨some 9, .mv (.tmp 0), none, Q0⟩,
  ⟨some 10, .nck (.tmp 9), none, Q0⟩,
  ⟨some 11, .fA 1 (.tmp 10), none, Q0⟩,
  ⟨some 12, .ld none (.tmp 11), none, Q0⟩,
  ⟨some 13, .mv (.tmp 1), none, Q0⟩,
  ⟨some 14, .apS 5 (.tmp 12) (.tmp 13), none, Q0⟩,
  ⟨some 15, .nck (.tmp 8), none, Q0⟩,
  ⟨some 16, .fA 1 (.tmp 15), none, Q0⟩,
  ⟨none, .st 1 (.tmp 16) (.tmp 14), none, Q0⟩] false (some [1]))
  (.seq (.reg 3 [⟨some 17, .mv (.tmp 1), none, Q0⟩,
  ⟨some 18, .len true (.tmp 17), none, Q0⟩,
  ⟨some 4, .mv (.tmp 18), none, Q0⟩,
  ⟨some 5, .mv (.con .nilifc), none, Q0⟩] false (some [4, 5]))
  .ret))))
def c35 : EFn := ⟨2, 19, [.tmp 4, .tmp 5], c35_b, none, true⟩
theorem c35_ok : cFn Tryz.prog Tryz.f35 = some c35.strip := by kernel_rfl
-- (*strings.Builder).String
def c36_b : EC := (.seq (.reg 0 [⟨some 2, .mv (.con (.str ⟨#[]⟩)), none, Q0⟩] false (some [0]))
  (.seq (.reg 1 [⟨some 3, .mv (.tmp 0), none, ⟨.no, false⟩⟩,
  ⟨some 4, .nck (.tmp 3), none, ⟨.no, false⟩⟩,
  ⟨some 5, .fA 1 (.tmp 4), none, ⟨.no, false⟩⟩,
  ⟨some 6, .ld none (.tmp 5), none, ⟨.still, false⟩⟩,
  ⟨some 7, .usd (.tmp 6), none, ⟨.no, false⟩⟩,
  ⟨some 8, .mv (.tmp 0), none, Q0⟩,
  ⟨some 9, .nck (.tmp 8), none, Q0⟩,
  ⟨some 10, .fA 1 (.tmp 9), none, Q0⟩,
  ⟨some 11, .ld none (.tmp 10), none, Q1⟩,
  ⟨some 12, .len false (.tmp 11), none, Q0⟩,
  ⟨some 13, .ust 5 (.tmp 7) (.tmp 12), none, Q0⟩,
  ⟨some 2, .mv (.tmp 13), none, Q0⟩] true (some [2]))
  .ret))
def c36 : EFn := ⟨1, 14, [.tmp 2], c36_b, none, true⟩
theorem c36_ok : cFn Tryz.prog Tryz.f36 = some c36.strip := by kernel_rfl
-- limbeck/limbeckref03.digit
def c37_b : EC := (.seq (.reg 0 [⟨some 2, .mv (.con (.int .u8 0)), none, Q0⟩] false (some [0]))
  (.seq (.seq (.reg 1 [⟨some 3, .mv (.tmp 0), none, Q0⟩,
  ⟨some 4, .bin .lss (.tmp 3) (.con (.int .u8 10)), none, Q0⟩] false (some [0, 4]))
  (.cond (.tmp 4) (.seq (.reg 2 [⟨some 5, .mv (.tmp 0), none, Q0⟩,
  ⟨some 6, .bin .add (.con (.int .u8 48)) (.tmp 5), none, Q0⟩,
  ⟨some 2, .mv (.tmp 6), none, Q0⟩] false (some [2]))
  .ret) .skip))
  (.seq (.reg 3 [⟨some 7, .mv (.tmp 0), none, Q0⟩,
  ⟨some 8, .bin .add (.con (.int .u8 97)) (.tmp 7), none, Q0⟩,
  ⟨some 9, .bin .sub (.tmp 8) (.con (.int .u8 10)), none, Q0⟩,
  ⟨some 2, .mv (.tmp 9), none, Q0⟩] false (some [2]))
  .ret)))
def c37 : EFn := ⟨1, 10, [.tmp 2], c37_b, none, true⟩
theorem c37_ok : cFn Tryz.prog Tryz.f37 = some c37.strip := by kernel_rfl
-- (*limbeck/lex.reader).pass
def c55_l0_b : EC := (.seq (.seq (.reg 0 [⟨some 2, .mv (.tmp 0), none, ⟨.no, false⟩⟩,
  ⟨some 3, .nck (.tmp 2), none, ⟨.no, false⟩⟩,
  ⟨some 4, .fA 1 (.tmp 3), none, ⟨.no, false⟩⟩,
  ⟨some 5, .ld none (.tmp 4), none, ⟨.still, false⟩⟩,
  ⟨some 6, .mv (.tmp 0), none, Q0⟩,
  ⟨some 7, .nck (.tmp 6), none, Q0⟩,
  ⟨some 8, .fA 0 (.tmp 7), none, Q0⟩,
  ⟨some 9, .ld none (.tmp 8), none, Q1⟩,
  ⟨some 10, .len true (.tmp 9), none, Q0⟩,
  ⟨some 11, .bin .lss (.tmp 5) (.tmp 10), none, Q0⟩] true (some [0, 11]))
  (.cond (.tmp 11) .skip (.exit 0)))
  (.block 1 (.block 2 (.seq (.reg 1 [⟨some 13, .mv (.tmp 0), none, ⟨.no, false⟩⟩,
  ⟨some 14, .nck (.tmp 13), none, ⟨.no, false⟩⟩,
  ⟨some 15, .fA 0 (.tmp 14), none, ⟨.no, false⟩⟩,
  ⟨some 16, .ld none (.tmp 15), none, ⟨.still, false⟩⟩,
  ⟨some 17, .mv (.tmp 0), none, Q0⟩,
  ⟨some 18, .nck (.tmp 17), none, Q0⟩,
  ⟨some 19, .fA 1 (.tmp 18), none, Q0⟩,
  ⟨some 20, .ld none (.tmp 19), none, Q1⟩,
  ⟨some 21, .ixS (.tmp 16) (.tmp 20), none, Q0⟩,
  ⟨some 22, .call (.con (.fn 91 [] [])) [(.con (.str ⟨#[32, 9, 10, 13]⟩)), (.tmp 21)], none, Q0⟩,
  ⟨some 23, .bin .geq (.tmp 22) (.con (.int .i64 0)), none, Q0⟩,
  ⟨some 12, .mv (.tmp 23), none, Q0⟩] true (some [0, 12]))
  (.cond (.tmp 12) (.reg 2 [⟨some 24, .mv (.tmp 0), none, Q0⟩,
  ⟨some 25, .nck (.tmp 24), none, Q0⟩,
  ⟨some 26, .fA 1 (.tmp 25), none, Q0⟩,
  ⟨some 27, .ld none (.tmp 26), none, Q0⟩,
  ⟨some 28, .bin .add (.tmp 27) (.con (.int .i64 1)), none, Q0⟩,
  ⟨some 29, .nck (.tmp 24), none, Q0⟩,
  ⟨some 30, .fA 1 (.tmp 29), none, Q0⟩,
  ⟨none, .st 1 (.tmp 30) (.tmp 28), none, Q0⟩] false (some [0])) (.seq (.reg 3 [⟨some 32, .mv (.tmp 0), none, ⟨.no, false⟩⟩,
  ⟨some 33, .nck (.tmp 32), none, ⟨.no, false⟩⟩,
  ⟨some 34, .fA 0 (.tmp 33), none, ⟨.no, false⟩⟩,
  ⟨some 35, .ld none (.tmp 34), none, ⟨.still, false⟩⟩,
  ⟨some 36, .mv (.tmp 0), none, Q0⟩,
  ⟨some 37, .nck (.tmp 36), none, Q0⟩,
  ⟨some 38, .fA 1 (.tmp 37), none, Q0⟩,
  ⟨some 39, .ld none (.tmp 38), none, Q1⟩,
  ⟨some 40, .ixS (.tmp 35) (.tmp 39), none, Q0⟩,
  ⟨some 41, .bin .eql (.tmp 40) (.con (.int .u8 59)), none, Q0⟩,
  ⟨some 31, .mv (.tmp 41), none, Q0⟩] true (some [0, 31]))
  (.cond (.tmp 31) (.reg 4 [⟨some 42, .mv (.tmp 0), none, Q0⟩,
  ⟨some 43, .mv (.tmp 0), none, Q0⟩,
  ⟨some 44, .call (.con (.fn 92 [] [])) [(.tmp 43), (.con (.fn 93 [] []))], none, Q0⟩,
  ⟨some 45, .nck (.tmp 42), none, Q0⟩,
  ⟨some 46, .fA 1 (.tmp 45), none, Q0⟩,
  ⟨none, .st 1 (.tmp 46) (.tmp 44), none, Q0⟩] false (some [0])) (.exit 0))))))))
def c55_l0 : EC := .loop (some [0]) c55_l0_b
def c55_b : EC := (.seq .skip
  (.block 0 c55_l0))
def c55 : EFn := ⟨1, 47, [], c55_b, none, false⟩
theorem c55_l0_step {E : Env} {fin : Kont (PV × St)} {st : List Fr} {ts : Tmps} {S : St} {n : Nat} : (lvl E (n + 1)).ev c55_l0 ts S (kont E fin st) = (lvl E (n + 1)).ev c55_l0_b (sel (some [0]) ts) S (kont E fin (.again n c55_l0 :: st)) := rfl
theorem c55_l0_w {E : Env} {fin : Kont (PV × St)} {st : List Fw} {ts : Tmps} {S : St} : run E fin st c55_l0 ts S = run E fin (.again c55_l0 :: st) c55_l0_b (sel (some [0]) ts) S := w_loop
theorem c55_l0_a {E : Env} {fin : Kont (PV × St)} {st : List Fw} {ts : Tmps} {S : St} : aft E fin (.again c55_l0 :: st) .normal ts S = run E fin st c55_l0 (sel (some [0]) ts) S := a_again_s
theorem c55_ok : cFn Tryz.prog Tryz.f55 = some c55.strip := by kernel_rfl
-- limbeck/lex.digit
def c56_r1 : List EI := [⟨some 3, .mv (.tmp 0), none, Q0⟩,
  ⟨some 4, .bin .geq (.tmp 3) (.con (.int .u8 48)), none, Q0⟩,
  ⟨some 5, .mv (.tmp 4), none, Q0⟩,
  ⟨some 6, .mv (.tmp 0), some (5, true), Q0⟩,
  ⟨some 7, .bin .leq (.tmp 6) (.con (.int .u8 57)), some (5, true), Q0⟩,
  ⟨some 8, .pick (.tmp 5) (.tmp 7) (.con (.bool false)), none, Q0⟩,
  ⟨some 2, .mv (.tmp 8), none, Q0⟩]
def c56_b : EC := (.seq (.reg 0 [⟨some 2, .mv (.con (.bool false)), none, Q0⟩] false (some [0]))
  (.seq (.reg 1 c56_r1 false (some [2]))
  .ret))
def c56 : EFn := ⟨1, 9, [.tmp 2], c56_b, none, true⟩
theorem c56_ok : cFn Tryz.prog Tryz.f56 = some c56.strip := by kernel_rfl
-- (*limbeck/lex.reader).number
def c57_r3 : List EI := [⟨some 21, .mv (.tmp 5), none, Q0⟩,
  ⟨some 22, .ixS (.tmp 21) (.con (.int .i64 0)), none, Q0⟩,
  ⟨some 23, .bin .eql (.tmp 22) (.con (.int .u8 48)), none, Q0⟩,
  ⟨some 24, .mv (.tmp 23), none, Q0⟩,
  ⟨some 25, .mv (.tmp 5), some (24, true), Q0⟩,
  ⟨some 26, .len true (.tmp 25), some (24, true), Q0⟩,
  ⟨some 27, .bin .gtr (.tmp 26) (.con (.int .i64 1)), some (24, true), Q0⟩,
  ⟨some 28, .pick (.tmp 24) (.tmp 27) (.con (.bool false)), none, Q0⟩]
def c57_b : EC := (.seq (.reg 0 [⟨some 2, .mv (.con (.bool false)), none, Q0⟩] false (some [0]))
  (.seq (.reg 1 [⟨some 8, .mv (.tmp 0), none, ⟨.no, false⟩⟩,
  ⟨some 9, .nck (.tmp 8), none, ⟨.no, false⟩⟩,
  ⟨some 10, .fA 1 (.tmp 9), none, ⟨.no, false⟩⟩,
  ⟨some 11, .ld none (.tmp 10), none, ⟨.still, false⟩⟩,
  ⟨some 12, .mv (.tmp 0), none, Q0⟩,
  ⟨some 13, .call (.con (.fn 92 [] [])) [(.tmp 12), (.con (.fn 56 [] []))], none, Q1⟩,
  ⟨some 3, .mv (.tmp 11), none, Q0⟩,
  ⟨some 4, .mv (.tmp 13), none, Q0⟩] true (some [0, 3, 4]))
  (.seq (.reg 2 [⟨some 14, .mv (.tmp 0), none, Q0⟩,
  ⟨some 15, .nck (.tmp 14), none, Q0⟩,
  ⟨some 16, .fA 0 (.tmp 15), none, Q0⟩,
  ⟨some 17, .ld none (.tmp 16), none, Q0⟩,
  ⟨some 18, .mv (.tmp 3), none, Q0⟩,
  ⟨some 19, .mv (.tmp 4), none, Q0⟩,
  ⟨some 20, .slS (.tmp 17) (some (.tmp 18)) (some (.tmp 19)), none, Q0⟩,
  ⟨some 5, .mv (.tmp 20), none, Q0⟩] false (some [0, 3, 4, 5]))
  (.seq (.seq (.reg 3 c57_r3 false (some [0, 3, 4, 5, 28]))
  (.cond (.tmp 28) (.seq (.reg 4 [⟨some 29, .mv (.tmp 0), none, Q0⟩,
  ⟨some 30, .mv (.tmp 3), none, Q0⟩,
  ⟨some 31, .call (.con (.fn 94 [] [])) [(.tmp 29), (.con (.int .i64 21)), (.tmp 30)], none, Q0⟩,
  ⟨some 2, .mv (.tmp 31), none, Q0⟩] false (some [2]))
  .ret) .skip))
  (.seq (.reg 5 [⟨some 33, .mv (.tmp 5), none, Q0⟩,
  ⟨some 34, .call (.con (.fn 95 [] [])) [(.tmp 33), (.con (.int .i64 10)), (.con (.int .i64 64))], none, Q0⟩,
  ⟨some 32, .mv (.tmp 34), none, Q0⟩,
  ⟨some 35, .ext (.tmp 32) 0, none, Q0⟩,
  ⟨some 36, .ext (.tmp 32) 1, none, Q0⟩,
  ⟨some 6, .mv (.tmp 35), none, Q0⟩,
  ⟨some 7, .mv (.tmp 36), none, Q0⟩] false (some [0, 3, 4, 6, 7]))
  (.seq (.seq (.reg 6 [⟨some 37, .mv (.tmp 7), none, Q0⟩,
  ⟨some 38, .eqI true (.tmp 37) (.con .nilifc), none, Q0⟩] false (some [0, 3, 4, 6, 38]))
  (.cond (.tmp 38) (.seq (.reg 7 [⟨some 39, .mv (.tmp 0), none, Q0⟩,
  ⟨some 40, .mv (.tmp 3), none, Q0⟩,
  ⟨some 41, .call (.con (.fn 94 [] [])) [(.tmp 39), (.con (.int .i64 6)), (.tmp 40)], none, Q0⟩,
  ⟨some 2, .mv (.tmp 41), none, Q0⟩] false (some [2]))
  .ret) .skip))
  (.seq (.reg 8 [⟨some 42, .mv (.tmp 0), none, Q0⟩,
  ⟨some 43, .mv (.tmp 6), none, Q0⟩,
  ⟨some 44, .build [(.int .i64 0), (.int .i64 0), (.str ⟨#[]⟩), (.int .i64 0)] [(0, 1, (.con (.int .i64 1))), (1, 1, (.tmp 43))], none, Q0⟩,
  ⟨some 45, .mv (.tmp 3), none, Q0⟩,
  ⟨some 46, .mv (.tmp 4), none, Q0⟩,
  ⟨some 47, .call (.con (.fn 96 [] [])) [(.tmp 42), (.tmp 44), (.tmp 45), (.tmp 46)], none, Q0⟩,
  ⟨some 2, .mv (.tmp 47), none, Q0⟩] false (some [2]))
  .ret)))))))
def c57 : EFn := ⟨1, 48, [.tmp 2], c57_b, none, true⟩
theorem c57_ok : cFn Tryz.prog Tryz.f57 = some c57.strip := by kernel_rfl
-- limbeck/lex.letter
def c58_r1 : List EI := [⟨some 3, .mv (.tmp 0), none, Q0⟩,
  ⟨some 4, .bin .geq (.tmp 3) (.con (.int .u8 97)), none, Q0⟩,
  ⟨some 5, .mv (.tmp 4), none, Q0⟩,
  ⟨some 6, .mv (.tmp 0), some (5, true), Q0⟩,
  ⟨some 7, .bin .leq (.tmp 6) (.con (.int .u8 122)), some (5, true), Q0⟩,
  ⟨some 8, .pick (.tmp 5) (.tmp 7) (.con (.bool false)), none, Q0⟩,
  ⟨some 9, .mv (.tmp 8), none, Q0⟩,
  ⟨some 10, .mv (.tmp 0), some (9, false), Q0⟩,
  ⟨some 11, .bin .geq (.tmp 10) (.con (.int .u8 65)), some (9, false), Q0⟩,
  ⟨some 12, .mv (.tmp 11), some (9, false), Q0⟩,
  ⟨some 13, .mv (.tmp 0), some (12, true), Q0⟩,
  ⟨some 14, .bin .leq (.tmp 13) (.con (.int .u8 90)), some (12, true), Q0⟩,
  ⟨some 15, .pick (.tmp 12) (.tmp 14) (.con (.bool false)), some (9, false), Q0⟩,
  ⟨some 16, .pick (.tmp 9) (.con (.bool true)) (.tmp 15), none, Q0⟩,
  ⟨some 2, .mv (.tmp 16), none, Q0⟩]
def c58_b : EC := (.seq (.reg 0 [⟨some 2, .mv (.con (.bool false)), none, Q0⟩] false (some [0]))
  (.seq (.reg 1 c58_r1 false (some [2]))
  .ret))
def c58 : EFn := ⟨1, 17, [.tmp 2], c58_b, none, true⟩
theorem c58_ok : cFn Tryz.prog Tryz.f58 = some c58.strip := by kernel_rfl
-- (*limbeck/lex.reader).word
def c59_b : EC := (.seq (.reg 0 [⟨some 2, .mv (.con (.bool false)), none, Q0⟩] false (some [0]))
  (.seq (.reg 1 [⟨some 7, .mv (.tmp 0), none, Q0⟩,
  ⟨some 8, .nck (.tmp 7), none, Q0⟩,
  ⟨some 9, .fA 1 (.tmp 8), none, Q0⟩,
  ⟨some 10, .ld none (.tmp 9), none, Q0⟩,
  ⟨some 3, .mv (.tmp 10), none, Q0⟩] false (some [0, 3]))
  (.seq (.reg 2 [⟨some 11, .mv (.tmp 0), none, Q0⟩,
  ⟨some 12, .call (.con (.fn 92 [] [])) [(.tmp 11), (.con (.fn 97 [] []))], none, Q0⟩,
  ⟨some 4, .mv (.tmp 12), none, Q0⟩] false (some [0, 3, 4]))
  (.seq (.reg 3 [⟨some 13, .mv (.tmp 0), none, Q0⟩,
  ⟨some 14, .nck (.tmp 13), none, Q0⟩,
  ⟨some 15, .fA 0 (.tmp 14), none, Q0⟩,
  ⟨some 16, .ld none (.tmp 15), none, Q0⟩,
  ⟨some 17, .mv (.tmp 3), none, Q0⟩,
  ⟨some 18, .mv (.tmp 4), none, Q0⟩,
  ⟨some 19, .slS (.tmp 16) (some (.tmp 17)) (some (.tmp 18)), none, Q0⟩,
  ⟨some 5, .mv (.tmp 19), none, Q0⟩] false (some [0, 3, 4, 5]))
  (.seq (.seq (.reg 4 [⟨some 20, .mv (.tmp 5), none, Q0⟩,
  ⟨some 21, .len true (.tmp 20), none, Q0⟩,
  ⟨some 22, .bin .gtr (.tmp 21) (.con (.int .i64 8)), none, Q0⟩] false (some [0, 3, 4, 5, 22]))
  (.cond (.tmp 22) (.seq (.reg 5 [⟨some 23, .mv (.tmp 0), none, Q0⟩,
  ⟨some 24, .mv (.tmp 3), none, Q0⟩,
  ⟨some 25, .call (.con (.fn 94 [] [])) [(.tmp 23), (.con (.int .i64 6)), (.tmp 24)], none, Q0⟩,
  ⟨some 2, .mv (.tmp 25), none, Q0⟩] false (some [2]))
  .ret) .skip))
  (.seq (.reg 6 [⟨some 6, .mv (.con (.int .i64 3)), none, Q0⟩] false (some [0, 3, 4, 5, 6]))
  (.seq (.seq (.reg 7 [⟨some 26, .mv (.tmp 5), none, Q0⟩,
  ⟨some 27, .call (.con (.fn 98 [] [])) [(.tmp 26)], none, Q0⟩] false (some [0, 3, 4, 5, 6, 27]))
  (.block 0 (.seq (.reg 8 [⟨some 29, .bin .eql (.tmp 27) (.con (.int .i64 0)), none, Q0⟩,
  ⟨some 28, .mv (.tmp 29), none, Q0⟩] false (some [0, 3, 4, 5, 6, 27, 28]))
  (.cond (.tmp 28) (.seq (.reg 9 [⟨some 30, .mv (.tmp 0), none, Q0⟩,
  ⟨some 31, .mv (.tmp 3), none, Q0⟩,
  ⟨some 32, .call (.con (.fn 94 [] [])) [(.tmp 30), (.con (.int .i64 2)), (.tmp 31)], none, Q0⟩,
  ⟨some 2, .mv (.tmp 32), none, Q0⟩] false (some [2]))
  .ret) (.seq (.seq (.reg 10 [⟨some 34, .bin .eql (.tmp 27) (.con (.int .i64 2)), none, Q0⟩,
  ⟨some 33, .mv (.tmp 34), none, Q0⟩] false (some [0, 3, 4, 5, 6, 27, 33]))
  (.cond (.tmp 33) .skip (.reg 11 [⟨some 35, .bin .eql (.tmp 27) (.con (.int .i64 4)), none, Q0⟩,
  ⟨some 33, .mv (.tmp 35), none, Q0⟩] false (some [0, 3, 4, 5, 6, 33]))))
  (.cond (.tmp 33) (.reg 12 [⟨some 6, .mv (.con (.int .i64 4)), none, Q0⟩] false (some [0, 3, 4, 5, 6])) .skip))))))
  (.seq (.reg 13 [⟨some 36, .mv (.tmp 0), none, Q0⟩,
  ⟨some 37, .mv (.tmp 6), none, Q0⟩,
  ⟨some 38, .mv (.tmp 5), none, Q0⟩,
  ⟨some 39, .build [(.int .i64 0), (.int .i64 0), (.str ⟨#[]⟩), (.int .i64 0)] [(0, 1, (.tmp 37)), (2, 1, (.tmp 38))], none, Q0⟩,
  ⟨some 40, .mv (.tmp 3), none, Q0⟩,
  ⟨some 41, .mv (.tmp 4), none, Q0⟩,
  ⟨some 42, .call (.con (.fn 96 [] [])) [(.tmp 36), (.tmp 39), (.tmp 40), (.tmp 41)], none, Q0⟩,
  ⟨some 2, .mv (.tmp 42), none, Q0⟩] false (some [2]))
  .ret))))))))
def c59 : EFn := ⟨1, 43, [.tmp 2], c59_b, none, true⟩
theorem c59_ok : cFn Tryz.prog Tryz.f59 = some c59.strip := by kernel_rfl
-- (*limbeck/lex.reader).text
def c60_r10 : List EI := [⟨some 51, .mv (.tmp 6), none, Q0⟩,
  ⟨some 52, .bin .lss (.tmp 51) (.con (.int .u8 32)), none, Q0⟩,
  ⟨some 53, .mv (.tmp 52), none, Q0⟩,
  ⟨some 54, .mv (.tmp 6), some (53, false), Q0⟩,
  ⟨some 55, .bin .gtr (.tmp 54) (.con (.int .u8 126)), some (53, false), Q0⟩,
  ⟨some 56, .pick (.tmp 53) (.con (.bool true)) (.tmp 55), none, Q0⟩,
  ⟨some 50, .mv (.tmp 56), none, Q0⟩]
def c60_l0_b : EC := (.seq (.seq (.reg 4 [⟨some 14, .mv (.tmp 5), none, Q0⟩,
  ⟨some 15, .mv (.tmp 0), none, Q0⟩,
  ⟨some 16, .nck (.tmp 15), none, Q0⟩,
  ⟨some 17, .fA 0 (.tmp 16), none, Q0⟩,
  ⟨some 18, .ld none (.tmp 17), none, Q0⟩,
  ⟨some 19, .len true (.tmp 18), none, Q0⟩,
  ⟨some 20, .bin .lss (.tmp 14) (.tmp 19), none, Q0⟩] false (some [0, 3, 4, 5, 20]))
  (.cond (.tmp 20) .skip (.exit 0)))
  (.block 1 (.seq (.reg 5 [⟨some 21, .mv (.tmp 0), none, Q0⟩,
  ⟨some 22, .nck (.tmp 21), none, Q0⟩,
  ⟨some 23, .fA 0 (.tmp 22), none, Q0⟩,
  ⟨some 24, .ld none (.tmp 23), none, Q0⟩,
  ⟨some 25, .mv (.tmp 5), none, Q0⟩,
  ⟨some 26, .ixS (.tmp 24) (.tmp 25), none, Q0⟩,
  ⟨some 6, .mv (.tmp 26), none, Q0⟩,
  ⟨some 7, .mv (.con (.int .i64 1)), none, Q0⟩] false (some [0, 3, 4, 5, 6, 7]))
  (.seq (.block 2 (.seq (.reg 6 [⟨some 28, .mv (.tmp 6), none, Q0⟩,
  ⟨some 29, .bin .eql (.tmp 28) (.con (.int .u8 34)), none, Q0⟩,
  ⟨some 27, .mv (.tmp 29), none, Q0⟩] false (some [0, 3, 4, 5, 6, 7, 27]))
  (.cond (.tmp 27) (.seq (.reg 7 [⟨some 30, .mv (.tmp 0), none, Q0⟩,
  ⟨some 31, .call (.con (.fn 36 [] [])) [(.tmp 4)], none, Q0⟩,
  ⟨some 32, .build [(.int .i64 0), (.int .i64 0), (.str ⟨#[]⟩), (.int .i64 0)] [(0, 1, (.con (.int .i64 2))), (2, 1, (.tmp 31))], none, Q0⟩,
  ⟨some 33, .mv (.tmp 3), none, Q0⟩,
  ⟨some 34, .mv (.tmp 5), none, Q0⟩,
  ⟨some 35, .bin .add (.tmp 34) (.con (.int .i64 1)), none, Q0⟩,
  ⟨some 36, .call (.con (.fn 96 [] [])) [(.tmp 30), (.tmp 32), (.tmp 33), (.tmp 35)], none, Q0⟩,
  ⟨some 2, .mv (.tmp 36), none, Q0⟩] false (some [2]))
  .ret) (.seq (.reg 8 [⟨some 38, .mv (.tmp 6), none, Q0⟩,
  ⟨some 39, .bin .eql (.tmp 38) (.con (.int .u8 92)), none, Q0⟩,
  ⟨some 37, .mv (.tmp 39), none, Q0⟩] false (some [0, 3, 4, 5, 6, 7, 37]))
  (.cond (.tmp 37) (.reg 9 [⟨some 41, .mv (.tmp 0), none, Q0⟩,
  ⟨some 42, .nck (.tmp 41), none, Q0⟩,
  ⟨some 43, .fA 0 (.tmp 42), none, Q0⟩,
  ⟨some 44, .ld none (.tmp 43), none, Q0⟩,
  ⟨some 45, .mv (.tmp 5), none, Q0⟩,
  ⟨some 46, .slS (.tmp 44) (some (.tmp 45)) none, none, Q0⟩,
  ⟨some 47, .call (.con (.fn 99 [] [])) [(.tmp 46)], none, Q0⟩,
  ⟨some 40, .mv (.tmp 47), none, Q0⟩,
  ⟨some 48, .ext (.tmp 40) 0, none, Q0⟩,
  ⟨some 49, .ext (.tmp 40) 1, none, Q0⟩,
  ⟨some 6, .mv (.tmp 48), none, Q0⟩,
  ⟨some 7, .mv (.tmp 49), none, Q0⟩] false (some [0, 3, 4, 5, 6, 7])) (.seq (.reg 10 c60_r10 false (some [0, 3, 4, 5, 6, 7, 50]))
  (.cond (.tmp 50) (.reg 11 [⟨some 7, .mv (.con (.int .i64 0)), none, Q0⟩] false (some [0, 3, 4, 5, 6, 7])) .skip)))))))
  (.seq (.seq (.reg 12 [⟨some 57, .mv (.tmp 7), none, Q0⟩,
  ⟨some 58, .bin .eql (.tmp 57) (.con (.int .i64 0)), none, Q0⟩] false (some [0, 3, 4, 5, 6, 7, 58]))
  (.cond (.tmp 58) (.seq (.reg 13 [⟨some 59, .mv (.tmp 0), none, Q0⟩,
  ⟨some 60, .mv (.tmp 5), none, Q0⟩,
  ⟨some 61, .call (.con (.fn 94 [] [])) [(.tmp 59), (.con (.int .i64 3)), (.tmp 60)], none, Q0⟩,
  ⟨some 2, .mv (.tmp 61), none, Q0⟩] false (some [2]))
  .ret) .skip))
  (.seq (.reg 14 [⟨some 62, .mv (.tmp 6), none, Q0⟩,
  ⟨some 63, .call (.con (.fn 34 [] [])) [(.tmp 4), (.tmp 62)], none, Q0⟩] false (some [0, 3, 4, 5, 7]))
  (.seq (.seq (.reg 15 [⟨some 64, .call (.con (.fn 100 [] [])) [(.tmp 4)], none, Q0⟩,
  ⟨some 65, .bin .gtr (.tmp 64) (.con (.int .i64 40)), none, Q0⟩] false (some [0, 3, 4, 5, 7, 65]))
  (.cond (.tmp 65) (.seq (.reg 16 [⟨some 66, .mv (.tmp 0), none, Q0⟩,
  ⟨some 67, .mv (.tmp 3), none, Q0⟩,
  ⟨some 68, .call (.con (.fn 94 [] [])) [(.tmp 66), (.con (.int .i64 6)), (.tmp 67)], none, Q0⟩,
  ⟨some 2, .mv (.tmp 68), none, Q0⟩] false (some [2]))
  .ret) .skip))
  (.reg 17 [⟨some 69, .mv (.tmp 5), none, Q0⟩,
  ⟨some 70, .mv (.tmp 7), none, Q0⟩,
  ⟨some 71, .bin .add (.tmp 69) (.tmp 70), none, Q0⟩,
  ⟨some 5, .mv (.tmp 71), none, Q0⟩] false (some [0, 3, 4, 5])))))))))
def c60_l0 : EC := .loop (some [0, 3, 4, 5]) c60_l0_b
def c60_b : EC := (.seq (.reg 0 [⟨some 2, .mv (.con (.bool false)), none, Q0⟩] false (some [0]))
  (.seq (.reg 1 [⟨some 8, .mv (.tmp 0), none, Q0⟩,
  ⟨some 9, .nck (.tmp 8), none, Q0⟩,
  ⟨some 10, .fA 1 (.tmp 9), none, Q0⟩,
  ⟨some 11, .ld none (.tmp 10), none, Q0⟩,
  ⟨some 3, .mv (.tmp 11), none, Q0⟩] false (some [0, 3]))
  (.seq (.reg 2 [⟨some 4, .new 77 [.nilp, (.sl .null [])], none, Q0⟩] false (some [0, 3, 4]))
  (.seq (.seq (.reg 3 [⟨some 12, .mv (.tmp 3), none, Q0⟩,
  ⟨some 13, .bin .add (.tmp 12) (.con (.int .i64 1)), none, Q0⟩,
  ⟨some 5, .mv (.tmp 13), none, Q0⟩] false (some [0, 3, 4, 5]))
  (.block 0 c60_l0))
  (.seq (.reg 18 [⟨some 72, .mv (.tmp 0), none, Q0⟩,
  ⟨some 73, .mv (.tmp 0), none, Q0⟩,
  ⟨some 74, .nck (.tmp 73), none, Q0⟩,
  ⟨some 75, .fA 0 (.tmp 74), none, Q0⟩,
  ⟨some 76, .ld none (.tmp 75), none, Q0⟩,
  ⟨some 77, .len true (.tmp 76), none, Q0⟩,
  ⟨some 78, .call (.con (.fn 94 [] [])) [(.tmp 72), (.con (.int .i64 5)), (.tmp 77)], none, Q0⟩,
  ⟨some 2, .mv (.tmp 78), none, Q0⟩] false (some [2]))
  .ret)))))
def c60 : EFn := ⟨1, 79, [.tmp 2], c60_b, none, true⟩
theorem c60_l0_step {E : Env} {fin : Kont (PV × St)} {st : List Fr} {ts : Tmps} {S : St} {n : Nat} : (lvl E (n + 1)).ev c60_l0 ts S (kont E fin st) = (lvl E (n + 1)).ev c60_l0_b (sel (some [0, 3, 4, 5]) ts) S (kont E fin (.again n c60_l0 :: st)) := rfl
theorem c60_l0_w {E : Env} {fin : Kont (PV × St)} {st : List Fw} {ts : Tmps} {S : St} : run E fin st c60_l0 ts S = run E fin (.again c60_l0 :: st) c60_l0_b (sel (some [0, 3, 4, 5]) ts) S := w_loop
theorem c60_l0_a {E : Env} {fin : Kont (PV × St)} {st : List Fw} {ts : Tmps} {S : St} : aft E fin (.again c60_l0 :: st) .normal ts S = run E fin st c60_l0 (sel (some [0, 3, 4, 5]) ts) S := a_again_s
theorem c60_ok : cFn Tryz.prog Tryz.f60 = some c60.strip := by kernel_rfl
-- (*limbeck/lex.reader).sign
def c61_r4 : List EI := [⟨some 21, .mv (.tmp 3), none, Q0⟩,
  ⟨some 22, .len true (.tmp 21), none, Q0⟩,
  ⟨some 23, .bin .geq (.tmp 22) (.con (.int .i64 2)), none, Q0⟩,
  ⟨some 24, .mv (.tmp 23), none, Q0⟩,
  ⟨some 25, .mv (.tmp 3), some (24, true), Q0⟩,
  ⟨some 26, .slS (.tmp 25) none (some (.con (.int .i64 2))), some (24, true), Q0⟩,
  ⟨some 27, .bin .eql (.tmp 26) (.con (.str ⟨#[61, 62]⟩)), some (24, true), Q0⟩,
  ⟨some 28, .mv (.tmp 27), some (24, true), Q0⟩,
  ⟨some 29, .mv (.tmp 3), some (28, false), Q0⟩,
  ⟨some 30, .slS (.tmp 29) none (some (.con (.int .i64 2))), some (28, false), Q0⟩,
  ⟨some 31, .bin .eql (.tmp 30) (.con (.str ⟨#[45, 62]⟩)), some (28, false), Q0⟩,
  ⟨some 32, .pick (.tmp 28) (.con (.bool true)) (.tmp 31), some (24, true), Q0⟩,
  ⟨some 33, .mv (.tmp 32), some (24, true), Q0⟩,
  ⟨some 34, .mv (.tmp 3), some (33, false), Q0⟩,
  ⟨some 35, .slS (.tmp 34) none (some (.con (.int .i64 2))), some (33, false), Q0⟩,
  ⟨some 36, .bin .eql (.tmp 35) (.con (.str ⟨#[60, 58]⟩)), some (33, false), Q0⟩,
  ⟨some 37, .pick (.tmp 33) (.con (.bool true)) (.tmp 36), some (24, true), Q0⟩,
  ⟨some 38, .mv (.tmp 37), some (24, true), Q0⟩,
  ⟨some 39, .mv (.tmp 3), some (38, false), Q0⟩,
  ⟨some 40, .slS (.tmp 39) none (some (.con (.int .i64 2))), some (38, false), Q0⟩,
  ⟨some 41, .bin .eql (.tmp 40) (.con (.str ⟨#[43, 43]⟩)), some (38, false), Q0⟩,
  ⟨some 42, .pick (.tmp 38) (.con (.bool true)) (.tmp 41), some (24, true), Q0⟩,
  ⟨some 43, .mv (.tmp 42), some (24, true), Q0⟩,
  ⟨some 44, .mv (.tmp 3), some (43, false), Q0⟩,
  ⟨some 45, .slS (.tmp 44) none (some (.con (.int .i64 2))), some (43, false), Q0⟩,
  ⟨some 46, .bin .eql (.tmp 45) (.con (.str ⟨#[61, 61]⟩)), some (43, false), Q0⟩,
  ⟨some 47, .pick (.tmp 43) (.con (.bool true)) (.tmp 46), some (24, true), Q0⟩,
  ⟨some 48, .pick (.tmp 24) (.tmp 47) (.con (.bool false)), none, Q0⟩,
  ⟨some 20, .mv (.tmp 48), none, Q0⟩]
def c61_b : EC := (.seq (.reg 0 [⟨some 2, .mv (.con (.bool false)), none, Q0⟩] false (some [0]))
  (.seq (.reg 1 [⟨some 5, .mv (.tmp 0), none, ⟨.no, false⟩⟩,
  ⟨some 6, .nck (.tmp 5), none, ⟨.no, false⟩⟩,
  ⟨some 7, .fA 0 (.tmp 6), none, ⟨.no, false⟩⟩,
  ⟨some 8, .ld none (.tmp 7), none, ⟨.still, false⟩⟩,
  ⟨some 9, .mv (.tmp 0), none, Q0⟩,
  ⟨some 10, .nck (.tmp 9), none, Q0⟩,
  ⟨some 11, .fA 1 (.tmp 10), none, Q0⟩,
  ⟨some 12, .ld none (.tmp 11), none, Q1⟩,
  ⟨some 13, .slS (.tmp 8) (some (.tmp 12)) none, none, Q0⟩,
  ⟨some 3, .mv (.tmp 13), none, Q0⟩] true (some [0, 3]))
  (.seq (.reg 2 [⟨some 4, .mv (.con (.int .i64 0)), none, Q0⟩] false (some [0, 3]))
  (.seq (.block 0 (.seq (.reg 4 c61_r4 false (some [0, 3, 20]))
  (.cond (.tmp 20) (.reg 5 [⟨some 4, .mv (.con (.int .i64 2)), none, Q0⟩] false (some [0, 3, 4])) (.seq (.reg 6 [⟨some 50, .mv (.tmp 3), none, Q0⟩,
  ⟨some 51, .ixS (.tmp 50) (.con (.int .i64 0)), none, Q0⟩,
  ⟨some 52, .call (.con (.fn 91 [] [])) [(.con (.str ⟨#[40, 41, 123, 125, 91, 93, 44, 58, 46, 61, 63, 43, 45, 42, 47, 60]⟩)), (.tmp 51)], none, Q0⟩,
  ⟨some 53, .bin .geq (.tmp 52) (.con (.int .i64 0)), none, Q0⟩,
  ⟨some 49, .mv (.tmp 53), none, Q0⟩] false (some [0, 3, 49]))
  (.cond (.tmp 49) (.reg 7 [⟨some 4, .mv (.con (.int .i64 1)), none, Q0⟩] false (some [0, 3, 4])) (.seq (.reg 3 [⟨some 14, .mv (.tmp 0), none, Q0⟩,
  ⟨some 15, .mv (.tmp 0), none, Q0⟩,
  ⟨some 16, .nck (.tmp 15), none, Q0⟩,
  ⟨some 17, .fA 1 (.tmp 16), none, Q0⟩,
  ⟨some 18, .ld none (.tmp 17), none, Q0⟩,
  ⟨some 19, .call (.con (.fn 94 [] [])) [(.tmp 14), (.con (.int .i64 3)), (.tmp 18)], none, Q0⟩,
  ⟨some 2, .mv (.tmp 19), none, Q0⟩] false (some [2]))
  .ret))))))
  (.seq (.reg 8 [⟨some 54, .mv (.tmp 0), none, ⟨.no, false⟩⟩,
  ⟨some 55, .mv (.tmp 3), none, ⟨.no, false⟩⟩,
  ⟨some 56, .mv (.tmp 4), none, ⟨.no, false⟩⟩,
  ⟨some 57, .slS (.tmp 55) none (some (.tmp 56)), none, ⟨.no, false⟩⟩,
  ⟨some 58, .build [(.int .i64 0), (.int .i64 0), (.str ⟨#[]⟩), (.int .i64 0)] [(0, 1, (.con (.int .i64 5))), (2, 1, (.tmp 57))], none, ⟨.no, false⟩⟩,
  ⟨some 59, .mv (.tmp 0), none, ⟨.no, false⟩⟩,
  ⟨some 60, .nck (.tmp 59), none, ⟨.no, false⟩⟩,
  ⟨some 61, .fA 1 (.tmp 60), none, ⟨.no, false⟩⟩,
  ⟨some 62, .ld none (.tmp 61), none, ⟨.still, false⟩⟩,
  ⟨some 63, .mv (.tmp 0), none, ⟨.no, false⟩⟩,
  ⟨some 64, .nck (.tmp 63), none, ⟨.no, false⟩⟩,
  ⟨some 65, .fA 1 (.tmp 64), none, ⟨.no, false⟩⟩,
  ⟨some 66, .ld none (.tmp 65), none, ⟨.still, false⟩⟩,
  ⟨some 67, .mv (.tmp 4), none, Q0⟩,
  ⟨some 68, .bin .add (.tmp 66) (.tmp 67), none, Q0⟩,
  ⟨some 69, .call (.con (.fn 96 [] [])) [(.tmp 54), (.tmp 58), (.tmp 62), (.tmp 68)], none, Q0⟩,
  ⟨some 2, .mv (.tmp 69), none, Q0⟩] true (some [2]))
  .ret)))))
def c61 : EFn := ⟨1, 70, [.tmp 2], c61_b, none, true⟩
theorem c61_ok : cFn Tryz.prog Tryz.f61 = some c61.strip := by kernel_rfl
-- limbeck/limbeckref01.Digit
def c62_r1 : List EI := [⟨some 3, .mv (.tmp 0), none, Q0⟩,
  ⟨some 4, .bin .geq (.tmp 3) (.con (.int .u8 48)), none, Q0⟩,
  ⟨some 5, .mv (.tmp 4), none, Q0⟩,
  ⟨some 6, .mv (.tmp 0), some (5, true), Q0⟩,
  ⟨some 7, .bin .leq (.tmp 6) (.con (.int .u8 57)), some (5, true), Q0⟩,
  ⟨some 8, .pick (.tmp 5) (.tmp 7) (.con (.bool false)), none, Q0⟩,
  ⟨some 2, .mv (.tmp 8), none, Q0⟩]
def c62_b : EC := (.seq (.reg 0 [⟨some 2, .mv (.con (.bool false)), none, Q0⟩] false (some [0]))
  (.seq (.reg 1 c62_r1 false (some [2]))
  .ret))
def c62 : EFn := ⟨1, 9, [.tmp 2], c62_b, none, true⟩
theorem c62_ok : cFn Tryz.prog Tryz.f62 = some c62.strip := by kernel_rfl
-- limbeck/limbeckref03.number
def c63_r2 : List EI := [⟨some 9, .mv (.tmp 5), none, Q0⟩,
  ⟨some 10, .mv (.tmp 0), none, Q0⟩,
  ⟨some 11, .len true (.tmp 10), none, Q0⟩,
  ⟨some 12, .bin .lss (.tmp 9) (.tmp 11), none, Q0⟩,
  ⟨some 13, .mv (.tmp 12), none, Q0⟩,
  ⟨some 14, .mv (.tmp 0), some (13, true), Q0⟩,
  ⟨some 15, .mv (.tmp 5), some (13, true), Q0⟩,
  ⟨some 16, .ixS (.tmp 14) (.tmp 15), some (13, true), Q0⟩,
  ⟨some 17, .call (.con (.fn 62 [] [])) [(.tmp 16)], some (13, true), Q0⟩,
  ⟨some 18, .pick (.tmp 13) (.tmp 17) (.con (.bool false)), none, Q0⟩]
def c63_r4 : List EI := [⟨some 21, .mv (.tmp 0), none, Q0⟩,
  ⟨some 22, .mv (.tmp 1), none, Q0⟩,
  ⟨some 23, .ixS (.tmp 21) (.tmp 22), none, Q0⟩,
  ⟨some 24, .bin .eql (.tmp 23) (.con (.int .u8 48)), none, Q0⟩,
  ⟨some 25, .mv (.tmp 24), none, Q0⟩,
  ⟨some 26, .mv (.tmp 5), some (25, true), Q0⟩,
  ⟨some 27, .mv (.tmp 1), some (25, true), Q0⟩,
  ⟨some 28, .bin .add (.tmp 27) (.con (.int .i64 1)), some (25, true), Q0⟩,
  ⟨some 29, .bin .gtr (.tmp 26) (.tmp 28), some (25, true), Q0⟩,
  ⟨some 30, .pick (.tmp 25) (.tmp 29) (.con (.bool false)), none, Q0⟩]
def c63_l0_b : EC := (.seq (.seq (.reg 2 c63_r2 false (some [0, 1, 4, 5, 18]))
  (.cond (.tmp 18) .skip (.exit 0)))
  (.block 1 (.reg 3 [⟨some 19, .mv (.tmp 5), none, Q0⟩,
  ⟨some 20, .bin .add (.tmp 19) (.con (.int .i64 1)), none, Q0⟩,
  ⟨some 5, .mv (.tmp 20), none, Q0⟩] false (some [0, 1, 4, 5]))))
def c63_l0 : EC := .loop (some [0, 1, 4, 5]) c63_l0_b
def c63_l1_b : EC := (.seq (.seq (.reg 8 [⟨some 34, .mv (.tmp 7), none, Q0⟩,
  ⟨some 35, .mv (.tmp 5), none, Q0⟩,
  ⟨some 36, .bin .lss (.tmp 34) (.tmp 35), none, Q0⟩] false (some [0, 1, 4, 5, 6, 7, 36]))
  (.cond (.tmp 36) .skip (.exit 2)))
  (.seq (.block 3 (.seq (.seq (.reg 10 [⟨some 39, .mv (.tmp 6), none, Q0⟩,
  ⟨some 40, .bin .gtr (.tmp 39) (.con (.int .u64 922337203685477580)), none, Q0⟩] false (some [0, 1, 4, 5, 6, 7, 40]))
  (.cond (.tmp 40) (.seq (.reg 11 [⟨some 41, .mv (.tmp 1), none, Q0⟩,
  ⟨some 42, .call (.con (.fn 101 [] [])) [(.con (.int .i64 6)), (.tmp 41)], none, Q0⟩,
  ⟨none, .st 8 (.tmp 4) (.tmp 42), none, Q0⟩] false (some [4]))
  .ret) .skip))
  (.seq (.reg 12 [⟨some 43, .mv (.tmp 6), none, Q0⟩,
  ⟨some 44, .bin .mul (.tmp 43) (.con (.int .u64 10)), none, Q0⟩,
  ⟨some 45, .mv (.tmp 0), none, Q0⟩,
  ⟨some 46, .mv (.tmp 7), none, Q0⟩,
  ⟨some 47, .ixS (.tmp 45) (.tmp 46), none, Q0⟩,
  ⟨some 48, .bin .sub (.tmp 47) (.con (.int .u8 48)), none, Q0⟩,
  ⟨some 49, .cvI .u64 (.tmp 48), none, Q0⟩,
  ⟨some 50, .bin .add (.tmp 44) (.tmp 49), none, Q0⟩,
  ⟨some 6, .mv (.tmp 50), none, Q0⟩] false (some [0, 1, 4, 5, 6, 7]))
  (.seq (.reg 13 [⟨some 51, .mv (.tmp 6), none, Q0⟩,
  ⟨some 52, .bin .gtr (.tmp 51) (.con (.int .u64 9223372036854775807)), none, Q0⟩] false (some [0, 1, 4, 5, 6, 7, 52]))
  (.cond (.tmp 52) (.seq (.reg 14 [⟨some 53, .mv (.tmp 1), none, Q0⟩,
  ⟨some 54, .call (.con (.fn 101 [] [])) [(.con (.int .i64 6)), (.tmp 53)], none, Q0⟩,
  ⟨none, .st 8 (.tmp 4) (.tmp 54), none, Q0⟩] false (some [4]))
  .ret) .skip)))))
  (.reg 9 [⟨some 37, .mv (.tmp 7), none, Q0⟩,
  ⟨some 38, .bin .add (.tmp 37) (.con (.int .i64 1)), none, Q0⟩,
  ⟨some 7, .mv (.tmp 38), none, Q0⟩] false (some [0, 1, 4, 5, 6, 7]))))
def c63_l1 : EC := .loop (some [0, 1, 4, 5, 6, 7]) c63_l1_b
def c63_b : EC := (.seq (.reg 0 [⟨some 4, .new 67 [(.int .i64 0), (.int .i64 0), (.str ⟨#[]⟩), (.int .i64 0), (.bool false), (.int .i64 0), (.int .i64 0), (.int .i64 0)], none, Q0⟩] false (some [0, 1, 4]))
  (.seq (.reg 1 [⟨some 8, .mv (.tmp 1), none, Q0⟩,
  ⟨some 5, .mv (.tmp 8), none, Q0⟩] false (some [0, 1, 4, 5]))
  (.seq (.block 0 c63_l0)
  (.seq (.seq (.reg 4 c63_r4 false (some [0, 1, 4, 5, 30]))
  (.cond (.tmp 30) (.seq (.reg 5 [⟨some 31, .mv (.tmp 1), none, Q0⟩,
  ⟨some 32, .call (.con (.fn 101 [] [])) [(.con (.int .i64 21)), (.tmp 31)], none, Q0⟩,
  ⟨none, .st 8 (.tmp 4) (.tmp 32), none, Q0⟩] false (some [4]))
  .ret) .skip))
  (.seq (.reg 6 [⟨some 6, .mv (.con (.int .u64 0)), none, Q0⟩] false (some [0, 1, 4, 5, 6]))
  (.seq (.seq (.reg 7 [⟨some 33, .mv (.tmp 1), none, Q0⟩,
  ⟨some 7, .mv (.tmp 33), none, Q0⟩] false (some [0, 1, 4, 5, 6, 7]))
  (.block 2 c63_l1))
  (.seq (.reg 15 [⟨some 55, .mv (.tmp 6), none, Q0⟩,
  ⟨some 56, .cvI .i64 (.tmp 55), none, Q0⟩,
  ⟨some 57, .mv (.tmp 1), none, Q0⟩,
  ⟨some 58, .build [(.int .i64 0), (.int .i64 0), (.str ⟨#[]⟩), (.int .i64 0)] [(0, 1, (.con (.int .i64 1))), (1, 1, (.tmp 56)), (3, 1, (.tmp 57))], none, Q0⟩,
  ⟨some 59, .mv (.tmp 5), none, Q0⟩,
  ⟨some 60, .build [(.int .i64 0), (.int .i64 0), (.str ⟨#[]⟩), (.int .i64 0), (.bool false), (.int .i64 0), (.int .i64 0), (.int .i64 0)] [(0, 4, (.tmp 58)), (5, 1, (.tmp 59))], none, Q0⟩,
  ⟨none, .st 8 (.tmp 4) (.tmp 60), none, Q0⟩] false (some [4]))
  .ret)))))))
def c63 : EFn := ⟨2, 61, [.cell 4 (some 8)], c63_b, none, true⟩
theorem c63_l0_step {E : Env} {fin : Kont (PV × St)} {st : List Fr} {ts : Tmps} {S : St} {n : Nat} : (lvl E (n + 1)).ev c63_l0 ts S (kont E fin st) = (lvl E (n + 1)).ev c63_l0_b (sel (some [0, 1, 4, 5]) ts) S (kont E fin (.again n c63_l0 :: st)) := rfl
theorem c63_l0_w {E : Env} {fin : Kont (PV × St)} {st : List Fw} {ts : Tmps} {S : St} : run E fin st c63_l0 ts S = run E fin (.again c63_l0 :: st) c63_l0_b (sel (some [0, 1, 4, 5]) ts) S := w_loop
theorem c63_l0_a {E : Env} {fin : Kont (PV × St)} {st : List Fw} {ts : Tmps} {S : St} : aft E fin (.again c63_l0 :: st) .normal ts S = run E fin st c63_l0 (sel (some [0, 1, 4, 5]) ts) S := a_again_s
theorem c63_l1_step {E : Env} {fin : Kont (PV × St)} {st : List Fr} {ts : Tmps} {S : St} {n : Nat} : (lvl E (n + 1)).ev c63_l1 ts S (kont E fin st) = (lvl E (n + 1)).ev c63_l1_b (sel (some [0, 1, 4, 5, 6, 7]) ts) S (kont E fin (.again n c63_l1 :: st)) := rfl
theorem c63_l1_w {E : Env} {fin : Kont (PV × St)} {st : List Fw} {ts : Tmps} {S : St} : run E fin st c63_l1 ts S = run E fin (.again c63_l1 :: st) c63_l1_b (sel (some [0, 1, 4, 5, 6, 7]) ts) S := w_loop
theorem c63_l1_a {E : Env} {fin : Kont (PV × St)} {st : List Fw} {ts : Tmps} {S : St} : aft E fin (.again c63_l1 :: st) .normal ts S = run E fin st c63_l1 (sel (some [0, 1, 4, 5, 6, 7]) ts) S := a_again_s
theorem c63_ok : cFn Tryz.prog Tryz.f63 = some c63.strip := by kernel_rfl
-- limbeck/limbeckref03.letter
def c64_r1 : List EI := [⟨some 3, .mv (.tmp 0), none, Q0⟩,
  ⟨some 4, .call (.con (.fn 102 [] [])) [(.tmp 3)], none, Q0⟩,
  ⟨some 5, .mv (.tmp 4), none, Q0⟩,
  ⟨some 6, .mv (.tmp 0), some (5, false), Q0⟩,
  ⟨some 7, .call (.con (.fn 103 [] [])) [(.tmp 6)], some (5, false), Q0⟩,
  ⟨some 8, .pick (.tmp 5) (.con (.bool true)) (.tmp 7), none, Q0⟩,
  ⟨some 9, .mv (.tmp 8), none, Q0⟩,
  ⟨some 10, .mv (.tmp 0), some (9, false), Q0⟩,
  ⟨some 11, .call (.con (.fn 62 [] [])) [(.tmp 10)], some (9, false), Q0⟩,
  ⟨some 12, .pick (.tmp 9) (.con (.bool true)) (.tmp 11), none, Q0⟩,
  ⟨some 2, .mv (.tmp 12), none, Q0⟩]
def c64_b : EC := (.seq (.reg 0 [⟨some 2, .mv (.con (.bool false)), none, Q0⟩] false (some [0]))
  (.seq (.reg 1 c64_r1 false (some [2]))
  .ret))
def c64 : EFn := ⟨1, 13, [.tmp 2], c64_b, none, true⟩
theorem c64_ok : cFn Tryz.prog Tryz.f64 = some c64.strip := by kernel_rfl
-- limbeck/limbeckref03.word
def c65_r2 : List EI := [⟨some 10, .mv (.tmp 5), none, Q0⟩,
  ⟨some 11, .mv (.tmp 0), none, Q0⟩,
  ⟨some 12, .len true (.tmp 11), none, Q0⟩,
  ⟨some 13, .bin .lss (.tmp 10) (.tmp 12), none, Q0⟩,
  ⟨some 14, .mv (.tmp 13), none, Q0⟩,
  ⟨some 15, .mv (.tmp 0), some (14, true), Q0⟩,
  ⟨some 16, .mv (.tmp 5), some (14, true), Q0⟩,
  ⟨some 17, .ixS (.tmp 15) (.tmp 16), some (14, true), Q0⟩,
  ⟨some 18, .call (.con (.fn 64 [] [])) [(.tmp 17)], some (14, true), Q0⟩,
  ⟨some 19, .pick (.tmp 14) (.tmp 18) (.con (.bool false)), none, Q0⟩]
def c65_r11 : List EI := [⟨some 38, .mv (.tmp 7), none, Q0⟩,
  ⟨some 39, .bin .eql (.tmp 38) (.con (.int .i64 2)), none, Q0⟩,
  ⟨some 40, .mv (.tmp 39), none, Q0⟩,
  ⟨some 41, .mv (.tmp 7), some (40, false), Q0⟩,
  ⟨some 42, .bin .eql (.tmp 41) (.con (.int .i64 4)), some (40, false), Q0⟩,
  ⟨some 43, .pick (.tmp 40) (.con (.bool true)) (.tmp 42), none, Q0⟩]
def c65_l0_b : EC := (.seq (.seq (.reg 2 c65_r2 false (some [0, 1, 4, 5, 19]))
  (.cond (.tmp 19) .skip (.exit 0)))
  (.block 1 (.reg 3 [⟨some 20, .mv (.tmp 5), none, Q0⟩,
  ⟨some 21, .bin .add (.tmp 20) (.con (.int .i64 1)), none, Q0⟩,
  ⟨some 5, .mv (.tmp 21), none, Q0⟩] false (some [0, 1, 4, 5]))))
def c65_l0 : EC := .loop (some [0, 1, 4, 5]) c65_l0_b
def c65_b : EC := (.seq (.reg 0 [⟨some 4, .new 67 [(.int .i64 0), (.int .i64 0), (.str ⟨#[]⟩), (.int .i64 0), (.bool false), (.int .i64 0), (.int .i64 0), (.int .i64 0)], none, Q0⟩] false (some [0, 1, 4]))
  (.seq (.reg 1 [⟨some 9, .mv (.tmp 1), none, Q0⟩,
  ⟨some 5, .mv (.tmp 9), none, Q0⟩] false (some [0, 1, 4, 5]))
  (.seq (.block 0 c65_l0)
  (.seq (.seq (.reg 4 [⟨some 22, .mv (.tmp 5), none, Q0⟩,
  ⟨some 23, .mv (.tmp 1), none, Q0⟩,
  ⟨some 24, .bin .sub (.tmp 22) (.tmp 23), none, Q0⟩,
  ⟨some 25, .bin .gtr (.tmp 24) (.con (.int .i64 8)), none, Q0⟩] false (some [0, 1, 4, 5, 25]))
  (.cond (.tmp 25) (.seq (.reg 5 [⟨some 26, .mv (.tmp 1), none, Q0⟩,
  ⟨some 27, .call (.con (.fn 101 [] [])) [(.con (.int .i64 6)), (.tmp 26)], none, Q0⟩,
  ⟨none, .st 8 (.tmp 4) (.tmp 27), none, Q0⟩] false (some [4]))
  .ret) .skip))
  (.seq (.reg 6 [⟨some 28, .mv (.tmp 0), none, Q0⟩,
  ⟨some 29, .mv (.tmp 1), none, Q0⟩,
  ⟨some 30, .mv (.tmp 5), none, Q0⟩,
  ⟨some 31, .slS (.tmp 28) (some (.tmp 29)) (some (.tmp 30)), none, Q0⟩,
  ⟨some 6, .mv (.tmp 31), none, Q0⟩] false (some [1, 4, 5, 6]))
  (.seq (.reg 7 [⟨some 32, .mv (.tmp 6), none, Q0⟩,
  ⟨some 33, .call (.con (.fn 73 [] [])) [(.tmp 32)], none, Q0⟩,
  ⟨some 7, .mv (.tmp 33), none, Q0⟩] false (some [1, 4, 5, 6, 7]))
  (.seq (.seq (.reg 8 [⟨some 34, .mv (.tmp 7), none, Q0⟩,
  ⟨some 35, .bin .eql (.tmp 34) (.con (.int .i64 0)), none, Q0⟩] false (some [1, 4, 5, 6, 7, 35]))
  (.cond (.tmp 35) (.seq (.reg 9 [⟨some 36, .mv (.tmp 1), none, Q0⟩,
  ⟨some 37, .call (.con (.fn 101 [] [])) [(.con (.int .i64 2)), (.tmp 36)], none, Q0⟩,
  ⟨none, .st 8 (.tmp 4) (.tmp 37), none, Q0⟩] false (some [4]))
  .ret) .skip))
  (.seq (.reg 10 [⟨some 8, .mv (.con (.int .i64 3)), none, Q0⟩] false (some [1, 4, 5, 6, 7, 8]))
  (.seq (.seq (.reg 11 c65_r11 false (some [1, 4, 5, 6, 8, 43]))
  (.cond (.tmp 43) (.reg 12 [⟨some 8, .mv (.con (.int .i64 4)), none, Q0⟩] false (some [1, 4, 5, 6, 8])) .skip))
  (.seq (.reg 13 [⟨some 44, .mv (.tmp 8), none, Q0⟩,
  ⟨some 45, .mv (.tmp 6), none, Q0⟩,
  ⟨some 46, .mv (.tmp 1), none, Q0⟩,
  ⟨some 47, .build [(.int .i64 0), (.int .i64 0), (.str ⟨#[]⟩), (.int .i64 0)] [(0, 1, (.tmp 44)), (2, 1, (.tmp 45)), (3, 1, (.tmp 46))], none, Q0⟩,
  ⟨some 48, .mv (.tmp 5), none, Q0⟩,
  ⟨some 49, .build [(.int .i64 0), (.int .i64 0), (.str ⟨#[]⟩), (.int .i64 0), (.bool false), (.int .i64 0), (.int .i64 0), (.int .i64 0)] [(0, 4, (.tmp 47)), (5, 1, (.tmp 48))], none, Q0⟩,
  ⟨none, .st 8 (.tmp 4) (.tmp 49), none, Q0⟩] false (some [4]))
  .ret))))))))))
def c65 : EFn := ⟨2, 50, [.cell 4 (some 8)], c65_b, none, true⟩
theorem c65_l0_step {E : Env} {fin : Kont (PV × St)} {st : List Fr} {ts : Tmps} {S : St} {n : Nat} : (lvl E (n + 1)).ev c65_l0 ts S (kont E fin st) = (lvl E (n + 1)).ev c65_l0_b (sel (some [0, 1, 4, 5]) ts) S (kont E fin (.again n c65_l0 :: st)) := rfl
theorem c65_l0_w {E : Env} {fin : Kont (PV × St)} {st : List Fw} {ts : Tmps} {S : St} : run E fin st c65_l0 ts S = run E fin (.again c65_l0 :: st) c65_l0_b (sel (some [0, 1, 4, 5]) ts) S := w_loop
theorem c65_l0_a {E : Env} {fin : Kont (PV × St)} {st : List Fw} {ts : Tmps} {S : St} : aft E fin (.again c65_l0 :: st) .normal ts S = run E fin st c65_l0 (sel (some [0, 1, 4, 5]) ts) S := a_again_s
theorem c65_ok : cFn Tryz.prog Tryz.f65 = some c65.strip := by kernel_rfl
-- limbeck/limbeckref03.text
def c66_r3 : List EI := [⟨some 11, .mv (.tmp 6), none, Q0⟩,
  ⟨some 12, .mv (.tmp 0), none, Q0⟩,
  ⟨some 13, .len true (.tmp 12), none, Q0⟩,
  ⟨some 14, .bin .lss (.tmp 11) (.tmp 13), none, Q0⟩,
  ⟨some 15, .mv (.tmp 14), none, Q0⟩,
  ⟨some 16, .mv (.tmp 0), some (15, true), Q0⟩,
  ⟨some 17, .mv (.tmp 6), some (15, true), Q0⟩,
  ⟨some 18, .ixS (.tmp 16) (.tmp 17), some (15, true), Q0⟩,
  ⟨some 19, .bin .neq (.tmp 18) (.con (.int .u8 34)), some (15, true), Q0⟩,
  ⟨some 20, .pick (.tmp 15) (.tmp 19) (.con (.bool false)), none, Q0⟩]
def c66_r8 : List EI := [⟨some 32, .mv (.tmp 7), none, Q0⟩,
  ⟨some 33, .bin .lss (.tmp 32) (.con (.int .u8 32)), none, Q0⟩,
  ⟨some 34, .mv (.tmp 33), none, Q0⟩,
  ⟨some 35, .mv (.tmp 7), some (34, false), Q0⟩,
  ⟨some 36, .bin .gtr (.tmp 35) (.con (.int .u8 126)), some (34, false), Q0⟩,
  ⟨some 37, .pick (.tmp 34) (.con (.bool true)) (.tmp 36), none, Q0⟩]
def c66_l0_b : EC := (.seq (.seq (.reg 3 c66_r3 false (some [0, 1, 4, 5, 6, 20]))
  (.cond (.tmp 20) .skip (.exit 0)))
  (.block 1 (.seq (.reg 4 [⟨some 21, .mv (.tmp 0), none, Q0⟩,
  ⟨some 22, .mv (.tmp 6), none, Q0⟩,
  ⟨some 23, .ixS (.tmp 21) (.tmp 22), none, Q0⟩,
  ⟨some 7, .mv (.tmp 23), none, Q0⟩] false (some [0, 1, 4, 5, 6, 7]))
  (.seq (.reg 5 [⟨some 8, .mv (.con (.int .i64 1)), none, Q0⟩] false (some [0, 1, 4, 5, 6, 7, 8]))
  (.seq (.seq (.reg 6 [⟨some 24, .mv (.tmp 7), none, Q0⟩,
  ⟨some 25, .bin .eql (.tmp 24) (.con (.int .u8 92)), none, Q0⟩] false (some [0, 1, 4, 5, 6, 7, 8, 25]))
  (.cond (.tmp 25) (.reg 7 [⟨some 27, .mv (.tmp 0), none, Q0⟩,
  ⟨some 28, .mv (.tmp 6), none, Q0⟩,
  ⟨some 29, .call (.con (.fn 104 [] [])) [(.tmp 27), (.tmp 28)], none, Q0⟩,
  ⟨some 26, .mv (.tmp 29), none, Q0⟩,
  ⟨some 30, .ext (.tmp 26) 0, none, Q0⟩,
  ⟨some 31, .ext (.tmp 26) 1, none, Q0⟩,
  ⟨some 7, .mv (.tmp 30), none, Q0⟩,
  ⟨some 8, .mv (.tmp 31), none, Q0⟩] false (some [0, 1, 4, 5, 6, 7, 8])) (.seq (.reg 8 c66_r8 false (some [0, 1, 4, 5, 6, 7, 8, 37]))
  (.cond (.tmp 37) (.reg 9 [⟨some 8, .mv (.con (.int .i64 0)), none, Q0⟩] false (some [0, 1, 4, 5, 6, 7, 8])) .skip))))
  (.seq (.seq (.reg 10 [⟨some 38, .mv (.tmp 8), none, Q0⟩,
  ⟨some 39, .bin .eql (.tmp 38) (.con (.int .i64 0)), none, Q0⟩] false (some [0, 1, 4, 5, 6, 7, 8, 39]))
  (.cond (.tmp 39) (.seq (.reg 11 [⟨some 40, .mv (.tmp 6), none, Q0⟩,
  ⟨some 41, .call (.con (.fn 101 [] [])) [(.con (.int .i64 3)), (.tmp 40)], none, Q0⟩,
  ⟨none, .st 8 (.tmp 4) (.tmp 41), none, Q0⟩] false (some [4]))
  .ret) .skip))
  (.seq (.reg 12 [⟨some 42, .mv (.tmp 5), none, Q0⟩,
  ⟨some 43, .mv (.tmp 7), none, Q0⟩,
  ⟨some 44, .rows 1 1 [(.int .u8 0)] [(0, (.tmp 43))], none, Q0⟩,
  ⟨some 45, .app 5 1 1 (.tmp 42) (.tmp 44), none, Q0⟩,
  ⟨some 5, .mv (.tmp 45), none, Q0⟩] false (some [0, 1, 4, 5, 6, 8]))
  (.seq (.seq (.reg 13 [⟨some 46, .mv (.tmp 5), none, Q0⟩,
  ⟨some 47, .len false (.tmp 46), none, Q0⟩,
  ⟨some 48, .bin .gtr (.tmp 47) (.con (.int .i64 40)), none, Q0⟩] false (some [0, 1, 4, 5, 6, 8, 48]))
  (.cond (.tmp 48) (.seq (.reg 14 [⟨some 49, .mv (.tmp 1), none, Q0⟩,
  ⟨some 50, .call (.con (.fn 101 [] [])) [(.con (.int .i64 6)), (.tmp 49)], none, Q0⟩,
  ⟨none, .st 8 (.tmp 4) (.tmp 50), none, Q0⟩] false (some [4]))
  .ret) .skip))
  (.reg 15 [⟨some 51, .mv (.tmp 6), none, Q0⟩,
  ⟨some 52, .mv (.tmp 8), none, Q0⟩,
  ⟨some 53, .bin .add (.tmp 51) (.tmp 52), none, Q0⟩,
  ⟨some 6, .mv (.tmp 53), none, Q0⟩] false (some [0, 1, 4, 5, 6]))))))))))
def c66_l0 : EC := .loop (some [0, 1, 4, 5, 6]) c66_l0_b
def c66_b : EC := (.seq (.reg 0 [⟨some 4, .new 67 [(.int .i64 0), (.int .i64 0), (.str ⟨#[]⟩), (.int .i64 0), (.bool false), (.int .i64 0), (.int .i64 0), (.int .i64 0)], none, Q0⟩] false (some [0, 1, 4]))
  (.seq (.reg 1 [⟨some 5, .mv (.con (.sl .null [])), none, Q0⟩] false (some [0, 1, 4, 5]))
  (.seq (.reg 2 [⟨some 9, .mv (.tmp 1), none, Q0⟩,
  ⟨some 10, .bin .add (.tmp 9) (.con (.int .i64 1)), none, Q0⟩,
  ⟨some 6, .mv (.tmp 10), none, Q0⟩] false (some [0, 1, 4, 5, 6]))
  (.seq (.block 0 c66_l0)
  (.seq (.seq (.reg 16 [⟨some 54, .mv (.tmp 6), none, Q0⟩,
  ⟨some 55, .mv (.tmp 0), none, Q0⟩,
  ⟨some 56, .len true (.tmp 55), none, Q0⟩,
  ⟨some 57, .bin .geq (.tmp 54) (.tmp 56), none, Q0⟩] false (some [0, 1, 4, 5, 6, 57]))
  (.cond (.tmp 57) (.seq (.reg 17 [⟨some 58, .mv (.tmp 0), none, Q0⟩,
  ⟨some 59, .len true (.tmp 58), none, Q0⟩,
  ⟨some 60, .call (.con (.fn 101 [] [])) [(.con (.int .i64 5)), (.tmp 59)], none, Q0⟩,
  ⟨none, .st 8 (.tmp 4) (.tmp 60), none, Q0⟩] false (some [4]))
  .ret) .skip))
  (.seq (.reg 18 [⟨some 61, .mv (.tmp 5), none, Q0⟩,
  ⟨some 62, .b2s (.tmp 61), none, Q0⟩,
  ⟨some 63, .mv (.tmp 1), none, Q0⟩,
  ⟨some 64, .build [(.int .i64 0), (.int .i64 0), (.str ⟨#[]⟩), (.int .i64 0)] [(0, 1, (.con (.int .i64 2))), (2, 1, (.tmp 62)), (3, 1, (.tmp 63))], none, Q0⟩,
  ⟨some 65, .mv (.tmp 6), none, Q0⟩,
  ⟨some 66, .bin .add (.tmp 65) (.con (.int .i64 1)), none, Q0⟩,
  ⟨some 67, .build [(.int .i64 0), (.int .i64 0), (.str ⟨#[]⟩), (.int .i64 0), (.bool false), (.int .i64 0), (.int .i64 0), (.int .i64 0)] [(0, 4, (.tmp 64)), (5, 1, (.tmp 66))], none, Q0⟩,
  ⟨none, .st 8 (.tmp 4) (.tmp 67), none, Q0⟩] false (some [4]))
  .ret))))))
def c66 : EFn := ⟨2, 68, [.cell 4 (some 8)], c66_b, none, true⟩
theorem c66_l0_step {E : Env} {fin : Kont (PV × St)} {st : List Fr} {ts : Tmps} {S : St} {n : Nat} : (lvl E (n + 1)).ev c66_l0 ts S (kont E fin st) = (lvl E (n + 1)).ev c66_l0_b (sel (some [0, 1, 4, 5, 6]) ts) S (kont E fin (.again n c66_l0 :: st)) := rfl
theorem c66_l0_w {E : Env} {fin : Kont (PV × St)} {st : List Fw} {ts : Tmps} {S : St} : run E fin st c66_l0 ts S = run E fin (.again c66_l0 :: st) c66_l0_b (sel (some [0, 1, 4, 5, 6]) ts) S := w_loop
theorem c66_l0_a {E : Env} {fin : Kont (PV × St)} {st : List Fw} {ts : Tmps} {S : St} : aft E fin (.again c66_l0 :: st) .normal ts S = run E fin st c66_l0 (sel (some [0, 1, 4, 5, 6]) ts) S := a_again_s
theorem c66_ok : cFn Tryz.prog Tryz.f66 = some c66.strip := by kernel_rfl
-- limbeck/limbeckref03.sign
def c67_r5 : List EI := [⟨some 16, .mv (.tmp 1), none, ⟨.no, false⟩⟩,
  ⟨some 17, .bin .add (.tmp 16) (.con (.int .i64 2)), none, ⟨.no, false⟩⟩,
  ⟨some 18, .mv (.tmp 0), none, Q0⟩,
  ⟨some 19, .len true (.tmp 18), none, Q0⟩,
  ⟨some 20, .bin .leq (.tmp 17) (.tmp 19), none, Q0⟩,
  ⟨some 21, .mv (.tmp 20), none, Q0⟩,
  ⟨some 22, .mv (.tmp 0), some (21, true), ⟨.no, false⟩⟩,
  ⟨some 23, .mv (.tmp 1), some (21, true), ⟨.no, false⟩⟩,
  ⟨some 24, .mv (.tmp 1), some (21, true), ⟨.no, false⟩⟩,
  ⟨some 25, .bin .add (.tmp 24) (.con (.int .i64 2)), some (21, true), ⟨.no, false⟩⟩,
  ⟨some 26, .slS (.tmp 22) (some (.tmp 23)) (some (.tmp 25)), some (21, true), ⟨.no, false⟩⟩,
  ⟨some 27, .mv (.tmp 5), some (21, true), ⟨.no, false⟩⟩,
  ⟨some 28, .mv (.tmp 6), some (21, true), Q0⟩,
  ⟨some 29, .ixL 1 (.tmp 27) (.tmp 28), some (21, true), Q0⟩,
  ⟨some 30, .ld none (.tmp 29), some (21, true), Q0⟩,
  ⟨some 31, .bin .eql (.tmp 26) (.tmp 30), some (21, true), Q0⟩,
  ⟨some 32, .pick (.tmp 21) (.tmp 31) (.con (.bool false)), none, Q0⟩]
def c67_l0_b : EC := (.seq (.seq (.reg 3 [⟨some 10, .mv (.tmp 6), none, Q0⟩,
  ⟨some 11, .mv (.tmp 5), none, Q0⟩,
  ⟨some 12, .len false (.tmp 11), none, Q0⟩,
  ⟨some 13, .bin .lss (.tmp 10) (.tmp 12), none, Q0⟩] false (some [0, 1, 4, 5, 6, 13]))
  (.cond (.tmp 13) .skip (.exit 0)))
  (.seq (.block 1 (.seq (.reg 5 c67_r5 true (some [0, 1, 4, 5, 6, 32]))
  (.cond (.tmp 32) (.seq (.reg 6 [⟨some 33, .mv (.tmp 5), none, Q0⟩,
  ⟨some 34, .mv (.tmp 6), none, Q0⟩,
  ⟨some 35, .ixL 1 (.tmp 33) (.tmp 34), none, Q0⟩,
  ⟨some 36, .ld none (.tmp 35), none, Q0⟩,
  ⟨some 37, .mv (.tmp 1), none, Q0⟩,
  ⟨some 38, .build [(.int .i64 0), (.int .i64 0), (.str ⟨#[]⟩), (.int .i64 0)] [(0, 1, (.con (.int .i64 5))), (2, 1, (.tmp 36)), (3, 1, (.tmp 37))], none, Q0⟩,
  ⟨some 39, .mv (.tmp 1), none, Q0⟩,
  ⟨some 40, .bin .add (.tmp 39) (.con (.int .i64 2)), none, Q0⟩,
  ⟨some 41, .build [(.int .i64 0), (.int .i64 0), (.str ⟨#[]⟩), (.int .i64 0), (.bool false), (.int .i64 0), (.int .i64 0), (.int .i64 0)] [(0, 4, (.tmp 38)), (5, 1, (.tmp 40))], none, Q0⟩,
  ⟨none, .st 8 (.tmp 4) (.tmp 41), none, Q0⟩] false (some [4]))
  .ret) .skip)))
  (.reg 4 [⟨some 14, .mv (.tmp 6), none, Q0⟩,
  ⟨some 15, .bin .add (.tmp 14) (.con (.int .i64 1)), none, Q0⟩,
  ⟨some 6, .mv (.tmp 15), none, Q0⟩] false (some [0, 1, 4, 5, 6]))))
def c67_l0 : EC := .loop (some [0, 1, 4, 5, 6]) c67_l0_b
def c67_l1_b : EC := (.seq (.seq (.reg 9 [⟨some 42, .mv (.tmp 8), none, Q0⟩,
  ⟨some 43, .mv (.tmp 7), none, Q0⟩,
  ⟨some 44, .len true (.tmp 43), none, Q0⟩,
  ⟨some 45, .bin .lss (.tmp 42) (.tmp 44), none, Q0⟩] false (some [0, 1, 4, 7, 8, 45]))
  (.cond (.tmp 45) .skip (.exit 2)))
  (.seq (.block 3 (.seq (.reg 11 [⟨some 48, .mv (.tmp 0), none, ⟨.no, false⟩⟩,
  ⟨some 49, .mv (.tmp 1), none, ⟨.no, false⟩⟩,
  ⟨some 50, .ixS (.tmp 48) (.tmp 49), none, ⟨.no, false⟩⟩,
  ⟨some 51, .mv (.tmp 7), none, ⟨.no, false⟩⟩,
  ⟨some 52, .mv (.tmp 8), none, Q0⟩,
  ⟨some 53, .ixS (.tmp 51) (.tmp 52), none, Q0⟩,
  ⟨some 54, .bin .eql (.tmp 50) (.tmp 53), none, Q0⟩] true (some [0, 1, 4, 7, 8, 54]))
  (.cond (.tmp 54) (.seq (.reg 12 [⟨some 55, .mv (.tmp 0), none, Q0⟩,
  ⟨some 56, .mv (.tmp 1), none, Q0⟩,
  ⟨some 57, .ixS (.tmp 55) (.tmp 56), none, Q0⟩,
  ⟨some 58, .rows 1 1 [(.int .u8 0)] [(0, (.tmp 57))], none, Q0⟩,
  ⟨some 59, .b2s (.tmp 58), none, Q0⟩,
  ⟨some 60, .mv (.tmp 1), none, Q0⟩,
  ⟨some 61, .build [(.int .i64 0), (.int .i64 0), (.str ⟨#[]⟩), (.int .i64 0)] [(0, 1, (.con (.int .i64 5))), (2, 1, (.tmp 59)), (3, 1, (.tmp 60))], none, Q0⟩,
  ⟨some 62, .mv (.tmp 1), none, Q0⟩,
  ⟨some 63, .bin .add (.tmp 62) (.con (.int .i64 1)), none, Q0⟩,
  ⟨some 64, .build [(.int .i64 0), (.int .i64 0), (.str ⟨#[]⟩), (.int .i64 0), (.bool false), (.int .i64 0), (.int .i64 0), (.int .i64 0)] [(0, 4, (.tmp 61)), (5, 1, (.tmp 63))], none, Q0⟩,
  ⟨none, .st 8 (.tmp 4) (.tmp 64), none, Q0⟩] false (some [4]))
  .ret) .skip)))
  (.reg 10 [⟨some 46, .mv (.tmp 8), none, Q0⟩,
  ⟨some 47, .bin .add (.tmp 46) (.con (.int .i64 1)), none, Q0⟩,
  ⟨some 8, .mv (.tmp 47), none, Q0⟩] false (some [0, 1, 4, 7, 8]))))
def c67_l1 : EC := .loop (some [0, 1, 4, 7, 8]) c67_l1_b
def c67_b : EC := (.seq (.reg 0 [⟨some 4, .new 67 [(.int .i64 0), (.int .i64 0), (.str ⟨#[]⟩), (.int .i64 0), (.bool false), (.int .i64 0), (.int .i64 0), (.int .i64 0)], none, Q0⟩] false (some [0, 1, 4]))
  (.seq (.reg 1 [⟨some 9, .rows 5 1 [(.str ⟨#[]⟩)] [(0, (.con (.str ⟨#[61, 62]⟩))), (1, (.con (.str ⟨#[45, 62]⟩))), (2, (.con (.str ⟨#[60, 58]⟩))), (3, (.con (.str ⟨#[43, 43]⟩))), (4, (.con (.str ⟨#[61, 61]⟩)))], none, Q0⟩,
  ⟨some 5, .mv (.tmp 9), none, Q0⟩] false (some [0, 1, 4, 5]))
  (.seq (.seq (.reg 2 [⟨some 6, .mv (.con (.int .i64 0)), none, Q0⟩] false (some [0, 1, 4, 5, 6]))
  (.block 0 c67_l0))
  (.seq (.reg 7 [⟨some 7, .mv (.con (.str ⟨#[40, 41, 123, 125, 91, 93, 44, 58, 46, 61, 63, 43, 45, 42, 47, 60]⟩)), none, Q0⟩] false (some [0, 1, 4, 7]))
  (.seq (.seq (.reg 8 [⟨some 8, .mv (.con (.int .i64 0)), none, Q0⟩] false (some [0, 1, 4, 7, 8]))
  (.block 2 c67_l1))
  (.seq (.reg 13 [⟨some 65, .mv (.tmp 1), none, Q0⟩,
  ⟨some 66, .call (.con (.fn 101 [] [])) [(.con (.int .i64 3)), (.tmp 65)], none, Q0⟩,
  ⟨none, .st 8 (.tmp 4) (.tmp 66), none, Q0⟩] false (some [4]))
  .ret))))))
def c67 : EFn := ⟨2, 67, [.cell 4 (some 8)], c67_b, none, true⟩
theorem c67_l0_step {E : Env} {fin : Kont (PV × St)} {st : List Fr} {ts : Tmps} {S : St} {n : Nat} : (lvl E (n + 1)).ev c67_l0 ts S (kont E fin st) = (lvl E (n + 1)).ev c67_l0_b (sel (some [0, 1, 4, 5, 6]) ts) S (kont E fin (.again n c67_l0 :: st)) := rfl
theorem c67_l0_w {E : Env} {fin : Kont (PV × St)} {st : List Fw} {ts : Tmps} {S : St} : run E fin st c67_l0 ts S = run E fin (.again c67_l0 :: st) c67_l0_b (sel (some [0, 1, 4, 5, 6]) ts) S := w_loop
theorem c67_l0_a {E : Env} {fin : Kont (PV × St)} {st : List Fw} {ts : Tmps} {S : St} : aft E fin (.again c67_l0 :: st) .normal ts S = run E fin st c67_l0 (sel (some [0, 1, 4, 5, 6]) ts) S := a_again_s
theorem c67_l1_step {E : Env} {fin : Kont (PV × St)} {st : List Fr} {ts : Tmps} {S : St} {n : Nat} : (lvl E (n + 1)).ev c67_l1 ts S (kont E fin st) = (lvl E (n + 1)).ev c67_l1_b (sel (some [0, 1, 4, 7, 8]) ts) S (kont E fin (.again n c67_l1 :: st)) := rfl
theorem c67_l1_w {E : Env} {fin : Kont (PV × St)} {st : List Fw} {ts : Tmps} {S : St} : run E fin st c67_l1 ts S = run E fin (.again c67_l1 :: st) c67_l1_b (sel (some [0, 1, 4, 7, 8]) ts) S := w_loop
theorem c67_l1_a {E : Env} {fin : Kont (PV × St)} {st : List Fw} {ts : Tmps} {S : St} : aft E fin (.again c67_l1 :: st) .normal ts S = run E fin st c67_l1 (sel (some [0, 1, 4, 7, 8]) ts) S := a_again_s
theorem c67_ok : cFn Tryz.prog Tryz.f67 = some c67.strip := by kernel_rfl
-- limbeck/limbeckref01.Kind
def c73_r4 : List EI := [⟨some 11, .mv (.tmp 0), none, Q0⟩,
  ⟨some 12, .len true (.tmp 11), none, Q0⟩,
  ⟨some 13, .bin .lss (.tmp 12) (.con (.int .i64 1)), none, Q0⟩,
  ⟨some 14, .mv (.tmp 13), none, Q0⟩,
  ⟨some 15, .mv (.tmp 0), some (14, false), Q0⟩,
  ⟨some 16, .len true (.tmp 15), some (14, false), Q0⟩,
  ⟨some 17, .bin .gtr (.tmp 16) (.con (.int .i64 8)), some (14, false), Q0⟩,
  ⟨some 18, .pick (.tmp 14) (.con (.bool true)) (.tmp 17), none, Q0⟩]
def c73_r14 : List EI := [⟨some 31, .mv (.tmp 0), none, Q0⟩,
  ⟨some 32, .mv (.tmp 5), none, Q0⟩,
  ⟨some 33, .ixS (.tmp 31) (.tmp 32), none, Q0⟩,
  ⟨some 34, .call (.con (.fn 62 [] [])) [(.tmp 33)], none, Q0⟩,
  ⟨some 35, .un .not (.tmp 34), none, Q0⟩,
  ⟨some 36, .mv (.tmp 35), none, Q0⟩,
  ⟨some 37, .mv (.tmp 0), some (36, true), Q0⟩,
  ⟨some 38, .mv (.tmp 5), some (36, true), Q0⟩,
  ⟨some 39, .ixS (.tmp 37) (.tmp 38), some (36, true), Q0⟩,
  ⟨some 40, .call (.con (.fn 102 [] [])) [(.tmp 39)], some (36, true), Q0⟩,
  ⟨some 41, .un .not (.tmp 40), some (36, true), Q0⟩,
  ⟨some 42, .pick (.tmp 36) (.tmp 41) (.con (.bool false)), none, Q0⟩,
  ⟨some 43, .mv (.tmp 42), none, Q0⟩,
  ⟨some 44, .mv (.tmp 0), some (43, true), Q0⟩,
  ⟨some 45, .mv (.tmp 5), some (43, true), Q0⟩,
  ⟨some 46, .ixS (.tmp 44) (.tmp 45), some (43, true), Q0⟩,
  ⟨some 47, .call (.con (.fn 103 [] [])) [(.tmp 46)], some (43, true), Q0⟩,
  ⟨some 48, .un .not (.tmp 47), some (43, true), Q0⟩,
  ⟨some 49, .mv (.tmp 48), some (43, true), Q0⟩,
  ⟨some 50, .mv (.tmp 4), some (49, false), Q0⟩,
  ⟨some 51, .bin .eql (.tmp 50) (.con (.int .i64 1)), some (49, false), Q0⟩,
  ⟨some 52, .pick (.tmp 49) (.con (.bool true)) (.tmp 51), some (43, true), Q0⟩,
  ⟨some 53, .pick (.tmp 43) (.tmp 52) (.con (.bool false)), none, Q0⟩]
def c73_l0_b : EC := (.seq (.seq (.reg 12 [⟨some 25, .mv (.tmp 5), none, Q0⟩,
  ⟨some 26, .mv (.tmp 0), none, Q0⟩,
  ⟨some 27, .len true (.tmp 26), none, Q0⟩,
  ⟨some 28, .bin .lss (.tmp 25) (.tmp 27), none, Q0⟩] false (some [0, 4, 5, 28]))
  (.cond (.tmp 28) .skip (.exit 0)))
  (.seq (.block 1 (.seq (.reg 14 c73_r14 false (some [0, 4, 5, 53]))
  (.cond (.tmp 53) (.seq (.reg 15 [⟨some 2, .mv (.con (.int .i64 0)), none, Q0⟩] false (some [2]))
  .ret) .skip)))
  (.reg 13 [⟨some 29, .mv (.tmp 5), none, Q0⟩,
  ⟨some 30, .bin .add (.tmp 29) (.con (.int .i64 1)), none, Q0⟩,
  ⟨some 5, .mv (.tmp 30), none, Q0⟩] false (some [0, 4, 5]))))
def c73_l0 : EC := .loop (some [0, 4, 5]) c73_l0_b
def c73_b : EC := (.seq (.reg 0 [⟨some 2, .mv (.con (.int .i64 0)), none, Q0⟩] false (some [0]))
  (.seq (.seq (.reg 1 [⟨some 6, .mv (.tmp 0), none, Q0⟩,
  ⟨some 7, .call (.con (.fn 109 [] [])) [(.tmp 6)], none, Q0⟩,
  ⟨some 3, .mv (.tmp 7), none, Q0⟩] false (some [0, 3]))
  (.seq (.reg 2 [⟨some 8, .mv (.tmp 3), none, Q0⟩,
  ⟨some 9, .bin .neq (.tmp 8) (.con (.int .i64 0)), none, Q0⟩] false (some [0, 3, 9]))
  (.cond (.tmp 9) (.seq (.reg 3 [⟨some 10, .mv (.tmp 3), none, Q0⟩,
  ⟨some 2, .mv (.tmp 10), none, Q0⟩] false (some [2]))
  .ret) .skip)))
  (.seq (.seq (.reg 4 c73_r4 false (some [0, 18]))
  (.cond (.tmp 18) (.seq (.reg 5 [⟨some 2, .mv (.con (.int .i64 0)), none, Q0⟩] false (some [2]))
  .ret) .skip))
  (.seq (.reg 6 [⟨some 4, .mv (.con (.int .i64 0)), none, Q0⟩] false (some [0, 4]))
  (.seq (.seq (.reg 7 [⟨some 19, .mv (.tmp 0), none, Q0⟩,
  ⟨some 20, .ixS (.tmp 19) (.con (.int .i64 0)), none, Q0⟩,
  ⟨some 21, .call (.con (.fn 102 [] [])) [(.tmp 20)], none, Q0⟩] false (some [0, 4, 21]))
  (.cond (.tmp 21) (.reg 8 [⟨some 4, .mv (.con (.int .i64 1)), none, Q0⟩] false (some [0, 4])) .skip))
  (.seq (.seq (.reg 9 [⟨some 22, .mv (.tmp 0), none, Q0⟩,
  ⟨some 23, .ixS (.tmp 22) (.con (.int .i64 0)), none, Q0⟩,
  ⟨some 24, .call (.con (.fn 103 [] [])) [(.tmp 23)], none, Q0⟩] false (some [0, 4, 24]))
  (.cond (.tmp 24) (.reg 10 [⟨some 4, .mv (.con (.int .i64 2)), none, Q0⟩] false (some [0, 4])) .skip))
  (.seq (.seq (.reg 11 [⟨some 5, .mv (.con (.int .i64 1)), none, Q0⟩] false (some [0, 4, 5]))
  (.block 0 c73_l0))
  (.seq (.reg 16 [⟨some 54, .mv (.tmp 4), none, Q0⟩,
  ⟨some 2, .mv (.tmp 54), none, Q0⟩] false (some [2]))
  .ret))))))))
def c73 : EFn := ⟨1, 55, [.tmp 2], c73_b, none, true⟩
theorem c73_l0_step {E : Env} {fin : Kont (PV × St)} {st : List Fr} {ts : Tmps} {S : St} {n : Nat} : (lvl E (n + 1)).ev c73_l0 ts S (kont E fin st) = (lvl E (n + 1)).ev c73_l0_b (sel (some [0, 4, 5]) ts) S (kont E fin (.again n c73_l0 :: st)) := rfl
theorem c73_l0_w {E : Env} {fin : Kont (PV × St)} {st : List Fw} {ts : Tmps} {S : St} : run E fin st c73_l0 ts S = run E fin (.again c73_l0 :: st) c73_l0_b (sel (some [0, 4, 5]) ts) S := w_loop
theorem c73_l0_a {E : Env} {fin : Kont (PV × St)} {st : List Fw} {ts : Tmps} {S : St} : aft E fin (.again c73_l0 :: st) .normal ts S = run E fin st c73_l0 (sel (some [0, 4, 5]) ts) S := a_again_s
theorem c73_ok : cFn Tryz.prog Tryz.f73 = some c73.strip := by kernel_rfl
-- (*limbeck/lex.reader).while
def c92_r2 : List EI := [⟨some 10, .mv (.tmp 5), none, Q0⟩,
  ⟨some 11, .mv (.tmp 0), none, Q0⟩,
  ⟨some 12, .nck (.tmp 11), none, Q0⟩,
  ⟨some 13, .fA 0 (.tmp 12), none, Q0⟩,
  ⟨some 14, .ld none (.tmp 13), none, Q0⟩,
  ⟨some 15, .len true (.tmp 14), none, Q0⟩,
  ⟨some 16, .bin .lss (.tmp 10) (.tmp 15), none, Q0⟩,
  ⟨some 17, .mv (.tmp 16), none, Q0⟩,
  ⟨some 18, .mv (.tmp 1), some (17, true), Q0⟩,
  ⟨some 19, .mv (.tmp 0), some (17, true), Q0⟩,
  ⟨some 20, .nck (.tmp 19), some (17, true), Q0⟩,
  ⟨some 21, .fA 0 (.tmp 20), some (17, true), Q0⟩,
  ⟨some 22, .ld none (.tmp 21), some (17, true), Q0⟩,
  ⟨some 23, .mv (.tmp 5), some (17, true), Q0⟩,
  ⟨some 24, .ixS (.tmp 22) (.tmp 23), some (17, true), Q0⟩,
  ⟨some 25, .call (.tmp 18) [(.tmp 24)], some (17, true), Q0⟩,
  ⟨some 26, .pick (.tmp 17) (.tmp 25) (.con (.bool false)), none, Q0⟩]
def c92_l0_b : EC := (.seq (.seq (.reg 2 c92_r2 false (some [0, 1, 5, 26]))
  (.cond (.tmp 26) .skip (.exit 0)))
  (.block 1 (.reg 3 [⟨some 27, .mv (.tmp 5), none, Q0⟩,
  ⟨some 28, .bin .add (.tmp 27) (.con (.int .i64 1)), none, Q0⟩,
  ⟨some 5, .mv (.tmp 28), none, Q0⟩] false (some [0, 1, 5]))))
def c92_l0 : EC := .loop (some [0, 1, 5]) c92_l0_b
def c92_b : EC := (.seq (.reg 0 [⟨some 4, .mv (.con (.int .i64 0)), none, Q0⟩] false (some [0, 1]))
  (.seq (.reg 1 [⟨some 6, .mv (.tmp 0), none, Q0⟩,
  ⟨some 7, .nck (.tmp 6), none, Q0⟩,
  ⟨some 8, .fA 1 (.tmp 7), none, Q0⟩,
  ⟨some 9, .ld none (.tmp 8), none, Q0⟩,
  ⟨some 5, .mv (.tmp 9), none, Q0⟩] false (some [0, 1, 5]))
  (.seq (.block 0 c92_l0)
  (.seq (.reg 4 [⟨some 29, .mv (.tmp 5), none, Q0⟩,
  ⟨some 4, .mv (.tmp 29), none, Q0⟩] false (some [4]))
  .ret))))
def c92 : EFn := ⟨2, 30, [.tmp 4], c92_b, none, true⟩
theorem c92_l0_step {E : Env} {fin : Kont (PV × St)} {st : List Fr} {ts : Tmps} {S : St} {n : Nat} : (lvl E (n + 1)).ev c92_l0 ts S (kont E fin st) = (lvl E (n + 1)).ev c92_l0_b (sel (some [0, 1, 5]) ts) S (kont E fin (.again n c92_l0 :: st)) := rfl
theorem c92_l0_w {E : Env} {fin : Kont (PV × St)} {st : List Fw} {ts : Tmps} {S : St} : run E fin st c92_l0 ts S = run E fin (.again c92_l0 :: st) c92_l0_b (sel (some [0, 1, 5]) ts) S := w_loop
theorem c92_l0_a {E : Env} {fin : Kont (PV × St)} {st : List Fw} {ts : Tmps} {S : St} : aft E fin (.again c92_l0 :: st) .normal ts S = run E fin st c92_l0 (sel (some [0, 1, 5]) ts) S := a_again_s
theorem c92_ok : cFn Tryz.prog Tryz.f92 = some c92.strip := by kernel_rfl
-- (*limbeck/lex.reader).pass$1
def c93_b : EC := (.seq (.reg 0 [⟨some 2, .mv (.con (.bool false)), none, Q0⟩] false (some [0]))
  (.seq (.reg 1 [⟨some 3, .mv (.tmp 0), none, Q0⟩,
  ⟨some 4, .bin .neq (.tmp 3) (.con (.int .u8 10)), none, Q0⟩,
  ⟨some 2, .mv (.tmp 4), none, Q0⟩] false (some [2]))
  .ret))
def c93 : EFn := ⟨1, 5, [.tmp 2], c93_b, none, true⟩
theorem c93_ok : cFn Tryz.prog Tryz.f93 = some c93.strip := by kernel_rfl
-- (*limbeck/lex.reader).fail
def c94_b : EC := (.seq (.reg 0 [⟨some 6, .mv (.con (.bool false)), none, Q0⟩] false (some [0, 1, 2]))
  (.seq (.reg 1 [⟨some 7, .mv (.tmp 0), none, Q0⟩,
  ⟨some 8, .mv (.tmp 1), none, Q0⟩,
  ⟨some 9, .mv (.tmp 2), none, Q0⟩,
  ⟨some 10, .call (.con (.fn 30 [] [])) [(.tmp 8), (.tmp 9)], none, Q0⟩,
  ⟨some 11, .nck (.tmp 7), none, Q0⟩,
  ⟨some 12, .fA 3 (.tmp 11), none, Q0⟩,
  ⟨none, .st 1 (.tmp 12) (.tmp 10), none, Q0⟩] false (some []))
  (.seq (.reg 2 [⟨some 6, .mv (.con (.bool false)), none, Q0⟩] false (some [6]))
  .ret)))
def c94 : EFn := ⟨3, 13, [.tmp 6], c94_b, none, true⟩
theorem c94_ok : cFn Tryz.prog Tryz.f94 = some c94.strip := by kernel_rfl
-- (*limbeck/lex.reader).put
def c96_b : EC := (.seq (.reg 0 [⟨some 5, .box 53 (.tmp 1), none, Q0⟩,
  ⟨some 8, .mv (.con (.bool false)), none, Q0⟩] false (some [0, 2, 3, 5]))
  (.seq (.reg 1 [⟨some 9, .mv (.tmp 2), none, Q0⟩,
  ⟨some 10, .fA 3 (.tmp 5), none, Q0⟩,
  ⟨none, .st 1 (.tmp 10) (.tmp 9), none, Q0⟩] false (some [0, 3, 5]))
  (.seq (.reg 2 [⟨some 11, .mv (.tmp 0), none, ⟨.no, false⟩⟩,
  ⟨some 12, .mv (.tmp 0), none, ⟨.no, false⟩⟩,
  ⟨some 13, .nck (.tmp 12), none, ⟨.no, false⟩⟩,
  ⟨some 14, .fA 2 (.tmp 13), none, ⟨.no, false⟩⟩,
  ⟨some 15, .ld none (.tmp 14), none, ⟨.lds [(some 4, (.tmp 5))], false⟩⟩,
  ⟨some 16, .ld (some 4) (.tmp 5), none, Q1⟩,
  ⟨some 17, .rows 1 4 [(.int .i64 0), (.int .i64 0), (.str ⟨#[]⟩), (.int .i64 0)] [(0, (.tmp 16))], none, Q0⟩,
  ⟨some 18, .app 53 4 40 (.tmp 15) (.tmp 17), none, Q0⟩,
  ⟨some 19, .nck (.tmp 11), none, Q0⟩,
  ⟨some 20, .fA 2 (.tmp 19), none, Q0⟩,
  ⟨none, .st 1 (.tmp 20) (.tmp 18), none, Q0⟩] true (some [0, 3]))
  (.seq (.reg 3 [⟨some 21, .mv (.tmp 0), none, Q0⟩,
  ⟨some 22, .mv (.tmp 3), none, Q0⟩,
  ⟨some 23, .nck (.tmp 21), none, Q0⟩,
  ⟨some 24, .fA 1 (.tmp 23), none, Q0⟩,
  ⟨none, .st 1 (.tmp 24) (.tmp 22), none, Q0⟩] false (some []))
  (.seq (.reg 4 [⟨some 8, .mv (.con (.bool true)), none, Q0⟩] false (some [8]))
  .ret)))))
def c96 : EFn := ⟨4, 25, [.tmp 8], c96_b, none, true⟩
theorem c96_ok : cFn Tryz.prog Tryz.f96 = some c96.strip := by kernel_rfl
-- (*limbeck/lex.reader).word$1
def c97_r1 : List EI := [⟨some 3, .mv (.tmp 0), none, Q0⟩,
  ⟨some 4, .call (.con (.fn 58 [] [])) [(.tmp 3)], none, Q0⟩,
  ⟨some 5, .mv (.tmp 4), none, Q0⟩,
  ⟨some 6, .mv (.tmp 0), some (5, false), Q0⟩,
  ⟨some 7, .call (.con (.fn 56 [] [])) [(.tmp 6)], some (5, false), Q0⟩,
  ⟨some 8, .pick (.tmp 5) (.con (.bool true)) (.tmp 7), none, Q0⟩,
  ⟨some 2, .mv (.tmp 8), none, Q0⟩]
def c97_b : EC := (.seq (.reg 0 [⟨some 2, .mv (.con (.bool false)), none, Q0⟩] false (some [0]))
  (.seq (.reg 1 c97_r1 false (some [2]))
  .ret))
def c97 : EFn := ⟨1, 9, [.tmp 2], c97_b, none, true⟩
theorem c97_ok : cFn Tryz.prog Tryz.f97 = some c97.strip := by kernel_rfl
-- limbeck/name.Kind
def c98_b : EC := (.seq (.reg 0 [⟨some 2, .mv (.con (.int .i64 0)), none, Q0⟩] false (some [0]))
  (.seq (.reg 1 [⟨some 4, .mv (.tmp 0), none, Q0⟩,
  ⟨some 5, .call (.con (.fn 122 [] [])) [(.tmp 4)], none, Q0⟩,
  ⟨some 3, .mv (.tmp 5), none, Q0⟩] false (some [0, 3]))
  (.seq (.seq (.reg 2 [⟨some 6, .mv (.tmp 0), none, Q0⟩] false (some [3, 6]))
  (.block 0 (.seq (.block 3 (.seq (.block 2 (.block 1 (.seq (.seq (.seq (.seq (.reg 3 [⟨some 8, .bin .eql (.tmp 6) (.con (.str ⟨#[108, 101, 116]⟩)), none, Q0⟩,
  ⟨some 7, .mv (.tmp 8), none, Q0⟩] false (some [3, 6, 7]))
  (.cond (.tmp 7) .skip (.seq (.reg 4 [⟨some 9, .bin .eql (.tmp 6) (.con (.str ⟨#[105, 110]⟩)), none, Q0⟩,
  ⟨some 7, .mv (.tmp 9), none, Q0⟩] false (some [3, 6, 7]))
  (.cond (.tmp 7) .skip (.seq (.reg 5 [⟨some 10, .bin .eql (.tmp 6) (.con (.str ⟨#[105, 102]⟩)), none, Q0⟩,
  ⟨some 7, .mv (.tmp 10), none, Q0⟩] false (some [3, 6, 7]))
  (.cond (.tmp 7) .skip (.seq (.reg 6 [⟨some 11, .bin .eql (.tmp 6) (.con (.str ⟨#[116, 104, 101, 110]⟩)), none, Q0⟩,
  ⟨some 7, .mv (.tmp 11), none, Q0⟩] false (some [3, 6, 7]))
  (.cond (.tmp 7) .skip (.reg 7 [⟨some 12, .bin .eql (.tmp 6) (.con (.str ⟨#[101, 108, 115, 101]⟩)), none, Q0⟩,
  ⟨some 7, .mv (.tmp 12), none, Q0⟩] false (some [3, 6, 7]))))))))))
  (.cond (.tmp 7) (.exit 1) .skip))
  (.seq (.seq (.seq (.reg 8 [⟨some 14, .bin .eql (.tmp 6) (.con (.str ⟨#[102, 110]⟩)), none, Q0⟩,
  ⟨some 13, .mv (.tmp 14), none, Q0⟩] false (some [3, 6, 13]))
  (.cond (.tmp 13) .skip (.seq (.reg 9 [⟨some 15, .bin .eql (.tmp 6) (.con (.str ⟨#[99, 97, 108, 108]⟩)), none, Q0⟩,
  ⟨some 13, .mv (.tmp 15), none, Q0⟩] false (some [3, 6, 13]))
  (.cond (.tmp 13) .skip (.seq (.reg 10 [⟨some 16, .bin .eql (.tmp 6) (.con (.str ⟨#[100, 101, 102]⟩)), none, Q0⟩,
  ⟨some 13, .mv (.tmp 16), none, Q0⟩] false (some [3, 6, 13]))
  (.cond (.tmp 13) .skip (.seq (.reg 11 [⟨some 17, .bin .eql (.tmp 6) (.con (.str ⟨#[116, 114, 117, 101]⟩)), none, Q0⟩,
  ⟨some 13, .mv (.tmp 17), none, Q0⟩] false (some [3, 6, 13]))
  (.cond (.tmp 13) .skip (.reg 12 [⟨some 18, .bin .eql (.tmp 6) (.con (.str ⟨#[102, 97, 108, 115, 101]⟩)), none, Q0⟩,
  ⟨some 13, .mv (.tmp 18), none, Q0⟩] false (some [3, 6, 13]))))))))))
  (.cond (.tmp 13) (.exit 2) .skip))
  (.seq (.seq (.reg 13 [⟨some 20, .bin .eql (.tmp 6) (.con (.str ⟨#[73, 110, 116]⟩)), none, Q0⟩,
  ⟨some 19, .mv (.tmp 20), none, Q0⟩] false (some [3, 6, 19]))
  (.cond (.tmp 19) .skip (.seq (.reg 14 [⟨some 21, .bin .eql (.tmp 6) (.con (.str ⟨#[66, 111, 111, 108]⟩)), none, Q0⟩,
  ⟨some 19, .mv (.tmp 21), none, Q0⟩] false (some [3, 6, 19]))
  (.cond (.tmp 19) .skip (.seq (.reg 15 [⟨some 22, .bin .eql (.tmp 6) (.con (.str ⟨#[83, 116, 114, 105, 110, 103]⟩)), none, Q0⟩,
  ⟨some 19, .mv (.tmp 22), none, Q0⟩] false (some [3, 6, 19]))
  (.cond (.tmp 19) .skip (.reg 16 [⟨some 23, .bin .eql (.tmp 6) (.con (.str ⟨#[84, 111, 112]⟩)), none, Q0⟩,
  ⟨some 19, .mv (.tmp 23), none, Q0⟩] false (some [3, 19]))))))))
  (.cond (.tmp 19) (.exit 3) .skip))))
  (.exit 0))))
  (.seq (.seq (.reg 17 [⟨some 2, .mv (.con (.int .i64 3)), none, Q0⟩] false (some [2]))
  .ret)
  (.exit 0))))
  (.seq (.seq (.reg 18 [⟨some 2, .mv (.con (.int .i64 4)), none, Q0⟩] false (some [2]))
  .ret)
  (.exit 0)))))
  (.seq (.reg 19 [⟨some 24, .mv (.tmp 3), none, Q0⟩,
  ⟨some 2, .mv (.tmp 24), none, Q0⟩] false (some [2]))
  .ret))))
def c98 : EFn := ⟨1, 25, [.tmp 2], c98_b, none, true⟩
theorem c98_ok : cFn Tryz.prog Tryz.f98 = some c98.strip := by kernel_rfl
-- limbeck/lex.escaped
def c99_r5 : List EI := [⟨some 13, .mv (.tmp 5), none, Q0⟩,
  ⟨some 14, .bin .eql (.tmp 13) (.con (.int .u8 34)), none, Q0⟩,
  ⟨some 15, .mv (.tmp 14), none, Q0⟩,
  ⟨some 16, .mv (.tmp 5), some (15, false), Q0⟩,
  ⟨some 17, .bin .eql (.tmp 16) (.con (.int .u8 92)), some (15, false), Q0⟩,
  ⟨some 18, .pick (.tmp 15) (.con (.bool true)) (.tmp 17), none, Q0⟩,
  ⟨some 12, .mv (.tmp 18), none, Q0⟩]
def c99_r9 : List EI := [⟨some 24, .mv (.tmp 5), none, Q0⟩,
  ⟨some 25, .bin .eql (.tmp 24) (.con (.int .u8 120)), none, Q0⟩,
  ⟨some 26, .mv (.tmp 25), none, Q0⟩,
  ⟨some 27, .mv (.tmp 4), some (26, true), Q0⟩,
  ⟨some 28, .call (.tmp 27) [(.con (.int .i64 2))], some (26, true), Q0⟩,
  ⟨some 29, .bin .geq (.tmp 28) (.con (.int .i64 0)), some (26, true), Q0⟩,
  ⟨some 30, .pick (.tmp 26) (.tmp 29) (.con (.bool false)), none, Q0⟩,
  ⟨some 31, .mv (.tmp 30), none, Q0⟩,
  ⟨some 32, .mv (.tmp 4), some (31, true), Q0⟩,
  ⟨some 33, .call (.tmp 32) [(.con (.int .i64 3))], some (31, true), Q0⟩,
  ⟨some 34, .bin .geq (.tmp 33) (.con (.int .i64 0)), some (31, true), Q0⟩,
  ⟨some 35, .pick (.tmp 31) (.tmp 34) (.con (.bool false)), none, Q0⟩,
  ⟨some 23, .mv (.tmp 35), none, Q0⟩]
def c99_b : EC := (.seq (.reg 0 [⟨some 1, .boxI 9 (.tmp 0), none, Q0⟩,
  ⟨some 2, .mv (.con (.int .u8 0)), none, Q0⟩,
  ⟨some 3, .mv (.con (.int .i64 0)), none, Q0⟩] false (some [1]))
  (.seq (.reg 1 [⟨some 6, .fnv 123 [] [(.tmp 1)], none, Q0⟩,
  ⟨some 4, .mv (.tmp 6), none, Q0⟩] false (some [1, 4]))
  (.seq (.seq (.reg 2 [⟨some 7, .ld none (.tmp 1), none, Q0⟩,
  ⟨some 8, .len true (.tmp 7), none, Q0⟩,
  ⟨some 9, .bin .lss (.tmp 8) (.con (.int .i64 2)), none, Q0⟩] false (some [1, 4, 9]))
  (.cond (.tmp 9) (.seq (.reg 3 [⟨some 2, .mv (.con (.int .u8 0)), none, Q0⟩,
  ⟨some 3, .mv (.con (.int .i64 0)), none, Q0⟩] false (some [2, 3]))
  .ret) .skip))
  (.seq (.seq (.reg 4 [⟨some 10, .ld none (.tmp 1), none, Q0⟩,
  ⟨some 11, .ixS (.tmp 10) (.con (.int .i64 1)), none, Q0⟩,
  ⟨some 5, .mv (.tmp 11), none, Q0⟩] false (some [4, 5]))
  (.block 0 (.seq (.reg 5 c99_r5 false (some [4, 5, 12]))
  (.cond (.tmp 12) (.seq (.reg 6 [⟨some 19, .mv (.tmp 5), none, Q0⟩,
  ⟨some 2, .mv (.tmp 19), none, Q0⟩,
  ⟨some 3, .mv (.con (.int .i64 2)), none, Q0⟩] false (some [2, 3]))
  .ret) (.seq (.reg 7 [⟨some 21, .mv (.tmp 5), none, Q0⟩,
  ⟨some 22, .bin .eql (.tmp 21) (.con (.int .u8 110)), none, Q0⟩,
  ⟨some 20, .mv (.tmp 22), none, Q0⟩] false (some [4, 5, 20]))
  (.cond (.tmp 20) (.seq (.reg 8 [⟨some 2, .mv (.con (.int .u8 10)), none, Q0⟩,
  ⟨some 3, .mv (.con (.int .i64 2)), none, Q0⟩] false (some [2, 3]))
  .ret) (.seq (.reg 9 c99_r9 false (some [4, 23]))
  (.cond (.tmp 23) (.seq (.reg 10 [⟨some 36, .mv (.tmp 4), none, Q0⟩,
  ⟨some 37, .call (.tmp 36) [(.con (.int .i64 2))], none, Q0⟩,
  ⟨some 38, .bin .shl (.tmp 37) (.con (.int .u64 4)), none, Q0⟩,
  ⟨some 39, .mv (.tmp 4), none, Q0⟩,
  ⟨some 40, .call (.tmp 39) [(.con (.int .i64 3))], none, Q0⟩,
  ⟨some 41, .bin .or (.tmp 38) (.tmp 40), none, Q0⟩,
  ⟨some 42, .cvI .u8 (.tmp 41), none, Q0⟩,
  ⟨some 2, .mv (.tmp 42), none, Q0⟩,
  ⟨some 3, .mv (.con (.int .i64 4)), none, Q0⟩] false (some [2, 3]))
  .ret) .skip))))))))
  (.seq (.reg 11 [⟨some 2, .mv (.con (.int .u8 0)), none, Q0⟩,
  ⟨some 3, .mv (.con (.int .i64 0)), none, Q0⟩] false (some [2, 3]))
  .ret)))))
def c99 : EFn := ⟨1, 43, [.tmp 2, .tmp 3], c99_b, none, true⟩
theorem c99_ok : cFn Tryz.prog Tryz.f99 = some c99.strip := by kernel_rfl
-- (*strings.Builder).Len
def c100_b : EC := (.seq (.reg 0 [⟨some 2, .mv (.con (.int .i64 0)), none, Q0⟩] false (some [0]))
  (.seq (.reg 1 [⟨some 3, .mv (.tmp 0), none, Q0⟩,
  ⟨some 4, .nck (.tmp 3), none, Q0⟩,
  ⟨some 5, .fA 1 (.tmp 4), none, Q0⟩,
  ⟨some 6, .ld none (.tmp 5), none, Q0⟩,
  ⟨some 7, .len false (.tmp 6), none, Q0⟩,
  ⟨some 2, .mv (.tmp 7), none, Q0⟩] false (some [2]))
  .ret))
def c100 : EFn := ⟨1, 8, [.tmp 2], c100_b, none, true⟩
theorem c100_ok : cFn Tryz.prog Tryz.f100 = some c100.strip := by kernel_rfl
-- limbeck/limbeckref03.bad
def c101_b : EC := (.seq (.reg 0 [⟨some 4, .new 67 [(.int .i64 0), (.int .i64 0), (.str ⟨#[]⟩), (.int .i64 0), (.bool false), (.int .i64 0), (.int .i64 0), (.int .i64 0)], none, Q0⟩] false (some [0, 1, 4]))
  (.seq (.reg 1 [⟨some 5, .mv (.tmp 0), none, Q0⟩,
  ⟨some 6, .mv (.tmp 1), none, Q0⟩,
  ⟨some 7, .build [(.int .i64 0), (.int .i64 0), (.str ⟨#[]⟩), (.int .i64 0), (.bool false), (.int .i64 0), (.int .i64 0), (.int .i64 0)] [(6, 1, (.tmp 5)), (7, 1, (.tmp 6))], none, Q0⟩,
  ⟨none, .st 8 (.tmp 4) (.tmp 7), none, Q0⟩] false (some [4]))
  .ret))
def c101 : EFn := ⟨2, 8, [.cell 4 (some 8)], c101_b, none, true⟩
theorem c101_ok : cFn Tryz.prog Tryz.f101 = some c101.strip := by kernel_rfl
-- limbeck/limbeckref01.Low
def c102_r1 : List EI := [⟨some 3, .mv (.tmp 0), none, Q0⟩,
  ⟨some 4, .bin .geq (.tmp 3) (.con (.int .u8 97)), none, Q0⟩,
  ⟨some 5, .mv (.tmp 4), none, Q0⟩,
  ⟨some 6, .mv (.tmp 0), some (5, true), Q0⟩,
  ⟨some 7, .bin .leq (.tmp 6) (.con (.int .u8 122)), some (5, true), Q0⟩,
  ⟨some 8, .pick (.tmp 5) (.tmp 7) (.con (.bool false)), none, Q0⟩,
  ⟨some 2, .mv (.tmp 8), none, Q0⟩]
def c102_b : EC := (.seq (.reg 0 [⟨some 2, .mv (.con (.bool false)), none, Q0⟩] false (some [0]))
  (.seq (.reg 1 c102_r1 false (some [2]))
  .ret))
def c102 : EFn := ⟨1, 9, [.tmp 2], c102_b, none, true⟩
theorem c102_ok : cFn Tryz.prog Tryz.f102 = some c102.strip := by kernel_rfl
-- limbeck/limbeckref01.Up
def c103_r1 : List EI := [⟨some 3, .mv (.tmp 0), none, Q0⟩,
  ⟨some 4, .bin .geq (.tmp 3) (.con (.int .u8 65)), none, Q0⟩,
  ⟨some 5, .mv (.tmp 4), none, Q0⟩,
  ⟨some 6, .mv (.tmp 0), some (5, true), Q0⟩,
  ⟨some 7, .bin .leq (.tmp 6) (.con (.int .u8 90)), some (5, true), Q0⟩,
  ⟨some 8, .pick (.tmp 5) (.tmp 7) (.con (.bool false)), none, Q0⟩,
  ⟨some 2, .mv (.tmp 8), none, Q0⟩]
def c103_b : EC := (.seq (.reg 0 [⟨some 2, .mv (.con (.bool false)), none, Q0⟩] false (some [0]))
  (.seq (.reg 1 c103_r1 false (some [2]))
  .ret))
def c103 : EFn := ⟨1, 9, [.tmp 2], c103_b, none, true⟩
theorem c103_ok : cFn Tryz.prog Tryz.f103 = some c103.strip := by kernel_rfl
-- limbeck/limbeckref03.escape
def c104_r4 : List EI := [⟨some 16, .mv (.tmp 6), none, Q0⟩,
  ⟨some 17, .bin .eql (.tmp 16) (.con (.int .u8 34)), none, Q0⟩,
  ⟨some 18, .mv (.tmp 17), none, Q0⟩,
  ⟨some 19, .mv (.tmp 6), some (18, false), Q0⟩,
  ⟨some 20, .bin .eql (.tmp 19) (.con (.int .u8 92)), some (18, false), Q0⟩,
  ⟨some 21, .pick (.tmp 18) (.con (.bool true)) (.tmp 20), none, Q0⟩]
def c104_r8 : List EI := [⟨some 25, .mv (.tmp 6), none, Q0⟩,
  ⟨some 26, .bin .eql (.tmp 25) (.con (.int .u8 120)), none, Q0⟩,
  ⟨some 27, .mv (.tmp 26), none, Q0⟩,
  ⟨some 28, .mv (.tmp 1), some (27, true), Q0⟩,
  ⟨some 29, .bin .add (.tmp 28) (.con (.int .i64 3)), some (27, true), Q0⟩,
  ⟨some 30, .mv (.tmp 0), some (27, true), Q0⟩,
  ⟨some 31, .len true (.tmp 30), some (27, true), Q0⟩,
  ⟨some 32, .bin .lss (.tmp 29) (.tmp 31), some (27, true), Q0⟩,
  ⟨some 33, .pick (.tmp 27) (.tmp 32) (.con (.bool false)), none, Q0⟩,
  ⟨some 34, .mv (.tmp 33), none, Q0⟩,
  ⟨some 35, .mv (.tmp 0), some (34, true), Q0⟩,
  ⟨some 36, .mv (.tmp 1), some (34, true), Q0⟩,
  ⟨some 37, .bin .add (.tmp 36) (.con (.int .i64 2)), some (34, true), Q0⟩,
  ⟨some 38, .ixS (.tmp 35) (.tmp 37), some (34, true), Q0⟩,
  ⟨some 39, .call (.con (.fn 124 [] [])) [(.tmp 38)], some (34, true), Q0⟩,
  ⟨some 40, .bin .geq (.tmp 39) (.con (.int .i64 0)), some (34, true), Q0⟩,
  ⟨some 41, .pick (.tmp 34) (.tmp 40) (.con (.bool false)), none, Q0⟩,
  ⟨some 42, .mv (.tmp 41), none, Q0⟩,
  ⟨some 43, .mv (.tmp 0), some (42, true), Q0⟩,
  ⟨some 44, .mv (.tmp 1), some (42, true), Q0⟩,
  ⟨some 45, .bin .add (.tmp 44) (.con (.int .i64 3)), some (42, true), Q0⟩,
  ⟨some 46, .ixS (.tmp 43) (.tmp 45), some (42, true), Q0⟩,
  ⟨some 47, .call (.con (.fn 124 [] [])) [(.tmp 46)], some (42, true), Q0⟩,
  ⟨some 48, .bin .geq (.tmp 47) (.con (.int .i64 0)), some (42, true), Q0⟩,
  ⟨some 49, .pick (.tmp 42) (.tmp 48) (.con (.bool false)), none, Q0⟩]
def c104_b : EC := (.seq (.reg 0 [⟨some 4, .mv (.con (.int .u8 0)), none, Q0⟩,
  ⟨some 5, .mv (.con (.int .i64 0)), none, Q0⟩] false (some [0, 1]))
  (.seq (.seq (.reg 1 [⟨some 7, .mv (.tmp 1), none, Q0⟩,
  ⟨some 8, .bin .add (.tmp 7) (.con (.int .i64 1)), none, Q0⟩,
  ⟨some 9, .mv (.tmp 0), none, Q0⟩,
  ⟨some 10, .len true (.tmp 9), none, Q0⟩,
  ⟨some 11, .bin .geq (.tmp 8) (.tmp 10), none, Q0⟩] false (some [0, 1, 11]))
  (.cond (.tmp 11) (.seq (.reg 2 [⟨some 4, .mv (.con (.int .u8 0)), none, Q0⟩,
  ⟨some 5, .mv (.con (.int .i64 0)), none, Q0⟩] false (some [4, 5]))
  .ret) .skip))
  (.seq (.reg 3 [⟨some 12, .mv (.tmp 0), none, Q0⟩,
  ⟨some 13, .mv (.tmp 1), none, Q0⟩,
  ⟨some 14, .bin .add (.tmp 13) (.con (.int .i64 1)), none, Q0⟩,
  ⟨some 15, .ixS (.tmp 12) (.tmp 14), none, Q0⟩,
  ⟨some 6, .mv (.tmp 15), none, Q0⟩] false (some [0, 1, 6]))
  (.seq (.seq (.reg 4 c104_r4 false (some [0, 1, 6, 21]))
  (.cond (.tmp 21) (.seq (.reg 5 [⟨some 22, .mv (.tmp 6), none, Q0⟩,
  ⟨some 4, .mv (.tmp 22), none, Q0⟩,
  ⟨some 5, .mv (.con (.int .i64 2)), none, Q0⟩] false (some [4, 5]))
  .ret) .skip))
  (.seq (.seq (.reg 6 [⟨some 23, .mv (.tmp 6), none, Q0⟩,
  ⟨some 24, .bin .eql (.tmp 23) (.con (.int .u8 110)), none, Q0⟩] false (some [0, 1, 6, 24]))
  (.cond (.tmp 24) (.seq (.reg 7 [⟨some 4, .mv (.con (.int .u8 10)), none, Q0⟩,
  ⟨some 5, .mv (.con (.int .i64 2)), none, Q0⟩] false (some [4, 5]))
  .ret) .skip))
  (.seq (.seq (.reg 8 c104_r8 false (some [0, 1, 49]))
  (.cond (.tmp 49) (.seq (.reg 9 [⟨some 50, .mv (.tmp 0), none, ⟨.no, false⟩⟩,
  ⟨some 51, .mv (.tmp 1), none, ⟨.no, false⟩⟩,
  ⟨some 52, .bin .add (.tmp 51) (.con (.int .i64 2)), none, ⟨.no, false⟩⟩,
  ⟨some 53, .ixS (.tmp 50) (.tmp 52), none, ⟨.no, false⟩⟩,
  ⟨some 54, .call (.con (.fn 124 [] [])) [(.tmp 53)], none, ⟨.no, false⟩⟩,
  ⟨some 55, .bin .mul (.tmp 54) (.con (.int .i64 16)), none, ⟨.no, false⟩⟩,
  ⟨some 56, .mv (.tmp 0), none, ⟨.no, false⟩⟩,
  ⟨some 57, .mv (.tmp 1), none, Q0⟩,
  ⟨some 58, .bin .add (.tmp 57) (.con (.int .i64 3)), none, Q0⟩,
  ⟨some 59, .ixS (.tmp 56) (.tmp 58), none, Q0⟩,
  ⟨some 60, .call (.con (.fn 124 [] [])) [(.tmp 59)], none, Q0⟩,
  ⟨some 61, .bin .add (.tmp 55) (.tmp 60), none, Q0⟩,
  ⟨some 62, .cvI .u8 (.tmp 61), none, Q0⟩,
  ⟨some 4, .mv (.tmp 62), none, Q0⟩,
  ⟨some 5, .mv (.con (.int .i64 4)), none, Q0⟩] true (some [4, 5]))
  .ret) .skip))
  (.seq (.reg 10 [⟨some 4, .mv (.con (.int .u8 0)), none, Q0⟩,
  ⟨some 5, .mv (.con (.int .i64 0)), none, Q0⟩] false (some [4, 5]))
  .ret)))))))
def c104 : EFn := ⟨2, 63, [.tmp 4, .tmp 5], c104_b, none, true⟩
theorem c104_ok : cFn Tryz.prog Tryz.f104 = some c104.strip := by kernel_rfl
-- limbeck/limbeckref01.Kept
def c109_l0_b : EC := (.seq (.seq (.reg 3 [⟨some 8, .mv (.tmp 4), none, Q0⟩,
  ⟨some 9, .mv (.tmp 3), none, Q0⟩,
  ⟨some 10, .len false (.tmp 9), none, Q0⟩,
  ⟨some 11, .bin .lss (.tmp 8) (.tmp 10), none, Q0⟩] false (some [0, 3, 4, 11]))
  (.cond (.tmp 11) .skip (.exit 0)))
  (.seq (.block 1 (.seq (.reg 5 [⟨some 14, .mv (.tmp 3), none, Q0⟩,
  ⟨some 15, .mv (.tmp 4), none, Q0⟩,
  ⟨some 16, .ixL 1 (.tmp 14) (.tmp 15), none, Q0⟩,
  ⟨some 17, .ld none (.tmp 16), none, Q0⟩,
  ⟨some 18, .mv (.tmp 0), none, Q0⟩,
  ⟨some 19, .bin .eql (.tmp 17) (.tmp 18), none, Q0⟩] false (some [0, 3, 4, 19]))
  (.cond (.tmp 19) (.seq (.reg 6 [⟨some 2, .mv (.con (.int .i64 3)), none, Q0⟩] false (some [2]))
  .ret) .skip)))
  (.reg 4 [⟨some 12, .mv (.tmp 4), none, Q0⟩,
  ⟨some 13, .bin .add (.tmp 12) (.con (.int .i64 1)), none, Q0⟩,
  ⟨some 4, .mv (.tmp 13), none, Q0⟩] false (some [0, 3, 4]))))
def c109_l0 : EC := .loop (some [0, 3, 4]) c109_l0_b
def c109_l1_b : EC := (.seq (.seq (.reg 9 [⟨some 21, .mv (.tmp 6), none, Q0⟩,
  ⟨some 22, .mv (.tmp 5), none, Q0⟩,
  ⟨some 23, .len false (.tmp 22), none, Q0⟩,
  ⟨some 24, .bin .lss (.tmp 21) (.tmp 23), none, Q0⟩] false (some [0, 5, 6, 24]))
  (.cond (.tmp 24) .skip (.exit 2)))
  (.seq (.block 3 (.seq (.reg 11 [⟨some 27, .mv (.tmp 5), none, Q0⟩,
  ⟨some 28, .mv (.tmp 6), none, Q0⟩,
  ⟨some 29, .ixL 1 (.tmp 27) (.tmp 28), none, Q0⟩,
  ⟨some 30, .ld none (.tmp 29), none, Q0⟩,
  ⟨some 31, .mv (.tmp 0), none, Q0⟩,
  ⟨some 32, .bin .eql (.tmp 30) (.tmp 31), none, Q0⟩] false (some [0, 5, 6, 32]))
  (.cond (.tmp 32) (.seq (.reg 12 [⟨some 2, .mv (.con (.int .i64 4)), none, Q0⟩] false (some [2]))
  .ret) .skip)))
  (.reg 10 [⟨some 25, .mv (.tmp 6), none, Q0⟩,
  ⟨some 26, .bin .add (.tmp 25) (.con (.int .i64 1)), none, Q0⟩,
  ⟨some 6, .mv (.tmp 26), none, Q0⟩] false (some [0, 5, 6]))))
def c109_l1 : EC := .loop (some [0, 5, 6]) c109_l1_b
def c109_b : EC := (.seq (.reg 0 [⟨some 2, .mv (.con (.int .i64 0)), none, Q0⟩] false (some [0]))
  (.seq (.reg 1 [⟨some 7, .rows 10 1 [(.str ⟨#[]⟩)] [(0, (.con (.str ⟨#[108, 101, 116]⟩))), (1, (.con (.str ⟨#[105, 110]⟩))), (2, (.con (.str ⟨#[105, 102]⟩))), (3, (.con (.str ⟨#[116, 104, 101, 110]⟩))), (4, (.con (.str ⟨#[101, 108, 115, 101]⟩))), (5, (.con (.str ⟨#[102, 110]⟩))), (6, (.con (.str ⟨#[99, 97, 108, 108]⟩))), (7, (.con (.str ⟨#[100, 101, 102]⟩))), (8, (.con (.str ⟨#[116, 114, 117, 101]⟩))), (9, (.con (.str ⟨#[102, 97, 108, 115, 101]⟩)))], none, Q0⟩,
  ⟨some 3, .mv (.tmp 7), none, Q0⟩] false (some [0, 3]))
  (.seq (.seq (.reg 2 [⟨some 4, .mv (.con (.int .i64 0)), none, Q0⟩] false (some [0, 3, 4]))
  (.block 0 c109_l0))
  (.seq (.reg 7 [⟨some 20, .rows 4 1 [(.str ⟨#[]⟩)] [(0, (.con (.str ⟨#[73, 110, 116]⟩))), (1, (.con (.str ⟨#[66, 111, 111, 108]⟩))), (2, (.con (.str ⟨#[83, 116, 114, 105, 110, 103]⟩))), (3, (.con (.str ⟨#[84, 111, 112]⟩)))], none, Q0⟩,
  ⟨some 5, .mv (.tmp 20), none, Q0⟩] false (some [0, 5]))
  (.seq (.seq (.reg 8 [⟨some 6, .mv (.con (.int .i64 0)), none, Q0⟩] false (some [0, 5, 6]))
  (.block 2 c109_l1))
  (.seq (.reg 13 [⟨some 2, .mv (.con (.int .i64 0)), none, Q0⟩] false (some [2]))
  .ret))))))
def c109 : EFn := ⟨1, 33, [.tmp 2], c109_b, none, true⟩
theorem c109_l0_step {E : Env} {fin : Kont (PV × St)} {st : List Fr} {ts : Tmps} {S : St} {n : Nat} : (lvl E (n + 1)).ev c109_l0 ts S (kont E fin st) = (lvl E (n + 1)).ev c109_l0_b (sel (some [0, 3, 4]) ts) S (kont E fin (.again n c109_l0 :: st)) := rfl
theorem c109_l0_w {E : Env} {fin : Kont (PV × St)} {st : List Fw} {ts : Tmps} {S : St} : run E fin st c109_l0 ts S = run E fin (.again c109_l0 :: st) c109_l0_b (sel (some [0, 3, 4]) ts) S := w_loop
theorem c109_l0_a {E : Env} {fin : Kont (PV × St)} {st : List Fw} {ts : Tmps} {S : St} : aft E fin (.again c109_l0 :: st) .normal ts S = run E fin st c109_l0 (sel (some [0, 3, 4]) ts) S := a_again_s
theorem c109_l1_step {E : Env} {fin : Kont (PV × St)} {st : List Fr} {ts : Tmps} {S : St} {n : Nat} : (lvl E (n + 1)).ev c109_l1 ts S (kont E fin st) = (lvl E (n + 1)).ev c109_l1_b (sel (some [0, 5, 6]) ts) S (kont E fin (.again n c109_l1 :: st)) := rfl
theorem c109_l1_w {E : Env} {fin : Kont (PV × St)} {st : List Fw} {ts : Tmps} {S : St} : run E fin st c109_l1 ts S = run E fin (.again c109_l1 :: st) c109_l1_b (sel (some [0, 5, 6]) ts) S := w_loop
theorem c109_l1_a {E : Env} {fin : Kont (PV × St)} {st : List Fw} {ts : Tmps} {S : St} : aft E fin (.again c109_l1 :: st) .normal ts S = run E fin st c109_l1 (sel (some [0, 5, 6]) ts) S := a_again_s
theorem c109_ok : cFn Tryz.prog Tryz.f109 = some c109.strip := by kernel_rfl
-- limbeck/name.shape
def c122_r8 : List EI := [⟨some 16, .mv (.tmp 4), none, Q0⟩,
  ⟨some 17, .bin .eql (.tmp 16) (.con (.int .i64 0)), none, Q0⟩,
  ⟨some 18, .mv (.tmp 17), none, Q0⟩,
  ⟨some 19, .mv (.tmp 5), some (18, true), Q0⟩,
  ⟨some 20, .call (.con (.fn 134 [] [])) [(.tmp 19)], some (18, true), Q0⟩,
  ⟨some 21, .pick (.tmp 18) (.tmp 20) (.con (.bool false)), none, Q0⟩,
  ⟨some 15, .mv (.tmp 21), none, Q0⟩]
def c122_r10 : List EI := [⟨some 23, .mv (.tmp 4), none, Q0⟩,
  ⟨some 24, .bin .eql (.tmp 23) (.con (.int .i64 0)), none, Q0⟩,
  ⟨some 25, .mv (.tmp 24), none, Q0⟩,
  ⟨some 26, .mv (.tmp 5), some (25, true), Q0⟩,
  ⟨some 27, .call (.con (.fn 135 [] [])) [(.tmp 26)], some (25, true), Q0⟩,
  ⟨some 28, .pick (.tmp 25) (.tmp 27) (.con (.bool false)), none, Q0⟩,
  ⟨some 22, .mv (.tmp 28), none, Q0⟩]
def c122_r12 : List EI := [⟨some 30, .mv (.tmp 4), none, Q0⟩,
  ⟨some 31, .bin .gtr (.tmp 30) (.con (.int .i64 0)), none, Q0⟩,
  ⟨some 32, .mv (.tmp 31), none, Q0⟩,
  ⟨some 33, .mv (.tmp 3), some (32, true), Q0⟩,
  ⟨some 34, .bin .neq (.tmp 33) (.con (.int .i64 0)), some (32, true), Q0⟩,
  ⟨some 35, .pick (.tmp 32) (.tmp 34) (.con (.bool false)), none, Q0⟩,
  ⟨some 36, .mv (.tmp 35), none, Q0⟩,
  ⟨some 37, .mv (.tmp 5), some (36, true), Q0⟩,
  ⟨some 38, .call (.con (.fn 134 [] [])) [(.tmp 37)], some (36, true), Q0⟩,
  ⟨some 39, .mv (.tmp 38), some (36, true), Q0⟩,
  ⟨some 40, .mv (.tmp 5), some (39, false), Q0⟩,
  ⟨some 41, .call (.con (.fn 136 [] [])) [(.tmp 40)], some (39, false), Q0⟩,
  ⟨some 42, .pick (.tmp 39) (.con (.bool true)) (.tmp 41), some (36, true), Q0⟩,
  ⟨some 43, .pick (.tmp 36) (.tmp 42) (.con (.bool false)), none, Q0⟩,
  ⟨some 29, .mv (.tmp 43), none, Q0⟩]
def c122_r13 : List EI := [⟨some 45, .mv (.tmp 4), none, Q0⟩,
  ⟨some 46, .bin .gtr (.tmp 45) (.con (.int .i64 0)), none, Q0⟩,
  ⟨some 47, .mv (.tmp 46), none, Q0⟩,
  ⟨some 48, .mv (.tmp 3), some (47, true), Q0⟩,
  ⟨some 49, .bin .eql (.tmp 48) (.con (.int .i64 2)), some (47, true), Q0⟩,
  ⟨some 50, .pick (.tmp 47) (.tmp 49) (.con (.bool false)), none, Q0⟩,
  ⟨some 51, .mv (.tmp 50), none, Q0⟩,
  ⟨some 52, .mv (.tmp 5), some (51, true), Q0⟩,
  ⟨some 53, .call (.con (.fn 135 [] [])) [(.tmp 52)], some (51, true), Q0⟩,
  ⟨some 54, .pick (.tmp 51) (.tmp 53) (.con (.bool false)), none, Q0⟩,
  ⟨some 44, .mv (.tmp 54), none, Q0⟩]
def c122_l0_b : EC := (.seq (.reg 5 [⟨some 11, .nxt (.tmp 10), none, Q0⟩,
  ⟨some 12, .ext (.tmp 11) 0, none, Q0⟩] false (some [3, 10, 11, 12]))
  (.seq (.cond (.tmp 12) .skip (.exit 0))
  (.block 1 (.seq (.reg 6 [⟨some 13, .ext (.tmp 11) 1, none, Q0⟩,
  ⟨some 14, .ext (.tmp 11) 2, none, Q0⟩,
  ⟨some 4, .mv (.tmp 13), none, Q0⟩,
  ⟨some 5, .mv (.tmp 14), none, Q0⟩] false (some [3, 4, 5, 10]))
  (.block 2 (.seq (.reg 8 c122_r8 false (some [3, 4, 5, 10, 15]))
  (.cond (.tmp 15) (.reg 9 [⟨some 3, .mv (.con (.int .i64 1)), none, Q0⟩] false (some [3, 10])) (.seq (.reg 10 c122_r10 false (some [3, 4, 5, 10, 22]))
  (.cond (.tmp 22) (.reg 11 [⟨some 3, .mv (.con (.int .i64 2)), none, Q0⟩] false (some [3, 10])) (.seq (.reg 12 c122_r12 false (some [3, 4, 5, 10, 29]))
  (.cond (.tmp 29) .skip (.seq (.reg 13 c122_r13 false (some [3, 10, 44]))
  (.cond (.tmp 44) .skip (.seq (.reg 7 [⟨some 2, .mv (.con (.int .i64 0)), none, Q0⟩] false (some [2]))
  .ret))))))))))))))
def c122_l0 : EC := .loop (some [3, 10]) c122_l0_b
def c122_b : EC := (.seq (.reg 0 [⟨some 2, .mv (.con (.int .i64 0)), none, Q0⟩] false (some [0]))
  (.seq (.seq (.reg 1 [⟨some 6, .mv (.tmp 0), none, Q0⟩,
  ⟨some 7, .len true (.tmp 6), none, Q0⟩,
  ⟨some 8, .bin .gtr (.tmp 7) (.con (.int .i64 8)), none, Q0⟩] false (some [0, 8]))
  (.cond (.tmp 8) (.seq (.reg 2 [⟨some 2, .mv (.con (.int .i64 0)), none, Q0⟩] false (some [2]))
  .ret) .skip))
  (.seq (.reg 3 [⟨some 3, .mv (.con (.int .i64 0)), none, Q0⟩] false (some [0, 3]))
  (.seq (.seq (.reg 4 [⟨some 9, .mv (.tmp 0), none, Q0⟩,
  ⟨some 10, .rng (.tmp 9), none, Q0⟩] false (some [3, 10]))
  (.block 0 c122_l0))
  (.seq (.reg 14 [⟨some 55, .mv (.tmp 3), none, Q0⟩,
  ⟨some 2, .mv (.tmp 55), none, Q0⟩] false (some [2]))
  .ret)))))
def c122 : EFn := ⟨1, 56, [.tmp 2], c122_b, none, true⟩
theorem c122_l0_step {E : Env} {fin : Kont (PV × St)} {st : List Fr} {ts : Tmps} {S : St} {n : Nat} : (lvl E (n + 1)).ev c122_l0 ts S (kont E fin st) = (lvl E (n + 1)).ev c122_l0_b (sel (some [3, 10]) ts) S (kont E fin (.again n c122_l0 :: st)) := rfl
theorem c122_l0_w {E : Env} {fin : Kont (PV × St)} {st : List Fw} {ts : Tmps} {S : St} : run E fin st c122_l0 ts S = run E fin (.again c122_l0 :: st) c122_l0_b (sel (some [3, 10]) ts) S := w_loop
theorem c122_l0_a {E : Env} {fin : Kont (PV × St)} {st : List Fw} {ts : Tmps} {S : St} : aft E fin (.again c122_l0 :: st) .normal ts S = run E fin st c122_l0 (sel (some [3, 10]) ts) S := a_again_s
theorem c122_ok : cFn Tryz.prog Tryz.f122 = some c122.strip := by kernel_rfl
-- limbeck/lex.escaped$1
def c123_b : EC := (.seq (.reg 0 [⟨some 3, .mv (.con (.int .i64 0)), none, Q0⟩] false (some [0, 1]))
  (.seq (.seq (.reg 1 [⟨some 4, .mv (.tmp 0), none, Q0⟩,
  ⟨some 5, .ld none (.tmp 1), none, Q0⟩,
  ⟨some 6, .len true (.tmp 5), none, Q0⟩,
  ⟨some 7, .bin .geq (.tmp 4) (.tmp 6), none, Q0⟩] false (some [0, 1, 7]))
  (.cond (.tmp 7) (.seq (.reg 2 [⟨some 3, .mv (.con (.int .i64 (-1))), none, Q0⟩] false (some [3]))
  .ret) .skip))
  (.seq (.reg 3 [⟨some 8, .ld none (.tmp 1), none, Q0⟩,
  ⟨some 9, .mv (.tmp 0), none, Q0⟩,
  ⟨some 10, .ixS (.tmp 8) (.tmp 9), none, Q0⟩,
  ⟨some 11, .call (.con (.fn 91 [] [])) [(.con (.str ⟨#[48, 49, 50, 51, 52, 53, 54, 55, 56, 57, 97, 98, 99, 100, 101, 102]⟩)), (.tmp 10)], none, Q0⟩,
  ⟨some 3, .mv (.tmp 11), none, Q0⟩] false (some [3]))
  .ret)))
def c123 : EFn := ⟨2, 12, [.tmp 3], c123_b, none, true⟩
theorem c123_ok : cFn Tryz.prog Tryz.f123 = some c123.strip := by kernel_rfl
-- limbeck/limbeckref03.Hex
def c124_r1 : List EI := [⟨some 3, .mv (.tmp 0), none, Q0⟩,
  ⟨some 4, .bin .geq (.tmp 3) (.con (.int .u8 48)), none, Q0⟩,
  ⟨some 5, .mv (.tmp 4), none, Q0⟩,
  ⟨some 6, .mv (.tmp 0), some (5, true), Q0⟩,
  ⟨some 7, .bin .leq (.tmp 6) (.con (.int .u8 57)), some (5, true), Q0⟩,
  ⟨some 8, .pick (.tmp 5) (.tmp 7) (.con (.bool false)), none, Q0⟩]
def c124_r3 : List EI := [⟨some 12, .mv (.tmp 0), none, Q0⟩,
  ⟨some 13, .bin .geq (.tmp 12) (.con (.int .u8 97)), none, Q0⟩,
  ⟨some 14, .mv (.tmp 13), none, Q0⟩,
  ⟨some 15, .mv (.tmp 0), some (14, true), Q0⟩,
  ⟨some 16, .bin .leq (.tmp 15) (.con (.int .u8 102)), some (14, true), Q0⟩,
  ⟨some 17, .pick (.tmp 14) (.tmp 16) (.con (.bool false)), none, Q0⟩]
def c124_b : EC := (.seq (.reg 0 [⟨some 2, .mv (.con (.int .i64 0)), none, Q0⟩] false (some [0]))
  (.seq (.seq (.reg 1 c124_r1 false (some [0, 8]))
  (.cond (.tmp 8) (.seq (.reg 2 [⟨some 9, .mv (.tmp 0), none, Q0⟩,
  ⟨some 10, .bin .sub (.tmp 9) (.con (.int .u8 48)), none, Q0⟩,
  ⟨some 11, .cvI .i64 (.tmp 10), none, Q0⟩,
  ⟨some 2, .mv (.tmp 11), none, Q0⟩] false (some [2]))
  .ret) .skip))
  (.seq (.seq (.reg 3 c124_r3 false (some [0, 17]))
  (.cond (.tmp 17) (.seq (.reg 4 [⟨some 18, .mv (.tmp 0), none, Q0⟩,
  ⟨some 19, .bin .sub (.tmp 18) (.con (.int .u8 97)), none, Q0⟩,
  ⟨some 20, .cvI .i64 (.tmp 19), none, Q0⟩,
  ⟨some 21, .bin .add (.tmp 20) (.con (.int .i64 10)), none, Q0⟩,
  ⟨some 2, .mv (.tmp 21), none, Q0⟩] false (some [2]))
  .ret) .skip))
  (.seq (.reg 5 [⟨some 2, .mv (.con (.int .i64 (-1))), none, Q0⟩] false (some [2]))
  .ret))))
def c124 : EFn := ⟨1, 22, [.tmp 2], c124_b, none, true⟩
theorem c124_ok : cFn Tryz.prog Tryz.f124 = some c124.strip := by kernel_rfl
-- limbeck/name.low
def c134_r1 : List EI := [⟨some 3, .mv (.tmp 0), none, Q0⟩,
  ⟨some 4, .bin .geq (.tmp 3) (.con (.int .i32 97)), none, Q0⟩,
  ⟨some 5, .mv (.tmp 4), none, Q0⟩,
  ⟨some 6, .mv (.tmp 0), some (5, true), Q0⟩,
  ⟨some 7, .bin .leq (.tmp 6) (.con (.int .i32 122)), some (5, true), Q0⟩,
  ⟨some 8, .pick (.tmp 5) (.tmp 7) (.con (.bool false)), none, Q0⟩,
  ⟨some 2, .mv (.tmp 8), none, Q0⟩]
def c134_b : EC := (.seq (.reg 0 [⟨some 2, .mv (.con (.bool false)), none, Q0⟩] false (some [0]))
  (.seq (.reg 1 c134_r1 false (some [2]))
  .ret))
def c134 : EFn := ⟨1, 9, [.tmp 2], c134_b, none, true⟩
theorem c134_ok : cFn Tryz.prog Tryz.f134 = some c134.strip := by kernel_rfl
-- limbeck/name.up
def c135_r1 : List EI := [⟨some 3, .mv (.tmp 0), none, Q0⟩,
  ⟨some 4, .bin .geq (.tmp 3) (.con (.int .i32 65)), none, Q0⟩,
  ⟨some 5, .mv (.tmp 4), none, Q0⟩,
  ⟨some 6, .mv (.tmp 0), some (5, true), Q0⟩,
  ⟨some 7, .bin .leq (.tmp 6) (.con (.int .i32 90)), some (5, true), Q0⟩,
  ⟨some 8, .pick (.tmp 5) (.tmp 7) (.con (.bool false)), none, Q0⟩,
  ⟨some 2, .mv (.tmp 8), none, Q0⟩]
def c135_b : EC := (.seq (.reg 0 [⟨some 2, .mv (.con (.bool false)), none, Q0⟩] false (some [0]))
  (.seq (.reg 1 c135_r1 false (some [2]))
  .ret))
def c135 : EFn := ⟨1, 9, [.tmp 2], c135_b, none, true⟩
theorem c135_ok : cFn Tryz.prog Tryz.f135 = some c135.strip := by kernel_rfl
-- limbeck/name.digit
def c136_r1 : List EI := [⟨some 3, .mv (.tmp 0), none, Q0⟩,
  ⟨some 4, .bin .geq (.tmp 3) (.con (.int .i32 48)), none, Q0⟩,
  ⟨some 5, .mv (.tmp 4), none, Q0⟩,
  ⟨some 6, .mv (.tmp 0), some (5, true), Q0⟩,
  ⟨some 7, .bin .leq (.tmp 6) (.con (.int .i32 57)), some (5, true), Q0⟩,
  ⟨some 8, .pick (.tmp 5) (.tmp 7) (.con (.bool false)), none, Q0⟩,
  ⟨some 2, .mv (.tmp 8), none, Q0⟩]
def c136_b : EC := (.seq (.reg 0 [⟨some 2, .mv (.con (.bool false)), none, Q0⟩] false (some [0]))
  (.seq (.reg 1 c136_r1 false (some [2]))
  .ret))
def c136 : EFn := ⟨1, 9, [.tmp 2], c136_b, none, true⟩
theorem c136_ok : cFn Tryz.prog Tryz.f136 = some c136.strip := by kernel_rfl
end Go.PE
