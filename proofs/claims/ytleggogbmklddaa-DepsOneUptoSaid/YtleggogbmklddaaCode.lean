/-
  The functions of this seat, as the evaluator's code (printed by a program out of the translation), and that each is what the compiler makes of it. No conditions.
-/
import Derived.Test.YtleggogbmklddaaPE21
import Derived.Test.YtleggogbmklddaaProg
import Derived.KernelRfl
namespace Go.PE
open Go Go.Proofs
set_option linter.unusedVariables false
set_option maxRecDepth 100000
-- limbeck/limbecklaw39.DepsTell
def c3_r1 : List EI := [⟨some 7, .mv (.tmp 0), none, Q0⟩,
  ⟨some 8, .call (.con (.fn 6 [] [])) [(.tmp 7)], none, Q0⟩,
  ⟨some 9, .un .not (.tmp 8), none, Q0⟩,
  ⟨some 10, .mv (.tmp 9), none, Q0⟩,
  ⟨some 11, .mv (.tmp 1), some (10, false), Q0⟩,
  ⟨some 12, .call (.con (.fn 6 [] [])) [(.tmp 11)], some (10, false), Q0⟩,
  ⟨some 13, .un .not (.tmp 12), some (10, false), Q0⟩,
  ⟨some 14, .pick (.tmp 10) (.con (.bool true)) (.tmp 13), none, Q0⟩]
def c3_r3 : List EI := [⟨some 16, .mv (.tmp 0), none, Q0⟩,
  ⟨some 17, .mv (.tmp 2), none, Q0⟩,
  ⟨some 18, .call (.con (.fn 9 [] [])) [(.tmp 16), (.tmp 17)], none, Q0⟩,
  ⟨some 19, .mv (.tmp 0), none, Q0⟩,
  ⟨some 20, .mv (.tmp 2), none, Q0⟩,
  ⟨some 21, .call (.con (.fn 10 [] [])) [(.tmp 19), (.tmp 20)], none, Q0⟩,
  ⟨some 22, .call (.con (.fn 8 [] [])) [(.tmp 18), (.tmp 21)], none, Q0⟩,
  ⟨some 23, .mv (.tmp 22), none, Q0⟩,
  ⟨some 24, .mv (.tmp 0), some (23, true), Q0⟩,
  ⟨some 25, .mv (.tmp 2), some (23, true), Q0⟩,
  ⟨some 26, .call (.con (.fn 11 [] [])) [(.tmp 24), (.tmp 25)], some (23, true), Q0⟩,
  ⟨some 27, .mv (.tmp 0), some (23, true), Q0⟩,
  ⟨some 28, .mv (.tmp 2), some (23, true), Q0⟩,
  ⟨some 29, .call (.con (.fn 12 [] [])) [(.tmp 27), (.tmp 28)], some (23, true), Q0⟩,
  ⟨some 30, .call (.con (.fn 8 [] [])) [(.tmp 26), (.tmp 29)], some (23, true), Q0⟩,
  ⟨some 31, .pick (.tmp 23) (.tmp 30) (.con (.bool false)), none, Q0⟩,
  ⟨some 32, .mv (.tmp 31), none, Q0⟩,
  ⟨some 33, .mv (.tmp 0), some (32, true), Q0⟩,
  ⟨some 34, .mv (.tmp 2), some (32, true), Q0⟩,
  ⟨some 35, .call (.con (.fn 13 [] [])) [(.tmp 33), (.tmp 34)], some (32, true), Q0⟩,
  ⟨some 36, .mv (.tmp 0), some (32, true), Q0⟩,
  ⟨some 37, .mv (.tmp 2), some (32, true), Q0⟩,
  ⟨some 38, .call (.con (.fn 14 [] [])) [(.tmp 36), (.tmp 37)], some (32, true), Q0⟩,
  ⟨some 39, .call (.con (.fn 8 [] [])) [(.tmp 35), (.tmp 38)], some (32, true), Q0⟩,
  ⟨some 40, .pick (.tmp 32) (.tmp 39) (.con (.bool false)), none, Q0⟩,
  ⟨some 41, .mv (.tmp 40), none, Q0⟩,
  ⟨some 42, .mv (.tmp 0), some (41, true), Q0⟩,
  ⟨some 43, .mv (.tmp 1), some (41, true), Q0⟩,
  ⟨some 44, .call (.con (.fn 15 [] [])) [(.tmp 42), (.tmp 43)], some (41, true), Q0⟩,
  ⟨some 45, .mv (.tmp 0), some (41, true), Q0⟩,
  ⟨some 46, .mv (.tmp 1), some (41, true), Q0⟩,
  ⟨some 47, .call (.con (.fn 16 [] [])) [(.tmp 45), (.tmp 46)], some (41, true), Q0⟩,
  ⟨some 48, .call (.con (.fn 8 [] [])) [(.tmp 44), (.tmp 47)], some (41, true), Q0⟩,
  ⟨some 49, .pick (.tmp 41) (.tmp 48) (.con (.bool false)), none, Q0⟩,
  ⟨some 50, .mv (.tmp 49), none, Q0⟩,
  ⟨some 51, .call (.con (.fn 7 [] [])) [], some (50, true), Q0⟩,
  ⟨some 52, .pick (.tmp 50) (.tmp 51) (.con (.bool false)), none, Q0⟩,
  ⟨some 6, .mv (.tmp 52), none, Q0⟩]
def c3_b : EC := (.seq (.reg 0 [⟨some 6, .mv (.con (.bool false)), none, Q0⟩] false (some [0, 1, 2]))
  (.seq (.seq (.reg 1 c3_r1 false (some [0, 1, 2, 14]))
  (.cond (.tmp 14) (.seq (.reg 2 [⟨some 15, .call (.con (.fn 7 [] [])) [], none, Q0⟩,
  ⟨some 6, .mv (.tmp 15), none, Q0⟩] false (some [6]))
  .ret) .skip))
  (.seq (.reg 3 c3_r3 false (some [6]))
  .ret)))
def c3 : EFn := ⟨3, 53, [.tmp 6], c3_b, none, true⟩
theorem c3_ok : cFn Try.prog Try.f3 = some c3.strip := by kernel_rfl
-- limbeck/limbecklaw39.DepsOne
def c4_r1 : List EI := [⟨some 9, .mv (.tmp 0), none, Q0⟩,
  ⟨some 10, .call (.con (.fn 6 [] [])) [(.tmp 9)], none, Q0⟩,
  ⟨some 11, .un .not (.tmp 10), none, Q0⟩,
  ⟨some 12, .mv (.tmp 11), none, Q0⟩,
  ⟨some 13, .ld (some 15) (.tmp 3), some (12, false), Q0⟩,
  ⟨some 14, .call (.con (.fn 17 [] [])) [(.tmp 13)], some (12, false), Q0⟩,
  ⟨some 15, .bin .gtr (.tmp 14) (.con (.int .i64 500)), some (12, false), Q0⟩,
  ⟨some 16, .pick (.tmp 12) (.con (.bool true)) (.tmp 15), none, Q0⟩,
  ⟨some 17, .mv (.tmp 16), none, Q0⟩,
  ⟨some 18, .mv (.tmp 0), some (17, false), Q0⟩,
  ⟨some 19, .call (.con (.fn 18 [] [])) [(.tmp 18)], some (17, false), Q0⟩,
  ⟨some 20, .un .not (.tmp 19), some (17, false), Q0⟩,
  ⟨some 21, .pick (.tmp 17) (.con (.bool true)) (.tmp 20), none, Q0⟩]
def c4_r5 : List EI := [⟨some 34, .mv (.tmp 7), none, Q0⟩,
  ⟨some 35, .bin .neq (.tmp 34) (.con (.int .i64 0)), none, Q0⟩,
  ⟨some 36, .mv (.tmp 35), none, Q0⟩,
  ⟨some 37, .mv (.tmp 5), some (36, false), Q0⟩,
  ⟨some 38, .bin .lss (.tmp 37) (.con (.int .i64 0)), some (36, false), Q0⟩,
  ⟨some 39, .pick (.tmp 36) (.con (.bool true)) (.tmp 38), none, Q0⟩,
  ⟨some 40, .mv (.tmp 39), none, Q0⟩,
  ⟨some 41, .mv (.tmp 0), some (40, false), ⟨.no, false⟩⟩,
  ⟨some 42, .mv (.tmp 5), some (40, false), ⟨.no, false⟩⟩,
  ⟨some 43, .ixL 15 (.tmp 41) (.tmp 42), some (40, false), ⟨.no, false⟩⟩,
  ⟨some 44, .fA 0 (.tmp 43), some (40, false), ⟨.no, false⟩⟩,
  ⟨some 45, .ld (some 8) (.tmp 44), some (40, false), ⟨.still, false⟩⟩,
  ⟨some 46, .fA 0 (.tmp 3), some (40, false), Q0⟩,
  ⟨some 47, .ld (some 8) (.tmp 46), some (40, false), Q1⟩,
  ⟨some 48, .call (.con (.fn 21 [] [])) [(.tmp 45), (.tmp 47)], some (40, false), Q0⟩,
  ⟨some 49, .un .not (.tmp 48), some (40, false), Q0⟩,
  ⟨some 50, .pick (.tmp 40) (.con (.bool true)) (.tmp 49), none, Q0⟩]
def c4_b : EC := (.seq (.reg 0 [⟨some 3, .boxI 40 (.tmp 1), none, Q0⟩,
  ⟨some 4, .mv (.con (.bool false)), none, Q0⟩] false (some [0, 3]))
  (.seq (.seq (.reg 1 c4_r1 false (some [0, 3, 21]))
  (.cond (.tmp 21) (.seq (.reg 2 [⟨some 22, .call (.con (.fn 7 [] [])) [], none, Q0⟩,
  ⟨some 4, .mv (.tmp 22), none, Q0⟩] false (some [4]))
  .ret) .skip))
  (.seq (.reg 3 [⟨some 23, .mv (.tmp 0), none, Q0⟩,
  ⟨some 24, .fA 0 (.tmp 3), none, Q0⟩,
  ⟨some 25, .fA 0 (.tmp 24), none, Q0⟩,
  ⟨some 26, .ld none (.tmp 25), none, Q0⟩,
  ⟨some 27, .call (.con (.fn 19 [] [])) [(.tmp 23), (.tmp 26)], none, Q0⟩,
  ⟨some 5, .mv (.tmp 27), none, Q0⟩] false (some [0, 3, 5]))
  (.seq (.reg 4 [⟨some 29, .mv (.tmp 0), none, Q0⟩,
  ⟨some 30, .ld (some 15) (.tmp 3), none, Q0⟩,
  ⟨some 31, .call (.con (.fn 20 [] [])) [(.tmp 29), (.tmp 30)], none, Q0⟩,
  ⟨some 28, .mv (.tmp 31), none, Q0⟩,
  ⟨some 32, .ext (.tmp 28) 0, none, Q0⟩,
  ⟨some 33, .ext (.tmp 28) 1, none, Q0⟩,
  ⟨some 6, .mv (.tmp 32), none, Q0⟩,
  ⟨some 7, .mv (.tmp 33), none, Q0⟩] false (some [0, 3, 5, 6, 7]))
  (.seq (.seq (.reg 5 c4_r5 true (some [0, 3, 5, 6, 50]))
  (.cond (.tmp 50) (.seq (.reg 6 [⟨some 51, .call (.con (.fn 7 [] [])) [], none, Q0⟩,
  ⟨some 4, .mv (.tmp 51), none, Q0⟩] false (some [4]))
  .ret) .skip))
  (.seq (.reg 7 [⟨some 52, .mv (.tmp 0), none, Q0⟩,
  ⟨some 53, .mv (.tmp 6), none, Q0⟩,
  ⟨some 54, .call (.con (.fn 15 [] [])) [(.tmp 52), (.tmp 53)], none, Q0⟩,
  ⟨some 8, .mv (.tmp 54), none, Q0⟩] false (some [0, 3, 5, 8]))
  (.seq (.seq (.reg 8 [⟨some 55, .mv (.tmp 0), none, ⟨.no, false⟩⟩,
  ⟨some 56, .mv (.tmp 5), none, ⟨.no, false⟩⟩,
  ⟨some 57, .ixL 15 (.tmp 55) (.tmp 56), none, ⟨.no, false⟩⟩,
  ⟨some 58, .ld (some 15) (.tmp 57), none, ⟨.lds [(some 15, (.tmp 3))], false⟩⟩,
  ⟨some 59, .ld (some 15) (.tmp 3), none, Q1⟩,
  ⟨some 60, .call (.con (.fn 22 [] [])) [(.tmp 58), (.tmp 59)], none, Q0⟩] true (some [3, 8, 60]))
  (.cond (.tmp 60) (.seq (.reg 9 [⟨some 61, .mv (.tmp 8), none, Q0⟩,
  ⟨some 62, .len false (.tmp 61), none, Q0⟩,
  ⟨some 63, .bin .eql (.tmp 62) (.con (.int .i64 0)), none, Q0⟩,
  ⟨some 64, .mv (.tmp 63), none, Q0⟩,
  ⟨some 65, .call (.con (.fn 7 [] [])) [], some (64, true), Q0⟩,
  ⟨some 66, .pick (.tmp 64) (.tmp 65) (.con (.bool false)), none, Q0⟩,
  ⟨some 4, .mv (.tmp 66), none, Q0⟩] false (some [4]))
  .ret) .skip))
  (.seq (.reg 10 [⟨some 67, .mv (.tmp 8), none, Q0⟩,
  ⟨some 68, .fA 0 (.tmp 3), none, Q0⟩,
  ⟨some 69, .fA 0 (.tmp 68), none, Q0⟩,
  ⟨some 70, .ld none (.tmp 69), none, Q0⟩,
  ⟨some 71, .rows 1 1 [(.str ⟨#[]⟩)] [(0, (.tmp 70))], none, Q0⟩,
  ⟨some 72, .call (.con (.fn 8 [] [])) [(.tmp 67), (.tmp 71)], none, Q0⟩,
  ⟨some 73, .mv (.tmp 72), none, Q0⟩,
  ⟨some 74, .call (.con (.fn 7 [] [])) [], some (73, true), Q0⟩,
  ⟨some 75, .pick (.tmp 73) (.tmp 74) (.con (.bool false)), none, Q0⟩,
  ⟨some 4, .mv (.tmp 75), none, Q0⟩] false (some [4]))
  .ret))))))))
def c4 : EFn := ⟨2, 76, [.tmp 4], c4_b, none, true⟩
theorem c4_ok : cFn Try.prog Try.f4 = some c4.strip := by kernel_rfl
-- limbeck/limbecklaw39.DepsReach
def c5_r1 : List EI := [⟨some 10, .mv (.tmp 0), none, Q0⟩,
  ⟨some 11, .call (.con (.fn 6 [] [])) [(.tmp 10)], none, Q0⟩,
  ⟨some 12, .un .not (.tmp 11), none, Q0⟩,
  ⟨some 13, .mv (.tmp 12), none, Q0⟩,
  ⟨some 14, .mv (.tmp 0), some (13, false), Q0⟩,
  ⟨some 15, .call (.con (.fn 18 [] [])) [(.tmp 14)], some (13, false), Q0⟩,
  ⟨some 16, .un .not (.tmp 15), some (13, false), Q0⟩,
  ⟨some 17, .pick (.tmp 13) (.con (.bool true)) (.tmp 16), none, Q0⟩]
def c5_r14 : List EI := [⟨some 53, .mv (.tmp 8), none, Q0⟩,
  ⟨some 54, .mv (.tmp 53), none, Q0⟩,
  ⟨some 55, .mv (.tmp 0), some (54, false), Q0⟩,
  ⟨some 56, .mv (.tmp 5), some (54, false), Q0⟩,
  ⟨some 57, .mv (.tmp 9), some (54, false), Q0⟩,
  ⟨some 58, .ixL 1 (.tmp 56) (.tmp 57), some (54, false), Q0⟩,
  ⟨some 59, .ld none (.tmp 58), some (54, false), Q0⟩,
  ⟨some 60, .call (.con (.fn 10 [] [])) [(.tmp 55), (.tmp 59)], some (54, false), Q0⟩,
  ⟨some 61, .mv (.tmp 7), some (54, false), Q0⟩,
  ⟨some 62, .call (.con (.fn 23 [] [])) [(.tmp 60), (.tmp 61)], some (54, false), Q0⟩,
  ⟨some 63, .bin .geq (.tmp 62) (.con (.int .i64 0)), some (54, false), Q0⟩,
  ⟨some 64, .pick (.tmp 54) (.con (.bool true)) (.tmp 63), none, Q0⟩,
  ⟨some 8, .mv (.tmp 64), none, Q0⟩]
def c5_l0_b : EC := (.seq (.seq (.reg 10 [⟨some 40, .mv (.tmp 9), none, Q0⟩,
  ⟨some 41, .mv (.tmp 5), none, Q0⟩,
  ⟨some 42, .len false (.tmp 41), none, Q0⟩,
  ⟨some 43, .bin .lss (.tmp 40) (.tmp 42), none, Q0⟩] false (some [0, 1, 5, 6, 7, 8, 9, 43]))
  (.cond (.tmp 43) .skip (.exit 2)))
  (.seq (.block 3 (.seq (.seq (.reg 12 [⟨some 46, .mv (.tmp 0), none, Q0⟩,
  ⟨some 47, .mv (.tmp 5), none, Q0⟩,
  ⟨some 48, .mv (.tmp 9), none, Q0⟩,
  ⟨some 49, .ixL 1 (.tmp 47) (.tmp 48), none, Q0⟩,
  ⟨some 50, .ld none (.tmp 49), none, Q0⟩,
  ⟨some 51, .call (.con (.fn 19 [] [])) [(.tmp 46), (.tmp 50)], none, Q0⟩,
  ⟨some 52, .bin .lss (.tmp 51) (.con (.int .i64 0)), none, Q0⟩] false (some [0, 1, 5, 6, 7, 8, 9, 52]))
  (.cond (.tmp 52) (.seq (.reg 13 [⟨some 4, .mv (.con (.bool false)), none, Q0⟩] false (some [4]))
  .ret) .skip))
  (.reg 14 c5_r14 false (some [0, 1, 5, 6, 7, 8, 9]))))
  (.reg 11 [⟨some 44, .mv (.tmp 9), none, Q0⟩,
  ⟨some 45, .bin .add (.tmp 44) (.con (.int .i64 1)), none, Q0⟩,
  ⟨some 9, .mv (.tmp 45), none, Q0⟩] false (some [0, 1, 5, 6, 7, 8, 9]))))
def c5_l0 : EC := .loop (some [0, 1, 5, 6, 7, 8, 9]) c5_l0_b
def c5_l1_b : EC := (.seq (.seq (.reg 5 [⟨some 22, .mv (.tmp 6), none, Q0⟩,
  ⟨some 23, .mv (.tmp 0), none, Q0⟩,
  ⟨some 24, .len false (.tmp 23), none, Q0⟩,
  ⟨some 25, .bin .lss (.tmp 22) (.tmp 24), none, Q0⟩] false (some [0, 1, 5, 6, 25]))
  (.cond (.tmp 25) .skip (.exit 0)))
  (.seq (.block 1 (.seq (.reg 7 [⟨some 28, .mv (.tmp 0), none, Q0⟩,
  ⟨some 29, .mv (.tmp 6), none, Q0⟩,
  ⟨some 30, .ixL 15 (.tmp 28) (.tmp 29), none, Q0⟩,
  ⟨some 31, .fA 0 (.tmp 30), none, Q0⟩,
  ⟨some 32, .fA 0 (.tmp 31), none, Q0⟩,
  ⟨some 33, .ld none (.tmp 32), none, Q0⟩,
  ⟨some 7, .mv (.tmp 33), none, Q0⟩] false (some [0, 1, 5, 6, 7]))
  (.seq (.reg 8 [⟨some 34, .mv (.tmp 0), none, Q0⟩,
  ⟨some 35, .mv (.tmp 1), none, Q0⟩,
  ⟨some 36, .call (.con (.fn 10 [] [])) [(.tmp 34), (.tmp 35)], none, Q0⟩,
  ⟨some 37, .mv (.tmp 7), none, Q0⟩,
  ⟨some 38, .call (.con (.fn 23 [] [])) [(.tmp 36), (.tmp 37)], none, Q0⟩,
  ⟨some 39, .bin .geq (.tmp 38) (.con (.int .i64 0)), none, Q0⟩,
  ⟨some 8, .mv (.tmp 39), none, Q0⟩] false (some [0, 1, 5, 6, 7, 8]))
  (.seq (.seq (.reg 9 [⟨some 9, .mv (.con (.int .i64 0)), none, Q0⟩] false (some [0, 1, 5, 6, 7, 8, 9]))
  (.block 2 c5_l0))
  (.seq (.reg 15 [⟨some 65, .mv (.tmp 8), none, Q0⟩,
  ⟨some 66, .mv (.tmp 5), none, Q0⟩,
  ⟨some 67, .mv (.tmp 7), none, Q0⟩,
  ⟨some 68, .call (.con (.fn 23 [] [])) [(.tmp 66), (.tmp 67)], none, Q0⟩,
  ⟨some 69, .bin .geq (.tmp 68) (.con (.int .i64 0)), none, Q0⟩,
  ⟨some 70, .eqB true (.tmp 65) (.tmp 69), none, Q0⟩] false (some [0, 1, 5, 6, 70]))
  (.cond (.tmp 70) (.seq (.reg 16 [⟨some 4, .mv (.con (.bool false)), none, Q0⟩] false (some [4]))
  .ret) .skip))))))
  (.reg 6 [⟨some 26, .mv (.tmp 6), none, Q0⟩,
  ⟨some 27, .bin .add (.tmp 26) (.con (.int .i64 1)), none, Q0⟩,
  ⟨some 6, .mv (.tmp 27), none, Q0⟩] false (some [0, 1, 5, 6]))))
def c5_l1 : EC := .loop (some [0, 1, 5, 6]) c5_l1_b
def c5_b : EC := (.seq (.reg 0 [⟨some 4, .mv (.con (.bool false)), none, Q0⟩] false (some [0, 1]))
  (.seq (.seq (.reg 1 c5_r1 false (some [0, 1, 17]))
  (.cond (.tmp 17) (.seq (.reg 2 [⟨some 18, .call (.con (.fn 7 [] [])) [], none, Q0⟩,
  ⟨some 4, .mv (.tmp 18), none, Q0⟩] false (some [4]))
  .ret) .skip))
  (.seq (.reg 3 [⟨some 19, .mv (.tmp 0), none, Q0⟩,
  ⟨some 20, .mv (.tmp 1), none, Q0⟩,
  ⟨some 21, .call (.con (.fn 13 [] [])) [(.tmp 19), (.tmp 20)], none, Q0⟩,
  ⟨some 5, .mv (.tmp 21), none, Q0⟩] false (some [0, 1, 5]))
  (.seq (.seq (.reg 4 [⟨some 6, .mv (.con (.int .i64 0)), none, Q0⟩] false (some [0, 1, 5, 6]))
  (.block 0 c5_l1))
  (.seq (.reg 17 [⟨some 71, .call (.con (.fn 7 [] [])) [], none, Q0⟩,
  ⟨some 4, .mv (.tmp 71), none, Q0⟩] false (some [4]))
  .ret)))))
def c5 : EFn := ⟨2, 72, [.tmp 4], c5_b, none, true⟩
theorem c5_l0_step {E : Env} {fin : Kont (PV × St)} {st : List Fr} {ts : Tmps} {S : St} {n : Nat} : (lvl E (n + 1)).ev c5_l0 ts S (kont E fin st) = (lvl E (n + 1)).ev c5_l0_b (sel (some [0, 1, 5, 6, 7, 8, 9]) ts) S (kont E fin (.again n c5_l0 :: st)) := rfl
theorem c5_l0_w {E : Env} {fin : Kont (PV × St)} {st : List Fw} {ts : Tmps} {S : St} : run E fin st c5_l0 ts S = run E fin (.again c5_l0 :: st) c5_l0_b (sel (some [0, 1, 5, 6, 7, 8, 9]) ts) S := w_loop
theorem c5_l0_a {E : Env} {fin : Kont (PV × St)} {st : List Fw} {ts : Tmps} {S : St} : aft E fin (.again c5_l0 :: st) .normal ts S = run E fin st c5_l0 (sel (some [0, 1, 5, 6, 7, 8, 9]) ts) S := a_again_s
theorem c5_l1_step {E : Env} {fin : Kont (PV × St)} {st : List Fr} {ts : Tmps} {S : St} {n : Nat} : (lvl E (n + 1)).ev c5_l1 ts S (kont E fin st) = (lvl E (n + 1)).ev c5_l1_b (sel (some [0, 1, 5, 6]) ts) S (kont E fin (.again n c5_l1 :: st)) := rfl
theorem c5_l1_w {E : Env} {fin : Kont (PV × St)} {st : List Fw} {ts : Tmps} {S : St} : run E fin st c5_l1 ts S = run E fin (.again c5_l1 :: st) c5_l1_b (sel (some [0, 1, 5, 6]) ts) S := w_loop
theorem c5_l1_a {E : Env} {fin : Kont (PV × St)} {st : List Fw} {ts : Tmps} {S : St} : aft E fin (.again c5_l1 :: st) .normal ts S = run E fin st c5_l1 (sel (some [0, 1, 5, 6]) ts) S := a_again_s
theorem c5_ok : cFn Try.prog Try.f5 = some c5.strip := by kernel_rfl
-- limbeck/limbecklaw37.Small
def c6_r3 : List EI := [⟨some 5, .mv (.tmp 4), none, Q0⟩,
  ⟨some 6, .mv (.tmp 0), none, Q0⟩,
  ⟨some 7, .len false (.tmp 6), none, Q0⟩,
  ⟨some 8, .bin .lss (.tmp 5) (.tmp 7), none, Q0⟩,
  ⟨some 9, .mv (.tmp 8), none, Q0⟩,
  ⟨some 10, .mv (.tmp 4), some (9, true), Q0⟩,
  ⟨some 11, .bin .lss (.tmp 10) (.con (.int .i64 20)), some (9, true), Q0⟩,
  ⟨some 12, .pick (.tmp 9) (.tmp 11) (.con (.bool false)), none, Q0⟩]
def c6_r6 : List EI := [⟨some 22, .mv (.tmp 0), none, Q0⟩,
  ⟨some 23, .len false (.tmp 22), none, Q0⟩,
  ⟨some 24, .bin .leq (.tmp 23) (.con (.int .i64 14)), none, Q0⟩,
  ⟨some 25, .mv (.tmp 24), none, Q0⟩,
  ⟨some 26, .mv (.tmp 3), some (25, true), Q0⟩,
  ⟨some 27, .bin .leq (.tmp 26) (.con (.int .i64 2500)), some (25, true), Q0⟩,
  ⟨some 28, .pick (.tmp 25) (.tmp 27) (.con (.bool false)), none, Q0⟩,
  ⟨some 2, .mv (.tmp 28), none, Q0⟩]
def c6_l0_b : EC := (.seq (.seq (.reg 3 c6_r3 false (some [0, 3, 4, 12]))
  (.cond (.tmp 12) .skip (.exit 0)))
  (.seq (.block 1 (.reg 5 [⟨some 15, .mv (.tmp 3), none, Q0⟩,
  ⟨some 16, .mv (.tmp 0), none, Q0⟩,
  ⟨some 17, .mv (.tmp 4), none, Q0⟩,
  ⟨some 18, .ixL 15 (.tmp 16) (.tmp 17), none, Q0⟩,
  ⟨some 19, .ld (some 15) (.tmp 18), none, Q0⟩,
  ⟨some 20, .call (.con (.fn 17 [] [])) [(.tmp 19)], none, Q0⟩,
  ⟨some 21, .bin .add (.tmp 15) (.tmp 20), none, Q0⟩,
  ⟨some 3, .mv (.tmp 21), none, Q0⟩] false (some [0, 3, 4])))
  (.reg 4 [⟨some 13, .mv (.tmp 4), none, Q0⟩,
  ⟨some 14, .bin .add (.tmp 13) (.con (.int .i64 1)), none, Q0⟩,
  ⟨some 4, .mv (.tmp 14), none, Q0⟩] false (some [0, 3, 4]))))
def c6_l0 : EC := .loop (some [0, 3, 4]) c6_l0_b
def c6_b : EC := (.seq (.reg 0 [⟨some 2, .mv (.con (.bool false)), none, Q0⟩] false (some [0]))
  (.seq (.reg 1 [⟨some 3, .mv (.con (.int .i64 0)), none, Q0⟩] false (some [0, 3]))
  (.seq (.seq (.reg 2 [⟨some 4, .mv (.con (.int .i64 0)), none, Q0⟩] false (some [0, 3, 4]))
  (.block 0 c6_l0))
  (.seq (.reg 6 c6_r6 false (some [2]))
  .ret))))
def c6 : EFn := ⟨1, 29, [.tmp 2], c6_b, none, true⟩
theorem c6_l0_step {E : Env} {fin : Kont (PV × St)} {st : List Fr} {ts : Tmps} {S : St} {n : Nat} : (lvl E (n + 1)).ev c6_l0 ts S (kont E fin st) = (lvl E (n + 1)).ev c6_l0_b (sel (some [0, 3, 4]) ts) S (kont E fin (.again n c6_l0 :: st)) := rfl
theorem c6_l0_w {E : Env} {fin : Kont (PV × St)} {st : List Fw} {ts : Tmps} {S : St} : run E fin st c6_l0 ts S = run E fin (.again c6_l0 :: st) c6_l0_b (sel (some [0, 3, 4]) ts) S := w_loop
theorem c6_l0_a {E : Env} {fin : Kont (PV × St)} {st : List Fw} {ts : Tmps} {S : St} : aft E fin (.again c6_l0 :: st) .normal ts S = run E fin st c6_l0 (sel (some [0, 3, 4]) ts) S := a_again_s
theorem c6_ok : cFn Try.prog Try.f6 = some c6.strip := by kernel_rfl
-- limbeck/limbecklaw39.awake
def c7_r3 : List EI := [⟨some 11, .mv (.tmp 1), none, Q0⟩,
  ⟨some 12, .call (.con (.fn 9 [] [])) [(.tmp 11), (.con (.str ⟨#[102]⟩))], none, Q0⟩,
  ⟨some 13, .rows 1 1 [(.str ⟨#[]⟩)] [(0, (.con (.str ⟨#[103]⟩)))], none, Q0⟩,
  ⟨some 14, .call (.con (.fn 8 [] [])) [(.tmp 12), (.tmp 13)], none, Q0⟩,
  ⟨some 15, .mv (.tmp 14), none, Q0⟩,
  ⟨some 16, .mv (.tmp 1), some (15, true), Q0⟩,
  ⟨some 17, .call (.con (.fn 11 [] [])) [(.tmp 16), (.con (.str ⟨#[103]⟩))], some (15, true), Q0⟩,
  ⟨some 18, .rows 2 1 [(.str ⟨#[]⟩)] [(0, (.con (.str ⟨#[102]⟩))), (1, (.con (.str ⟨#[104]⟩)))], some (15, true), Q0⟩,
  ⟨some 19, .call (.con (.fn 8 [] [])) [(.tmp 17), (.tmp 18)], some (15, true), Q0⟩,
  ⟨some 20, .pick (.tmp 15) (.tmp 19) (.con (.bool false)), none, Q0⟩,
  ⟨some 21, .mv (.tmp 20), none, Q0⟩,
  ⟨some 22, .mv (.tmp 1), some (21, true), Q0⟩,
  ⟨some 23, .call (.con (.fn 13 [] [])) [(.tmp 22), (.con (.str ⟨#[102]⟩))], some (21, true), Q0⟩,
  ⟨some 24, .rows 2 1 [(.str ⟨#[]⟩)] [(0, (.con (.str ⟨#[103]⟩))), (1, (.con (.str ⟨#[104]⟩)))], some (21, true), Q0⟩,
  ⟨some 25, .call (.con (.fn 8 [] [])) [(.tmp 23), (.tmp 24)], some (21, true), Q0⟩,
  ⟨some 26, .pick (.tmp 21) (.tmp 25) (.con (.bool false)), none, Q0⟩,
  ⟨some 27, .mv (.tmp 26), none, Q0⟩,
  ⟨some 28, .mv (.tmp 1), some (27, true), Q0⟩,
  ⟨some 29, .mv (.tmp 2), some (27, true), Q0⟩,
  ⟨some 30, .call (.con (.fn 15 [] [])) [(.tmp 28), (.tmp 29)], some (27, true), Q0⟩,
  ⟨some 31, .rows 1 1 [(.str ⟨#[]⟩)] [(0, (.con (.str ⟨#[103]⟩)))], some (27, true), Q0⟩,
  ⟨some 32, .call (.con (.fn 8 [] [])) [(.tmp 30), (.tmp 31)], some (27, true), Q0⟩,
  ⟨some 33, .pick (.tmp 27) (.tmp 32) (.con (.bool false)), none, Q0⟩,
  ⟨some 0, .mv (.tmp 33), none, Q0⟩]
def c7_b : EC := (.seq (.reg 0 [⟨some 0, .mv (.con (.bool false)), none, Q0⟩] false (some []))
  (.seq (.reg 1 [⟨some 3, .call (.con (.fn 24 [] [])) [(.con (.str ⟨#[102]⟩)), (.con (.str ⟨#[103]⟩))], none, Q0⟩,
  ⟨some 4, .call (.con (.fn 24 [] [])) [(.con (.str ⟨#[103]⟩)), (.con (.str ⟨#[104]⟩))], none, Q0⟩,
  ⟨some 5, .call (.con (.fn 24 [] [])) [(.con (.str ⟨#[104]⟩)), (.con (.str ⟨#[103]⟩))], none, Q0⟩,
  ⟨some 6, .rows 3 15 [(.str ⟨#[]⟩), (.sl .null []), (.sl .null []), (.int .i64 0), (.int .i64 0), (.str ⟨#[]⟩), (.sl .null []), (.sl .null []), (.int .i64 0), (.int .i64 0), (.str ⟨#[]⟩), (.bool false), (.sl .null []), (.sl .null []), (.sl .null [])] [(0, (.tmp 3)), (1, (.tmp 4)), (2, (.tmp 5))], none, Q0⟩,
  ⟨some 1, .mv (.tmp 6), none, Q0⟩] false (some [1]))
  (.seq (.reg 2 [⟨some 7, .call (.con (.fn 24 [] [])) [(.con (.str ⟨#[102]⟩)), (.con (.str ⟨#[103]⟩))], none, Q0⟩,
  ⟨some 8, .call (.con (.fn 24 [] [])) [(.con (.str ⟨#[103]⟩)), (.con (.str ⟨#[102]⟩))], none, Q0⟩,
  ⟨some 9, .call (.con (.fn 24 [] [])) [(.con (.str ⟨#[104]⟩)), (.con (.str ⟨#[103]⟩))], none, Q0⟩,
  ⟨some 10, .rows 3 15 [(.str ⟨#[]⟩), (.sl .null []), (.sl .null []), (.int .i64 0), (.int .i64 0), (.str ⟨#[]⟩), (.sl .null []), (.sl .null []), (.int .i64 0), (.int .i64 0), (.str ⟨#[]⟩), (.bool false), (.sl .null []), (.sl .null []), (.sl .null [])] [(0, (.tmp 7)), (1, (.tmp 8)), (2, (.tmp 9))], none, Q0⟩,
  ⟨some 2, .mv (.tmp 10), none, Q0⟩] false (some [1, 2]))
  (.seq (.reg 3 c7_r3 false (some [0]))
  .ret))))
def c7 : EFn := ⟨0, 34, [.tmp 0], c7_b, none, true⟩
theorem c7_ok : cFn Try.prog Try.f7 = some c7.strip := by kernel_rfl
-- limbeck/limbeckref01.Same
def c8_r4 : List EI := [⟨some 11, .mv (.tmp 5), none, Q0⟩,
  ⟨some 12, .mv (.tmp 0), none, Q0⟩,
  ⟨some 13, .len false (.tmp 12), none, Q0⟩,
  ⟨some 14, .bin .lss (.tmp 11) (.tmp 13), none, Q0⟩,
  ⟨some 15, .mv (.tmp 14), none, Q0⟩,
  ⟨some 16, .mv (.tmp 5), some (15, true), Q0⟩,
  ⟨some 17, .mv (.tmp 1), some (15, true), Q0⟩,
  ⟨some 18, .len false (.tmp 17), some (15, true), Q0⟩,
  ⟨some 19, .bin .lss (.tmp 16) (.tmp 18), some (15, true), Q0⟩,
  ⟨some 20, .pick (.tmp 15) (.tmp 19) (.con (.bool false)), none, Q0⟩]
def c8_l0_b : EC := (.seq (.seq (.reg 4 c8_r4 false (some [0, 1, 5, 20]))
  (.cond (.tmp 20) .skip (.exit 0)))
  (.seq (.block 1 (.seq (.reg 6 [⟨some 23, .mv (.tmp 0), none, ⟨.no, false⟩⟩,
  ⟨some 24, .mv (.tmp 5), none, ⟨.no, false⟩⟩,
  ⟨some 25, .ixL 1 (.tmp 23) (.tmp 24), none, ⟨.no, false⟩⟩,
  ⟨some 26, .ld none (.tmp 25), none, ⟨.still, false⟩⟩,
  ⟨some 27, .mv (.tmp 1), none, ⟨.no, false⟩⟩,
  ⟨some 28, .mv (.tmp 5), none, Q0⟩,
  ⟨some 29, .ixL 1 (.tmp 27) (.tmp 28), none, Q0⟩,
  ⟨some 30, .ld none (.tmp 29), none, Q1⟩,
  ⟨some 31, .bin .neq (.tmp 26) (.tmp 30), none, Q0⟩] true (some [0, 1, 5, 31]))
  (.cond (.tmp 31) (.seq (.reg 7 [⟨some 4, .mv (.con (.bool false)), none, Q0⟩] false (some [4]))
  .ret) .skip)))
  (.reg 5 [⟨some 21, .mv (.tmp 5), none, Q0⟩,
  ⟨some 22, .bin .add (.tmp 21) (.con (.int .i64 1)), none, Q0⟩,
  ⟨some 5, .mv (.tmp 22), none, Q0⟩] false (some [0, 1, 5]))))
def c8_l0 : EC := .loop (some [0, 1, 5]) c8_l0_b
def c8_b : EC := (.seq (.reg 0 [⟨some 4, .mv (.con (.bool false)), none, Q0⟩] false (some [0, 1]))
  (.seq (.seq (.reg 1 [⟨some 6, .mv (.tmp 0), none, Q0⟩,
  ⟨some 7, .len false (.tmp 6), none, Q0⟩,
  ⟨some 8, .mv (.tmp 1), none, Q0⟩,
  ⟨some 9, .len false (.tmp 8), none, Q0⟩,
  ⟨some 10, .bin .neq (.tmp 7) (.tmp 9), none, Q0⟩] false (some [0, 1, 10]))
  (.cond (.tmp 10) (.seq (.reg 2 [⟨some 4, .mv (.con (.bool false)), none, Q0⟩] false (some [4]))
  .ret) .skip))
  (.seq (.seq (.reg 3 [⟨some 5, .mv (.con (.int .i64 0)), none, Q0⟩] false (some [0, 1, 5]))
  (.block 0 c8_l0))
  (.seq (.reg 8 [⟨some 4, .mv (.con (.bool true)), none, Q0⟩] false (some [4]))
  .ret))))
def c8 : EFn := ⟨2, 32, [.tmp 4], c8_b, none, true⟩
theorem c8_l0_step {E : Env} {fin : Kont (PV × St)} {st : List Fr} {ts : Tmps} {S : St} {n : Nat} : (lvl E (n + 1)).ev c8_l0 ts S (kont E fin st) = (lvl E (n + 1)).ev c8_l0_b (sel (some [0, 1, 5]) ts) S (kont E fin (.again n c8_l0 :: st)) := rfl
theorem c8_l0_w {E : Env} {fin : Kont (PV × St)} {st : List Fw} {ts : Tmps} {S : St} : run E fin st c8_l0 ts S = run E fin (.again c8_l0 :: st) c8_l0_b (sel (some [0, 1, 5]) ts) S := w_loop
theorem c8_l0_a {E : Env} {fin : Kont (PV × St)} {st : List Fw} {ts : Tmps} {S : St} : aft E fin (.again c8_l0 :: st) .normal ts S = run E fin st c8_l0 (sel (some [0, 1, 5]) ts) S := a_again_s
theorem c8_ok : cFn Try.prog Try.f8 = some c8.strip := by kernel_rfl
-- limbeck/deps.Asks
def c9_b : EC := (.seq (.reg 0 [⟨some 4, .mv (.con (.sl .null [])), none, Q0⟩] false (some [0, 1]))
  (.seq (.reg 1 [⟨some 8, .mv (.tmp 0), none, Q0⟩,
  ⟨some 9, .mv (.tmp 1), none, Q0⟩,
  ⟨some 10, .call (.con (.fn 25 [] [])) [(.tmp 8), (.tmp 9)], none, Q0⟩,
  ⟨some 7, .mv (.tmp 10), none, Q0⟩,
  ⟨some 11, .ext (.tmp 7) 0, none, Q0⟩,
  ⟨some 12, .ext (.tmp 7) 1, none, Q0⟩,
  ⟨some 5, .new 40 [(.str ⟨#[]⟩), (.sl .null []), (.sl .null []), (.int .i64 0), (.int .i64 0), (.str ⟨#[]⟩), (.sl .null []), (.sl .null []), (.int .i64 0), (.int .i64 0), (.str ⟨#[]⟩), (.bool false), (.sl .null []), (.sl .null []), (.sl .null [])], none, Q0⟩,
  ⟨none, .st 15 (.tmp 5) (.tmp 11), none, Q0⟩,
  ⟨some 6, .mv (.tmp 12), none, Q0⟩] false (some [5, 6]))
  (.seq (.seq (.reg 2 [⟨some 13, .mv (.tmp 6), none, Q0⟩,
  ⟨some 14, .un .not (.tmp 13), none, Q0⟩] false (some [5, 14]))
  (.cond (.tmp 14) (.seq (.reg 3 [⟨some 4, .mv (.con (.sl .null [])), none, Q0⟩] false (some [4]))
  .ret) .skip))
  (.seq (.reg 4 [⟨some 15, .fA 8 (.tmp 5), none, Q0⟩,
  ⟨some 16, .ld (some 7) (.tmp 15), none, Q0⟩,
  ⟨some 17, .call (.con (.fn 26 [] [])) [(.tmp 16)], none, Q0⟩,
  ⟨some 4, .mv (.tmp 17), none, Q0⟩] false (some [4]))
  .ret))))
def c9 : EFn := ⟨2, 18, [.tmp 4], c9_b, none, true⟩
theorem c9_ok : cFn Try.prog Try.f9 = some c9.strip := by kernel_rfl
-- limbeck/limbeckref39.Asks
def c10_b : EC := (.seq (.reg 0 [⟨some 4, .mv (.con (.sl .null [])), none, Q0⟩] false (some [0, 1]))
  (.seq (.reg 1 [⟨some 6, .mv (.tmp 0), none, Q0⟩,
  ⟨some 7, .mv (.tmp 1), none, Q0⟩,
  ⟨some 8, .call (.con (.fn 19 [] [])) [(.tmp 6), (.tmp 7)], none, Q0⟩,
  ⟨some 5, .mv (.tmp 8), none, Q0⟩] false (some [0, 5]))
  (.seq (.seq (.reg 2 [⟨some 9, .mv (.tmp 5), none, Q0⟩,
  ⟨some 10, .bin .lss (.tmp 9) (.con (.int .i64 0)), none, Q0⟩] false (some [0, 5, 10]))
  (.cond (.tmp 10) (.seq (.reg 3 [⟨some 4, .mv (.con (.sl .null [])), none, Q0⟩] false (some [4]))
  .ret) .skip))
  (.seq (.reg 4 [⟨some 11, .mv (.tmp 0), none, Q0⟩,
  ⟨some 12, .mv (.tmp 5), none, Q0⟩,
  ⟨some 13, .ixL 15 (.tmp 11) (.tmp 12), none, Q0⟩,
  ⟨some 14, .fA 8 (.tmp 13), none, Q0⟩,
  ⟨some 15, .ld (some 7) (.tmp 14), none, Q0⟩,
  ⟨some 16, .call (.con (.fn 27 [] [])) [(.tmp 15)], none, Q0⟩,
  ⟨some 4, .mv (.tmp 16), none, Q0⟩] false (some [4]))
  .ret))))
def c10 : EFn := ⟨2, 17, [.tmp 4], c10_b, none, true⟩
theorem c10_ok : cFn Try.prog Try.f10 = some c10.strip := by kernel_rfl
-- limbeck/deps.Users
def c11_l0_b : EC := (.seq (.reg 3 [⟨some 11, .bin .lss (.tmp 10) (.tmp 9), none, Q0⟩] false (some [0, 1, 5, 8, 9, 10, 11]))
  (.seq (.cond (.tmp 11) .skip (.exit 0))
  (.seq (.block 1 (.seq (.reg 4 [⟨some 12, .ixL 15 (.tmp 8) (.tmp 10), none, Q0⟩,
  ⟨some 13, .ld (some 15) (.tmp 12), none, Q0⟩,
  ⟨some 7, .new 40 [(.str ⟨#[]⟩), (.sl .null []), (.sl .null []), (.int .i64 0), (.int .i64 0), (.str ⟨#[]⟩), (.sl .null []), (.sl .null []), (.int .i64 0), (.int .i64 0), (.str ⟨#[]⟩), (.bool false), (.sl .null []), (.sl .null []), (.sl .null [])], none, Q0⟩,
  ⟨none, .st 15 (.tmp 7) (.tmp 13), none, Q0⟩] false (some [0, 1, 5, 7, 8, 9, 10]))
  (.seq (.reg 5 [⟨some 14, .mv (.tmp 0), none, Q0⟩,
  ⟨some 15, .fA 0 (.tmp 7), none, Q0⟩,
  ⟨some 16, .fA 0 (.tmp 15), none, Q0⟩,
  ⟨some 17, .ld none (.tmp 16), none, Q0⟩,
  ⟨some 18, .call (.con (.fn 9 [] [])) [(.tmp 14), (.tmp 17)], none, Q0⟩,
  ⟨some 19, .mv (.tmp 1), none, Q0⟩,
  ⟨some 20, .call (.con (.fn 28 [] [])) [(.tmp 18), (.tmp 19)], none, Q0⟩] false (some [0, 1, 5, 7, 8, 9, 10, 20]))
  (.cond (.tmp 20) (.reg 6 [⟨some 21, .mv (.tmp 5), none, Q0⟩,
  ⟨some 22, .fA 0 (.tmp 7), none, Q0⟩,
  ⟨some 23, .fA 0 (.tmp 22), none, Q0⟩,
  ⟨some 24, .ld none (.tmp 23), none, Q0⟩,
  ⟨some 25, .rows 1 1 [(.str ⟨#[]⟩)] [(0, (.tmp 24))], none, Q0⟩,
  ⟨some 26, .appM 9 1 16 (.tmp 21) (.tmp 25), none, Q0⟩,
  ⟨some 5, .mv (.tmp 26), none, Q0⟩] false (some [0, 1, 5, 8, 9, 10])) .skip))))
  (.reg 7 [⟨some 27, .bin .add (.tmp 10) (.con (.int .i64 1)), none, Q0⟩,
  ⟨some 10, .mv (.tmp 27), none, Q0⟩] false (some [0, 1, 5, 8, 9, 10])))))
def c11_l0 : EC := .loop (some [0, 1, 5, 8, 9, 10]) c11_l0_b
def c11_b : EC := (.seq (.reg 0 [⟨some 4, .mv (.con (.sl .null [])), none, Q0⟩] false (some [0, 1]))
  (.seq (.reg 1 [⟨some 5, .mv (.con (.sl .null [])), none, Q0⟩] false (some [0, 1, 5]))
  (.seq (.seq (.reg 2 [⟨some 8, .mv (.tmp 0), none, Q0⟩,
  ⟨some 9, .len false (.tmp 8), none, Q0⟩,
  ⟨some 10, .mv (.con (.int .i64 0)), none, Q0⟩] false (some [0, 1, 5, 8, 9, 10]))
  (.block 0 c11_l0))
  (.seq (.reg 8 [⟨some 28, .mv (.tmp 5), none, Q0⟩,
  ⟨some 29, .call (.con (.fn 29 [] [])) [(.tmp 28)], none, Q0⟩] false (some [5]))
  (.seq (.reg 9 [⟨some 30, .mv (.tmp 5), none, Q0⟩,
  ⟨some 31, .call (.con (.fn 30 [] [])) [(.tmp 30)], none, Q0⟩,
  ⟨some 4, .mv (.tmp 31), none, Q0⟩] false (some [4]))
  .ret)))))
def c11 : EFn := ⟨2, 32, [.tmp 4], c11_b, none, true⟩
theorem c11_l0_step {E : Env} {fin : Kont (PV × St)} {st : List Fr} {ts : Tmps} {S : St} {n : Nat} : (lvl E (n + 1)).ev c11_l0 ts S (kont E fin st) = (lvl E (n + 1)).ev c11_l0_b (sel (some [0, 1, 5, 8, 9, 10]) ts) S (kont E fin (.again n c11_l0 :: st)) := rfl
theorem c11_l0_w {E : Env} {fin : Kont (PV × St)} {st : List Fw} {ts : Tmps} {S : St} : run E fin st c11_l0 ts S = run E fin (.again c11_l0 :: st) c11_l0_b (sel (some [0, 1, 5, 8, 9, 10]) ts) S := w_loop
theorem c11_l0_a {E : Env} {fin : Kont (PV × St)} {st : List Fw} {ts : Tmps} {S : St} : aft E fin (.again c11_l0 :: st) .normal ts S = run E fin st c11_l0 (sel (some [0, 1, 5, 8, 9, 10]) ts) S := a_again_s
theorem c11_ok : cFn Try.prog Try.f11 = some c11.strip := by kernel_rfl
-- limbeck/limbeckref39.Users
def c12_l0_b : EC := (.seq (.seq (.reg 3 [⟨some 7, .mv (.tmp 6), none, Q0⟩,
  ⟨some 8, .mv (.tmp 0), none, Q0⟩,
  ⟨some 9, .len false (.tmp 8), none, Q0⟩,
  ⟨some 10, .bin .lss (.tmp 7) (.tmp 9), none, Q0⟩] false (some [0, 1, 5, 6, 10]))
  (.cond (.tmp 10) .skip (.exit 0)))
  (.seq (.block 1 (.seq (.reg 5 [⟨some 13, .mv (.tmp 0), none, Q0⟩,
  ⟨some 14, .mv (.tmp 0), none, Q0⟩,
  ⟨some 15, .mv (.tmp 6), none, Q0⟩,
  ⟨some 16, .ixL 15 (.tmp 14) (.tmp 15), none, Q0⟩,
  ⟨some 17, .fA 0 (.tmp 16), none, Q0⟩,
  ⟨some 18, .fA 0 (.tmp 17), none, Q0⟩,
  ⟨some 19, .ld none (.tmp 18), none, Q0⟩,
  ⟨some 20, .call (.con (.fn 10 [] [])) [(.tmp 13), (.tmp 19)], none, Q0⟩,
  ⟨some 21, .mv (.tmp 1), none, Q0⟩,
  ⟨some 22, .call (.con (.fn 23 [] [])) [(.tmp 20), (.tmp 21)], none, Q0⟩,
  ⟨some 23, .bin .geq (.tmp 22) (.con (.int .i64 0)), none, Q0⟩] false (some [0, 1, 5, 6, 23]))
  (.cond (.tmp 23) (.reg 6 [⟨some 24, .mv (.tmp 5), none, Q0⟩,
  ⟨some 25, .mv (.tmp 0), none, Q0⟩,
  ⟨some 26, .mv (.tmp 6), none, Q0⟩,
  ⟨some 27, .ixL 15 (.tmp 25) (.tmp 26), none, Q0⟩,
  ⟨some 28, .fA 0 (.tmp 27), none, Q0⟩,
  ⟨some 29, .fA 0 (.tmp 28), none, Q0⟩,
  ⟨some 30, .ld none (.tmp 29), none, Q0⟩,
  ⟨some 31, .call (.con (.fn 31 [] [])) [(.tmp 24), (.tmp 30)], none, Q0⟩,
  ⟨some 5, .mv (.tmp 31), none, Q0⟩] false (some [0, 1, 5, 6])) .skip)))
  (.reg 4 [⟨some 11, .mv (.tmp 6), none, Q0⟩,
  ⟨some 12, .bin .add (.tmp 11) (.con (.int .i64 1)), none, Q0⟩,
  ⟨some 6, .mv (.tmp 12), none, Q0⟩] false (some [0, 1, 5, 6]))))
def c12_l0 : EC := .loop (some [0, 1, 5, 6]) c12_l0_b
def c12_b : EC := (.seq (.reg 0 [⟨some 4, .mv (.con (.sl .null [])), none, Q0⟩] false (some [0, 1]))
  (.seq (.reg 1 [⟨some 5, .mv (.con (.sl .null [])), none, Q0⟩] false (some [0, 1, 5]))
  (.seq (.seq (.reg 2 [⟨some 6, .mv (.con (.int .i64 0)), none, Q0⟩] false (some [0, 1, 5, 6]))
  (.block 0 c12_l0))
  (.seq (.reg 7 [⟨some 32, .mv (.tmp 5), none, Q0⟩,
  ⟨some 4, .mv (.tmp 32), none, Q0⟩] false (some [4]))
  .ret))))
def c12 : EFn := ⟨2, 33, [.tmp 4], c12_b, none, true⟩
theorem c12_l0_step {E : Env} {fin : Kont (PV × St)} {st : List Fr} {ts : Tmps} {S : St} {n : Nat} : (lvl E (n + 1)).ev c12_l0 ts S (kont E fin st) = (lvl E (n + 1)).ev c12_l0_b (sel (some [0, 1, 5, 6]) ts) S (kont E fin (.again n c12_l0 :: st)) := rfl
theorem c12_l0_w {E : Env} {fin : Kont (PV × St)} {st : List Fw} {ts : Tmps} {S : St} : run E fin st c12_l0 ts S = run E fin (.again c12_l0 :: st) c12_l0_b (sel (some [0, 1, 5, 6]) ts) S := w_loop
theorem c12_l0_a {E : Env} {fin : Kont (PV × St)} {st : List Fw} {ts : Tmps} {S : St} : aft E fin (.again c12_l0 :: st) .normal ts S = run E fin st c12_l0 (sel (some [0, 1, 5, 6]) ts) S := a_again_s
theorem c12_ok : cFn Try.prog Try.f12 = some c12.strip := by kernel_rfl
-- limbeck/deps.Reach
def c13_r8 : List EI := [⟨some 29, .mv (.tmp 10), none, Q0⟩,
  ⟨some 30, .un .not (.tmp 29), none, Q0⟩,
  ⟨some 31, .mv (.tmp 30), none, Q0⟩,
  ⟨some 32, .mv (.tmp 5), some (31, false), Q0⟩,
  ⟨some 33, .mv (.tmp 8), some (31, false), Q0⟩,
  ⟨some 34, .lkp (.int .i64 0) false (.tmp 32) (.tmp 33), some (31, false), Q0⟩,
  ⟨some 35, .bin .gtr (.tmp 34) (.con (.int .i64 0)), some (31, false), Q0⟩,
  ⟨some 36, .pick (.tmp 31) (.con (.bool true)) (.tmp 35), none, Q0⟩]
def c13_l0_b : EC := (.seq (.seq (.reg 4 [⟨some 15, .mv (.tmp 7), none, Q0⟩,
  ⟨some 16, .len false (.tmp 15), none, Q0⟩,
  ⟨some 17, .bin .gtr (.tmp 16) (.con (.int .i64 0)), none, Q0⟩] false (some [0, 5, 6, 7, 17]))
  (.cond (.tmp 17) .skip (.exit 0)))
  (.block 1 (.seq (.reg 5 [⟨some 18, .mv (.tmp 7), none, Q0⟩,
  ⟨some 19, .ixL 1 (.tmp 18) (.con (.int .i64 0)), none, Q0⟩,
  ⟨some 20, .ld none (.tmp 19), none, Q0⟩,
  ⟨some 8, .mv (.tmp 20), none, Q0⟩] false (some [0, 5, 6, 7, 8]))
  (.seq (.reg 6 [⟨some 21, .mv (.tmp 7), none, Q0⟩,
  ⟨some 22, .slL 1 (.tmp 21) (some (.con (.int .i64 1))) none none, none, Q0⟩,
  ⟨some 7, .mv (.tmp 22), none, Q0⟩] false (some [0, 5, 6, 7, 8]))
  (.seq (.seq (.reg 7 [⟨some 24, .mv (.tmp 0), none, Q0⟩,
  ⟨some 25, .mv (.tmp 8), none, Q0⟩,
  ⟨some 26, .call (.con (.fn 25 [] [])) [(.tmp 24), (.tmp 25)], none, Q0⟩,
  ⟨some 23, .mv (.tmp 26), none, Q0⟩,
  ⟨some 27, .ext (.tmp 23) 0, none, Q0⟩,
  ⟨some 28, .ext (.tmp 23) 1, none, Q0⟩,
  ⟨some 9, .new 40 [(.str ⟨#[]⟩), (.sl .null []), (.sl .null []), (.int .i64 0), (.int .i64 0), (.str ⟨#[]⟩), (.sl .null []), (.sl .null []), (.int .i64 0), (.int .i64 0), (.str ⟨#[]⟩), (.bool false), (.sl .null []), (.sl .null []), (.sl .null [])], none, Q0⟩,
  ⟨none, .st 15 (.tmp 9) (.tmp 27), none, Q0⟩,
  ⟨some 10, .mv (.tmp 28), none, Q0⟩] false (some [0, 5, 6, 7, 8, 10]))
  (.seq (.reg 8 c13_r8 false (some [0, 5, 6, 7, 8, 36]))
  (.cond (.tmp 36) (.exit 1) .skip)))
  (.seq (.reg 9 [⟨some 37, .mv (.tmp 5), none, Q0⟩,
  ⟨some 38, .mv (.tmp 8), none, Q0⟩,
  ⟨some 39, .lkp (.int .i64 0) false (.tmp 37) (.tmp 38), none, Q0⟩,
  ⟨some 40, .bin .add (.tmp 39) (.con (.int .i64 1)), none, Q0⟩,
  ⟨none, .mup (.tmp 37) (.tmp 38) (.tmp 40), none, Q0⟩] false (some [0, 5, 6, 7, 8]))
  (.seq (.reg 10 [⟨some 41, .mv (.tmp 6), none, Q0⟩,
  ⟨some 42, .mv (.tmp 8), none, Q0⟩,
  ⟨some 43, .rows 1 1 [(.str ⟨#[]⟩)] [(0, (.tmp 42))], none, Q0⟩,
  ⟨some 44, .appM 9 1 16 (.tmp 41) (.tmp 43), none, Q0⟩,
  ⟨some 6, .mv (.tmp 44), none, Q0⟩] false (some [0, 5, 6, 7, 8]))
  (.reg 11 [⟨some 45, .mv (.tmp 7), none, ⟨.no, false⟩⟩,
  ⟨some 46, .mv (.tmp 7), none, ⟨.no, false⟩⟩,
  ⟨some 47, .len false (.tmp 46), none, ⟨.no, false⟩⟩,
  ⟨some 48, .mv (.tmp 7), none, ⟨.no, false⟩⟩,
  ⟨some 49, .len false (.tmp 48), none, ⟨.no, false⟩⟩,
  ⟨some 50, .slL 1 (.tmp 45) none (some (.tmp 47)) (some (.tmp 49)), none, ⟨.no, false⟩⟩,
  ⟨some 51, .mv (.tmp 0), none, ⟨.no, false⟩⟩,
  ⟨some 52, .mv (.tmp 8), none, Q0⟩,
  ⟨some 53, .call (.con (.fn 9 [] [])) [(.tmp 51), (.tmp 52)], none, Q0⟩,
  ⟨some 54, .app 9 1 16 (.tmp 50) (.tmp 53), none, Q0⟩,
  ⟨some 7, .mv (.tmp 54), none, Q0⟩] true (some [0, 5, 6, 7])))))))))
def c13_l0 : EC := .loop (some [0, 5, 6, 7]) c13_l0_b
def c13_b : EC := (.seq (.reg 0 [⟨some 4, .mv (.con (.sl .null [])), none, Q0⟩] false (some [0, 1]))
  (.seq (.reg 1 [⟨some 11, .mkm, none, Q0⟩,
  ⟨some 5, .mv (.tmp 11), none, Q0⟩] false (some [0, 1, 5]))
  (.seq (.reg 2 [⟨some 6, .mv (.con (.sl .null [])), none, Q0⟩] false (some [0, 1, 5, 6]))
  (.seq (.reg 3 [⟨some 12, .mv (.tmp 0), none, Q0⟩,
  ⟨some 13, .mv (.tmp 1), none, Q0⟩,
  ⟨some 14, .call (.con (.fn 9 [] [])) [(.tmp 12), (.tmp 13)], none, Q0⟩,
  ⟨some 7, .mv (.tmp 14), none, Q0⟩] false (some [0, 5, 6, 7]))
  (.seq (.block 0 c13_l0)
  (.seq (.reg 12 [⟨some 55, .mv (.tmp 6), none, Q0⟩,
  ⟨some 56, .call (.con (.fn 29 [] [])) [(.tmp 55)], none, Q0⟩] false (some [6]))
  (.seq (.reg 13 [⟨some 57, .mv (.tmp 6), none, Q0⟩,
  ⟨some 4, .mv (.tmp 57), none, Q0⟩] false (some [4]))
  .ret)))))))
def c13 : EFn := ⟨2, 58, [.tmp 4], c13_b, none, true⟩
theorem c13_l0_step {E : Env} {fin : Kont (PV × St)} {st : List Fr} {ts : Tmps} {S : St} {n : Nat} : (lvl E (n + 1)).ev c13_l0 ts S (kont E fin st) = (lvl E (n + 1)).ev c13_l0_b (sel (some [0, 5, 6, 7]) ts) S (kont E fin (.again n c13_l0 :: st)) := rfl
theorem c13_l0_w {E : Env} {fin : Kont (PV × St)} {st : List Fw} {ts : Tmps} {S : St} : run E fin st c13_l0 ts S = run E fin (.again c13_l0 :: st) c13_l0_b (sel (some [0, 5, 6, 7]) ts) S := w_loop
theorem c13_l0_a {E : Env} {fin : Kont (PV × St)} {st : List Fw} {ts : Tmps} {S : St} : aft E fin (.again c13_l0 :: st) .normal ts S = run E fin st c13_l0 (sel (some [0, 5, 6, 7]) ts) S := a_again_s
theorem c13_ok : cFn Try.prog Try.f13 = some c13.strip := by kernel_rfl
-- limbeck/limbeckref39.Reach
def c14_r10 : List EI := [⟨some 25, .mv (.tmp 0), none, Q0⟩,
  ⟨some 26, .mv (.tmp 6), none, Q0⟩,
  ⟨some 27, .mv (.tmp 9), none, Q0⟩,
  ⟨some 28, .ixL 1 (.tmp 26) (.tmp 27), none, Q0⟩,
  ⟨some 29, .ld none (.tmp 28), none, Q0⟩,
  ⟨some 30, .call (.con (.fn 19 [] [])) [(.tmp 25), (.tmp 29)], none, Q0⟩,
  ⟨some 31, .bin .geq (.tmp 30) (.con (.int .i64 0)), none, Q0⟩,
  ⟨some 32, .mv (.tmp 31), none, Q0⟩,
  ⟨some 33, .mv (.tmp 5), some (32, true), Q0⟩,
  ⟨some 34, .mv (.tmp 6), some (32, true), Q0⟩,
  ⟨some 35, .mv (.tmp 9), some (32, true), Q0⟩,
  ⟨some 36, .ixL 1 (.tmp 34) (.tmp 35), some (32, true), Q0⟩,
  ⟨some 37, .ld none (.tmp 36), some (32, true), Q0⟩,
  ⟨some 38, .call (.con (.fn 23 [] [])) [(.tmp 33), (.tmp 37)], some (32, true), Q0⟩,
  ⟨some 39, .bin .lss (.tmp 38) (.con (.int .i64 0)), some (32, true), Q0⟩,
  ⟨some 40, .pick (.tmp 32) (.tmp 39) (.con (.bool false)), none, Q0⟩]
def c14_l0_b : EC := (.seq (.seq (.reg 8 [⟨some 19, .mv (.tmp 9), none, Q0⟩,
  ⟨some 20, .mv (.tmp 6), none, Q0⟩,
  ⟨some 21, .len false (.tmp 20), none, Q0⟩,
  ⟨some 22, .bin .lss (.tmp 19) (.tmp 21), none, Q0⟩] false (some [0, 5, 6, 7, 8, 9, 22]))
  (.cond (.tmp 22) .skip (.exit 2)))
  (.seq (.block 3 (.seq (.reg 10 c14_r10 false (some [0, 5, 6, 7, 8, 9, 40]))
  (.cond (.tmp 40) (.seq (.reg 11 [⟨some 41, .mv (.tmp 5), none, Q0⟩,
  ⟨some 42, .mv (.tmp 6), none, Q0⟩,
  ⟨some 43, .mv (.tmp 9), none, Q0⟩,
  ⟨some 44, .ixL 1 (.tmp 42) (.tmp 43), none, Q0⟩,
  ⟨some 45, .ld none (.tmp 44), none, Q0⟩,
  ⟨some 46, .call (.con (.fn 31 [] [])) [(.tmp 41), (.tmp 45)], none, Q0⟩,
  ⟨some 5, .mv (.tmp 46), none, Q0⟩] false (some [0, 5, 6, 7, 8, 9]))
  (.reg 12 [⟨some 47, .mv (.tmp 8), none, Q0⟩,
  ⟨some 48, .mv (.tmp 0), none, Q0⟩,
  ⟨some 49, .mv (.tmp 6), none, Q0⟩,
  ⟨some 50, .mv (.tmp 9), none, Q0⟩,
  ⟨some 51, .ixL 1 (.tmp 49) (.tmp 50), none, Q0⟩,
  ⟨some 52, .ld none (.tmp 51), none, Q0⟩,
  ⟨some 53, .call (.con (.fn 10 [] [])) [(.tmp 48), (.tmp 52)], none, Q0⟩,
  ⟨some 54, .app 9 1 16 (.tmp 47) (.tmp 53), none, Q0⟩,
  ⟨some 8, .mv (.tmp 54), none, Q0⟩] false (some [0, 5, 6, 7, 8, 9]))) .skip)))
  (.reg 9 [⟨some 23, .mv (.tmp 9), none, Q0⟩,
  ⟨some 24, .bin .add (.tmp 23) (.con (.int .i64 1)), none, Q0⟩,
  ⟨some 9, .mv (.tmp 24), none, Q0⟩] false (some [0, 5, 6, 7, 8, 9]))))
def c14_l0 : EC := .loop (some [0, 5, 6, 7, 8, 9]) c14_l0_b
def c14_l1_b : EC := (.seq (.seq (.reg 4 [⟨some 13, .mv (.tmp 7), none, Q0⟩,
  ⟨some 14, .mv (.tmp 0), none, Q0⟩,
  ⟨some 15, .len false (.tmp 14), none, Q0⟩,
  ⟨some 16, .bin .leq (.tmp 13) (.tmp 15), none, Q0⟩] false (some [0, 5, 6, 7, 16]))
  (.cond (.tmp 16) .skip (.exit 0)))
  (.seq (.block 1 (.seq (.reg 6 [⟨some 8, .mv (.con (.sl .null [])), none, Q0⟩] false (some [0, 5, 6, 7, 8]))
  (.seq (.seq (.reg 7 [⟨some 9, .mv (.con (.int .i64 0)), none, Q0⟩] false (some [0, 5, 6, 7, 8, 9]))
  (.block 2 c14_l0))
  (.reg 13 [⟨some 55, .mv (.tmp 8), none, Q0⟩,
  ⟨some 6, .mv (.tmp 55), none, Q0⟩] false (some [0, 5, 6, 7])))))
  (.reg 5 [⟨some 17, .mv (.tmp 7), none, Q0⟩,
  ⟨some 18, .bin .add (.tmp 17) (.con (.int .i64 1)), none, Q0⟩,
  ⟨some 7, .mv (.tmp 18), none, Q0⟩] false (some [0, 5, 6, 7]))))
def c14_l1 : EC := .loop (some [0, 5, 6, 7]) c14_l1_b
def c14_b : EC := (.seq (.reg 0 [⟨some 4, .mv (.con (.sl .null [])), none, Q0⟩] false (some [0, 1]))
  (.seq (.reg 1 [⟨some 5, .mv (.con (.sl .null [])), none, Q0⟩] false (some [0, 1, 5]))
  (.seq (.reg 2 [⟨some 10, .mv (.tmp 0), none, Q0⟩,
  ⟨some 11, .mv (.tmp 1), none, Q0⟩,
  ⟨some 12, .call (.con (.fn 10 [] [])) [(.tmp 10), (.tmp 11)], none, Q0⟩,
  ⟨some 6, .mv (.tmp 12), none, Q0⟩] false (some [0, 5, 6]))
  (.seq (.seq (.reg 3 [⟨some 7, .mv (.con (.int .i64 0)), none, Q0⟩] false (some [0, 5, 6, 7]))
  (.block 0 c14_l1))
  (.seq (.reg 14 [⟨some 56, .mv (.tmp 5), none, Q0⟩,
  ⟨some 4, .mv (.tmp 56), none, Q0⟩] false (some [4]))
  .ret)))))
def c14 : EFn := ⟨2, 57, [.tmp 4], c14_b, none, true⟩
theorem c14_l0_step {E : Env} {fin : Kont (PV × St)} {st : List Fr} {ts : Tmps} {S : St} {n : Nat} : (lvl E (n + 1)).ev c14_l0 ts S (kont E fin st) = (lvl E (n + 1)).ev c14_l0_b (sel (some [0, 5, 6, 7, 8, 9]) ts) S (kont E fin (.again n c14_l0 :: st)) := rfl
theorem c14_l0_w {E : Env} {fin : Kont (PV × St)} {st : List Fw} {ts : Tmps} {S : St} : run E fin st c14_l0 ts S = run E fin (.again c14_l0 :: st) c14_l0_b (sel (some [0, 5, 6, 7, 8, 9]) ts) S := w_loop
theorem c14_l0_a {E : Env} {fin : Kont (PV × St)} {st : List Fw} {ts : Tmps} {S : St} : aft E fin (.again c14_l0 :: st) .normal ts S = run E fin st c14_l0 (sel (some [0, 5, 6, 7, 8, 9]) ts) S := a_again_s
theorem c14_l1_step {E : Env} {fin : Kont (PV × St)} {st : List Fr} {ts : Tmps} {S : St} {n : Nat} : (lvl E (n + 1)).ev c14_l1 ts S (kont E fin st) = (lvl E (n + 1)).ev c14_l1_b (sel (some [0, 5, 6, 7]) ts) S (kont E fin (.again n c14_l1 :: st)) := rfl
theorem c14_l1_w {E : Env} {fin : Kont (PV × St)} {st : List Fw} {ts : Tmps} {S : St} : run E fin st c14_l1 ts S = run E fin (.again c14_l1 :: st) c14_l1_b (sel (some [0, 5, 6, 7]) ts) S := w_loop
theorem c14_l1_a {E : Env} {fin : Kont (PV × St)} {st : List Fw} {ts : Tmps} {S : St} : aft E fin (.again c14_l1 :: st) .normal ts S = run E fin st c14_l1 (sel (some [0, 5, 6, 7]) ts) S := a_again_s
theorem c14_ok : cFn Try.prog Try.f14 = some c14.strip := by kernel_rfl
-- limbeck/deps.Stale
def c15_r6 : List EI := [⟨some 16, .mv (.tmp 5), none, Q0⟩,
  ⟨some 17, .fA 0 (.tmp 8), none, Q0⟩,
  ⟨some 18, .fA 0 (.tmp 17), none, Q0⟩,
  ⟨some 19, .ld none (.tmp 18), none, Q0⟩,
  ⟨some 20, .lkp (.int .i64 0) false (.tmp 16) (.tmp 19), none, Q0⟩,
  ⟨some 21, .bin .eql (.tmp 20) (.con (.int .i64 0)), none, Q0⟩,
  ⟨some 22, .mv (.tmp 21), none, Q0⟩,
  ⟨some 23, .mv (.tmp 0), some (22, true), Q0⟩,
  ⟨some 24, .mv (.tmp 1), some (22, true), Q0⟩,
  ⟨some 25, .fA 0 (.tmp 8), some (22, true), Q0⟩,
  ⟨some 26, .fA 0 (.tmp 25), some (22, true), Q0⟩,
  ⟨some 27, .ld none (.tmp 26), some (22, true), Q0⟩,
  ⟨some 28, .call (.con (.fn 32 [] [])) [(.tmp 23), (.tmp 24), (.tmp 27)], some (22, true), Q0⟩,
  ⟨some 29, .pick (.tmp 22) (.tmp 28) (.con (.bool false)), none, Q0⟩]
def c15_l0_b : EC := (.seq (.reg 4 [⟨some 13, .bin .lss (.tmp 12) (.tmp 11), none, Q0⟩] false (some [0, 1, 5, 6, 10, 11, 12, 13]))
  (.seq (.cond (.tmp 13) .skip (.exit 0))
  (.seq (.block 1 (.seq (.reg 5 [⟨some 14, .ixL 15 (.tmp 10) (.tmp 12), none, Q0⟩,
  ⟨some 15, .ld (some 15) (.tmp 14), none, Q0⟩,
  ⟨some 8, .new 40 [(.str ⟨#[]⟩), (.sl .null []), (.sl .null []), (.int .i64 0), (.int .i64 0), (.str ⟨#[]⟩), (.sl .null []), (.sl .null []), (.int .i64 0), (.int .i64 0), (.str ⟨#[]⟩), (.bool false), (.sl .null []), (.sl .null []), (.sl .null [])], none, Q0⟩,
  ⟨none, .st 15 (.tmp 8) (.tmp 15), none, Q0⟩] false (some [0, 1, 5, 6, 8, 10, 11, 12]))
  (.seq (.seq (.reg 6 c15_r6 false (some [0, 1, 5, 6, 8, 10, 11, 12, 29]))
  (.cond (.tmp 29) (.reg 7 [⟨some 30, .mv (.tmp 6), none, Q0⟩,
  ⟨some 31, .fA 0 (.tmp 8), none, Q0⟩,
  ⟨some 32, .fA 0 (.tmp 31), none, Q0⟩,
  ⟨some 33, .ld none (.tmp 32), none, Q0⟩,
  ⟨some 34, .rows 1 1 [(.str ⟨#[]⟩)] [(0, (.tmp 33))], none, Q0⟩,
  ⟨some 35, .app 9 1 16 (.tmp 30) (.tmp 34), none, Q0⟩,
  ⟨some 6, .mv (.tmp 35), none, Q0⟩] false (some [0, 1, 5, 6, 8, 10, 11, 12])) .skip))
  (.reg 8 [⟨some 36, .mv (.tmp 5), none, Q0⟩,
  ⟨some 37, .fA 0 (.tmp 8), none, Q0⟩,
  ⟨some 38, .fA 0 (.tmp 37), none, Q0⟩,
  ⟨some 39, .ld none (.tmp 38), none, Q0⟩,
  ⟨some 40, .lkp (.int .i64 0) false (.tmp 36) (.tmp 39), none, Q0⟩,
  ⟨some 41, .bin .add (.tmp 40) (.con (.int .i64 1)), none, Q0⟩,
  ⟨none, .mup (.tmp 36) (.tmp 39) (.tmp 41), none, Q0⟩] false (some [0, 1, 5, 6, 10, 11, 12])))))
  (.reg 9 [⟨some 42, .bin .add (.tmp 12) (.con (.int .i64 1)), none, Q0⟩,
  ⟨some 12, .mv (.tmp 42), none, Q0⟩] false (some [0, 1, 5, 6, 10, 11, 12])))))
def c15_l0 : EC := .loop (some [0, 1, 5, 6, 10, 11, 12]) c15_l0_b
def c15_b : EC := (.seq (.reg 0 [⟨some 4, .mv (.con (.sl .null [])), none, Q0⟩] false (some [0, 1]))
  (.seq (.reg 1 [⟨some 9, .mkm, none, Q0⟩,
  ⟨some 5, .mv (.tmp 9), none, Q0⟩] false (some [0, 1, 5]))
  (.seq (.reg 2 [⟨some 6, .mv (.con (.sl .null [])), none, Q0⟩] false (some [0, 1, 5, 6]))
  (.seq (.seq (.reg 3 [⟨some 10, .mv (.tmp 1), none, Q0⟩,
  ⟨some 11, .len false (.tmp 10), none, Q0⟩,
  ⟨some 12, .mv (.con (.int .i64 0)), none, Q0⟩] false (some [0, 1, 5, 6, 10, 11, 12]))
  (.block 0 c15_l0))
  (.seq (.reg 10 [⟨some 43, .mv (.tmp 6), none, Q0⟩,
  ⟨some 4, .mv (.tmp 43), none, Q0⟩] false (some [4]))
  .ret)))))
def c15 : EFn := ⟨2, 44, [.tmp 4], c15_b, none, true⟩
theorem c15_l0_step {E : Env} {fin : Kont (PV × St)} {st : List Fr} {ts : Tmps} {S : St} {n : Nat} : (lvl E (n + 1)).ev c15_l0 ts S (kont E fin st) = (lvl E (n + 1)).ev c15_l0_b (sel (some [0, 1, 5, 6, 10, 11, 12]) ts) S (kont E fin (.again n c15_l0 :: st)) := rfl
theorem c15_l0_w {E : Env} {fin : Kont (PV × St)} {st : List Fw} {ts : Tmps} {S : St} : run E fin st c15_l0 ts S = run E fin (.again c15_l0 :: st) c15_l0_b (sel (some [0, 1, 5, 6, 10, 11, 12]) ts) S := w_loop
theorem c15_l0_a {E : Env} {fin : Kont (PV × St)} {st : List Fw} {ts : Tmps} {S : St} : aft E fin (.again c15_l0 :: st) .normal ts S = run E fin st c15_l0 (sel (some [0, 1, 5, 6, 10, 11, 12]) ts) S := a_again_s
theorem c15_ok : cFn Try.prog Try.f15 = some c15.strip := by kernel_rfl
-- limbeck/limbeckref39.Stale
def c16_r6 : List EI := [⟨some 20, .mv (.tmp 0), none, Q0⟩,
  ⟨some 21, .mv (.tmp 1), none, Q0⟩,
  ⟨some 22, .mv (.tmp 7), none, Q0⟩,
  ⟨some 23, .call (.con (.fn 33 [] [])) [(.tmp 20), (.tmp 21), (.tmp 22)], none, Q0⟩,
  ⟨some 24, .mv (.tmp 23), none, Q0⟩,
  ⟨some 25, .mv (.tmp 5), some (24, true), Q0⟩,
  ⟨some 26, .mv (.tmp 7), some (24, true), Q0⟩,
  ⟨some 27, .call (.con (.fn 23 [] [])) [(.tmp 25), (.tmp 26)], some (24, true), Q0⟩,
  ⟨some 28, .bin .lss (.tmp 27) (.con (.int .i64 0)), some (24, true), Q0⟩,
  ⟨some 29, .pick (.tmp 24) (.tmp 28) (.con (.bool false)), none, Q0⟩]
def c16_l0_b : EC := (.seq (.seq (.reg 3 [⟨some 8, .mv (.tmp 6), none, Q0⟩,
  ⟨some 9, .mv (.tmp 1), none, Q0⟩,
  ⟨some 10, .len false (.tmp 9), none, Q0⟩,
  ⟨some 11, .bin .lss (.tmp 8) (.tmp 10), none, Q0⟩] false (some [0, 1, 5, 6, 11]))
  (.cond (.tmp 11) .skip (.exit 0)))
  (.seq (.block 1 (.seq (.reg 5 [⟨some 14, .mv (.tmp 1), none, Q0⟩,
  ⟨some 15, .mv (.tmp 6), none, Q0⟩,
  ⟨some 16, .ixL 15 (.tmp 14) (.tmp 15), none, Q0⟩,
  ⟨some 17, .fA 0 (.tmp 16), none, Q0⟩,
  ⟨some 18, .fA 0 (.tmp 17), none, Q0⟩,
  ⟨some 19, .ld none (.tmp 18), none, Q0⟩,
  ⟨some 7, .mv (.tmp 19), none, Q0⟩] false (some [0, 1, 5, 6, 7]))
  (.seq (.reg 6 c16_r6 false (some [0, 1, 5, 6, 7, 29]))
  (.cond (.tmp 29) (.reg 7 [⟨some 30, .mv (.tmp 5), none, Q0⟩,
  ⟨some 31, .mv (.tmp 7), none, Q0⟩,
  ⟨some 32, .rows 1 1 [(.str ⟨#[]⟩)] [(0, (.tmp 31))], none, Q0⟩,
  ⟨some 33, .app 9 1 16 (.tmp 30) (.tmp 32), none, Q0⟩,
  ⟨some 5, .mv (.tmp 33), none, Q0⟩] false (some [0, 1, 5, 6])) .skip))))
  (.reg 4 [⟨some 12, .mv (.tmp 6), none, Q0⟩,
  ⟨some 13, .bin .add (.tmp 12) (.con (.int .i64 1)), none, Q0⟩,
  ⟨some 6, .mv (.tmp 13), none, Q0⟩] false (some [0, 1, 5, 6]))))
def c16_l0 : EC := .loop (some [0, 1, 5, 6]) c16_l0_b
def c16_b : EC := (.seq (.reg 0 [⟨some 4, .mv (.con (.sl .null [])), none, Q0⟩] false (some [0, 1]))
  (.seq (.reg 1 [⟨some 5, .mv (.con (.sl .null [])), none, Q0⟩] false (some [0, 1, 5]))
  (.seq (.seq (.reg 2 [⟨some 6, .mv (.con (.int .i64 0)), none, Q0⟩] false (some [0, 1, 5, 6]))
  (.block 0 c16_l0))
  (.seq (.reg 8 [⟨some 34, .mv (.tmp 5), none, Q0⟩,
  ⟨some 4, .mv (.tmp 34), none, Q0⟩] false (some [4]))
  .ret))))
def c16 : EFn := ⟨2, 35, [.tmp 4], c16_b, none, true⟩
theorem c16_l0_step {E : Env} {fin : Kont (PV × St)} {st : List Fr} {ts : Tmps} {S : St} {n : Nat} : (lvl E (n + 1)).ev c16_l0 ts S (kont E fin st) = (lvl E (n + 1)).ev c16_l0_b (sel (some [0, 1, 5, 6]) ts) S (kont E fin (.again n c16_l0 :: st)) := rfl
theorem c16_l0_w {E : Env} {fin : Kont (PV × St)} {st : List Fw} {ts : Tmps} {S : St} : run E fin st c16_l0 ts S = run E fin (.again c16_l0 :: st) c16_l0_b (sel (some [0, 1, 5, 6]) ts) S := w_loop
theorem c16_l0_a {E : Env} {fin : Kont (PV × St)} {st : List Fw} {ts : Tmps} {S : St} : aft E fin (.again c16_l0 :: st) .normal ts S = run E fin st c16_l0 (sel (some [0, 1, 5, 6]) ts) S := a_again_s
theorem c16_ok : cFn Try.prog Try.f16 = some c16.strip := by kernel_rfl
-- limbeck/limbecklaw14.All
def c17_b : EC := (.seq (.reg 0 [⟨some 1, .boxI 40 (.tmp 0), none, Q0⟩,
  ⟨some 2, .mv (.con (.int .i64 0)), none, Q0⟩] false (some [1]))
  (.seq (.reg 1 [⟨some 3, .fA 8 (.tmp 1), none, ⟨.no, false⟩⟩,
  ⟨some 4, .ld (some 7) (.tmp 3), none, ⟨.still, false⟩⟩,
  ⟨some 5, .call (.con (.fn 34 [] [])) [(.tmp 4)], none, ⟨.still, false⟩⟩,
  ⟨some 6, .fA 0 (.tmp 1), none, ⟨.no, false⟩⟩,
  ⟨some 7, .fA 1 (.tmp 6), none, ⟨.no, false⟩⟩,
  ⟨some 8, .ld none (.tmp 7), none, ⟨.still, false⟩⟩,
  ⟨some 9, .call (.con (.fn 35 [] [])) [(.tmp 8)], none, ⟨.still, false⟩⟩,
  ⟨some 10, .bin .add (.tmp 5) (.tmp 9), none, ⟨.no, false⟩⟩,
  ⟨some 11, .fA 0 (.tmp 1), none, ⟨.no, false⟩⟩,
  ⟨some 12, .fA 2 (.tmp 11), none, ⟨.no, false⟩⟩,
  ⟨some 13, .ld none (.tmp 12), none, ⟨.still, false⟩⟩,
  ⟨some 14, .call (.con (.fn 35 [] [])) [(.tmp 13)], none, ⟨.still, false⟩⟩,
  ⟨some 15, .bin .add (.tmp 10) (.tmp 14), none, ⟨.no, false⟩⟩,
  ⟨some 16, .fA 0 (.tmp 1), none, ⟨.no, false⟩⟩,
  ⟨some 17, .fA 3 (.tmp 16), none, ⟨.no, false⟩⟩,
  ⟨some 18, .ld (some 5) (.tmp 17), none, ⟨.still, false⟩⟩,
  ⟨some 19, .call (.con (.fn 36 [] [])) [(.tmp 18)], none, ⟨.still, false⟩⟩,
  ⟨some 20, .bin .add (.tmp 15) (.tmp 19), none, ⟨.no, false⟩⟩,
  ⟨some 21, .fA 0 (.tmp 1), none, Q0⟩,
  ⟨some 22, .fA 0 (.tmp 21), none, Q0⟩,
  ⟨some 23, .ld none (.tmp 22), none, Q1⟩,
  ⟨some 24, .len true (.tmp 23), none, Q0⟩,
  ⟨some 25, .bin .quo (.tmp 24) (.con (.int .i64 8)), none, Q0⟩,
  ⟨some 26, .bin .add (.tmp 20) (.tmp 25), none, Q0⟩,
  ⟨some 2, .mv (.tmp 26), none, Q0⟩] true (some [2]))
  .ret))
def c17 : EFn := ⟨1, 27, [.tmp 2], c17_b, none, true⟩
theorem c17_ok : cFn Try.prog Try.f17 = some c17.strip := by kernel_rfl
-- limbeck/limbeckref37.Right
def c18_r4 : List EI := [⟨some 10, .mv (.tmp 0), none, ⟨.no, false⟩⟩,
  ⟨some 11, .mv (.tmp 3), none, Q0⟩,
  ⟨some 12, .ixL 15 (.tmp 10) (.tmp 11), none, Q0⟩,
  ⟨some 13, .ld (some 15) (.tmp 12), none, Q0⟩,
  ⟨some 14, .call (.con (.fn 37 [] [])) [(.tmp 13)], none, Q0⟩,
  ⟨some 15, .un .not (.tmp 14), none, Q0⟩,
  ⟨some 16, .mv (.tmp 15), none, Q0⟩,
  ⟨some 17, .mv (.tmp 3), some (16, false), Q0⟩,
  ⟨some 18, .bin .gtr (.tmp 17) (.con (.int .i64 0)), some (16, false), Q0⟩,
  ⟨some 19, .mv (.tmp 18), some (16, false), Q0⟩,
  ⟨some 20, .mv (.tmp 0), some (19, true), ⟨.no, false⟩⟩,
  ⟨some 21, .mv (.tmp 3), some (19, true), ⟨.no, false⟩⟩,
  ⟨some 22, .bin .sub (.tmp 21) (.con (.int .i64 1)), some (19, true), ⟨.no, false⟩⟩,
  ⟨some 23, .ixL 15 (.tmp 20) (.tmp 22), some (19, true), ⟨.no, false⟩⟩,
  ⟨some 24, .fA 0 (.tmp 23), some (19, true), ⟨.no, false⟩⟩,
  ⟨some 25, .fA 0 (.tmp 24), some (19, true), ⟨.no, false⟩⟩,
  ⟨some 26, .ld none (.tmp 25), some (19, true), ⟨.still, false⟩⟩,
  ⟨some 27, .mv (.tmp 0), some (19, true), ⟨.no, false⟩⟩,
  ⟨some 28, .mv (.tmp 3), some (19, true), Q0⟩,
  ⟨some 29, .ixL 15 (.tmp 27) (.tmp 28), some (19, true), Q0⟩,
  ⟨some 30, .fA 0 (.tmp 29), some (19, true), Q0⟩,
  ⟨some 31, .fA 0 (.tmp 30), some (19, true), Q0⟩,
  ⟨some 32, .ld none (.tmp 31), some (19, true), Q1⟩,
  ⟨some 33, .bin .geq (.tmp 26) (.tmp 32), some (19, true), Q0⟩,
  ⟨some 34, .pick (.tmp 19) (.tmp 33) (.con (.bool false)), some (16, false), Q0⟩,
  ⟨some 35, .pick (.tmp 16) (.con (.bool true)) (.tmp 34), none, Q0⟩]
def c18_l0_b : EC := (.seq (.seq (.reg 2 [⟨some 4, .mv (.tmp 3), none, Q0⟩,
  ⟨some 5, .mv (.tmp 0), none, Q0⟩,
  ⟨some 6, .len false (.tmp 5), none, Q0⟩,
  ⟨some 7, .bin .lss (.tmp 4) (.tmp 6), none, Q0⟩] false (some [0, 3, 7]))
  (.cond (.tmp 7) .skip (.exit 0)))
  (.seq (.block 1 (.seq (.reg 4 c18_r4 true (some [0, 3, 35]))
  (.cond (.tmp 35) (.seq (.reg 5 [⟨some 2, .mv (.con (.bool false)), none, Q0⟩] false (some [2]))
  .ret) .skip)))
  (.reg 3 [⟨some 8, .mv (.tmp 3), none, Q0⟩,
  ⟨some 9, .bin .add (.tmp 8) (.con (.int .i64 1)), none, Q0⟩,
  ⟨some 3, .mv (.tmp 9), none, Q0⟩] false (some [0, 3]))))
def c18_l0 : EC := .loop (some [0, 3]) c18_l0_b
def c18_b : EC := (.seq (.reg 0 [⟨some 2, .mv (.con (.bool false)), none, Q0⟩] false (some [0]))
  (.seq (.seq (.reg 1 [⟨some 3, .mv (.con (.int .i64 0)), none, Q0⟩] false (some [0, 3]))
  (.block 0 c18_l0))
  (.seq (.reg 6 [⟨some 36, .mv (.tmp 0), none, Q0⟩,
  ⟨some 37, .len false (.tmp 36), none, Q0⟩,
  ⟨some 38, .bin .leq (.tmp 37) (.con (.int .i64 12)), none, Q0⟩,
  ⟨some 2, .mv (.tmp 38), none, Q0⟩] false (some [2]))
  .ret)))
def c18 : EFn := ⟨1, 39, [.tmp 2], c18_b, none, true⟩
theorem c18_l0_step {E : Env} {fin : Kont (PV × St)} {st : List Fr} {ts : Tmps} {S : St} {n : Nat} : (lvl E (n + 1)).ev c18_l0 ts S (kont E fin st) = (lvl E (n + 1)).ev c18_l0_b (sel (some [0, 3]) ts) S (kont E fin (.again n c18_l0 :: st)) := rfl
theorem c18_l0_w {E : Env} {fin : Kont (PV × St)} {st : List Fw} {ts : Tmps} {S : St} : run E fin st c18_l0 ts S = run E fin (.again c18_l0 :: st) c18_l0_b (sel (some [0, 3]) ts) S := w_loop
theorem c18_l0_a {E : Env} {fin : Kont (PV × St)} {st : List Fw} {ts : Tmps} {S : St} : aft E fin (.again c18_l0 :: st) .normal ts S = run E fin st c18_l0 (sel (some [0, 3]) ts) S := a_again_s
theorem c18_ok : cFn Try.prog Try.f18 = some c18.strip := by kernel_rfl
-- limbeck/limbeckref37.Find
def c19_l0_b : EC := (.seq (.seq (.reg 2 [⟨some 6, .mv (.tmp 5), none, Q0⟩,
  ⟨some 7, .mv (.tmp 0), none, Q0⟩,
  ⟨some 8, .len false (.tmp 7), none, Q0⟩,
  ⟨some 9, .bin .lss (.tmp 6) (.tmp 8), none, Q0⟩] false (some [0, 1, 5, 9]))
  (.cond (.tmp 9) .skip (.exit 0)))
  (.seq (.block 1 (.seq (.reg 4 [⟨some 12, .mv (.tmp 0), none, Q0⟩,
  ⟨some 13, .mv (.tmp 5), none, Q0⟩,
  ⟨some 14, .ixL 15 (.tmp 12) (.tmp 13), none, Q0⟩,
  ⟨some 15, .fA 0 (.tmp 14), none, Q0⟩,
  ⟨some 16, .fA 0 (.tmp 15), none, Q0⟩,
  ⟨some 17, .ld none (.tmp 16), none, Q0⟩,
  ⟨some 18, .mv (.tmp 1), none, Q0⟩,
  ⟨some 19, .bin .eql (.tmp 17) (.tmp 18), none, Q0⟩] false (some [0, 1, 5, 19]))
  (.cond (.tmp 19) (.seq (.reg 5 [⟨some 20, .mv (.tmp 5), none, Q0⟩,
  ⟨some 4, .mv (.tmp 20), none, Q0⟩] false (some [4]))
  .ret) .skip)))
  (.reg 3 [⟨some 10, .mv (.tmp 5), none, Q0⟩,
  ⟨some 11, .bin .add (.tmp 10) (.con (.int .i64 1)), none, Q0⟩,
  ⟨some 5, .mv (.tmp 11), none, Q0⟩] false (some [0, 1, 5]))))
def c19_l0 : EC := .loop (some [0, 1, 5]) c19_l0_b
def c19_b : EC := (.seq (.reg 0 [⟨some 4, .mv (.con (.int .i64 0)), none, Q0⟩] false (some [0, 1]))
  (.seq (.seq (.reg 1 [⟨some 5, .mv (.con (.int .i64 0)), none, Q0⟩] false (some [0, 1, 5]))
  (.block 0 c19_l0))
  (.seq (.reg 6 [⟨some 4, .mv (.con (.int .i64 (-1))), none, Q0⟩] false (some [4]))
  .ret)))
def c19 : EFn := ⟨2, 21, [.tmp 4], c19_b, none, true⟩
theorem c19_l0_step {E : Env} {fin : Kont (PV × St)} {st : List Fr} {ts : Tmps} {S : St} {n : Nat} : (lvl E (n + 1)).ev c19_l0 ts S (kont E fin st) = (lvl E (n + 1)).ev c19_l0_b (sel (some [0, 1, 5]) ts) S (kont E fin (.again n c19_l0 :: st)) := rfl
theorem c19_l0_w {E : Env} {fin : Kont (PV × St)} {st : List Fw} {ts : Tmps} {S : St} : run E fin st c19_l0 ts S = run E fin (.again c19_l0 :: st) c19_l0_b (sel (some [0, 1, 5]) ts) S := w_loop
theorem c19_l0_a {E : Env} {fin : Kont (PV × St)} {st : List Fw} {ts : Tmps} {S : St} : aft E fin (.again c19_l0 :: st) .normal ts S = run E fin st c19_l0 (sel (some [0, 1, 5]) ts) S := a_again_s
theorem c19_ok : cFn Try.prog Try.f19 = some c19.strip := by kernel_rfl
-- limbeck/limbeckref37.Put
def c20_r4 : List EI := [⟨some 17, .mv (.tmp 6), none, Q0⟩,
  ⟨some 18, .bin .lss (.tmp 17) (.con (.int .i64 0)), none, Q0⟩,
  ⟨some 19, .mv (.tmp 18), none, Q0⟩,
  ⟨some 20, .mv (.tmp 0), some (19, true), Q0⟩,
  ⟨some 21, .len false (.tmp 20), some (19, true), Q0⟩,
  ⟨some 22, .bin .geq (.tmp 21) (.con (.int .i64 12)), some (19, true), Q0⟩,
  ⟨some 23, .pick (.tmp 19) (.tmp 22) (.con (.bool false)), none, Q0⟩]
def c20_r11 : List EI := [⟨some 34, .mv (.tmp 8), none, ⟨.no, false⟩⟩,
  ⟨some 35, .mv (.tmp 0), none, Q0⟩,
  ⟨some 36, .len false (.tmp 35), none, Q0⟩,
  ⟨some 37, .bin .lss (.tmp 34) (.tmp 36), none, Q0⟩,
  ⟨some 38, .mv (.tmp 37), none, Q0⟩,
  ⟨some 39, .mv (.tmp 0), some (38, true), ⟨.no, false⟩⟩,
  ⟨some 40, .mv (.tmp 8), some (38, true), ⟨.no, false⟩⟩,
  ⟨some 41, .ixL 15 (.tmp 39) (.tmp 40), some (38, true), ⟨.no, false⟩⟩,
  ⟨some 42, .fA 0 (.tmp 41), some (38, true), ⟨.no, false⟩⟩,
  ⟨some 43, .fA 0 (.tmp 42), some (38, true), ⟨.no, false⟩⟩,
  ⟨some 44, .ld none (.tmp 43), some (38, true), ⟨.still, false⟩⟩,
  ⟨some 45, .fA 0 (.tmp 3), some (38, true), Q0⟩,
  ⟨some 46, .fA 0 (.tmp 45), some (38, true), Q0⟩,
  ⟨some 47, .ld none (.tmp 46), some (38, true), Q1⟩,
  ⟨some 48, .bin .leq (.tmp 44) (.tmp 47), some (38, true), Q0⟩,
  ⟨some 49, .pick (.tmp 38) (.tmp 48) (.con (.bool false)), none, Q0⟩]
def c20_l0_b : EC := (.seq (.seq (.reg 11 c20_r11 true (some [0, 3, 8, 49]))
  (.cond (.tmp 49) .skip (.exit 0)))
  (.block 1 (.reg 12 [⟨some 50, .mv (.tmp 8), none, Q0⟩,
  ⟨some 51, .bin .add (.tmp 50) (.con (.int .i64 1)), none, Q0⟩,
  ⟨some 8, .mv (.tmp 51), none, Q0⟩] false (some [0, 3, 8]))))
def c20_l0 : EC := .loop (some [0, 3, 8]) c20_l0_b
def c20_b : EC := (.seq (.reg 0 [⟨some 3, .boxI 40 (.tmp 1), none, Q0⟩,
  ⟨some 4, .mv (.con (.sl .null [])), none, Q0⟩,
  ⟨some 5, .mv (.con (.int .i64 0)), none, Q0⟩] false (some [0, 3]))
  (.seq (.seq (.reg 1 [⟨some 9, .ld (some 15) (.tmp 3), none, Q0⟩,
  ⟨some 10, .call (.con (.fn 37 [] [])) [(.tmp 9)], none, Q0⟩,
  ⟨some 11, .un .not (.tmp 10), none, Q0⟩] false (some [0, 3, 11]))
  (.cond (.tmp 11) (.seq (.reg 2 [⟨some 4, .mv (.con (.sl .null [])), none, Q0⟩,
  ⟨some 5, .mv (.con (.int .i64 21)), none, Q0⟩] false (some [4, 5]))
  .ret) .skip))
  (.seq (.reg 3 [⟨some 12, .mv (.tmp 0), none, Q0⟩,
  ⟨some 13, .fA 0 (.tmp 3), none, Q0⟩,
  ⟨some 14, .fA 0 (.tmp 13), none, Q0⟩,
  ⟨some 15, .ld none (.tmp 14), none, Q0⟩,
  ⟨some 16, .call (.con (.fn 19 [] [])) [(.tmp 12), (.tmp 15)], none, Q0⟩,
  ⟨some 6, .mv (.tmp 16), none, Q0⟩] false (some [0, 3, 6]))
  (.seq (.seq (.reg 4 c20_r4 false (some [0, 3, 6, 23]))
  (.cond (.tmp 23) (.seq (.reg 5 [⟨some 4, .mv (.con (.sl .null [])), none, Q0⟩,
  ⟨some 5, .mv (.con (.int .i64 8)), none, Q0⟩] false (some [4, 5]))
  .ret) .skip))
  (.seq (.reg 6 [⟨some 24, .rows 0 15 [(.str ⟨#[]⟩), (.sl .null []), (.sl .null []), (.int .i64 0), (.int .i64 0), (.str ⟨#[]⟩), (.sl .null []), (.sl .null []), (.int .i64 0), (.int .i64 0), (.str ⟨#[]⟩), (.bool false), (.sl .null []), (.sl .null []), (.sl .null [])] [], none, Q0⟩,
  ⟨some 25, .mv (.tmp 0), none, Q0⟩,
  ⟨some 26, .appM 40 15 256 (.tmp 24) (.tmp 25), none, Q0⟩,
  ⟨some 7, .mv (.tmp 26), none, Q0⟩] false (some [0, 3, 6, 7]))
  (.seq (.seq (.reg 7 [⟨some 27, .mv (.tmp 6), none, Q0⟩,
  ⟨some 28, .bin .geq (.tmp 27) (.con (.int .i64 0)), none, Q0⟩] false (some [0, 3, 6, 7, 28]))
  (.cond (.tmp 28) (.seq (.reg 8 [⟨some 29, .mv (.tmp 7), none, Q0⟩,
  ⟨some 30, .mv (.tmp 6), none, Q0⟩,
  ⟨some 31, .ld (some 15) (.tmp 3), none, Q0⟩,
  ⟨some 32, .ixL 15 (.tmp 29) (.tmp 30), none, Q0⟩,
  ⟨none, .st 15 (.tmp 32) (.tmp 31), none, Q0⟩] false (some [7]))
  (.seq (.reg 9 [⟨some 33, .mv (.tmp 7), none, Q0⟩,
  ⟨some 4, .mv (.tmp 33), none, Q0⟩,
  ⟨some 5, .mv (.con (.int .i64 0)), none, Q0⟩] false (some [4, 5]))
  .ret)) .skip))
  (.seq (.reg 10 [⟨some 8, .mv (.con (.int .i64 0)), none, Q0⟩] false (some [0, 3, 8]))
  (.seq (.block 0 c20_l0)
  (.seq (.reg 13 [⟨some 52, .rows 0 15 [(.str ⟨#[]⟩), (.sl .null []), (.sl .null []), (.int .i64 0), (.int .i64 0), (.str ⟨#[]⟩), (.sl .null []), (.sl .null []), (.int .i64 0), (.int .i64 0), (.str ⟨#[]⟩), (.bool false), (.sl .null []), (.sl .null []), (.sl .null [])] [], none, ⟨.no, false⟩⟩,
  ⟨some 53, .mv (.tmp 0), none, ⟨.no, false⟩⟩,
  ⟨some 54, .mv (.tmp 8), none, ⟨.no, false⟩⟩,
  ⟨some 55, .slL 15 (.tmp 53) none (some (.tmp 54)) none, none, ⟨.no, false⟩⟩,
  ⟨some 56, .app 40 15 256 (.tmp 52) (.tmp 55), none, ⟨.lds [(some 15, (.tmp 3))], false⟩⟩,
  ⟨some 57, .ld (some 15) (.tmp 3), none, ⟨.still, false⟩⟩,
  ⟨some 58, .rows 1 15 [(.str ⟨#[]⟩), (.sl .null []), (.sl .null []), (.int .i64 0), (.int .i64 0), (.str ⟨#[]⟩), (.sl .null []), (.sl .null []), (.int .i64 0), (.int .i64 0), (.str ⟨#[]⟩), (.bool false), (.sl .null []), (.sl .null []), (.sl .null [])] [(0, (.tmp 57))], none, ⟨.no, false⟩⟩,
  ⟨some 59, .app 40 15 256 (.tmp 56) (.tmp 58), none, ⟨.no, false⟩⟩,
  ⟨some 60, .mv (.tmp 0), none, ⟨.no, false⟩⟩,
  ⟨some 61, .mv (.tmp 8), none, Q0⟩,
  ⟨some 62, .slL 15 (.tmp 60) (some (.tmp 61)) none none, none, Q0⟩,
  ⟨some 63, .app 40 15 256 (.tmp 59) (.tmp 62), none, Q0⟩,
  ⟨some 4, .mv (.tmp 63), none, Q0⟩,
  ⟨some 5, .mv (.con (.int .i64 0)), none, Q0⟩] true (some [4, 5]))
  .ret)))))))))
def c20 : EFn := ⟨2, 64, [.tmp 4, .tmp 5], c20_b, none, true⟩
theorem c20_l0_step {E : Env} {fin : Kont (PV × St)} {st : List Fr} {ts : Tmps} {S : St} {n : Nat} : (lvl E (n + 1)).ev c20_l0 ts S (kont E fin st) = (lvl E (n + 1)).ev c20_l0_b (sel (some [0, 3, 8]) ts) S (kont E fin (.again n c20_l0 :: st)) := rfl
theorem c20_l0_w {E : Env} {fin : Kont (PV × St)} {st : List Fw} {ts : Tmps} {S : St} : run E fin st c20_l0 ts S = run E fin (.again c20_l0 :: st) c20_l0_b (sel (some [0, 3, 8]) ts) S := w_loop
theorem c20_l0_a {E : Env} {fin : Kont (PV × St)} {st : List Fw} {ts : Tmps} {S : St} : aft E fin (.again c20_l0 :: st) .normal ts S = run E fin st c20_l0 (sel (some [0, 3, 8]) ts) S := a_again_s
theorem c20_ok : cFn Try.prog Try.f20 = some c20.strip := by kernel_rfl
-- limbeck/limbeckref14.SameSig
def c21_r1 : List EI := [⟨some 5, .fA 0 (.tmp 2), none, Q0⟩,
  ⟨some 6, .ld none (.tmp 5), none, Q0⟩,
  ⟨some 7, .fA 0 (.tmp 3), none, Q0⟩,
  ⟨some 8, .ld none (.tmp 7), none, Q0⟩,
  ⟨some 9, .bin .eql (.tmp 6) (.tmp 8), none, Q0⟩,
  ⟨some 10, .mv (.tmp 9), none, Q0⟩,
  ⟨some 11, .fA 1 (.tmp 2), some (10, true), Q0⟩,
  ⟨some 12, .ld none (.tmp 11), some (10, true), Q0⟩,
  ⟨some 13, .fA 1 (.tmp 3), some (10, true), Q0⟩,
  ⟨some 14, .ld none (.tmp 13), some (10, true), Q0⟩,
  ⟨some 15, .call (.con (.fn 38 [] [])) [(.tmp 12), (.tmp 14)], some (10, true), Q0⟩,
  ⟨some 16, .pick (.tmp 10) (.tmp 15) (.con (.bool false)), none, Q0⟩,
  ⟨some 17, .mv (.tmp 16), none, Q0⟩,
  ⟨some 18, .fA 2 (.tmp 2), some (17, true), Q0⟩,
  ⟨some 19, .ld none (.tmp 18), some (17, true), Q0⟩,
  ⟨some 20, .fA 2 (.tmp 3), some (17, true), Q0⟩,
  ⟨some 21, .ld none (.tmp 20), some (17, true), Q0⟩,
  ⟨some 22, .call (.con (.fn 38 [] [])) [(.tmp 19), (.tmp 21)], some (17, true), Q0⟩,
  ⟨some 23, .pick (.tmp 17) (.tmp 22) (.con (.bool false)), none, Q0⟩,
  ⟨some 24, .mv (.tmp 23), none, Q0⟩,
  ⟨some 25, .fA 3 (.tmp 2), some (24, true), Q0⟩,
  ⟨some 26, .ld (some 5) (.tmp 25), some (24, true), Q0⟩,
  ⟨some 27, .fA 3 (.tmp 3), some (24, true), Q0⟩,
  ⟨some 28, .ld (some 5) (.tmp 27), some (24, true), Q0⟩,
  ⟨some 29, .call (.con (.fn 39 [] [])) [(.tmp 26), (.tmp 28)], some (24, true), Q0⟩,
  ⟨some 30, .pick (.tmp 24) (.tmp 29) (.con (.bool false)), none, Q0⟩,
  ⟨some 4, .mv (.tmp 30), none, Q0⟩]
def c21_b : EC := (.seq (.reg 0 [⟨some 2, .boxI 35 (.tmp 0), none, Q0⟩,
  ⟨some 3, .boxI 35 (.tmp 1), none, Q0⟩,
  ⟨some 4, .mv (.con (.bool false)), none, Q0⟩] false (some [2, 3]))
  (.seq (.reg 1 c21_r1 false (some [4]))
  .ret))
def c21 : EFn := ⟨2, 31, [.tmp 4], c21_b, none, true⟩
theorem c21_ok : cFn Try.prog Try.f21 = some c21.strip := by kernel_rfl
-- limbeck/limbeckref14.SameDef
def c22_r1 : List EI := [⟨some 5, .fA 0 (.tmp 2), none, Q0⟩,
  ⟨some 6, .ld (some 8) (.tmp 5), none, Q0⟩,
  ⟨some 7, .fA 0 (.tmp 3), none, Q0⟩,
  ⟨some 8, .ld (some 8) (.tmp 7), none, Q0⟩,
  ⟨some 9, .call (.con (.fn 21 [] [])) [(.tmp 6), (.tmp 8)], none, Q0⟩,
  ⟨some 10, .mv (.tmp 9), none, Q0⟩,
  ⟨some 11, .fA 8 (.tmp 2), some (10, true), Q0⟩,
  ⟨some 12, .ld (some 7) (.tmp 11), some (10, true), Q0⟩,
  ⟨some 13, .fA 8 (.tmp 3), some (10, true), Q0⟩,
  ⟨some 14, .ld (some 7) (.tmp 13), some (10, true), Q0⟩,
  ⟨some 15, .call (.con (.fn 40 [] [])) [(.tmp 12), (.tmp 14)], some (10, true), Q0⟩,
  ⟨some 16, .pick (.tmp 10) (.tmp 15) (.con (.bool false)), none, Q0⟩,
  ⟨some 4, .mv (.tmp 16), none, Q0⟩]
def c22_b : EC := (.seq (.reg 0 [⟨some 2, .boxI 40 (.tmp 0), none, Q0⟩,
  ⟨some 3, .boxI 40 (.tmp 1), none, Q0⟩,
  ⟨some 4, .mv (.con (.bool false)), none, Q0⟩] false (some [2, 3]))
  (.seq (.reg 1 c22_r1 false (some [4]))
  .ret))
def c22 : EFn := ⟨2, 17, [.tmp 4], c22_b, none, true⟩
theorem c22_ok : cFn Try.prog Try.f22 = some c22.strip := by kernel_rfl
-- limbeck/limbeckref01.Place
def c23_l0_b : EC := (.seq (.seq (.reg 2 [⟨some 6, .mv (.tmp 5), none, Q0⟩,
  ⟨some 7, .mv (.tmp 0), none, Q0⟩,
  ⟨some 8, .len false (.tmp 7), none, Q0⟩,
  ⟨some 9, .bin .lss (.tmp 6) (.tmp 8), none, Q0⟩] false (some [0, 1, 5, 9]))
  (.cond (.tmp 9) .skip (.exit 0)))
  (.seq (.block 1 (.seq (.reg 4 [⟨some 12, .mv (.tmp 0), none, Q0⟩,
  ⟨some 13, .mv (.tmp 5), none, Q0⟩,
  ⟨some 14, .ixL 1 (.tmp 12) (.tmp 13), none, Q0⟩,
  ⟨some 15, .ld none (.tmp 14), none, Q0⟩,
  ⟨some 16, .mv (.tmp 1), none, Q0⟩,
  ⟨some 17, .bin .eql (.tmp 15) (.tmp 16), none, Q0⟩] false (some [0, 1, 5, 17]))
  (.cond (.tmp 17) (.seq (.reg 5 [⟨some 18, .mv (.tmp 5), none, Q0⟩,
  ⟨some 4, .mv (.tmp 18), none, Q0⟩] false (some [4]))
  .ret) .skip)))
  (.reg 3 [⟨some 10, .mv (.tmp 5), none, Q0⟩,
  ⟨some 11, .bin .add (.tmp 10) (.con (.int .i64 1)), none, Q0⟩,
  ⟨some 5, .mv (.tmp 11), none, Q0⟩] false (some [0, 1, 5]))))
def c23_l0 : EC := .loop (some [0, 1, 5]) c23_l0_b
def c23_b : EC := (.seq (.reg 0 [⟨some 4, .mv (.con (.int .i64 0)), none, Q0⟩] false (some [0, 1]))
  (.seq (.seq (.reg 1 [⟨some 5, .mv (.con (.int .i64 0)), none, Q0⟩] false (some [0, 1, 5]))
  (.block 0 c23_l0))
  (.seq (.reg 6 [⟨some 4, .mv (.con (.int .i64 (-1))), none, Q0⟩] false (some [4]))
  .ret)))
def c23 : EFn := ⟨2, 19, [.tmp 4], c23_b, none, true⟩
theorem c23_l0_step {E : Env} {fin : Kont (PV × St)} {st : List Fr} {ts : Tmps} {S : St} {n : Nat} : (lvl E (n + 1)).ev c23_l0 ts S (kont E fin st) = (lvl E (n + 1)).ev c23_l0_b (sel (some [0, 1, 5]) ts) S (kont E fin (.again n c23_l0 :: st)) := rfl
theorem c23_l0_w {E : Env} {fin : Kont (PV × St)} {st : List Fw} {ts : Tmps} {S : St} : run E fin st c23_l0 ts S = run E fin (.again c23_l0 :: st) c23_l0_b (sel (some [0, 1, 5]) ts) S := w_loop
theorem c23_l0_a {E : Env} {fin : Kont (PV × St)} {st : List Fw} {ts : Tmps} {S : St} : aft E fin (.again c23_l0 :: st) .normal ts S = run E fin st c23_l0 (sel (some [0, 1, 5]) ts) S := a_again_s
theorem c23_ok : cFn Try.prog Try.f23 = some c23.strip := by kernel_rfl
-- limbeck/limbecklaw39.def
def c24_b : EC := (.seq (.reg 0 [⟨some 4, .new 40 [(.str ⟨#[]⟩), (.sl .null []), (.sl .null []), (.int .i64 0), (.int .i64 0), (.str ⟨#[]⟩), (.sl .null []), (.sl .null []), (.int .i64 0), (.int .i64 0), (.str ⟨#[]⟩), (.bool false), (.sl .null []), (.sl .null []), (.sl .null [])], none, Q0⟩] false (some [0, 1, 4]))
  (.seq (.reg 1 [⟨some 5, .mv (.tmp 0), none, Q0⟩,
  ⟨some 6, .build [(.int .i64 0), (.int .i64 0), (.str ⟨#[]⟩), (.sl .null []), (.sl .null [])] [(0, 1, (.con (.int .i64 1)))], none, Q0⟩,
  ⟨some 7, .build [(.str ⟨#[]⟩), (.sl .null []), (.sl .null []), (.int .i64 0), (.int .i64 0), (.str ⟨#[]⟩), (.sl .null []), (.sl .null [])] [(0, 1, (.tmp 5)), (3, 5, (.tmp 6))], none, Q0⟩,
  ⟨some 8, .mv (.tmp 1), none, Q0⟩,
  ⟨some 9, .build [(.int .i64 0), (.int .i64 0), (.str ⟨#[]⟩), (.bool false), (.sl .null []), (.sl .null []), (.sl .null [])] [(0, 1, (.con (.int .i64 13))), (2, 1, (.tmp 8))], none, Q0⟩,
  ⟨some 10, .build [(.str ⟨#[]⟩), (.sl .null []), (.sl .null []), (.int .i64 0), (.int .i64 0), (.str ⟨#[]⟩), (.sl .null []), (.sl .null []), (.int .i64 0), (.int .i64 0), (.str ⟨#[]⟩), (.bool false), (.sl .null []), (.sl .null []), (.sl .null [])] [(0, 8, (.tmp 7)), (8, 7, (.tmp 9))], none, Q0⟩,
  ⟨none, .st 15 (.tmp 4) (.tmp 10), none, Q0⟩] false (some [4]))
  .ret))
def c24 : EFn := ⟨2, 11, [.cell 4 (some 15)], c24_b, none, true⟩
theorem c24_ok : cFn Try.prog Try.f24 = some c24.strip := by kernel_rfl
-- limbeck/prog.Find
def c25_b : EC := (.seq (.reg 0 [⟨some 4, .new 40 [(.str ⟨#[]⟩), (.sl .null []), (.sl .null []), (.int .i64 0), (.int .i64 0), (.str ⟨#[]⟩), (.sl .null []), (.sl .null []), (.int .i64 0), (.int .i64 0), (.str ⟨#[]⟩), (.bool false), (.sl .null []), (.sl .null []), (.sl .null [])], none, Q0⟩,
  ⟨some 5, .mv (.con (.bool false)), none, Q0⟩] false (some [0, 1, 4]))
  (.seq (.reg 1 [⟨some 7, .mv (.tmp 0), none, Q0⟩,
  ⟨some 8, .mv (.tmp 1), none, Q0⟩,
  ⟨some 9, .call (.con (.fn 41 [] [])) [(.tmp 7), (.tmp 8)], none, Q0⟩,
  ⟨some 6, .mv (.tmp 9), none, Q0⟩] false (some [0, 4, 6]))
  (.seq (.seq (.reg 2 [⟨some 10, .mv (.tmp 6), none, Q0⟩,
  ⟨some 11, .bin .lss (.tmp 10) (.con (.int .i64 0)), none, Q0⟩] false (some [0, 4, 6, 11]))
  (.cond (.tmp 11) (.seq (.reg 3 [⟨some 12, .build [(.str ⟨#[]⟩), (.sl .null []), (.sl .null []), (.int .i64 0), (.int .i64 0), (.str ⟨#[]⟩), (.sl .null []), (.sl .null []), (.int .i64 0), (.int .i64 0), (.str ⟨#[]⟩), (.bool false), (.sl .null []), (.sl .null []), (.sl .null [])] [], none, Q0⟩,
  ⟨none, .st 15 (.tmp 4) (.tmp 12), none, Q0⟩,
  ⟨some 5, .mv (.con (.bool false)), none, Q0⟩] false (some [4, 5]))
  .ret) .skip))
  (.seq (.reg 4 [⟨some 13, .mv (.tmp 0), none, Q0⟩,
  ⟨some 14, .mv (.tmp 6), none, Q0⟩,
  ⟨some 15, .ixL 15 (.tmp 13) (.tmp 14), none, Q0⟩,
  ⟨some 16, .ld (some 15) (.tmp 15), none, Q0⟩,
  ⟨none, .st 15 (.tmp 4) (.tmp 16), none, Q0⟩,
  ⟨some 5, .mv (.con (.bool true)), none, Q0⟩] false (some [4, 5]))
  .ret))))
def c25 : EFn := ⟨2, 17, [.cell 4 (some 15), .tmp 5], c25_b, none, true⟩
theorem c25_ok : cFn Try.prog Try.f25 = some c25.strip := by kernel_rfl
-- limbeck/exp.Calls
def c26_f0_a : EC := (.reg 3 [⟨some 4, .new 38 [(.int .i64 0), (.int .i64 0), (.str ⟨#[]⟩), (.bool false), (.sl .null []), (.sl .null []), (.sl .null [])], none, Q0⟩,
  ⟨none, .st 7 (.tmp 4) (.tmp 7), none, Q0⟩] false (some [3, 4]))
def c26_f0_b : EC := (.block 1 (.seq (.reg 4 [⟨some 8, .fA 0 (.tmp 4), none, Q0⟩,
  ⟨some 9, .ld none (.tmp 8), none, Q0⟩,
  ⟨some 10, .bin .eql (.tmp 9) (.con (.int .i64 13)), none, Q0⟩] false (some [3, 4, 10]))
  (.cond (.tmp 10) (.reg 5 [⟨some 11, .ld none (.tmp 3), none, Q0⟩,
  ⟨some 12, .fA 2 (.tmp 4), none, Q0⟩,
  ⟨some 13, .ld none (.tmp 12), none, Q0⟩,
  ⟨some 14, .rows 1 1 [(.str ⟨#[]⟩)] [(0, (.tmp 13))], none, Q0⟩,
  ⟨some 15, .appM 9 1 16 (.tmp 11) (.tmp 14), none, Q0⟩,
  ⟨none, .st 1 (.tmp 3) (.tmp 15), none, Q0⟩] false (some [])) .skip)))
def c26_b : EC := (.seq (.reg 0 [⟨some 1, .boxI 38 (.tmp 0), none, Q0⟩,
  ⟨some 2, .mv (.con (.sl .null [])), none, Q0⟩] false (some [1, 2]))
  (.seq (.reg 1 [⟨some 3, .new 26 [(.sl .null [])], none, Q0⟩] false (some [1, 2, 3]))
  (.seq (.seq (.reg 2 [⟨some 5, .ld (some 7) (.tmp 1), none, Q0⟩,
  ⟨some 6, .call (.con (.fn 42 [] [])) [(.tmp 5)], none, Q0⟩] false (some [2, 3, 6]))
  (.block 0 (.rangeF (some [2, 3]) (.tmp 6) [7] c26_f0_a c26_f0_b)))
  (.seq (.reg 6 [⟨some 16, .ld none (.tmp 3), none, Q0⟩,
  ⟨some 17, .call (.con (.fn 43 [] [])) [(.tmp 16)], none, Q0⟩,
  ⟨some 2, .mv (.tmp 17), none, Q0⟩] false (some [2]))
  .ret))))
def c26 : EFn := ⟨1, 18, [.tmp 2], c26_b, none, true⟩
theorem c26_ok : cFn Try.prog Try.f26 = some c26.strip := by kernel_rfl
-- limbeck/limbeckref14.Calls
def c27_l0_b : EC := (.seq (.seq (.reg 9 [⟨some 28, .mv (.tmp 6), none, Q0⟩,
  ⟨some 29, .mv (.tmp 5), none, Q0⟩,
  ⟨some 30, .len false (.tmp 29), none, Q0⟩,
  ⟨some 31, .bin .lss (.tmp 28) (.tmp 30), none, Q0⟩] false (some [1, 3, 4, 5, 6, 31]))
  (.cond (.tmp 31) .skip (.exit 2)))
  (.seq (.block 3 (.reg 11 [⟨some 34, .mv (.tmp 3), none, Q0⟩,
  ⟨some 35, .mv (.tmp 5), none, Q0⟩,
  ⟨some 36, .mv (.tmp 6), none, Q0⟩,
  ⟨some 37, .ixL 1 (.tmp 35) (.tmp 36), none, Q0⟩,
  ⟨some 38, .ld none (.tmp 37), none, Q0⟩,
  ⟨some 39, .call (.con (.fn 31 [] [])) [(.tmp 34), (.tmp 38)], none, Q0⟩,
  ⟨some 3, .mv (.tmp 39), none, Q0⟩] false (some [1, 3, 4, 5, 6])))
  (.reg 10 [⟨some 32, .mv (.tmp 6), none, Q0⟩,
  ⟨some 33, .bin .add (.tmp 32) (.con (.int .i64 1)), none, Q0⟩,
  ⟨some 6, .mv (.tmp 33), none, Q0⟩] false (some [1, 3, 4, 5, 6]))))
def c27_l0 : EC := .loop (some [1, 3, 4, 5, 6]) c27_l0_b
def c27_l1_b : EC := (.seq (.seq (.reg 5 [⟨some 15, .mv (.tmp 4), none, Q0⟩,
  ⟨some 16, .fA 6 (.tmp 1), none, Q0⟩,
  ⟨some 17, .ld none (.tmp 16), none, Q0⟩,
  ⟨some 18, .len false (.tmp 17), none, Q0⟩,
  ⟨some 19, .bin .lss (.tmp 15) (.tmp 18), none, Q0⟩] false (some [1, 3, 4, 19]))
  (.cond (.tmp 19) .skip (.exit 0)))
  (.seq (.block 1 (.seq (.reg 7 [⟨some 22, .fA 6 (.tmp 1), none, Q0⟩,
  ⟨some 23, .ld none (.tmp 22), none, Q0⟩,
  ⟨some 24, .mv (.tmp 4), none, Q0⟩,
  ⟨some 25, .ixL 7 (.tmp 23) (.tmp 24), none, Q0⟩,
  ⟨some 26, .ld (some 7) (.tmp 25), none, Q0⟩,
  ⟨some 27, .call (.con (.fn 27 [] [])) [(.tmp 26)], none, Q0⟩,
  ⟨some 5, .mv (.tmp 27), none, Q0⟩] false (some [1, 3, 4, 5]))
  (.seq (.reg 8 [⟨some 6, .mv (.con (.int .i64 0)), none, Q0⟩] false (some [1, 3, 4, 5, 6]))
  (.block 2 c27_l0))))
  (.reg 6 [⟨some 20, .mv (.tmp 4), none, Q0⟩,
  ⟨some 21, .bin .add (.tmp 20) (.con (.int .i64 1)), none, Q0⟩,
  ⟨some 4, .mv (.tmp 21), none, Q0⟩] false (some [1, 3, 4]))))
def c27_l1 : EC := .loop (some [1, 3, 4]) c27_l1_b
def c27_b : EC := (.seq (.reg 0 [⟨some 1, .boxI 38 (.tmp 0), none, Q0⟩,
  ⟨some 2, .mv (.con (.sl .null [])), none, Q0⟩] false (some [1]))
  (.seq (.reg 1 [⟨some 3, .mv (.con (.sl .null [])), none, Q0⟩] false (some [1, 3]))
  (.seq (.seq (.reg 2 [⟨some 7, .fA 0 (.tmp 1), none, Q0⟩,
  ⟨some 8, .ld none (.tmp 7), none, Q0⟩,
  ⟨some 9, .bin .eql (.tmp 8) (.con (.int .i64 13)), none, Q0⟩] false (some [1, 3, 9]))
  (.cond (.tmp 9) (.reg 3 [⟨some 10, .mv (.tmp 3), none, Q0⟩,
  ⟨some 11, .fA 2 (.tmp 1), none, Q0⟩,
  ⟨some 12, .ld none (.tmp 11), none, Q0⟩,
  ⟨some 13, .rows 1 1 [(.str ⟨#[]⟩)] [(0, (.tmp 12))], none, Q0⟩,
  ⟨some 14, .app 9 1 16 (.tmp 10) (.tmp 13), none, Q0⟩,
  ⟨some 3, .mv (.tmp 14), none, Q0⟩] false (some [1, 3])) .skip))
  (.seq (.seq (.reg 4 [⟨some 4, .mv (.con (.int .i64 0)), none, Q0⟩] false (some [1, 3, 4]))
  (.block 0 c27_l1))
  (.seq (.reg 12 [⟨some 40, .mv (.tmp 3), none, Q0⟩,
  ⟨some 2, .mv (.tmp 40), none, Q0⟩] false (some [2]))
  .ret)))))
def c27 : EFn := ⟨1, 41, [.tmp 2], c27_b, none, true⟩
theorem c27_l0_step {E : Env} {fin : Kont (PV × St)} {st : List Fr} {ts : Tmps} {S : St} {n : Nat} : (lvl E (n + 1)).ev c27_l0 ts S (kont E fin st) = (lvl E (n + 1)).ev c27_l0_b (sel (some [1, 3, 4, 5, 6]) ts) S (kont E fin (.again n c27_l0 :: st)) := rfl
theorem c27_l0_w {E : Env} {fin : Kont (PV × St)} {st : List Fw} {ts : Tmps} {S : St} : run E fin st c27_l0 ts S = run E fin (.again c27_l0 :: st) c27_l0_b (sel (some [1, 3, 4, 5, 6]) ts) S := w_loop
theorem c27_l0_a {E : Env} {fin : Kont (PV × St)} {st : List Fw} {ts : Tmps} {S : St} : aft E fin (.again c27_l0 :: st) .normal ts S = run E fin st c27_l0 (sel (some [1, 3, 4, 5, 6]) ts) S := a_again_s
theorem c27_l1_step {E : Env} {fin : Kont (PV × St)} {st : List Fr} {ts : Tmps} {S : St} {n : Nat} : (lvl E (n + 1)).ev c27_l1 ts S (kont E fin st) = (lvl E (n + 1)).ev c27_l1_b (sel (some [1, 3, 4]) ts) S (kont E fin (.again n c27_l1 :: st)) := rfl
theorem c27_l1_w {E : Env} {fin : Kont (PV × St)} {st : List Fw} {ts : Tmps} {S : St} : run E fin st c27_l1 ts S = run E fin (.again c27_l1 :: st) c27_l1_b (sel (some [1, 3, 4]) ts) S := w_loop
theorem c27_l1_a {E : Env} {fin : Kont (PV × St)} {st : List Fw} {ts : Tmps} {S : St} : aft E fin (.again c27_l1 :: st) .normal ts S = run E fin st c27_l1 (sel (some [1, 3, 4]) ts) S := a_again_s
theorem c27_ok : cFn Try.prog Try.f27 = some c27.strip := by kernel_rfl
-- slices.Contains[[]string,string]
def c28_b : EC := (.seq (.reg 0 [⟨some 4, .mv (.con (.bool false)), none, Q0⟩] false (some [0, 1]))
  (.seq (.reg 1 [⟨some 5, .mv (.tmp 0), none, Q0⟩,
  ⟨some 6, .mv (.tmp 1), none, Q0⟩,
  ⟨some 7, .call (.con (.fn 44 [] [])) [(.tmp 5), (.tmp 6)], none, Q0⟩,
  ⟨some 8, .bin .geq (.tmp 7) (.con (.int .i64 0)), none, Q0⟩,
  ⟨some 4, .mv (.tmp 8), none, Q0⟩] false (some [4]))
  .ret))
def c28 : EFn := ⟨2, 9, [.tmp 4], c28_b, none, true⟩
theorem c28_ok : cFn Try.prog Try.f28 = some c28.strip := by kernel_rfl
-- limbeck/limbeckref04.Put
def c31_r6 : List EI := [⟨some 14, .mv (.tmp 6), none, Q0⟩,
  ⟨some 15, .un .not (.tmp 14), none, Q0⟩,
  ⟨some 16, .mv (.tmp 15), none, Q0⟩,
  ⟨some 17, .mv (.tmp 0), some (16, true), Q0⟩,
  ⟨some 18, .mv (.tmp 7), some (16, true), Q0⟩,
  ⟨some 19, .ixL 1 (.tmp 17) (.tmp 18), some (16, true), Q0⟩,
  ⟨some 20, .ld none (.tmp 19), some (16, true), Q0⟩,
  ⟨some 21, .mv (.tmp 1), some (16, true), Q0⟩,
  ⟨some 22, .bin .geq (.tmp 20) (.tmp 21), some (16, true), Q0⟩,
  ⟨some 23, .pick (.tmp 16) (.tmp 22) (.con (.bool false)), none, Q0⟩]
def c31_l0_b : EC := (.seq (.seq (.reg 4 [⟨some 8, .mv (.tmp 7), none, Q0⟩,
  ⟨some 9, .mv (.tmp 0), none, Q0⟩,
  ⟨some 10, .len false (.tmp 9), none, Q0⟩,
  ⟨some 11, .bin .lss (.tmp 8) (.tmp 10), none, Q0⟩] false (some [0, 1, 5, 6, 7, 11]))
  (.cond (.tmp 11) .skip (.exit 0)))
  (.seq (.block 1 (.seq (.seq (.reg 6 c31_r6 false (some [0, 1, 5, 6, 7, 23]))
  (.cond (.tmp 23) (.seq (.seq (.reg 7 [⟨some 24, .mv (.tmp 0), none, Q0⟩,
  ⟨some 25, .mv (.tmp 7), none, Q0⟩,
  ⟨some 26, .ixL 1 (.tmp 24) (.tmp 25), none, Q0⟩,
  ⟨some 27, .ld none (.tmp 26), none, Q0⟩,
  ⟨some 28, .mv (.tmp 1), none, Q0⟩,
  ⟨some 29, .bin .gtr (.tmp 27) (.tmp 28), none, Q0⟩] false (some [0, 1, 5, 7, 29]))
  (.cond (.tmp 29) (.reg 8 [⟨some 30, .mv (.tmp 5), none, Q0⟩,
  ⟨some 31, .mv (.tmp 1), none, Q0⟩,
  ⟨some 32, .rows 1 1 [(.str ⟨#[]⟩)] [(0, (.tmp 31))], none, Q0⟩,
  ⟨some 33, .app 9 1 16 (.tmp 30) (.tmp 32), none, Q0⟩,
  ⟨some 5, .mv (.tmp 33), none, Q0⟩] false (some [0, 1, 5, 7])) .skip))
  (.reg 9 [⟨some 6, .mv (.con (.bool true)), none, Q0⟩] false (some [0, 1, 5, 6, 7]))) .skip))
  (.reg 10 [⟨some 34, .mv (.tmp 5), none, Q0⟩,
  ⟨some 35, .mv (.tmp 0), none, Q0⟩,
  ⟨some 36, .mv (.tmp 7), none, Q0⟩,
  ⟨some 37, .ixL 1 (.tmp 35) (.tmp 36), none, Q0⟩,
  ⟨some 38, .ld none (.tmp 37), none, Q0⟩,
  ⟨some 39, .rows 1 1 [(.str ⟨#[]⟩)] [(0, (.tmp 38))], none, Q0⟩,
  ⟨some 40, .app 9 1 16 (.tmp 34) (.tmp 39), none, Q0⟩,
  ⟨some 5, .mv (.tmp 40), none, Q0⟩] false (some [0, 1, 5, 6, 7]))))
  (.reg 5 [⟨some 12, .mv (.tmp 7), none, Q0⟩,
  ⟨some 13, .bin .add (.tmp 12) (.con (.int .i64 1)), none, Q0⟩,
  ⟨some 7, .mv (.tmp 13), none, Q0⟩] false (some [0, 1, 5, 6, 7]))))
def c31_l0 : EC := .loop (some [0, 1, 5, 6, 7]) c31_l0_b
def c31_b : EC := (.seq (.reg 0 [⟨some 4, .mv (.con (.sl .null [])), none, Q0⟩] false (some [0, 1]))
  (.seq (.reg 1 [⟨some 5, .mv (.con (.sl .null [])), none, Q0⟩] false (some [0, 1, 5]))
  (.seq (.reg 2 [⟨some 6, .mv (.con (.bool false)), none, Q0⟩] false (some [0, 1, 5, 6]))
  (.seq (.seq (.reg 3 [⟨some 7, .mv (.con (.int .i64 0)), none, Q0⟩] false (some [0, 1, 5, 6, 7]))
  (.block 0 c31_l0))
  (.seq (.seq (.reg 11 [⟨some 41, .mv (.tmp 6), none, Q0⟩,
  ⟨some 42, .un .not (.tmp 41), none, Q0⟩] false (some [1, 5, 42]))
  (.cond (.tmp 42) (.reg 12 [⟨some 43, .mv (.tmp 5), none, Q0⟩,
  ⟨some 44, .mv (.tmp 1), none, Q0⟩,
  ⟨some 45, .rows 1 1 [(.str ⟨#[]⟩)] [(0, (.tmp 44))], none, Q0⟩,
  ⟨some 46, .app 9 1 16 (.tmp 43) (.tmp 45), none, Q0⟩,
  ⟨some 5, .mv (.tmp 46), none, Q0⟩] false (some [5])) .skip))
  (.seq (.reg 13 [⟨some 47, .mv (.tmp 5), none, Q0⟩,
  ⟨some 4, .mv (.tmp 47), none, Q0⟩] false (some [4]))
  .ret))))))
def c31 : EFn := ⟨2, 48, [.tmp 4], c31_b, none, true⟩
theorem c31_l0_step {E : Env} {fin : Kont (PV × St)} {st : List Fr} {ts : Tmps} {S : St} {n : Nat} : (lvl E (n + 1)).ev c31_l0 ts S (kont E fin st) = (lvl E (n + 1)).ev c31_l0_b (sel (some [0, 1, 5, 6, 7]) ts) S (kont E fin (.again n c31_l0 :: st)) := rfl
theorem c31_l0_w {E : Env} {fin : Kont (PV × St)} {st : List Fw} {ts : Tmps} {S : St} : run E fin st c31_l0 ts S = run E fin (.again c31_l0 :: st) c31_l0_b (sel (some [0, 1, 5, 6, 7]) ts) S := w_loop
theorem c31_l0_a {E : Env} {fin : Kont (PV × St)} {st : List Fw} {ts : Tmps} {S : St} : aft E fin (.again c31_l0 :: st) .normal ts S = run E fin st c31_l0 (sel (some [0, 1, 5, 6, 7]) ts) S := a_again_s
theorem c31_ok : cFn Try.prog Try.f31 = some c31.strip := by kernel_rfl
-- limbeck/deps.stale
def c32_r3 : List EI := [⟨some 23, .mv (.tmp 8), none, Q0⟩,
  ⟨some 24, .un .not (.tmp 23), none, Q0⟩,
  ⟨some 25, .mv (.tmp 24), none, Q0⟩,
  ⟨some 26, .ld (some 15) (.tmp 7), some (25, false), Q0⟩,
  ⟨some 27, .ld (some 15) (.tmp 9), some (25, false), Q0⟩,
  ⟨some 28, .call (.con (.fn 47 [] [])) [(.tmp 26), (.tmp 27)], some (25, false), Q0⟩,
  ⟨some 29, .un .not (.tmp 28), some (25, false), Q0⟩,
  ⟨some 30, .pick (.tmp 25) (.con (.bool true)) (.tmp 29), none, Q0⟩]
def c32_b : EC := (.seq (.reg 0 [⟨some 3, .boxI 22 (.tmp 0), none, Q0⟩,
  ⟨some 4, .boxI 22 (.tmp 1), none, Q0⟩,
  ⟨some 6, .mv (.con (.bool false)), none, Q0⟩] false (some [2, 3, 4]))
  (.seq (.reg 1 [⟨some 12, .ld none (.tmp 3), none, Q0⟩,
  ⟨some 13, .mv (.tmp 2), none, Q0⟩,
  ⟨some 14, .call (.con (.fn 25 [] [])) [(.tmp 12), (.tmp 13)], none, Q0⟩,
  ⟨some 11, .mv (.tmp 14), none, Q0⟩,
  ⟨some 15, .ext (.tmp 11) 0, none, Q0⟩,
  ⟨some 16, .ext (.tmp 11) 1, none, Q0⟩,
  ⟨some 7, .new 40 [(.str ⟨#[]⟩), (.sl .null []), (.sl .null []), (.int .i64 0), (.int .i64 0), (.str ⟨#[]⟩), (.sl .null []), (.sl .null []), (.int .i64 0), (.int .i64 0), (.str ⟨#[]⟩), (.bool false), (.sl .null []), (.sl .null []), (.sl .null [])], none, Q0⟩,
  ⟨none, .st 15 (.tmp 7) (.tmp 15), none, Q0⟩,
  ⟨some 8, .mv (.tmp 16), none, Q0⟩] false (some [2, 3, 4, 7, 8]))
  (.seq (.reg 2 [⟨some 18, .ld none (.tmp 4), none, Q0⟩,
  ⟨some 19, .mv (.tmp 2), none, Q0⟩,
  ⟨some 20, .call (.con (.fn 25 [] [])) [(.tmp 18), (.tmp 19)], none, Q0⟩,
  ⟨some 17, .mv (.tmp 20), none, Q0⟩,
  ⟨some 21, .ext (.tmp 17) 0, none, Q0⟩,
  ⟨some 22, .ext (.tmp 17) 1, none, Q0⟩,
  ⟨some 9, .new 40 [(.str ⟨#[]⟩), (.sl .null []), (.sl .null []), (.int .i64 0), (.int .i64 0), (.str ⟨#[]⟩), (.sl .null []), (.sl .null []), (.int .i64 0), (.int .i64 0), (.str ⟨#[]⟩), (.bool false), (.sl .null []), (.sl .null []), (.sl .null [])], none, Q0⟩,
  ⟨none, .st 15 (.tmp 9) (.tmp 21), none, Q0⟩,
  ⟨some 10, .mv (.tmp 22), none, Q0⟩] false (some [3, 4, 7, 8, 9]))
  (.seq (.seq (.reg 3 c32_r3 false (some [3, 4, 9, 30]))
  (.cond (.tmp 30) (.seq (.reg 4 [⟨some 6, .mv (.con (.bool true)), none, Q0⟩] false (some [6]))
  .ret) .skip))
  (.seq (.reg 5 [⟨some 31, .fA 8 (.tmp 9), none, Q0⟩,
  ⟨some 32, .ld (some 7) (.tmp 31), none, Q0⟩,
  ⟨some 33, .call (.con (.fn 26 [] [])) [(.tmp 32)], none, Q0⟩,
  ⟨some 34, .fnv 49 [] [(.tmp 3), (.tmp 4)], none, Q0⟩,
  ⟨some 35, .call (.con (.fn 48 [] [])) [(.tmp 33), (.tmp 34)], none, Q0⟩,
  ⟨some 6, .mv (.tmp 35), none, Q0⟩] false (some [6]))
  .ret)))))
def c32 : EFn := ⟨3, 36, [.tmp 6], c32_b, none, true⟩
theorem c32_ok : cFn Try.prog Try.f32 = some c32.strip := by kernel_rfl
-- limbeck/limbeckref39.stale
def c33_r3 : List EI := [⟨some 17, .mv (.tmp 7), none, Q0⟩,
  ⟨some 18, .bin .lss (.tmp 17) (.con (.int .i64 0)), none, Q0⟩,
  ⟨some 19, .mv (.tmp 18), none, Q0⟩,
  ⟨some 20, .mv (.tmp 0), some (19, false), ⟨.no, false⟩⟩,
  ⟨some 21, .mv (.tmp 7), some (19, false), ⟨.no, false⟩⟩,
  ⟨some 22, .ixL 15 (.tmp 20) (.tmp 21), some (19, false), ⟨.no, false⟩⟩,
  ⟨some 23, .ld (some 15) (.tmp 22), some (19, false), ⟨.still, false⟩⟩,
  ⟨some 24, .mv (.tmp 1), some (19, false), ⟨.no, false⟩⟩,
  ⟨some 25, .mv (.tmp 8), some (19, false), Q0⟩,
  ⟨some 26, .ixL 15 (.tmp 24) (.tmp 25), some (19, false), Q0⟩,
  ⟨some 27, .ld (some 15) (.tmp 26), some (19, false), Q1⟩,
  ⟨some 28, .call (.con (.fn 22 [] [])) [(.tmp 23), (.tmp 27)], some (19, false), Q0⟩,
  ⟨some 29, .un .not (.tmp 28), some (19, false), Q0⟩,
  ⟨some 30, .pick (.tmp 19) (.con (.bool true)) (.tmp 29), none, Q0⟩]
def c33_l0_b : EC := (.seq (.seq (.reg 7 [⟨some 34, .mv (.tmp 10), none, Q0⟩,
  ⟨some 35, .mv (.tmp 9), none, Q0⟩,
  ⟨some 36, .len false (.tmp 35), none, Q0⟩,
  ⟨some 37, .bin .lss (.tmp 34) (.tmp 36), none, Q0⟩] false (some [0, 1, 9, 10, 37]))
  (.cond (.tmp 37) .skip (.exit 0)))
  (.seq (.block 1 (.seq (.reg 9 [⟨some 40, .mv (.tmp 0), none, Q0⟩,
  ⟨some 41, .mv (.tmp 1), none, Q0⟩,
  ⟨some 42, .mv (.tmp 9), none, Q0⟩,
  ⟨some 43, .mv (.tmp 10), none, Q0⟩,
  ⟨some 44, .ixL 1 (.tmp 42) (.tmp 43), none, Q0⟩,
  ⟨some 45, .ld none (.tmp 44), none, Q0⟩,
  ⟨some 46, .call (.con (.fn 51 [] [])) [(.tmp 40), (.tmp 41), (.tmp 45)], none, Q0⟩,
  ⟨some 47, .un .not (.tmp 46), none, Q0⟩] false (some [0, 1, 9, 10, 47]))
  (.cond (.tmp 47) (.seq (.reg 10 [⟨some 6, .mv (.con (.bool true)), none, Q0⟩] false (some [6]))
  .ret) .skip)))
  (.reg 8 [⟨some 38, .mv (.tmp 10), none, Q0⟩,
  ⟨some 39, .bin .add (.tmp 38) (.con (.int .i64 1)), none, Q0⟩,
  ⟨some 10, .mv (.tmp 39), none, Q0⟩] false (some [0, 1, 9, 10]))))
def c33_l0 : EC := .loop (some [0, 1, 9, 10]) c33_l0_b
def c33_b : EC := (.seq (.reg 0 [⟨some 6, .mv (.con (.bool false)), none, Q0⟩] false (some [0, 1, 2]))
  (.seq (.reg 1 [⟨some 11, .mv (.tmp 0), none, Q0⟩,
  ⟨some 12, .mv (.tmp 2), none, Q0⟩,
  ⟨some 13, .call (.con (.fn 19 [] [])) [(.tmp 11), (.tmp 12)], none, Q0⟩,
  ⟨some 7, .mv (.tmp 13), none, Q0⟩] false (some [0, 1, 2, 7]))
  (.seq (.reg 2 [⟨some 14, .mv (.tmp 1), none, Q0⟩,
  ⟨some 15, .mv (.tmp 2), none, Q0⟩,
  ⟨some 16, .call (.con (.fn 19 [] [])) [(.tmp 14), (.tmp 15)], none, Q0⟩,
  ⟨some 8, .mv (.tmp 16), none, Q0⟩] false (some [0, 1, 2, 7, 8]))
  (.seq (.seq (.reg 3 c33_r3 true (some [0, 1, 2, 30]))
  (.cond (.tmp 30) (.seq (.reg 4 [⟨some 6, .mv (.con (.bool true)), none, Q0⟩] false (some [6]))
  .ret) .skip))
  (.seq (.reg 5 [⟨some 31, .mv (.tmp 1), none, Q0⟩,
  ⟨some 32, .mv (.tmp 2), none, Q0⟩,
  ⟨some 33, .call (.con (.fn 10 [] [])) [(.tmp 31), (.tmp 32)], none, Q0⟩,
  ⟨some 9, .mv (.tmp 33), none, Q0⟩] false (some [0, 1, 9]))
  (.seq (.seq (.reg 6 [⟨some 10, .mv (.con (.int .i64 0)), none, Q0⟩] false (some [0, 1, 9, 10]))
  (.block 0 c33_l0))
  (.seq (.reg 11 [⟨some 6, .mv (.con (.bool false)), none, Q0⟩] false (some [6]))
  .ret)))))))
def c33 : EFn := ⟨3, 48, [.tmp 6], c33_b, none, true⟩
theorem c33_l0_step {E : Env} {fin : Kont (PV × St)} {st : List Fr} {ts : Tmps} {S : St} {n : Nat} : (lvl E (n + 1)).ev c33_l0 ts S (kont E fin st) = (lvl E (n + 1)).ev c33_l0_b (sel (some [0, 1, 9, 10]) ts) S (kont E fin (.again n c33_l0 :: st)) := rfl
theorem c33_l0_w {E : Env} {fin : Kont (PV × St)} {st : List Fw} {ts : Tmps} {S : St} : run E fin st c33_l0 ts S = run E fin (.again c33_l0 :: st) c33_l0_b (sel (some [0, 1, 9, 10]) ts) S := w_loop
theorem c33_l0_a {E : Env} {fin : Kont (PV × St)} {st : List Fw} {ts : Tmps} {S : St} : aft E fin (.again c33_l0 :: st) .normal ts S = run E fin st c33_l0 (sel (some [0, 1, 9, 10]) ts) S := a_again_s
theorem c33_ok : cFn Try.prog Try.f33 = some c33.strip := by kernel_rfl
-- limbeck/limbecklaw14.Much
def c34_r3 : List EI := [⟨some 16, .mv (.tmp 4), none, Q0⟩,
  ⟨some 17, .fA 5 (.tmp 1), none, Q0⟩,
  ⟨some 18, .ld none (.tmp 17), none, Q0⟩,
  ⟨some 19, .len false (.tmp 18), none, Q0⟩,
  ⟨some 20, .bin .lss (.tmp 16) (.tmp 19), none, Q0⟩,
  ⟨some 21, .mv (.tmp 20), none, Q0⟩,
  ⟨some 22, .mv (.tmp 4), some (21, true), Q0⟩,
  ⟨some 23, .bin .lss (.tmp 22) (.con (.int .i64 1000)), some (21, true), Q0⟩,
  ⟨some 24, .pick (.tmp 21) (.tmp 23) (.con (.bool false)), none, Q0⟩]
def c34_r7 : List EI := [⟨some 36, .mv (.tmp 5), none, Q0⟩,
  ⟨some 37, .fA 4 (.tmp 1), none, Q0⟩,
  ⟨some 38, .ld none (.tmp 37), none, Q0⟩,
  ⟨some 39, .len false (.tmp 38), none, Q0⟩,
  ⟨some 40, .bin .lss (.tmp 36) (.tmp 39), none, Q0⟩,
  ⟨some 41, .mv (.tmp 40), none, Q0⟩,
  ⟨some 42, .mv (.tmp 3), some (41, true), Q0⟩,
  ⟨some 43, .bin .lss (.tmp 42) (.con (.int .i64 3000)), some (41, true), Q0⟩,
  ⟨some 44, .pick (.tmp 41) (.tmp 43) (.con (.bool false)), none, Q0⟩]
def c34_r11 : List EI := [⟨some 55, .mv (.tmp 6), none, Q0⟩,
  ⟨some 56, .fA 6 (.tmp 1), none, Q0⟩,
  ⟨some 57, .ld none (.tmp 56), none, Q0⟩,
  ⟨some 58, .len false (.tmp 57), none, Q0⟩,
  ⟨some 59, .bin .lss (.tmp 55) (.tmp 58), none, Q0⟩,
  ⟨some 60, .mv (.tmp 59), none, Q0⟩,
  ⟨some 61, .mv (.tmp 3), some (60, true), Q0⟩,
  ⟨some 62, .bin .lss (.tmp 61) (.con (.int .i64 3000)), some (60, true), Q0⟩,
  ⟨some 63, .pick (.tmp 60) (.tmp 62) (.con (.bool false)), none, Q0⟩]
def c34_l0_b : EC := (.seq (.seq (.reg 3 c34_r3 false (some [1, 3, 4, 24]))
  (.cond (.tmp 24) .skip (.exit 0)))
  (.seq (.block 1 (.reg 5 [⟨some 27, .mv (.tmp 3), none, Q0⟩,
  ⟨some 28, .fA 5 (.tmp 1), none, Q0⟩,
  ⟨some 29, .ld none (.tmp 28), none, Q0⟩,
  ⟨some 30, .mv (.tmp 4), none, Q0⟩,
  ⟨some 31, .ixL 1 (.tmp 29) (.tmp 30), none, Q0⟩,
  ⟨some 32, .ld none (.tmp 31), none, Q0⟩,
  ⟨some 33, .len true (.tmp 32), none, Q0⟩,
  ⟨some 34, .bin .quo (.tmp 33) (.con (.int .i64 8)), none, Q0⟩,
  ⟨some 35, .bin .add (.tmp 27) (.tmp 34), none, Q0⟩,
  ⟨some 3, .mv (.tmp 35), none, Q0⟩] false (some [1, 3, 4])))
  (.reg 4 [⟨some 25, .mv (.tmp 4), none, Q0⟩,
  ⟨some 26, .bin .add (.tmp 25) (.con (.int .i64 1)), none, Q0⟩,
  ⟨some 4, .mv (.tmp 26), none, Q0⟩] false (some [1, 3, 4]))))
def c34_l0 : EC := .loop (some [1, 3, 4]) c34_l0_b
def c34_l1_b : EC := (.seq (.seq (.reg 7 c34_r7 false (some [1, 3, 5, 44]))
  (.cond (.tmp 44) .skip (.exit 2)))
  (.seq (.block 3 (.reg 9 [⟨some 47, .mv (.tmp 3), none, Q0⟩,
  ⟨some 48, .fA 4 (.tmp 1), none, Q0⟩,
  ⟨some 49, .ld none (.tmp 48), none, Q0⟩,
  ⟨some 50, .mv (.tmp 5), none, Q0⟩,
  ⟨some 51, .ixL 5 (.tmp 49) (.tmp 50), none, Q0⟩,
  ⟨some 52, .ld (some 5) (.tmp 51), none, Q0⟩,
  ⟨some 53, .call (.con (.fn 36 [] [])) [(.tmp 52)], none, Q0⟩,
  ⟨some 54, .bin .add (.tmp 47) (.tmp 53), none, Q0⟩,
  ⟨some 3, .mv (.tmp 54), none, Q0⟩] false (some [1, 3, 5])))
  (.reg 8 [⟨some 45, .mv (.tmp 5), none, Q0⟩,
  ⟨some 46, .bin .add (.tmp 45) (.con (.int .i64 1)), none, Q0⟩,
  ⟨some 5, .mv (.tmp 46), none, Q0⟩] false (some [1, 3, 5]))))
def c34_l1 : EC := .loop (some [1, 3, 5]) c34_l1_b
def c34_l2_b : EC := (.seq (.seq (.reg 11 c34_r11 false (some [1, 3, 6, 63]))
  (.cond (.tmp 63) .skip (.exit 4)))
  (.seq (.block 5 (.reg 13 [⟨some 66, .mv (.tmp 3), none, Q0⟩,
  ⟨some 67, .fA 6 (.tmp 1), none, Q0⟩,
  ⟨some 68, .ld none (.tmp 67), none, Q0⟩,
  ⟨some 69, .mv (.tmp 6), none, Q0⟩,
  ⟨some 70, .ixL 7 (.tmp 68) (.tmp 69), none, Q0⟩,
  ⟨some 71, .ld (some 7) (.tmp 70), none, Q0⟩,
  ⟨some 72, .call (.con (.fn 34 [] [])) [(.tmp 71)], none, Q0⟩,
  ⟨some 73, .bin .add (.tmp 66) (.tmp 72), none, Q0⟩,
  ⟨some 3, .mv (.tmp 73), none, Q0⟩] false (some [1, 3, 6])))
  (.reg 12 [⟨some 64, .mv (.tmp 6), none, Q0⟩,
  ⟨some 65, .bin .add (.tmp 64) (.con (.int .i64 1)), none, Q0⟩,
  ⟨some 6, .mv (.tmp 65), none, Q0⟩] false (some [1, 3, 6]))))
def c34_l2 : EC := .loop (some [1, 3, 6]) c34_l2_b
def c34_b : EC := (.seq (.reg 0 [⟨some 1, .boxI 38 (.tmp 0), none, Q0⟩,
  ⟨some 2, .mv (.con (.int .i64 0)), none, Q0⟩] false (some [1]))
  (.seq (.reg 1 [⟨some 7, .fA 2 (.tmp 1), none, Q0⟩,
  ⟨some 8, .ld none (.tmp 7), none, Q0⟩,
  ⟨some 9, .len true (.tmp 8), none, Q0⟩,
  ⟨some 10, .bin .quo (.tmp 9) (.con (.int .i64 8)), none, Q0⟩,
  ⟨some 11, .bin .add (.con (.int .i64 1)) (.tmp 10), none, Q0⟩,
  ⟨some 12, .fA 5 (.tmp 1), none, Q0⟩,
  ⟨some 13, .ld none (.tmp 12), none, Q0⟩,
  ⟨some 14, .len false (.tmp 13), none, Q0⟩,
  ⟨some 15, .bin .add (.tmp 11) (.tmp 14), none, Q0⟩,
  ⟨some 3, .mv (.tmp 15), none, Q0⟩] false (some [1, 3]))
  (.seq (.seq (.reg 2 [⟨some 4, .mv (.con (.int .i64 0)), none, Q0⟩] false (some [1, 3, 4]))
  (.block 0 c34_l0))
  (.seq (.seq (.reg 6 [⟨some 5, .mv (.con (.int .i64 0)), none, Q0⟩] false (some [1, 3, 5]))
  (.block 2 c34_l1))
  (.seq (.seq (.reg 10 [⟨some 6, .mv (.con (.int .i64 0)), none, Q0⟩] false (some [1, 3, 6]))
  (.block 4 c34_l2))
  (.seq (.reg 14 [⟨some 74, .mv (.tmp 3), none, Q0⟩,
  ⟨some 2, .mv (.tmp 74), none, Q0⟩] false (some [2]))
  .ret))))))
def c34 : EFn := ⟨1, 75, [.tmp 2], c34_b, none, true⟩
theorem c34_l0_step {E : Env} {fin : Kont (PV × St)} {st : List Fr} {ts : Tmps} {S : St} {n : Nat} : (lvl E (n + 1)).ev c34_l0 ts S (kont E fin st) = (lvl E (n + 1)).ev c34_l0_b (sel (some [1, 3, 4]) ts) S (kont E fin (.again n c34_l0 :: st)) := rfl
theorem c34_l0_w {E : Env} {fin : Kont (PV × St)} {st : List Fw} {ts : Tmps} {S : St} : run E fin st c34_l0 ts S = run E fin (.again c34_l0 :: st) c34_l0_b (sel (some [1, 3, 4]) ts) S := w_loop
theorem c34_l0_a {E : Env} {fin : Kont (PV × St)} {st : List Fw} {ts : Tmps} {S : St} : aft E fin (.again c34_l0 :: st) .normal ts S = run E fin st c34_l0 (sel (some [1, 3, 4]) ts) S := a_again_s
theorem c34_l1_step {E : Env} {fin : Kont (PV × St)} {st : List Fr} {ts : Tmps} {S : St} {n : Nat} : (lvl E (n + 1)).ev c34_l1 ts S (kont E fin st) = (lvl E (n + 1)).ev c34_l1_b (sel (some [1, 3, 5]) ts) S (kont E fin (.again n c34_l1 :: st)) := rfl
theorem c34_l1_w {E : Env} {fin : Kont (PV × St)} {st : List Fw} {ts : Tmps} {S : St} : run E fin st c34_l1 ts S = run E fin (.again c34_l1 :: st) c34_l1_b (sel (some [1, 3, 5]) ts) S := w_loop
theorem c34_l1_a {E : Env} {fin : Kont (PV × St)} {st : List Fw} {ts : Tmps} {S : St} : aft E fin (.again c34_l1 :: st) .normal ts S = run E fin st c34_l1 (sel (some [1, 3, 5]) ts) S := a_again_s
theorem c34_l2_step {E : Env} {fin : Kont (PV × St)} {st : List Fr} {ts : Tmps} {S : St} {n : Nat} : (lvl E (n + 1)).ev c34_l2 ts S (kont E fin st) = (lvl E (n + 1)).ev c34_l2_b (sel (some [1, 3, 6]) ts) S (kont E fin (.again n c34_l2 :: st)) := rfl
theorem c34_l2_w {E : Env} {fin : Kont (PV × St)} {st : List Fw} {ts : Tmps} {S : St} : run E fin st c34_l2 ts S = run E fin (.again c34_l2 :: st) c34_l2_b (sel (some [1, 3, 6]) ts) S := w_loop
theorem c34_l2_a {E : Env} {fin : Kont (PV × St)} {st : List Fw} {ts : Tmps} {S : St} : aft E fin (.again c34_l2 :: st) .normal ts S = run E fin st c34_l2 (sel (some [1, 3, 6]) ts) S := a_again_s
theorem c34_ok : cFn Try.prog Try.f34 = some c34.strip := by kernel_rfl
-- limbeck/limbecklaw14.Binds
def c35_r3 : List EI := [⟨some 7, .mv (.tmp 4), none, Q0⟩,
  ⟨some 8, .mv (.tmp 0), none, Q0⟩,
  ⟨some 9, .len false (.tmp 8), none, Q0⟩,
  ⟨some 10, .bin .lss (.tmp 7) (.tmp 9), none, Q0⟩,
  ⟨some 11, .mv (.tmp 10), none, Q0⟩,
  ⟨some 12, .mv (.tmp 3), some (11, true), Q0⟩,
  ⟨some 13, .bin .lss (.tmp 12) (.con (.int .i64 3000)), some (11, true), Q0⟩,
  ⟨some 14, .pick (.tmp 11) (.tmp 13) (.con (.bool false)), none, Q0⟩]
def c35_l0_b : EC := (.seq (.seq (.reg 3 c35_r3 false (some [0, 3, 4, 14]))
  (.cond (.tmp 14) .skip (.exit 0)))
  (.seq (.block 1 (.reg 5 [⟨some 17, .mv (.tmp 3), none, ⟨.no, false⟩⟩,
  ⟨some 18, .mv (.tmp 0), none, ⟨.no, false⟩⟩,
  ⟨some 19, .mv (.tmp 4), none, ⟨.no, false⟩⟩,
  ⟨some 20, .ixL 6 (.tmp 18) (.tmp 19), none, ⟨.no, false⟩⟩,
  ⟨some 21, .fA 1 (.tmp 20), none, ⟨.no, false⟩⟩,
  ⟨some 22, .ld (some 5) (.tmp 21), none, ⟨.still, false⟩⟩,
  ⟨some 23, .call (.con (.fn 36 [] [])) [(.tmp 22)], none, ⟨.still, false⟩⟩,
  ⟨some 24, .bin .add (.tmp 17) (.tmp 23), none, ⟨.no, false⟩⟩,
  ⟨some 25, .mv (.tmp 0), none, ⟨.no, false⟩⟩,
  ⟨some 26, .mv (.tmp 4), none, Q0⟩,
  ⟨some 27, .ixL 6 (.tmp 25) (.tmp 26), none, Q0⟩,
  ⟨some 28, .fA 0 (.tmp 27), none, Q0⟩,
  ⟨some 29, .ld none (.tmp 28), none, Q1⟩,
  ⟨some 30, .len true (.tmp 29), none, Q0⟩,
  ⟨some 31, .bin .quo (.tmp 30) (.con (.int .i64 8)), none, Q0⟩,
  ⟨some 32, .bin .add (.tmp 24) (.tmp 31), none, Q0⟩,
  ⟨some 3, .mv (.tmp 32), none, Q0⟩] true (some [0, 3, 4])))
  (.reg 4 [⟨some 15, .mv (.tmp 4), none, Q0⟩,
  ⟨some 16, .bin .add (.tmp 15) (.con (.int .i64 1)), none, Q0⟩,
  ⟨some 4, .mv (.tmp 16), none, Q0⟩] false (some [0, 3, 4]))))
def c35_l0 : EC := .loop (some [0, 3, 4]) c35_l0_b
def c35_b : EC := (.seq (.reg 0 [⟨some 2, .mv (.con (.int .i64 0)), none, Q0⟩] false (some [0]))
  (.seq (.reg 1 [⟨some 5, .mv (.tmp 0), none, Q0⟩,
  ⟨some 6, .len false (.tmp 5), none, Q0⟩,
  ⟨some 3, .mv (.tmp 6), none, Q0⟩] false (some [0, 3]))
  (.seq (.seq (.reg 2 [⟨some 4, .mv (.con (.int .i64 0)), none, Q0⟩] false (some [0, 3, 4]))
  (.block 0 c35_l0))
  (.seq (.reg 6 [⟨some 33, .mv (.tmp 3), none, Q0⟩,
  ⟨some 2, .mv (.tmp 33), none, Q0⟩] false (some [2]))
  .ret))))
def c35 : EFn := ⟨1, 34, [.tmp 2], c35_b, none, true⟩
theorem c35_l0_step {E : Env} {fin : Kont (PV × St)} {st : List Fr} {ts : Tmps} {S : St} {n : Nat} : (lvl E (n + 1)).ev c35_l0 ts S (kont E fin st) = (lvl E (n + 1)).ev c35_l0_b (sel (some [0, 3, 4]) ts) S (kont E fin (.again n c35_l0 :: st)) := rfl
theorem c35_l0_w {E : Env} {fin : Kont (PV × St)} {st : List Fw} {ts : Tmps} {S : St} : run E fin st c35_l0 ts S = run E fin (.again c35_l0 :: st) c35_l0_b (sel (some [0, 3, 4]) ts) S := w_loop
theorem c35_l0_a {E : Env} {fin : Kont (PV × St)} {st : List Fw} {ts : Tmps} {S : St} : aft E fin (.again c35_l0 :: st) .normal ts S = run E fin st c35_l0 (sel (some [0, 3, 4]) ts) S := a_again_s
theorem c35_ok : cFn Try.prog Try.f35 = some c35.strip := by kernel_rfl
-- limbeck/limbecklaw04.Much
def c36_r3 : List EI := [⟨some 15, .mv (.tmp 4), none, Q0⟩,
  ⟨some 16, .fA 3 (.tmp 1), none, Q0⟩,
  ⟨some 17, .ld none (.tmp 16), none, Q0⟩,
  ⟨some 18, .len false (.tmp 17), none, Q0⟩,
  ⟨some 19, .bin .lss (.tmp 15) (.tmp 18), none, Q0⟩,
  ⟨some 20, .mv (.tmp 19), none, Q0⟩,
  ⟨some 21, .mv (.tmp 4), some (20, true), Q0⟩,
  ⟨some 22, .bin .lss (.tmp 21) (.con (.int .i64 1000)), some (20, true), Q0⟩,
  ⟨some 23, .pick (.tmp 20) (.tmp 22) (.con (.bool false)), none, Q0⟩]
def c36_r7 : List EI := [⟨some 35, .mv (.tmp 5), none, Q0⟩,
  ⟨some 36, .fA 4 (.tmp 1), none, Q0⟩,
  ⟨some 37, .ld none (.tmp 36), none, Q0⟩,
  ⟨some 38, .len false (.tmp 37), none, Q0⟩,
  ⟨some 39, .bin .lss (.tmp 35) (.tmp 38), none, Q0⟩,
  ⟨some 40, .mv (.tmp 39), none, Q0⟩,
  ⟨some 41, .mv (.tmp 3), some (40, true), Q0⟩,
  ⟨some 42, .bin .lss (.tmp 41) (.con (.int .i64 3000)), some (40, true), Q0⟩,
  ⟨some 43, .pick (.tmp 40) (.tmp 42) (.con (.bool false)), none, Q0⟩]
def c36_l0_b : EC := (.seq (.seq (.reg 3 c36_r3 false (some [1, 3, 4, 23]))
  (.cond (.tmp 23) .skip (.exit 0)))
  (.seq (.block 1 (.reg 5 [⟨some 26, .mv (.tmp 3), none, Q0⟩,
  ⟨some 27, .fA 3 (.tmp 1), none, Q0⟩,
  ⟨some 28, .ld none (.tmp 27), none, Q0⟩,
  ⟨some 29, .mv (.tmp 4), none, Q0⟩,
  ⟨some 30, .ixL 1 (.tmp 28) (.tmp 29), none, Q0⟩,
  ⟨some 31, .ld none (.tmp 30), none, Q0⟩,
  ⟨some 32, .len true (.tmp 31), none, Q0⟩,
  ⟨some 33, .bin .quo (.tmp 32) (.con (.int .i64 8)), none, Q0⟩,
  ⟨some 34, .bin .add (.tmp 26) (.tmp 33), none, Q0⟩,
  ⟨some 3, .mv (.tmp 34), none, Q0⟩] false (some [1, 3, 4])))
  (.reg 4 [⟨some 24, .mv (.tmp 4), none, Q0⟩,
  ⟨some 25, .bin .add (.tmp 24) (.con (.int .i64 1)), none, Q0⟩,
  ⟨some 4, .mv (.tmp 25), none, Q0⟩] false (some [1, 3, 4]))))
def c36_l0 : EC := .loop (some [1, 3, 4]) c36_l0_b
def c36_l1_b : EC := (.seq (.seq (.reg 7 c36_r7 false (some [1, 3, 5, 43]))
  (.cond (.tmp 43) .skip (.exit 2)))
  (.seq (.block 3 (.reg 9 [⟨some 46, .mv (.tmp 3), none, Q0⟩,
  ⟨some 47, .fA 4 (.tmp 1), none, Q0⟩,
  ⟨some 48, .ld none (.tmp 47), none, Q0⟩,
  ⟨some 49, .mv (.tmp 5), none, Q0⟩,
  ⟨some 50, .ixL 5 (.tmp 48) (.tmp 49), none, Q0⟩,
  ⟨some 51, .ld (some 5) (.tmp 50), none, Q0⟩,
  ⟨some 52, .call (.con (.fn 36 [] [])) [(.tmp 51)], none, Q0⟩,
  ⟨some 53, .bin .add (.tmp 46) (.tmp 52), none, Q0⟩,
  ⟨some 3, .mv (.tmp 53), none, Q0⟩] false (some [1, 3, 5])))
  (.reg 8 [⟨some 44, .mv (.tmp 5), none, Q0⟩,
  ⟨some 45, .bin .add (.tmp 44) (.con (.int .i64 1)), none, Q0⟩,
  ⟨some 5, .mv (.tmp 45), none, Q0⟩] false (some [1, 3, 5]))))
def c36_l1 : EC := .loop (some [1, 3, 5]) c36_l1_b
def c36_b : EC := (.seq (.reg 0 [⟨some 1, .boxI 33 (.tmp 0), none, Q0⟩,
  ⟨some 2, .mv (.con (.int .i64 0)), none, Q0⟩] false (some [1]))
  (.seq (.reg 1 [⟨some 6, .fA 2 (.tmp 1), none, Q0⟩,
  ⟨some 7, .ld none (.tmp 6), none, Q0⟩,
  ⟨some 8, .len true (.tmp 7), none, Q0⟩,
  ⟨some 9, .bin .quo (.tmp 8) (.con (.int .i64 8)), none, Q0⟩,
  ⟨some 10, .bin .add (.con (.int .i64 1)) (.tmp 9), none, Q0⟩,
  ⟨some 11, .fA 3 (.tmp 1), none, Q0⟩,
  ⟨some 12, .ld none (.tmp 11), none, Q0⟩,
  ⟨some 13, .len false (.tmp 12), none, Q0⟩,
  ⟨some 14, .bin .add (.tmp 10) (.tmp 13), none, Q0⟩,
  ⟨some 3, .mv (.tmp 14), none, Q0⟩] false (some [1, 3]))
  (.seq (.seq (.reg 2 [⟨some 4, .mv (.con (.int .i64 0)), none, Q0⟩] false (some [1, 3, 4]))
  (.block 0 c36_l0))
  (.seq (.seq (.reg 6 [⟨some 5, .mv (.con (.int .i64 0)), none, Q0⟩] false (some [1, 3, 5]))
  (.block 2 c36_l1))
  (.seq (.reg 10 [⟨some 54, .mv (.tmp 3), none, Q0⟩,
  ⟨some 2, .mv (.tmp 54), none, Q0⟩] false (some [2]))
  .ret)))))
def c36 : EFn := ⟨1, 55, [.tmp 2], c36_b, none, true⟩
theorem c36_l0_step {E : Env} {fin : Kont (PV × St)} {st : List Fr} {ts : Tmps} {S : St} {n : Nat} : (lvl E (n + 1)).ev c36_l0 ts S (kont E fin st) = (lvl E (n + 1)).ev c36_l0_b (sel (some [1, 3, 4]) ts) S (kont E fin (.again n c36_l0 :: st)) := rfl
theorem c36_l0_w {E : Env} {fin : Kont (PV × St)} {st : List Fw} {ts : Tmps} {S : St} : run E fin st c36_l0 ts S = run E fin (.again c36_l0 :: st) c36_l0_b (sel (some [1, 3, 4]) ts) S := w_loop
theorem c36_l0_a {E : Env} {fin : Kont (PV × St)} {st : List Fw} {ts : Tmps} {S : St} : aft E fin (.again c36_l0 :: st) .normal ts S = run E fin st c36_l0 (sel (some [1, 3, 4]) ts) S := a_again_s
theorem c36_l1_step {E : Env} {fin : Kont (PV × St)} {st : List Fr} {ts : Tmps} {S : St} {n : Nat} : (lvl E (n + 1)).ev c36_l1 ts S (kont E fin st) = (lvl E (n + 1)).ev c36_l1_b (sel (some [1, 3, 5]) ts) S (kont E fin (.again n c36_l1 :: st)) := rfl
theorem c36_l1_w {E : Env} {fin : Kont (PV × St)} {st : List Fw} {ts : Tmps} {S : St} : run E fin st c36_l1 ts S = run E fin (.again c36_l1 :: st) c36_l1_b (sel (some [1, 3, 5]) ts) S := w_loop
theorem c36_l1_a {E : Env} {fin : Kont (PV × St)} {st : List Fw} {ts : Tmps} {S : St} : aft E fin (.again c36_l1 :: st) .normal ts S = run E fin st c36_l1 (sel (some [1, 3, 5]) ts) S := a_again_s
theorem c36_ok : cFn Try.prog Try.f36 = some c36.strip := by kernel_rfl
-- limbeck/limbeckref14.Def
def c37_r1 : List EI := [⟨some 5, .fA 0 (.tmp 1), none, Q0⟩,
  ⟨some 6, .ld (some 8) (.tmp 5), none, Q0⟩,
  ⟨some 7, .call (.con (.fn 52 [] [])) [(.tmp 6)], none, Q0⟩,
  ⟨some 8, .un .not (.tmp 7), none, Q0⟩,
  ⟨some 9, .mv (.tmp 8), none, Q0⟩,
  ⟨some 10, .fA 8 (.tmp 1), some (9, false), Q0⟩,
  ⟨some 11, .ld (some 7) (.tmp 10), some (9, false), Q0⟩,
  ⟨some 12, .call (.con (.fn 53 [] [])) [(.tmp 11)], some (9, false), Q0⟩,
  ⟨some 13, .un .not (.tmp 12), some (9, false), Q0⟩,
  ⟨some 14, .pick (.tmp 9) (.con (.bool true)) (.tmp 13), none, Q0⟩]
def c37_r4 : List EI := [⟨some 20, .mv (.tmp 3), none, Q0⟩,
  ⟨some 21, .bin .leq (.tmp 20) (.con (.int .i64 240)), none, Q0⟩,
  ⟨some 22, .mv (.tmp 21), none, Q0⟩,
  ⟨some 23, .mv (.tmp 4), some (22, true), Q0⟩,
  ⟨some 24, .bin .leq (.tmp 23) (.con (.int .i64 40)), some (22, true), Q0⟩,
  ⟨some 25, .pick (.tmp 22) (.tmp 24) (.con (.bool false)), none, Q0⟩,
  ⟨some 2, .mv (.tmp 25), none, Q0⟩]
def c37_b : EC := (.seq (.reg 0 [⟨some 1, .boxI 40 (.tmp 0), none, Q0⟩,
  ⟨some 2, .mv (.con (.bool false)), none, Q0⟩] false (some [1]))
  (.seq (.seq (.reg 1 c37_r1 false (some [1, 14]))
  (.cond (.tmp 14) (.seq (.reg 2 [⟨some 2, .mv (.con (.bool false)), none, Q0⟩] false (some [2]))
  .ret) .skip))
  (.seq (.reg 3 [⟨some 16, .ld (some 15) (.tmp 1), none, Q0⟩,
  ⟨some 17, .call (.con (.fn 54 [] [])) [(.tmp 16)], none, Q0⟩,
  ⟨some 15, .mv (.tmp 17), none, Q0⟩,
  ⟨some 18, .ext (.tmp 15) 0, none, Q0⟩,
  ⟨some 19, .ext (.tmp 15) 1, none, Q0⟩,
  ⟨some 3, .mv (.tmp 18), none, Q0⟩,
  ⟨some 4, .mv (.tmp 19), none, Q0⟩] false (some [3, 4]))
  (.seq (.reg 4 c37_r4 false (some [2]))
  .ret))))
def c37 : EFn := ⟨1, 26, [.tmp 2], c37_b, none, true⟩
theorem c37_ok : cFn Try.prog Try.f37 = some c37.strip := by kernel_rfl
-- limbeck/limbeckref09.Same
def c38_r4 : List EI := [⟨some 11, .mv (.tmp 5), none, Q0⟩,
  ⟨some 12, .mv (.tmp 0), none, Q0⟩,
  ⟨some 13, .len false (.tmp 12), none, Q0⟩,
  ⟨some 14, .bin .lss (.tmp 11) (.tmp 13), none, Q0⟩,
  ⟨some 15, .mv (.tmp 14), none, Q0⟩,
  ⟨some 16, .mv (.tmp 5), some (15, true), Q0⟩,
  ⟨some 17, .mv (.tmp 1), some (15, true), Q0⟩,
  ⟨some 18, .len false (.tmp 17), some (15, true), Q0⟩,
  ⟨some 19, .bin .lss (.tmp 16) (.tmp 18), some (15, true), Q0⟩,
  ⟨some 20, .pick (.tmp 15) (.tmp 19) (.con (.bool false)), none, Q0⟩]
def c38_r6 : List EI := [⟨some 23, .mv (.tmp 0), none, ⟨.no, false⟩⟩,
  ⟨some 24, .mv (.tmp 5), none, ⟨.no, false⟩⟩,
  ⟨some 25, .ixL 6 (.tmp 23) (.tmp 24), none, ⟨.no, false⟩⟩,
  ⟨some 26, .fA 0 (.tmp 25), none, ⟨.no, false⟩⟩,
  ⟨some 27, .ld none (.tmp 26), none, ⟨.still, false⟩⟩,
  ⟨some 28, .mv (.tmp 1), none, ⟨.no, false⟩⟩,
  ⟨some 29, .mv (.tmp 5), none, Q0⟩,
  ⟨some 30, .ixL 6 (.tmp 28) (.tmp 29), none, Q0⟩,
  ⟨some 31, .fA 0 (.tmp 30), none, Q0⟩,
  ⟨some 32, .ld none (.tmp 31), none, Q1⟩,
  ⟨some 33, .bin .neq (.tmp 27) (.tmp 32), none, Q0⟩,
  ⟨some 34, .mv (.tmp 33), none, Q0⟩,
  ⟨some 35, .mv (.tmp 0), some (34, false), ⟨.no, false⟩⟩,
  ⟨some 36, .mv (.tmp 5), some (34, false), ⟨.no, false⟩⟩,
  ⟨some 37, .ixL 6 (.tmp 35) (.tmp 36), some (34, false), ⟨.no, false⟩⟩,
  ⟨some 38, .fA 1 (.tmp 37), some (34, false), ⟨.no, false⟩⟩,
  ⟨some 39, .ld (some 5) (.tmp 38), some (34, false), ⟨.still, false⟩⟩,
  ⟨some 40, .mv (.tmp 1), some (34, false), ⟨.no, false⟩⟩,
  ⟨some 41, .mv (.tmp 5), some (34, false), Q0⟩,
  ⟨some 42, .ixL 6 (.tmp 40) (.tmp 41), some (34, false), Q0⟩,
  ⟨some 43, .fA 1 (.tmp 42), some (34, false), Q0⟩,
  ⟨some 44, .ld (some 5) (.tmp 43), some (34, false), Q1⟩,
  ⟨some 45, .call (.con (.fn 39 [] [])) [(.tmp 39), (.tmp 44)], some (34, false), Q0⟩,
  ⟨some 46, .un .not (.tmp 45), some (34, false), Q0⟩,
  ⟨some 47, .pick (.tmp 34) (.con (.bool true)) (.tmp 46), none, Q0⟩]
def c38_l0_b : EC := (.seq (.seq (.reg 4 c38_r4 false (some [0, 1, 5, 20]))
  (.cond (.tmp 20) .skip (.exit 0)))
  (.seq (.block 1 (.seq (.reg 6 c38_r6 true (some [0, 1, 5, 47]))
  (.cond (.tmp 47) (.seq (.reg 7 [⟨some 4, .mv (.con (.bool false)), none, Q0⟩] false (some [4]))
  .ret) .skip)))
  (.reg 5 [⟨some 21, .mv (.tmp 5), none, Q0⟩,
  ⟨some 22, .bin .add (.tmp 21) (.con (.int .i64 1)), none, Q0⟩,
  ⟨some 5, .mv (.tmp 22), none, Q0⟩] false (some [0, 1, 5]))))
def c38_l0 : EC := .loop (some [0, 1, 5]) c38_l0_b
def c38_b : EC := (.seq (.reg 0 [⟨some 4, .mv (.con (.bool false)), none, Q0⟩] false (some [0, 1]))
  (.seq (.seq (.reg 1 [⟨some 6, .mv (.tmp 0), none, Q0⟩,
  ⟨some 7, .len false (.tmp 6), none, Q0⟩,
  ⟨some 8, .mv (.tmp 1), none, Q0⟩,
  ⟨some 9, .len false (.tmp 8), none, Q0⟩,
  ⟨some 10, .bin .neq (.tmp 7) (.tmp 9), none, Q0⟩] false (some [0, 1, 10]))
  (.cond (.tmp 10) (.seq (.reg 2 [⟨some 4, .mv (.con (.bool false)), none, Q0⟩] false (some [4]))
  .ret) .skip))
  (.seq (.seq (.reg 3 [⟨some 5, .mv (.con (.int .i64 0)), none, Q0⟩] false (some [0, 1, 5]))
  (.block 0 c38_l0))
  (.seq (.reg 8 [⟨some 4, .mv (.con (.bool true)), none, Q0⟩] false (some [4]))
  .ret))))
def c38 : EFn := ⟨2, 48, [.tmp 4], c38_b, none, true⟩
theorem c38_l0_step {E : Env} {fin : Kont (PV × St)} {st : List Fr} {ts : Tmps} {S : St} {n : Nat} : (lvl E (n + 1)).ev c38_l0 ts S (kont E fin st) = (lvl E (n + 1)).ev c38_l0_b (sel (some [0, 1, 5]) ts) S (kont E fin (.again n c38_l0 :: st)) := rfl
theorem c38_l0_w {E : Env} {fin : Kont (PV × St)} {st : List Fw} {ts : Tmps} {S : St} : run E fin st c38_l0 ts S = run E fin (.again c38_l0 :: st) c38_l0_b (sel (some [0, 1, 5]) ts) S := w_loop
theorem c38_l0_a {E : Env} {fin : Kont (PV × St)} {st : List Fw} {ts : Tmps} {S : St} : aft E fin (.again c38_l0 :: st) .normal ts S = run E fin st c38_l0 (sel (some [0, 1, 5]) ts) S := a_again_s
theorem c38_ok : cFn Try.prog Try.f38 = some c38.strip := by kernel_rfl
-- limbeck/limbeckref04.Same
def c39_r1 : List EI := [⟨some 6, .fA 0 (.tmp 2), none, Q0⟩,
  ⟨some 7, .ld none (.tmp 6), none, Q0⟩,
  ⟨some 8, .fA 0 (.tmp 3), none, Q0⟩,
  ⟨some 9, .ld none (.tmp 8), none, Q0⟩,
  ⟨some 10, .bin .neq (.tmp 7) (.tmp 9), none, Q0⟩,
  ⟨some 11, .mv (.tmp 10), none, Q0⟩,
  ⟨some 12, .fA 1 (.tmp 2), some (11, false), Q0⟩,
  ⟨some 13, .ld none (.tmp 12), some (11, false), Q0⟩,
  ⟨some 14, .fA 1 (.tmp 3), some (11, false), Q0⟩,
  ⟨some 15, .ld none (.tmp 14), some (11, false), Q0⟩,
  ⟨some 16, .bin .neq (.tmp 13) (.tmp 15), some (11, false), Q0⟩,
  ⟨some 17, .pick (.tmp 11) (.con (.bool true)) (.tmp 16), none, Q0⟩,
  ⟨some 18, .mv (.tmp 17), none, Q0⟩,
  ⟨some 19, .fA 2 (.tmp 2), some (18, false), Q0⟩,
  ⟨some 20, .ld none (.tmp 19), some (18, false), Q0⟩,
  ⟨some 21, .fA 2 (.tmp 3), some (18, false), Q0⟩,
  ⟨some 22, .ld none (.tmp 21), some (18, false), Q0⟩,
  ⟨some 23, .bin .neq (.tmp 20) (.tmp 22), some (18, false), Q0⟩,
  ⟨some 24, .pick (.tmp 18) (.con (.bool true)) (.tmp 23), none, Q0⟩,
  ⟨some 25, .mv (.tmp 24), none, Q0⟩,
  ⟨some 26, .fA 3 (.tmp 2), some (25, false), Q0⟩,
  ⟨some 27, .ld none (.tmp 26), some (25, false), Q0⟩,
  ⟨some 28, .fA 3 (.tmp 3), some (25, false), Q0⟩,
  ⟨some 29, .ld none (.tmp 28), some (25, false), Q0⟩,
  ⟨some 30, .call (.con (.fn 8 [] [])) [(.tmp 27), (.tmp 29)], some (25, false), Q0⟩,
  ⟨some 31, .un .not (.tmp 30), some (25, false), Q0⟩,
  ⟨some 32, .pick (.tmp 25) (.con (.bool true)) (.tmp 31), none, Q0⟩,
  ⟨some 33, .mv (.tmp 32), none, Q0⟩,
  ⟨some 34, .fA 4 (.tmp 2), some (33, false), Q0⟩,
  ⟨some 35, .ld none (.tmp 34), some (33, false), Q0⟩,
  ⟨some 36, .len false (.tmp 35), some (33, false), Q0⟩,
  ⟨some 37, .fA 4 (.tmp 3), some (33, false), Q0⟩,
  ⟨some 38, .ld none (.tmp 37), some (33, false), Q0⟩,
  ⟨some 39, .len false (.tmp 38), some (33, false), Q0⟩,
  ⟨some 40, .bin .neq (.tmp 36) (.tmp 39), some (33, false), Q0⟩,
  ⟨some 41, .pick (.tmp 33) (.con (.bool true)) (.tmp 40), none, Q0⟩]
def c39_r4 : List EI := [⟨some 42, .mv (.tmp 5), none, Q0⟩,
  ⟨some 43, .fA 4 (.tmp 2), none, Q0⟩,
  ⟨some 44, .ld none (.tmp 43), none, Q0⟩,
  ⟨some 45, .len false (.tmp 44), none, Q0⟩,
  ⟨some 46, .bin .lss (.tmp 42) (.tmp 45), none, Q0⟩,
  ⟨some 47, .mv (.tmp 46), none, Q0⟩,
  ⟨some 48, .mv (.tmp 5), some (47, true), Q0⟩,
  ⟨some 49, .fA 4 (.tmp 3), some (47, true), Q0⟩,
  ⟨some 50, .ld none (.tmp 49), some (47, true), Q0⟩,
  ⟨some 51, .len false (.tmp 50), some (47, true), Q0⟩,
  ⟨some 52, .bin .lss (.tmp 48) (.tmp 51), some (47, true), Q0⟩,
  ⟨some 53, .pick (.tmp 47) (.tmp 52) (.con (.bool false)), none, Q0⟩]
def c39_l0_b : EC := (.seq (.seq (.reg 4 c39_r4 false (some [2, 3, 5, 53]))
  (.cond (.tmp 53) .skip (.exit 0)))
  (.seq (.block 1 (.seq (.reg 6 [⟨some 56, .fA 4 (.tmp 2), none, ⟨.no, false⟩⟩,
  ⟨some 57, .ld none (.tmp 56), none, ⟨.still, false⟩⟩,
  ⟨some 58, .mv (.tmp 5), none, ⟨.no, false⟩⟩,
  ⟨some 59, .ixL 5 (.tmp 57) (.tmp 58), none, ⟨.no, false⟩⟩,
  ⟨some 60, .ld (some 5) (.tmp 59), none, ⟨.still, false⟩⟩,
  ⟨some 61, .fA 4 (.tmp 3), none, ⟨.no, false⟩⟩,
  ⟨some 62, .ld none (.tmp 61), none, ⟨.still, false⟩⟩,
  ⟨some 63, .mv (.tmp 5), none, Q0⟩,
  ⟨some 64, .ixL 5 (.tmp 62) (.tmp 63), none, Q0⟩,
  ⟨some 65, .ld (some 5) (.tmp 64), none, Q1⟩,
  ⟨some 66, .call (.con (.fn 39 [] [])) [(.tmp 60), (.tmp 65)], none, Q0⟩,
  ⟨some 67, .un .not (.tmp 66), none, Q0⟩] true (some [2, 3, 5, 67]))
  (.cond (.tmp 67) (.seq (.reg 7 [⟨some 4, .mv (.con (.bool false)), none, Q0⟩] false (some [4]))
  .ret) .skip)))
  (.reg 5 [⟨some 54, .mv (.tmp 5), none, Q0⟩,
  ⟨some 55, .bin .add (.tmp 54) (.con (.int .i64 1)), none, Q0⟩,
  ⟨some 5, .mv (.tmp 55), none, Q0⟩] false (some [2, 3, 5]))))
def c39_l0 : EC := .loop (some [2, 3, 5]) c39_l0_b
def c39_b : EC := (.seq (.reg 0 [⟨some 2, .boxI 33 (.tmp 0), none, Q0⟩,
  ⟨some 3, .boxI 33 (.tmp 1), none, Q0⟩,
  ⟨some 4, .mv (.con (.bool false)), none, Q0⟩] false (some [2, 3]))
  (.seq (.seq (.reg 1 c39_r1 false (some [2, 3, 41]))
  (.cond (.tmp 41) (.seq (.reg 2 [⟨some 4, .mv (.con (.bool false)), none, Q0⟩] false (some [4]))
  .ret) .skip))
  (.seq (.seq (.reg 3 [⟨some 5, .mv (.con (.int .i64 0)), none, Q0⟩] false (some [2, 3, 5]))
  (.block 0 c39_l0))
  (.seq (.reg 8 [⟨some 4, .mv (.con (.bool true)), none, Q0⟩] false (some [4]))
  .ret))))
def c39 : EFn := ⟨2, 68, [.tmp 4], c39_b, none, true⟩
theorem c39_l0_step {E : Env} {fin : Kont (PV × St)} {st : List Fr} {ts : Tmps} {S : St} {n : Nat} : (lvl E (n + 1)).ev c39_l0 ts S (kont E fin st) = (lvl E (n + 1)).ev c39_l0_b (sel (some [2, 3, 5]) ts) S (kont E fin (.again n c39_l0 :: st)) := rfl
theorem c39_l0_w {E : Env} {fin : Kont (PV × St)} {st : List Fw} {ts : Tmps} {S : St} : run E fin st c39_l0 ts S = run E fin (.again c39_l0 :: st) c39_l0_b (sel (some [2, 3, 5]) ts) S := w_loop
theorem c39_l0_a {E : Env} {fin : Kont (PV × St)} {st : List Fw} {ts : Tmps} {S : St} : aft E fin (.again c39_l0 :: st) .normal ts S = run E fin st c39_l0 (sel (some [2, 3, 5]) ts) S := a_again_s
theorem c39_ok : cFn Try.prog Try.f39 = some c39.strip := by kernel_rfl
-- limbeck/limbeckref14.Same
def c40_r1 : List EI := [⟨some 6, .fA 0 (.tmp 2), none, Q0⟩,
  ⟨some 7, .ld none (.tmp 6), none, Q0⟩,
  ⟨some 8, .fA 0 (.tmp 3), none, Q0⟩,
  ⟨some 9, .ld none (.tmp 8), none, Q0⟩,
  ⟨some 10, .bin .neq (.tmp 7) (.tmp 9), none, Q0⟩,
  ⟨some 11, .mv (.tmp 10), none, Q0⟩,
  ⟨some 12, .fA 1 (.tmp 2), some (11, false), Q0⟩,
  ⟨some 13, .ld none (.tmp 12), some (11, false), Q0⟩,
  ⟨some 14, .fA 1 (.tmp 3), some (11, false), Q0⟩,
  ⟨some 15, .ld none (.tmp 14), some (11, false), Q0⟩,
  ⟨some 16, .bin .neq (.tmp 13) (.tmp 15), some (11, false), Q0⟩,
  ⟨some 17, .pick (.tmp 11) (.con (.bool true)) (.tmp 16), none, Q0⟩,
  ⟨some 18, .mv (.tmp 17), none, Q0⟩,
  ⟨some 19, .fA 2 (.tmp 2), some (18, false), Q0⟩,
  ⟨some 20, .ld none (.tmp 19), some (18, false), Q0⟩,
  ⟨some 21, .fA 2 (.tmp 3), some (18, false), Q0⟩,
  ⟨some 22, .ld none (.tmp 21), some (18, false), Q0⟩,
  ⟨some 23, .bin .neq (.tmp 20) (.tmp 22), some (18, false), Q0⟩,
  ⟨some 24, .pick (.tmp 18) (.con (.bool true)) (.tmp 23), none, Q0⟩,
  ⟨some 25, .mv (.tmp 24), none, Q0⟩,
  ⟨some 26, .fA 3 (.tmp 2), some (25, false), Q0⟩,
  ⟨some 27, .ld none (.tmp 26), some (25, false), Q0⟩,
  ⟨some 28, .fA 3 (.tmp 3), some (25, false), Q0⟩,
  ⟨some 29, .ld none (.tmp 28), some (25, false), Q0⟩,
  ⟨some 30, .eqB true (.tmp 27) (.tmp 29), some (25, false), Q0⟩,
  ⟨some 31, .pick (.tmp 25) (.con (.bool true)) (.tmp 30), none, Q0⟩,
  ⟨some 32, .mv (.tmp 31), none, Q0⟩,
  ⟨some 33, .fA 4 (.tmp 2), some (32, false), Q0⟩,
  ⟨some 34, .ld none (.tmp 33), some (32, false), Q0⟩,
  ⟨some 35, .fA 4 (.tmp 3), some (32, false), Q0⟩,
  ⟨some 36, .ld none (.tmp 35), some (32, false), Q0⟩,
  ⟨some 37, .call (.con (.fn 55 [] [])) [(.tmp 34), (.tmp 36)], some (32, false), Q0⟩,
  ⟨some 38, .un .not (.tmp 37), some (32, false), Q0⟩,
  ⟨some 39, .pick (.tmp 32) (.con (.bool true)) (.tmp 38), none, Q0⟩,
  ⟨some 40, .mv (.tmp 39), none, Q0⟩,
  ⟨some 41, .fA 5 (.tmp 2), some (40, false), Q0⟩,
  ⟨some 42, .ld none (.tmp 41), some (40, false), Q0⟩,
  ⟨some 43, .fA 5 (.tmp 3), some (40, false), Q0⟩,
  ⟨some 44, .ld none (.tmp 43), some (40, false), Q0⟩,
  ⟨some 45, .call (.con (.fn 8 [] [])) [(.tmp 42), (.tmp 44)], some (40, false), Q0⟩,
  ⟨some 46, .un .not (.tmp 45), some (40, false), Q0⟩,
  ⟨some 47, .pick (.tmp 40) (.con (.bool true)) (.tmp 46), none, Q0⟩,
  ⟨some 48, .mv (.tmp 47), none, Q0⟩,
  ⟨some 49, .fA 6 (.tmp 2), some (48, false), Q0⟩,
  ⟨some 50, .ld none (.tmp 49), some (48, false), Q0⟩,
  ⟨some 51, .len false (.tmp 50), some (48, false), Q0⟩,
  ⟨some 52, .fA 6 (.tmp 3), some (48, false), Q0⟩,
  ⟨some 53, .ld none (.tmp 52), some (48, false), Q0⟩,
  ⟨some 54, .len false (.tmp 53), some (48, false), Q0⟩,
  ⟨some 55, .bin .neq (.tmp 51) (.tmp 54), some (48, false), Q0⟩,
  ⟨some 56, .pick (.tmp 48) (.con (.bool true)) (.tmp 55), none, Q0⟩]
def c40_r4 : List EI := [⟨some 57, .mv (.tmp 5), none, Q0⟩,
  ⟨some 58, .fA 6 (.tmp 2), none, Q0⟩,
  ⟨some 59, .ld none (.tmp 58), none, Q0⟩,
  ⟨some 60, .len false (.tmp 59), none, Q0⟩,
  ⟨some 61, .bin .lss (.tmp 57) (.tmp 60), none, Q0⟩,
  ⟨some 62, .mv (.tmp 61), none, Q0⟩,
  ⟨some 63, .mv (.tmp 5), some (62, true), Q0⟩,
  ⟨some 64, .fA 6 (.tmp 3), some (62, true), Q0⟩,
  ⟨some 65, .ld none (.tmp 64), some (62, true), Q0⟩,
  ⟨some 66, .len false (.tmp 65), some (62, true), Q0⟩,
  ⟨some 67, .bin .lss (.tmp 63) (.tmp 66), some (62, true), Q0⟩,
  ⟨some 68, .pick (.tmp 62) (.tmp 67) (.con (.bool false)), none, Q0⟩]
def c40_l0_b : EC := (.seq (.seq (.reg 4 c40_r4 false (some [2, 3, 5, 68]))
  (.cond (.tmp 68) .skip (.exit 0)))
  (.seq (.block 1 (.seq (.reg 6 [⟨some 71, .fA 6 (.tmp 2), none, ⟨.no, false⟩⟩,
  ⟨some 72, .ld none (.tmp 71), none, ⟨.still, false⟩⟩,
  ⟨some 73, .mv (.tmp 5), none, ⟨.no, false⟩⟩,
  ⟨some 74, .ixL 7 (.tmp 72) (.tmp 73), none, ⟨.no, false⟩⟩,
  ⟨some 75, .ld (some 7) (.tmp 74), none, ⟨.still, false⟩⟩,
  ⟨some 76, .fA 6 (.tmp 3), none, ⟨.no, false⟩⟩,
  ⟨some 77, .ld none (.tmp 76), none, ⟨.still, false⟩⟩,
  ⟨some 78, .mv (.tmp 5), none, Q0⟩,
  ⟨some 79, .ixL 7 (.tmp 77) (.tmp 78), none, Q0⟩,
  ⟨some 80, .ld (some 7) (.tmp 79), none, Q1⟩,
  ⟨some 81, .call (.con (.fn 40 [] [])) [(.tmp 75), (.tmp 80)], none, Q0⟩,
  ⟨some 82, .un .not (.tmp 81), none, Q0⟩] true (some [2, 3, 5, 82]))
  (.cond (.tmp 82) (.seq (.reg 7 [⟨some 4, .mv (.con (.bool false)), none, Q0⟩] false (some [4]))
  .ret) .skip)))
  (.reg 5 [⟨some 69, .mv (.tmp 5), none, Q0⟩,
  ⟨some 70, .bin .add (.tmp 69) (.con (.int .i64 1)), none, Q0⟩,
  ⟨some 5, .mv (.tmp 70), none, Q0⟩] false (some [2, 3, 5]))))
def c40_l0 : EC := .loop (some [2, 3, 5]) c40_l0_b
def c40_b : EC := (.seq (.reg 0 [⟨some 2, .boxI 38 (.tmp 0), none, Q0⟩,
  ⟨some 3, .boxI 38 (.tmp 1), none, Q0⟩,
  ⟨some 4, .mv (.con (.bool false)), none, Q0⟩] false (some [2, 3]))
  (.seq (.seq (.reg 1 c40_r1 false (some [2, 3, 56]))
  (.cond (.tmp 56) (.seq (.reg 2 [⟨some 4, .mv (.con (.bool false)), none, Q0⟩] false (some [4]))
  .ret) .skip))
  (.seq (.seq (.reg 3 [⟨some 5, .mv (.con (.int .i64 0)), none, Q0⟩] false (some [2, 3, 5]))
  (.block 0 c40_l0))
  (.seq (.reg 8 [⟨some 4, .mv (.con (.bool true)), none, Q0⟩] false (some [4]))
  .ret))))
def c40 : EFn := ⟨2, 83, [.tmp 4], c40_b, none, true⟩
theorem c40_l0_step {E : Env} {fin : Kont (PV × St)} {st : List Fr} {ts : Tmps} {S : St} {n : Nat} : (lvl E (n + 1)).ev c40_l0 ts S (kont E fin st) = (lvl E (n + 1)).ev c40_l0_b (sel (some [2, 3, 5]) ts) S (kont E fin (.again n c40_l0 :: st)) := rfl
theorem c40_l0_w {E : Env} {fin : Kont (PV × St)} {st : List Fw} {ts : Tmps} {S : St} : run E fin st c40_l0 ts S = run E fin (.again c40_l0 :: st) c40_l0_b (sel (some [2, 3, 5]) ts) S := w_loop
theorem c40_l0_a {E : Env} {fin : Kont (PV × St)} {st : List Fw} {ts : Tmps} {S : St} : aft E fin (.again c40_l0 :: st) .normal ts S = run E fin st c40_l0 (sel (some [2, 3, 5]) ts) S := a_again_s
theorem c40_ok : cFn Try.prog Try.f40 = some c40.strip := by kernel_rfl
-- limbeck/prog.place
def c41_b : EC := (.seq (.reg 0 [⟨some 3, .boxI 9 (.tmp 1), none, Q0⟩,
  ⟨some 4, .mv (.con (.int .i64 0)), none, Q0⟩] false (some [0, 3]))
  (.seq (.reg 1 [⟨some 5, .mv (.tmp 0), none, Q0⟩,
  ⟨some 6, .fnv 57 [] [(.tmp 3)], none, Q0⟩,
  ⟨some 7, .call (.con (.fn 56 [] [])) [(.tmp 5), (.tmp 6)], none, Q0⟩,
  ⟨some 4, .mv (.tmp 7), none, Q0⟩] false (some [4]))
  .ret))
def c41 : EFn := ⟨2, 8, [.tmp 4], c41_b, none, true⟩
theorem c41_ok : cFn Try.prog Try.f41 = some c41.strip := by kernel_rfl
-- limbeck/exp.within
def c42_b : EC := (.seq (.reg 0 [⟨some 1, .boxI 38 (.tmp 0), none, Q0⟩,
  ⟨some 2, .mv (.con .nilfn), none, Q0⟩] false (some [1]))
  (.seq (.reg 1 [⟨some 3, .fnv 58 [] [(.tmp 1)], none, Q0⟩,
  ⟨some 2, .mv (.tmp 3), none, Q0⟩] false (some [2]))
  .ret))
def c42 : EFn := ⟨1, 4, [.tmp 2], c42_b, none, true⟩
theorem c42_ok : cFn Try.prog Try.f42 = some c42.strip := by kernel_rfl
-- limbeck/exp.set
def c43_b : EC := (.seq (.reg 0 [⟨some 2, .mv (.con (.sl .null [])), none, Q0⟩] false (some [0]))
  (.seq (.reg 1 [⟨some 3, .mv (.tmp 0), none, Q0⟩,
  ⟨some 4, .call (.con (.fn 29 [] [])) [(.tmp 3)], none, Q0⟩] false (some [0]))
  (.seq (.reg 2 [⟨some 5, .mv (.tmp 0), none, Q0⟩,
  ⟨some 6, .call (.con (.fn 30 [] [])) [(.tmp 5)], none, Q0⟩,
  ⟨some 2, .mv (.tmp 6), none, Q0⟩] false (some [2]))
  .ret)))
def c43 : EFn := ⟨1, 7, [.tmp 2], c43_b, none, true⟩
theorem c43_ok : cFn Try.prog Try.f43 = some c43.strip := by kernel_rfl
-- slices.Index[[]string,string]
def c44_l0_b : EC := (.seq (.reg 2 [⟨some 9, .bin .lss (.tmp 8) (.tmp 7), none, Q0⟩] false (some [0, 1, 7, 8, 9]))
  (.seq (.cond (.tmp 9) .skip (.exit 0))
  (.seq (.block 1 (.seq (.reg 3 [⟨some 10, .mv (.tmp 8), none, Q0⟩,
  ⟨some 5, .mv (.tmp 10), none, Q0⟩] false (some [0, 1, 5, 7, 8]))
  (.seq (.reg 4 [⟨some 11, .mv (.tmp 1), none, Q0⟩,
  ⟨some 12, .mv (.tmp 0), none, Q0⟩,
  ⟨some 13, .mv (.tmp 5), none, Q0⟩,
  ⟨some 14, .ixL 1 (.tmp 12) (.tmp 13), none, Q0⟩,
  ⟨some 15, .ld none (.tmp 14), none, Q0⟩,
  ⟨some 16, .bin .eql (.tmp 11) (.tmp 15), none, Q0⟩] false (some [0, 1, 5, 7, 8, 16]))
  (.cond (.tmp 16) (.seq (.reg 5 [⟨some 17, .mv (.tmp 5), none, Q0⟩,
  ⟨some 4, .mv (.tmp 17), none, Q0⟩] false (some [4]))
  .ret) .skip))))
  (.reg 6 [⟨some 18, .bin .add (.tmp 8) (.con (.int .i64 1)), none, Q0⟩,
  ⟨some 8, .mv (.tmp 18), none, Q0⟩] false (some [0, 1, 7, 8])))))
def c44_l0 : EC := .loop (some [0, 1, 7, 8]) c44_l0_b
def c44_b : EC := (.seq (.reg 0 [⟨some 4, .mv (.con (.int .i64 0)), none, Q0⟩] false (some [0, 1]))
  (.seq (.seq (.reg 1 [⟨some 6, .mv (.tmp 0), none, Q0⟩,
  ⟨some 7, .len false (.tmp 6), none, Q0⟩,
  ⟨some 8, .mv (.con (.int .i64 0)), none, Q0⟩] false (some [0, 1, 7, 8]))
  (.block 0 c44_l0))
  (.seq (.reg 7 [⟨some 4, .mv (.con (.int .i64 (-1))), none, Q0⟩] false (some [4]))
  .ret)))
def c44 : EFn := ⟨2, 19, [.tmp 4], c44_b, none, true⟩
theorem c44_l0_step {E : Env} {fin : Kont (PV × St)} {st : List Fr} {ts : Tmps} {S : St} {n : Nat} : (lvl E (n + 1)).ev c44_l0 ts S (kont E fin st) = (lvl E (n + 1)).ev c44_l0_b (sel (some [0, 1, 7, 8]) ts) S (kont E fin (.again n c44_l0 :: st)) := rfl
theorem c44_l0_w {E : Env} {fin : Kont (PV × St)} {st : List Fw} {ts : Tmps} {S : St} : run E fin st c44_l0 ts S = run E fin (.again c44_l0 :: st) c44_l0_b (sel (some [0, 1, 7, 8]) ts) S := w_loop
theorem c44_l0_a {E : Env} {fin : Kont (PV × St)} {st : List Fw} {ts : Tmps} {S : St} : aft E fin (.again c44_l0 :: st) .normal ts S = run E fin st c44_l0 (sel (some [0, 1, 7, 8]) ts) S := a_again_s
theorem c44_ok : cFn Try.prog Try.f44 = some c44.strip := by kernel_rfl
-- limbeck/exp.SameDef
def c47_r1 : List EI := [⟨some 5, .fA 0 (.tmp 2), none, Q0⟩,
  ⟨some 6, .ld (some 8) (.tmp 5), none, Q0⟩,
  ⟨some 7, .fA 0 (.tmp 3), none, Q0⟩,
  ⟨some 8, .ld (some 8) (.tmp 7), none, Q0⟩,
  ⟨some 9, .call (.con (.fn 71 [] [])) [(.tmp 6), (.tmp 8)], none, Q0⟩,
  ⟨some 10, .mv (.tmp 9), none, Q0⟩,
  ⟨some 11, .fA 8 (.tmp 2), some (10, true), Q0⟩,
  ⟨some 12, .ld (some 7) (.tmp 11), some (10, true), Q0⟩,
  ⟨some 13, .fA 8 (.tmp 3), some (10, true), Q0⟩,
  ⟨some 14, .ld (some 7) (.tmp 13), some (10, true), Q0⟩,
  ⟨some 15, .call (.con (.fn 72 [] [])) [(.tmp 12), (.tmp 14)], some (10, true), Q0⟩,
  ⟨some 16, .pick (.tmp 10) (.tmp 15) (.con (.bool false)), none, Q0⟩,
  ⟨some 4, .mv (.tmp 16), none, Q0⟩]
def c47_b : EC := (.seq (.reg 0 [⟨some 2, .boxI 40 (.tmp 0), none, Q0⟩,
  ⟨some 3, .boxI 40 (.tmp 1), none, Q0⟩,
  ⟨some 4, .mv (.con (.bool false)), none, Q0⟩] false (some [2, 3]))
  (.seq (.reg 1 c47_r1 false (some [4]))
  .ret))
def c47 : EFn := ⟨2, 17, [.tmp 4], c47_b, none, true⟩
theorem c47_ok : cFn Try.prog Try.f47 = some c47.strip := by kernel_rfl
-- slices.ContainsFunc[[]string,string]
def c48_b : EC := (.seq (.reg 0 [⟨some 4, .mv (.con (.bool false)), none, Q0⟩] false (some [0, 1]))
  (.seq (.reg 1 [⟨some 5, .mv (.tmp 0), none, Q0⟩,
  ⟨some 6, .mv (.tmp 1), none, Q0⟩,
  ⟨some 7, .call (.con (.fn 73 [] [])) [(.tmp 5), (.tmp 6)], none, Q0⟩,
  ⟨some 8, .bin .geq (.tmp 7) (.con (.int .i64 0)), none, Q0⟩,
  ⟨some 4, .mv (.tmp 8), none, Q0⟩] false (some [4]))
  .ret))
def c48 : EFn := ⟨2, 9, [.tmp 4], c48_b, none, true⟩
theorem c48_ok : cFn Try.prog Try.f48 = some c48.strip := by kernel_rfl
-- limbeck/deps.stale$1
def c49_b : EC := (.seq (.reg 0 [⟨some 4, .mv (.con (.bool false)), none, Q0⟩] false (some [0, 1, 2]))
  (.seq (.reg 1 [⟨some 5, .ld none (.tmp 1), none, Q0⟩,
  ⟨some 6, .ld none (.tmp 2), none, Q0⟩,
  ⟨some 7, .mv (.tmp 0), none, Q0⟩,
  ⟨some 8, .call (.con (.fn 50 [] [])) [(.tmp 5), (.tmp 6), (.tmp 7)], none, Q0⟩,
  ⟨some 9, .un .not (.tmp 8), none, Q0⟩,
  ⟨some 4, .mv (.tmp 9), none, Q0⟩] false (some [4]))
  .ret))
def c49 : EFn := ⟨3, 10, [.tmp 4], c49_b, none, true⟩
theorem c49_ok : cFn Try.prog Try.f49 = some c49.strip := by kernel_rfl
-- limbeck/deps.promised
def c50_r3 : List EI := [⟨some 23, .mv (.tmp 8), none, Q0⟩,
  ⟨some 24, .mv (.tmp 10), none, Q0⟩,
  ⟨some 25, .eqB false (.tmp 23) (.tmp 24), none, Q0⟩,
  ⟨some 26, .mv (.tmp 25), none, Q0⟩,
  ⟨some 27, .fA 0 (.tmp 7), some (26, true), Q0⟩,
  ⟨some 28, .ld (some 8) (.tmp 27), some (26, true), Q0⟩,
  ⟨some 29, .fA 0 (.tmp 9), some (26, true), Q0⟩,
  ⟨some 30, .ld (some 8) (.tmp 29), some (26, true), Q0⟩,
  ⟨some 31, .call (.con (.fn 71 [] [])) [(.tmp 28), (.tmp 30)], some (26, true), Q0⟩,
  ⟨some 32, .pick (.tmp 26) (.tmp 31) (.con (.bool false)), none, Q0⟩,
  ⟨some 6, .mv (.tmp 32), none, Q0⟩]
def c50_b : EC := (.seq (.reg 0 [⟨some 6, .mv (.con (.bool false)), none, Q0⟩] false (some [0, 1, 2]))
  (.seq (.reg 1 [⟨some 12, .mv (.tmp 0), none, Q0⟩,
  ⟨some 13, .mv (.tmp 2), none, Q0⟩,
  ⟨some 14, .call (.con (.fn 25 [] [])) [(.tmp 12), (.tmp 13)], none, Q0⟩,
  ⟨some 11, .mv (.tmp 14), none, Q0⟩,
  ⟨some 15, .ext (.tmp 11) 0, none, Q0⟩,
  ⟨some 16, .ext (.tmp 11) 1, none, Q0⟩,
  ⟨some 7, .new 40 [(.str ⟨#[]⟩), (.sl .null []), (.sl .null []), (.int .i64 0), (.int .i64 0), (.str ⟨#[]⟩), (.sl .null []), (.sl .null []), (.int .i64 0), (.int .i64 0), (.str ⟨#[]⟩), (.bool false), (.sl .null []), (.sl .null []), (.sl .null [])], none, Q0⟩,
  ⟨none, .st 15 (.tmp 7) (.tmp 15), none, Q0⟩,
  ⟨some 8, .mv (.tmp 16), none, Q0⟩] false (some [1, 2, 7, 8]))
  (.seq (.reg 2 [⟨some 18, .mv (.tmp 1), none, Q0⟩,
  ⟨some 19, .mv (.tmp 2), none, Q0⟩,
  ⟨some 20, .call (.con (.fn 25 [] [])) [(.tmp 18), (.tmp 19)], none, Q0⟩,
  ⟨some 17, .mv (.tmp 20), none, Q0⟩,
  ⟨some 21, .ext (.tmp 17) 0, none, Q0⟩,
  ⟨some 22, .ext (.tmp 17) 1, none, Q0⟩,
  ⟨some 9, .new 40 [(.str ⟨#[]⟩), (.sl .null []), (.sl .null []), (.int .i64 0), (.int .i64 0), (.str ⟨#[]⟩), (.sl .null []), (.sl .null []), (.int .i64 0), (.int .i64 0), (.str ⟨#[]⟩), (.bool false), (.sl .null []), (.sl .null []), (.sl .null [])], none, Q0⟩,
  ⟨none, .st 15 (.tmp 9) (.tmp 21), none, Q0⟩,
  ⟨some 10, .mv (.tmp 22), none, Q0⟩] false (some [7, 8, 9, 10]))
  (.seq (.reg 3 c50_r3 false (some [6]))
  .ret))))
def c50 : EFn := ⟨3, 33, [.tmp 6], c50_b, none, true⟩
theorem c50_ok : cFn Try.prog Try.f50 = some c50.strip := by kernel_rfl
-- limbeck/limbeckref39.sigs
def c51_r3 : List EI := [⟨some 15, .mv (.tmp 7), none, Q0⟩,
  ⟨some 16, .bin .lss (.tmp 15) (.con (.int .i64 0)), none, Q0⟩,
  ⟨some 17, .mv (.tmp 16), none, Q0⟩,
  ⟨some 18, .mv (.tmp 8), some (17, false), Q0⟩,
  ⟨some 19, .bin .lss (.tmp 18) (.con (.int .i64 0)), some (17, false), Q0⟩,
  ⟨some 20, .pick (.tmp 17) (.con (.bool true)) (.tmp 19), none, Q0⟩]
def c51_r4 : List EI := [⟨some 21, .mv (.tmp 7), none, Q0⟩,
  ⟨some 22, .bin .lss (.tmp 21) (.con (.int .i64 0)), none, Q0⟩,
  ⟨some 23, .mv (.tmp 22), none, Q0⟩,
  ⟨some 24, .mv (.tmp 8), some (23, true), Q0⟩,
  ⟨some 25, .bin .lss (.tmp 24) (.con (.int .i64 0)), some (23, true), Q0⟩,
  ⟨some 26, .pick (.tmp 23) (.tmp 25) (.con (.bool false)), none, Q0⟩,
  ⟨some 6, .mv (.tmp 26), none, Q0⟩]
def c51_b : EC := (.seq (.reg 0 [⟨some 6, .mv (.con (.bool false)), none, Q0⟩] false (some [0, 1, 2]))
  (.seq (.reg 1 [⟨some 9, .mv (.tmp 0), none, Q0⟩,
  ⟨some 10, .mv (.tmp 2), none, Q0⟩,
  ⟨some 11, .call (.con (.fn 19 [] [])) [(.tmp 9), (.tmp 10)], none, Q0⟩,
  ⟨some 7, .mv (.tmp 11), none, Q0⟩] false (some [0, 1, 2, 7]))
  (.seq (.reg 2 [⟨some 12, .mv (.tmp 1), none, Q0⟩,
  ⟨some 13, .mv (.tmp 2), none, Q0⟩,
  ⟨some 14, .call (.con (.fn 19 [] [])) [(.tmp 12), (.tmp 13)], none, Q0⟩,
  ⟨some 8, .mv (.tmp 14), none, Q0⟩] false (some [0, 1, 7, 8]))
  (.seq (.seq (.reg 3 c51_r3 false (some [0, 1, 7, 8, 20]))
  (.cond (.tmp 20) (.seq (.reg 4 c51_r4 false (some [6]))
  .ret) .skip))
  (.seq (.reg 5 [⟨some 27, .mv (.tmp 0), none, ⟨.no, false⟩⟩,
  ⟨some 28, .mv (.tmp 7), none, ⟨.no, false⟩⟩,
  ⟨some 29, .ixL 15 (.tmp 27) (.tmp 28), none, ⟨.no, false⟩⟩,
  ⟨some 30, .fA 0 (.tmp 29), none, ⟨.no, false⟩⟩,
  ⟨some 31, .ld (some 8) (.tmp 30), none, ⟨.still, false⟩⟩,
  ⟨some 32, .mv (.tmp 1), none, ⟨.no, false⟩⟩,
  ⟨some 33, .mv (.tmp 8), none, Q0⟩,
  ⟨some 34, .ixL 15 (.tmp 32) (.tmp 33), none, Q0⟩,
  ⟨some 35, .fA 0 (.tmp 34), none, Q0⟩,
  ⟨some 36, .ld (some 8) (.tmp 35), none, Q1⟩,
  ⟨some 37, .call (.con (.fn 21 [] [])) [(.tmp 31), (.tmp 36)], none, Q0⟩,
  ⟨some 6, .mv (.tmp 37), none, Q0⟩] true (some [6]))
  .ret)))))
def c51 : EFn := ⟨3, 38, [.tmp 6], c51_b, none, true⟩
theorem c51_ok : cFn Try.prog Try.f51 = some c51.strip := by kernel_rfl
-- limbeck/limbeckref14.Sig
def c52_r1 : List EI := [⟨some 5, .fA 0 (.tmp 1), none, Q0⟩,
  ⟨some 6, .ld none (.tmp 5), none, Q0⟩,
  ⟨some 7, .call (.con (.fn 74 [] [])) [(.tmp 6)], none, Q0⟩,
  ⟨some 8, .un .not (.tmp 7), none, Q0⟩,
  ⟨some 9, .mv (.tmp 8), none, Q0⟩,
  ⟨some 10, .fA 1 (.tmp 1), some (9, false), Q0⟩,
  ⟨some 11, .ld none (.tmp 10), some (9, false), Q0⟩,
  ⟨some 12, .len false (.tmp 11), some (9, false), Q0⟩,
  ⟨some 13, .bin .gtr (.tmp 12) (.con (.int .i64 3)), some (9, false), Q0⟩,
  ⟨some 14, .pick (.tmp 9) (.con (.bool true)) (.tmp 13), none, Q0⟩,
  ⟨some 15, .mv (.tmp 14), none, Q0⟩,
  ⟨some 16, .fA 2 (.tmp 1), some (15, false), Q0⟩,
  ⟨some 17, .ld none (.tmp 16), some (15, false), Q0⟩,
  ⟨some 18, .len false (.tmp 17), some (15, false), Q0⟩,
  ⟨some 19, .bin .gtr (.tmp 18) (.con (.int .i64 4)), some (15, false), Q0⟩,
  ⟨some 20, .pick (.tmp 15) (.con (.bool true)) (.tmp 19), none, Q0⟩,
  ⟨some 21, .mv (.tmp 20), none, Q0⟩,
  ⟨some 22, .ld (some 8) (.tmp 1), some (21, false), Q0⟩,
  ⟨some 23, .call (.con (.fn 76 [] [])) [(.tmp 22)], some (21, false), Q0⟩,
  ⟨some 24, .call (.con (.fn 75 [] [])) [(.tmp 23)], some (21, false), Q0⟩,
  ⟨some 25, .un .not (.tmp 24), some (21, false), Q0⟩,
  ⟨some 26, .pick (.tmp 21) (.con (.bool true)) (.tmp 25), none, Q0⟩]
def c52_r6 : List EI := [⟨some 34, .fA 1 (.tmp 1), none, ⟨.no, false⟩⟩,
  ⟨some 35, .ld none (.tmp 34), none, ⟨.no, false⟩⟩,
  ⟨some 36, .mv (.tmp 3), none, Q0⟩,
  ⟨some 37, .ixL 6 (.tmp 35) (.tmp 36), none, Q0⟩,
  ⟨some 38, .fA 0 (.tmp 37), none, Q0⟩,
  ⟨some 39, .ld none (.tmp 38), none, Q0⟩,
  ⟨some 40, .call (.con (.fn 77 [] [])) [(.tmp 39)], none, Q0⟩,
  ⟨some 41, .un .not (.tmp 40), none, Q0⟩,
  ⟨some 42, .mv (.tmp 41), none, Q0⟩,
  ⟨some 43, .fA 1 (.tmp 1), some (42, false), ⟨.no, false⟩⟩,
  ⟨some 44, .ld none (.tmp 43), some (42, false), ⟨.still, false⟩⟩,
  ⟨some 45, .mv (.tmp 3), some (42, false), ⟨.no, false⟩⟩,
  ⟨some 46, .slL 6 (.tmp 44) none (some (.tmp 45)) none, some (42, false), ⟨.no, false⟩⟩,
  ⟨some 47, .call (.con (.fn 78 [] [])) [(.tmp 46)], some (42, false), ⟨.still, false⟩⟩,
  ⟨some 48, .fA 1 (.tmp 1), some (42, false), ⟨.no, false⟩⟩,
  ⟨some 49, .ld none (.tmp 48), some (42, false), ⟨.still, false⟩⟩,
  ⟨some 50, .mv (.tmp 3), some (42, false), Q0⟩,
  ⟨some 51, .ixL 6 (.tmp 49) (.tmp 50), some (42, false), Q0⟩,
  ⟨some 52, .fA 0 (.tmp 51), some (42, false), Q0⟩,
  ⟨some 53, .ld none (.tmp 52), some (42, false), Q1⟩,
  ⟨some 54, .call (.con (.fn 23 [] [])) [(.tmp 47), (.tmp 53)], some (42, false), Q0⟩,
  ⟨some 55, .bin .geq (.tmp 54) (.con (.int .i64 0)), some (42, false), Q0⟩,
  ⟨some 56, .pick (.tmp 42) (.con (.bool true)) (.tmp 55), none, Q0⟩]
def c52_r11 : List EI := [⟨some 64, .fA 2 (.tmp 1), none, ⟨.no, false⟩⟩,
  ⟨some 65, .ld none (.tmp 64), none, ⟨.no, false⟩⟩,
  ⟨some 66, .mv (.tmp 4), none, Q0⟩,
  ⟨some 67, .ixL 6 (.tmp 65) (.tmp 66), none, Q0⟩,
  ⟨some 68, .fA 0 (.tmp 67), none, Q0⟩,
  ⟨some 69, .ld none (.tmp 68), none, Q0⟩,
  ⟨some 70, .call (.con (.fn 74 [] [])) [(.tmp 69)], none, Q0⟩,
  ⟨some 71, .un .not (.tmp 70), none, Q0⟩,
  ⟨some 72, .mv (.tmp 71), none, Q0⟩,
  ⟨some 73, .fA 2 (.tmp 1), some (72, false), ⟨.no, false⟩⟩,
  ⟨some 74, .ld none (.tmp 73), some (72, false), ⟨.still, false⟩⟩,
  ⟨some 75, .mv (.tmp 4), some (72, false), ⟨.no, false⟩⟩,
  ⟨some 76, .slL 6 (.tmp 74) none (some (.tmp 75)) none, some (72, false), ⟨.no, false⟩⟩,
  ⟨some 77, .call (.con (.fn 78 [] [])) [(.tmp 76)], some (72, false), ⟨.still, false⟩⟩,
  ⟨some 78, .fA 2 (.tmp 1), some (72, false), ⟨.no, false⟩⟩,
  ⟨some 79, .ld none (.tmp 78), some (72, false), ⟨.still, false⟩⟩,
  ⟨some 80, .mv (.tmp 4), some (72, false), Q0⟩,
  ⟨some 81, .ixL 6 (.tmp 79) (.tmp 80), some (72, false), Q0⟩,
  ⟨some 82, .fA 0 (.tmp 81), some (72, false), Q0⟩,
  ⟨some 83, .ld none (.tmp 82), some (72, false), Q1⟩,
  ⟨some 84, .call (.con (.fn 23 [] [])) [(.tmp 77), (.tmp 83)], some (72, false), Q0⟩,
  ⟨some 85, .bin .geq (.tmp 84) (.con (.int .i64 0)), some (72, false), Q0⟩,
  ⟨some 86, .pick (.tmp 72) (.con (.bool true)) (.tmp 85), none, Q0⟩]
def c52_l0_b : EC := (.seq (.seq (.reg 4 [⟨some 27, .mv (.tmp 3), none, Q0⟩,
  ⟨some 28, .fA 1 (.tmp 1), none, Q0⟩,
  ⟨some 29, .ld none (.tmp 28), none, Q0⟩,
  ⟨some 30, .len false (.tmp 29), none, Q0⟩,
  ⟨some 31, .bin .lss (.tmp 27) (.tmp 30), none, Q0⟩] false (some [1, 3, 31]))
  (.cond (.tmp 31) .skip (.exit 0)))
  (.seq (.block 1 (.seq (.reg 6 c52_r6 true (some [1, 3, 56]))
  (.cond (.tmp 56) (.seq (.reg 7 [⟨some 2, .mv (.con (.bool false)), none, Q0⟩] false (some [2]))
  .ret) .skip)))
  (.reg 5 [⟨some 32, .mv (.tmp 3), none, Q0⟩,
  ⟨some 33, .bin .add (.tmp 32) (.con (.int .i64 1)), none, Q0⟩,
  ⟨some 3, .mv (.tmp 33), none, Q0⟩] false (some [1, 3]))))
def c52_l0 : EC := .loop (some [1, 3]) c52_l0_b
def c52_l1_b : EC := (.seq (.seq (.reg 9 [⟨some 57, .mv (.tmp 4), none, Q0⟩,
  ⟨some 58, .fA 2 (.tmp 1), none, Q0⟩,
  ⟨some 59, .ld none (.tmp 58), none, Q0⟩,
  ⟨some 60, .len false (.tmp 59), none, Q0⟩,
  ⟨some 61, .bin .lss (.tmp 57) (.tmp 60), none, Q0⟩] false (some [1, 4, 61]))
  (.cond (.tmp 61) .skip (.exit 2)))
  (.seq (.block 3 (.seq (.reg 11 c52_r11 true (some [1, 4, 86]))
  (.cond (.tmp 86) (.seq (.reg 12 [⟨some 2, .mv (.con (.bool false)), none, Q0⟩] false (some [2]))
  .ret) .skip)))
  (.reg 10 [⟨some 62, .mv (.tmp 4), none, Q0⟩,
  ⟨some 63, .bin .add (.tmp 62) (.con (.int .i64 1)), none, Q0⟩,
  ⟨some 4, .mv (.tmp 63), none, Q0⟩] false (some [1, 4]))))
def c52_l1 : EC := .loop (some [1, 4]) c52_l1_b
def c52_b : EC := (.seq (.reg 0 [⟨some 1, .boxI 35 (.tmp 0), none, Q0⟩,
  ⟨some 2, .mv (.con (.bool false)), none, Q0⟩] false (some [1]))
  (.seq (.seq (.reg 1 c52_r1 false (some [1, 26]))
  (.cond (.tmp 26) (.seq (.reg 2 [⟨some 2, .mv (.con (.bool false)), none, Q0⟩] false (some [2]))
  .ret) .skip))
  (.seq (.seq (.reg 3 [⟨some 3, .mv (.con (.int .i64 0)), none, Q0⟩] false (some [1, 3]))
  (.block 0 c52_l0))
  (.seq (.seq (.reg 8 [⟨some 4, .mv (.con (.int .i64 0)), none, Q0⟩] false (some [1, 4]))
  (.block 2 c52_l1))
  (.seq (.reg 13 [⟨some 2, .mv (.con (.bool true)), none, Q0⟩] false (some [2]))
  .ret)))))
def c52 : EFn := ⟨1, 87, [.tmp 2], c52_b, none, true⟩
theorem c52_l0_step {E : Env} {fin : Kont (PV × St)} {st : List Fr} {ts : Tmps} {S : St} {n : Nat} : (lvl E (n + 1)).ev c52_l0 ts S (kont E fin st) = (lvl E (n + 1)).ev c52_l0_b (sel (some [1, 3]) ts) S (kont E fin (.again n c52_l0 :: st)) := rfl
theorem c52_l0_w {E : Env} {fin : Kont (PV × St)} {st : List Fw} {ts : Tmps} {S : St} : run E fin st c52_l0 ts S = run E fin (.again c52_l0 :: st) c52_l0_b (sel (some [1, 3]) ts) S := w_loop
theorem c52_l0_a {E : Env} {fin : Kont (PV × St)} {st : List Fw} {ts : Tmps} {S : St} : aft E fin (.again c52_l0 :: st) .normal ts S = run E fin st c52_l0 (sel (some [1, 3]) ts) S := a_again_s
theorem c52_l1_step {E : Env} {fin : Kont (PV × St)} {st : List Fr} {ts : Tmps} {S : St} {n : Nat} : (lvl E (n + 1)).ev c52_l1 ts S (kont E fin st) = (lvl E (n + 1)).ev c52_l1_b (sel (some [1, 4]) ts) S (kont E fin (.again n c52_l1 :: st)) := rfl
theorem c52_l1_w {E : Env} {fin : Kont (PV × St)} {st : List Fw} {ts : Tmps} {S : St} : run E fin st c52_l1 ts S = run E fin (.again c52_l1 :: st) c52_l1_b (sel (some [1, 4]) ts) S := w_loop
theorem c52_l1_a {E : Env} {fin : Kont (PV × St)} {st : List Fw} {ts : Tmps} {S : St} : aft E fin (.again c52_l1 :: st) .normal ts S = run E fin st c52_l1 (sel (some [1, 4]) ts) S := a_again_s
theorem c52_ok : cFn Try.prog Try.f52 = some c52.strip := by kernel_rfl
-- limbeck/limbeckref14.Right
def c53_l0_b : EC := (.seq (.seq (.reg 4 [⟨some 7, .mv (.tmp 3), none, Q0⟩,
  ⟨some 8, .fA 6 (.tmp 1), none, Q0⟩,
  ⟨some 9, .ld none (.tmp 8), none, Q0⟩,
  ⟨some 10, .len false (.tmp 9), none, Q0⟩,
  ⟨some 11, .bin .lss (.tmp 7) (.tmp 10), none, Q0⟩] false (some [1, 3, 11]))
  (.cond (.tmp 11) .skip (.exit 0)))
  (.seq (.block 1 (.seq (.reg 6 [⟨some 14, .fA 6 (.tmp 1), none, Q0⟩,
  ⟨some 15, .ld none (.tmp 14), none, Q0⟩,
  ⟨some 16, .mv (.tmp 3), none, Q0⟩,
  ⟨some 17, .ixL 7 (.tmp 15) (.tmp 16), none, Q0⟩,
  ⟨some 18, .ld (some 7) (.tmp 17), none, Q0⟩,
  ⟨some 19, .call (.con (.fn 53 [] [])) [(.tmp 18)], none, Q0⟩,
  ⟨some 20, .un .not (.tmp 19), none, Q0⟩] false (some [1, 3, 20]))
  (.cond (.tmp 20) (.seq (.reg 7 [⟨some 2, .mv (.con (.bool false)), none, Q0⟩] false (some [2]))
  .ret) .skip)))
  (.reg 5 [⟨some 12, .mv (.tmp 3), none, Q0⟩,
  ⟨some 13, .bin .add (.tmp 12) (.con (.int .i64 1)), none, Q0⟩,
  ⟨some 3, .mv (.tmp 13), none, Q0⟩] false (some [1, 3]))))
def c53_l0 : EC := .loop (some [1, 3]) c53_l0_b
def c53_b : EC := (.seq (.reg 0 [⟨some 1, .boxI 38 (.tmp 0), none, Q0⟩,
  ⟨some 2, .mv (.con (.bool false)), none, Q0⟩] false (some [1]))
  (.seq (.seq (.reg 1 [⟨some 4, .ld (some 7) (.tmp 1), none, Q0⟩,
  ⟨some 5, .call (.con (.fn 79 [] [])) [(.tmp 4)], none, Q0⟩,
  ⟨some 6, .un .not (.tmp 5), none, Q0⟩] false (some [1, 6]))
  (.cond (.tmp 6) (.seq (.reg 2 [⟨some 2, .mv (.con (.bool false)), none, Q0⟩] false (some [2]))
  .ret) .skip))
  (.seq (.seq (.reg 3 [⟨some 3, .mv (.con (.int .i64 0)), none, Q0⟩] false (some [1, 3]))
  (.block 0 c53_l0))
  (.seq (.reg 8 [⟨some 2, .mv (.con (.bool true)), none, Q0⟩] false (some [2]))
  .ret))))
def c53 : EFn := ⟨1, 21, [.tmp 2], c53_b, none, true⟩
theorem c53_l0_step {E : Env} {fin : Kont (PV × St)} {st : List Fr} {ts : Tmps} {S : St} {n : Nat} : (lvl E (n + 1)).ev c53_l0 ts S (kont E fin st) = (lvl E (n + 1)).ev c53_l0_b (sel (some [1, 3]) ts) S (kont E fin (.again n c53_l0 :: st)) := rfl
theorem c53_l0_w {E : Env} {fin : Kont (PV × St)} {st : List Fw} {ts : Tmps} {S : St} : run E fin st c53_l0 ts S = run E fin (.again c53_l0 :: st) c53_l0_b (sel (some [1, 3]) ts) S := w_loop
theorem c53_l0_a {E : Env} {fin : Kont (PV × St)} {st : List Fw} {ts : Tmps} {S : St} : aft E fin (.again c53_l0 :: st) .normal ts S = run E fin st c53_l0 (sel (some [1, 3]) ts) S := a_again_s
theorem c53_ok : cFn Try.prog Try.f53 = some c53.strip := by kernel_rfl
-- limbeck/limbeckref14.Size
def c54_l0_b : EC := (.seq (.seq (.reg 5 [⟨some 17, .mv (.tmp 7), none, Q0⟩,
  ⟨some 18, .mv (.tmp 6), none, Q0⟩,
  ⟨some 19, .len false (.tmp 18), none, Q0⟩,
  ⟨some 20, .bin .lss (.tmp 17) (.tmp 19), none, Q0⟩] false (some [4, 5, 6, 7, 20]))
  (.cond (.tmp 20) .skip (.exit 0)))
  (.seq (.block 1 (.seq (.reg 7 [⟨some 23, .mv (.tmp 4), none, Q0⟩,
  ⟨some 24, .mv (.tmp 6), none, Q0⟩,
  ⟨some 25, .mv (.tmp 7), none, Q0⟩,
  ⟨some 26, .ixL 5 (.tmp 24) (.tmp 25), none, Q0⟩,
  ⟨some 27, .ld (some 5) (.tmp 26), none, Q0⟩,
  ⟨some 28, .call (.con (.fn 82 [] [])) [(.tmp 27)], none, Q0⟩,
  ⟨some 29, .bin .add (.tmp 23) (.tmp 28), none, Q0⟩,
  ⟨some 4, .mv (.tmp 29), none, Q0⟩] false (some [4, 5, 6, 7]))
  (.reg 8 [⟨some 30, .mv (.tmp 5), none, Q0⟩,
  ⟨some 31, .mv (.tmp 6), none, Q0⟩,
  ⟨some 32, .mv (.tmp 7), none, Q0⟩,
  ⟨some 33, .ixL 5 (.tmp 31) (.tmp 32), none, Q0⟩,
  ⟨some 34, .ld (some 5) (.tmp 33), none, Q0⟩,
  ⟨some 35, .call (.con (.fn 83 [] [])) [(.tmp 34)], none, Q0⟩,
  ⟨some 36, .mx false (.tmp 30) (.tmp 35), none, Q0⟩,
  ⟨some 5, .mv (.tmp 36), none, Q0⟩] false (some [4, 5, 6, 7]))))
  (.reg 6 [⟨some 21, .mv (.tmp 7), none, Q0⟩,
  ⟨some 22, .bin .add (.tmp 21) (.con (.int .i64 1)), none, Q0⟩,
  ⟨some 7, .mv (.tmp 22), none, Q0⟩] false (some [4, 5, 6, 7]))))
def c54_l0 : EC := .loop (some [4, 5, 6, 7]) c54_l0_b
def c54_b : EC := (.seq (.reg 0 [⟨some 1, .boxI 40 (.tmp 0), none, Q0⟩,
  ⟨some 2, .mv (.con (.int .i64 0)), none, Q0⟩,
  ⟨some 3, .mv (.con (.int .i64 0)), none, Q0⟩] false (some [1]))
  (.seq (.reg 1 [⟨some 8, .fA 8 (.tmp 1), none, Q0⟩,
  ⟨some 9, .ld (some 7) (.tmp 8), none, Q0⟩,
  ⟨some 10, .call (.con (.fn 80 [] [])) [(.tmp 9)], none, Q0⟩,
  ⟨some 4, .mv (.tmp 10), none, Q0⟩] false (some [1, 4]))
  (.seq (.reg 2 [⟨some 11, .fA 8 (.tmp 1), none, Q0⟩,
  ⟨some 12, .ld (some 7) (.tmp 11), none, Q0⟩,
  ⟨some 13, .call (.con (.fn 81 [] [])) [(.tmp 12)], none, Q0⟩,
  ⟨some 5, .mv (.tmp 13), none, Q0⟩] false (some [1, 4, 5]))
  (.seq (.reg 3 [⟨some 14, .fA 0 (.tmp 1), none, Q0⟩,
  ⟨some 15, .ld (some 8) (.tmp 14), none, Q0⟩,
  ⟨some 16, .call (.con (.fn 76 [] [])) [(.tmp 15)], none, Q0⟩,
  ⟨some 6, .mv (.tmp 16), none, Q0⟩] false (some [4, 5, 6]))
  (.seq (.seq (.reg 4 [⟨some 7, .mv (.con (.int .i64 0)), none, Q0⟩] false (some [4, 5, 6, 7]))
  (.block 0 c54_l0))
  (.seq (.reg 9 [⟨some 37, .mv (.tmp 4), none, Q0⟩,
  ⟨some 38, .mv (.tmp 5), none, Q0⟩,
  ⟨some 2, .mv (.tmp 37), none, Q0⟩,
  ⟨some 3, .mv (.tmp 38), none, Q0⟩] false (some [2, 3]))
  .ret))))))
def c54 : EFn := ⟨1, 39, [.tmp 2, .tmp 3], c54_b, none, true⟩
theorem c54_l0_step {E : Env} {fin : Kont (PV × St)} {st : List Fr} {ts : Tmps} {S : St} {n : Nat} : (lvl E (n + 1)).ev c54_l0 ts S (kont E fin st) = (lvl E (n + 1)).ev c54_l0_b (sel (some [4, 5, 6, 7]) ts) S (kont E fin (.again n c54_l0 :: st)) := rfl
theorem c54_l0_w {E : Env} {fin : Kont (PV × St)} {st : List Fw} {ts : Tmps} {S : St} : run E fin st c54_l0 ts S = run E fin (.again c54_l0 :: st) c54_l0_b (sel (some [4, 5, 6, 7]) ts) S := w_loop
theorem c54_l0_a {E : Env} {fin : Kont (PV × St)} {st : List Fw} {ts : Tmps} {S : St} : aft E fin (.again c54_l0 :: st) .normal ts S = run E fin st c54_l0 (sel (some [4, 5, 6, 7]) ts) S := a_again_s
theorem c54_ok : cFn Try.prog Try.f54 = some c54.strip := by kernel_rfl
-- limbeck/limbeckref04.SameAll
def c55_r4 : List EI := [⟨some 11, .mv (.tmp 5), none, Q0⟩,
  ⟨some 12, .mv (.tmp 0), none, Q0⟩,
  ⟨some 13, .len false (.tmp 12), none, Q0⟩,
  ⟨some 14, .bin .lss (.tmp 11) (.tmp 13), none, Q0⟩,
  ⟨some 15, .mv (.tmp 14), none, Q0⟩,
  ⟨some 16, .mv (.tmp 5), some (15, true), Q0⟩,
  ⟨some 17, .mv (.tmp 1), some (15, true), Q0⟩,
  ⟨some 18, .len false (.tmp 17), some (15, true), Q0⟩,
  ⟨some 19, .bin .lss (.tmp 16) (.tmp 18), some (15, true), Q0⟩,
  ⟨some 20, .pick (.tmp 15) (.tmp 19) (.con (.bool false)), none, Q0⟩]
def c55_l0_b : EC := (.seq (.seq (.reg 4 c55_r4 false (some [0, 1, 5, 20]))
  (.cond (.tmp 20) .skip (.exit 0)))
  (.seq (.block 1 (.seq (.reg 6 [⟨some 23, .mv (.tmp 0), none, ⟨.no, false⟩⟩,
  ⟨some 24, .mv (.tmp 5), none, ⟨.no, false⟩⟩,
  ⟨some 25, .ixL 5 (.tmp 23) (.tmp 24), none, ⟨.no, false⟩⟩,
  ⟨some 26, .ld (some 5) (.tmp 25), none, ⟨.still, false⟩⟩,
  ⟨some 27, .mv (.tmp 1), none, ⟨.no, false⟩⟩,
  ⟨some 28, .mv (.tmp 5), none, Q0⟩,
  ⟨some 29, .ixL 5 (.tmp 27) (.tmp 28), none, Q0⟩,
  ⟨some 30, .ld (some 5) (.tmp 29), none, Q1⟩,
  ⟨some 31, .call (.con (.fn 39 [] [])) [(.tmp 26), (.tmp 30)], none, Q0⟩,
  ⟨some 32, .un .not (.tmp 31), none, Q0⟩] true (some [0, 1, 5, 32]))
  (.cond (.tmp 32) (.seq (.reg 7 [⟨some 4, .mv (.con (.bool false)), none, Q0⟩] false (some [4]))
  .ret) .skip)))
  (.reg 5 [⟨some 21, .mv (.tmp 5), none, Q0⟩,
  ⟨some 22, .bin .add (.tmp 21) (.con (.int .i64 1)), none, Q0⟩,
  ⟨some 5, .mv (.tmp 22), none, Q0⟩] false (some [0, 1, 5]))))
def c55_l0 : EC := .loop (some [0, 1, 5]) c55_l0_b
def c55_b : EC := (.seq (.reg 0 [⟨some 4, .mv (.con (.bool false)), none, Q0⟩] false (some [0, 1]))
  (.seq (.seq (.reg 1 [⟨some 6, .mv (.tmp 0), none, Q0⟩,
  ⟨some 7, .len false (.tmp 6), none, Q0⟩,
  ⟨some 8, .mv (.tmp 1), none, Q0⟩,
  ⟨some 9, .len false (.tmp 8), none, Q0⟩,
  ⟨some 10, .bin .neq (.tmp 7) (.tmp 9), none, Q0⟩] false (some [0, 1, 10]))
  (.cond (.tmp 10) (.seq (.reg 2 [⟨some 4, .mv (.con (.bool false)), none, Q0⟩] false (some [4]))
  .ret) .skip))
  (.seq (.seq (.reg 3 [⟨some 5, .mv (.con (.int .i64 0)), none, Q0⟩] false (some [0, 1, 5]))
  (.block 0 c55_l0))
  (.seq (.reg 8 [⟨some 4, .mv (.con (.bool true)), none, Q0⟩] false (some [4]))
  .ret))))
def c55 : EFn := ⟨2, 33, [.tmp 4], c55_b, none, true⟩
theorem c55_l0_step {E : Env} {fin : Kont (PV × St)} {st : List Fr} {ts : Tmps} {S : St} {n : Nat} : (lvl E (n + 1)).ev c55_l0 ts S (kont E fin st) = (lvl E (n + 1)).ev c55_l0_b (sel (some [0, 1, 5]) ts) S (kont E fin (.again n c55_l0 :: st)) := rfl
theorem c55_l0_w {E : Env} {fin : Kont (PV × St)} {st : List Fw} {ts : Tmps} {S : St} : run E fin st c55_l0 ts S = run E fin (.again c55_l0 :: st) c55_l0_b (sel (some [0, 1, 5]) ts) S := w_loop
theorem c55_l0_a {E : Env} {fin : Kont (PV × St)} {st : List Fw} {ts : Tmps} {S : St} : aft E fin (.again c55_l0 :: st) .normal ts S = run E fin st c55_l0 (sel (some [0, 1, 5]) ts) S := a_again_s
theorem c55_ok : cFn Try.prog Try.f55 = some c55.strip := by kernel_rfl
-- slices.IndexFunc[[]limbeck/api.Def,limbeck/api.Def]
def c56_l0_b : EC := (.seq (.reg 2 [⟨some 9, .bin .lss (.tmp 8) (.tmp 7), none, Q0⟩] false (some [0, 1, 7, 8, 9]))
  (.seq (.cond (.tmp 9) .skip (.exit 0))
  (.seq (.block 1 (.seq (.reg 3 [⟨some 10, .mv (.tmp 8), none, Q0⟩,
  ⟨some 5, .mv (.tmp 10), none, Q0⟩] false (some [0, 1, 5, 7, 8]))
  (.seq (.reg 4 [⟨some 11, .mv (.tmp 1), none, Q0⟩,
  ⟨some 12, .mv (.tmp 0), none, Q0⟩,
  ⟨some 13, .mv (.tmp 5), none, Q0⟩,
  ⟨some 14, .ixL 15 (.tmp 12) (.tmp 13), none, Q0⟩,
  ⟨some 15, .ld (some 15) (.tmp 14), none, Q0⟩,
  ⟨some 16, .call (.tmp 11) [(.tmp 15)], none, Q0⟩] false (some [0, 1, 5, 7, 8, 16]))
  (.cond (.tmp 16) (.seq (.reg 5 [⟨some 17, .mv (.tmp 5), none, Q0⟩,
  ⟨some 4, .mv (.tmp 17), none, Q0⟩] false (some [4]))
  .ret) .skip))))
  (.reg 6 [⟨some 18, .bin .add (.tmp 8) (.con (.int .i64 1)), none, Q0⟩,
  ⟨some 8, .mv (.tmp 18), none, Q0⟩] false (some [0, 1, 7, 8])))))
def c56_l0 : EC := .loop (some [0, 1, 7, 8]) c56_l0_b
def c56_b : EC := (.seq (.reg 0 [⟨some 4, .mv (.con (.int .i64 0)), none, Q0⟩] false (some [0, 1]))
  (.seq (.seq (.reg 1 [⟨some 6, .mv (.tmp 0), none, Q0⟩,
  ⟨some 7, .len false (.tmp 6), none, Q0⟩,
  ⟨some 8, .mv (.con (.int .i64 0)), none, Q0⟩] false (some [0, 1, 7, 8]))
  (.block 0 c56_l0))
  (.seq (.reg 7 [⟨some 4, .mv (.con (.int .i64 (-1))), none, Q0⟩] false (some [4]))
  .ret)))
def c56 : EFn := ⟨2, 19, [.tmp 4], c56_b, none, true⟩
theorem c56_l0_step {E : Env} {fin : Kont (PV × St)} {st : List Fr} {ts : Tmps} {S : St} {n : Nat} : (lvl E (n + 1)).ev c56_l0 ts S (kont E fin st) = (lvl E (n + 1)).ev c56_l0_b (sel (some [0, 1, 7, 8]) ts) S (kont E fin (.again n c56_l0 :: st)) := rfl
theorem c56_l0_w {E : Env} {fin : Kont (PV × St)} {st : List Fw} {ts : Tmps} {S : St} : run E fin st c56_l0 ts S = run E fin (.again c56_l0 :: st) c56_l0_b (sel (some [0, 1, 7, 8]) ts) S := w_loop
theorem c56_l0_a {E : Env} {fin : Kont (PV × St)} {st : List Fw} {ts : Tmps} {S : St} : aft E fin (.again c56_l0 :: st) .normal ts S = run E fin st c56_l0 (sel (some [0, 1, 7, 8]) ts) S := a_again_s
theorem c56_ok : cFn Try.prog Try.f56 = some c56.strip := by kernel_rfl
-- limbeck/prog.place$1
def c57_b : EC := (.seq (.reg 0 [⟨some 2, .boxI 40 (.tmp 0), none, Q0⟩,
  ⟨some 3, .mv (.con (.bool false)), none, Q0⟩] false (some [1, 2]))
  (.seq (.reg 1 [⟨some 4, .fA 0 (.tmp 2), none, Q0⟩,
  ⟨some 5, .fA 0 (.tmp 4), none, Q0⟩,
  ⟨some 6, .ld none (.tmp 5), none, Q0⟩,
  ⟨some 7, .ld none (.tmp 1), none, Q0⟩,
  ⟨some 8, .bin .eql (.tmp 6) (.tmp 7), none, Q0⟩,
  ⟨some 3, .mv (.tmp 8), none, Q0⟩] false (some [3]))
  .ret))
def c57 : EFn := ⟨2, 9, [.tmp 3], c57_b, none, true⟩
theorem c57_ok : cFn Try.prog Try.f57 = some c57.strip := by kernel_rfl
-- limbeck/exp.within$1
def c58_b : EC := (.reg 0 [⟨some 3, .ld (some 7) (.tmp 1), none, Q0⟩,
  ⟨some 4, .mv (.tmp 0), none, Q0⟩,
  ⟨some 5, .call (.con (.fn 59 [] [])) [(.tmp 3), (.tmp 4)], none, Q0⟩] false (some []))
def c58 : EFn := ⟨2, 6, [], c58_b, none, false⟩
theorem c58_ok : cFn Try.prog Try.f58 = some c58.strip := by kernel_rfl
-- limbeck/exp.walk
def c59_l0_b : EC := (.seq (.reg 4 [⟨some 15, .bin .lss (.tmp 14) (.tmp 13), none, Q0⟩] false (some [1, 12, 13, 14, 15]))
  (.seq (.cond (.tmp 15) .skip (.exit 0))
  (.seq (.block 1 (.seq (.reg 5 [⟨some 16, .ixL 7 (.tmp 12) (.tmp 14), none, Q0⟩,
  ⟨some 17, .ld (some 7) (.tmp 16), none, Q0⟩,
  ⟨some 6, .new 38 [(.int .i64 0), (.int .i64 0), (.str ⟨#[]⟩), (.bool false), (.sl .null []), (.sl .null []), (.sl .null [])], none, Q0⟩,
  ⟨none, .st 7 (.tmp 6) (.tmp 17), none, Q0⟩] false (some [1, 6, 12, 13, 14]))
  (.seq (.reg 6 [⟨some 18, .ld (some 7) (.tmp 6), none, Q0⟩,
  ⟨some 19, .mv (.tmp 1), none, Q0⟩,
  ⟨some 20, .call (.con (.fn 59 [] [])) [(.tmp 18), (.tmp 19)], none, Q0⟩,
  ⟨some 21, .un .not (.tmp 20), none, Q0⟩] false (some [1, 12, 13, 14, 21]))
  (.cond (.tmp 21) (.seq (.reg 7 [⟨some 4, .mv (.con (.bool false)), none, Q0⟩] false (some [4]))
  .ret) .skip))))
  (.reg 8 [⟨some 22, .bin .add (.tmp 14) (.con (.int .i64 1)), none, Q0⟩,
  ⟨some 14, .mv (.tmp 22), none, Q0⟩] false (some [1, 12, 13, 14])))))
def c59_l0 : EC := .loop (some [1, 12, 13, 14]) c59_l0_b
def c59_b : EC := (.seq (.reg 0 [⟨some 2, .boxI 38 (.tmp 0), none, Q0⟩,
  ⟨some 4, .mv (.con (.bool false)), none, Q0⟩] false (some [1, 2]))
  (.seq (.seq (.reg 1 [⟨some 7, .mv (.tmp 1), none, Q0⟩,
  ⟨some 8, .ld (some 7) (.tmp 2), none, Q0⟩,
  ⟨some 9, .call (.tmp 7) [(.tmp 8)], none, Q0⟩,
  ⟨some 10, .un .not (.tmp 9), none, Q0⟩] false (some [1, 2, 10]))
  (.cond (.tmp 10) (.seq (.reg 2 [⟨some 4, .mv (.con (.bool false)), none, Q0⟩] false (some [4]))
  .ret) .skip))
  (.seq (.seq (.reg 3 [⟨some 11, .fA 6 (.tmp 2), none, Q0⟩,
  ⟨some 12, .ld none (.tmp 11), none, Q0⟩,
  ⟨some 13, .len false (.tmp 12), none, Q0⟩,
  ⟨some 14, .mv (.con (.int .i64 0)), none, Q0⟩] false (some [1, 12, 13, 14]))
  (.block 0 c59_l0))
  (.seq (.reg 9 [⟨some 4, .mv (.con (.bool true)), none, Q0⟩] false (some [4]))
  .ret))))
def c59 : EFn := ⟨2, 23, [.tmp 4], c59_b, none, true⟩
theorem c59_l0_step {E : Env} {fin : Kont (PV × St)} {st : List Fr} {ts : Tmps} {S : St} {n : Nat} : (lvl E (n + 1)).ev c59_l0 ts S (kont E fin st) = (lvl E (n + 1)).ev c59_l0_b (sel (some [1, 12, 13, 14]) ts) S (kont E fin (.again n c59_l0 :: st)) := rfl
theorem c59_l0_w {E : Env} {fin : Kont (PV × St)} {st : List Fw} {ts : Tmps} {S : St} : run E fin st c59_l0 ts S = run E fin (.again c59_l0 :: st) c59_l0_b (sel (some [1, 12, 13, 14]) ts) S := w_loop
theorem c59_l0_a {E : Env} {fin : Kont (PV × St)} {st : List Fw} {ts : Tmps} {S : St} : aft E fin (.again c59_l0 :: st) .normal ts S = run E fin st c59_l0 (sel (some [1, 12, 13, 14]) ts) S := a_again_s
theorem c59_ok : cFn Try.prog Try.f59 = some c59.strip := by kernel_rfl
-- limbeck/exp.SameSig
def c71_r1 : List EI := [⟨some 5, .fA 0 (.tmp 2), none, Q0⟩,
  ⟨some 6, .ld none (.tmp 5), none, Q0⟩,
  ⟨some 7, .fA 0 (.tmp 3), none, Q0⟩,
  ⟨some 8, .ld none (.tmp 7), none, Q0⟩,
  ⟨some 9, .bin .eql (.tmp 6) (.tmp 8), none, Q0⟩,
  ⟨some 10, .mv (.tmp 9), none, Q0⟩,
  ⟨some 11, .fA 1 (.tmp 2), some (10, true), Q0⟩,
  ⟨some 12, .ld none (.tmp 11), some (10, true), Q0⟩,
  ⟨some 13, .fA 1 (.tmp 3), some (10, true), Q0⟩,
  ⟨some 14, .ld none (.tmp 13), some (10, true), Q0⟩,
  ⟨some 15, .call (.con (.fn 90 [] [])) [(.tmp 12), (.tmp 14)], some (10, true), Q0⟩,
  ⟨some 16, .pick (.tmp 10) (.tmp 15) (.con (.bool false)), none, Q0⟩,
  ⟨some 17, .mv (.tmp 16), none, Q0⟩,
  ⟨some 18, .fA 2 (.tmp 2), some (17, true), Q0⟩,
  ⟨some 19, .ld none (.tmp 18), some (17, true), Q0⟩,
  ⟨some 20, .fA 2 (.tmp 3), some (17, true), Q0⟩,
  ⟨some 21, .ld none (.tmp 20), some (17, true), Q0⟩,
  ⟨some 22, .call (.con (.fn 90 [] [])) [(.tmp 19), (.tmp 21)], some (17, true), Q0⟩,
  ⟨some 23, .pick (.tmp 17) (.tmp 22) (.con (.bool false)), none, Q0⟩,
  ⟨some 24, .mv (.tmp 23), none, Q0⟩,
  ⟨some 25, .fA 3 (.tmp 2), some (24, true), Q0⟩,
  ⟨some 26, .ld (some 5) (.tmp 25), some (24, true), Q0⟩,
  ⟨some 27, .fA 3 (.tmp 3), some (24, true), Q0⟩,
  ⟨some 28, .ld (some 5) (.tmp 27), some (24, true), Q0⟩,
  ⟨some 29, .call (.con (.fn 91 [] [])) [(.tmp 26), (.tmp 28)], some (24, true), Q0⟩,
  ⟨some 30, .pick (.tmp 24) (.tmp 29) (.con (.bool false)), none, Q0⟩,
  ⟨some 4, .mv (.tmp 30), none, Q0⟩]
def c71_b : EC := (.seq (.reg 0 [⟨some 2, .boxI 35 (.tmp 0), none, Q0⟩,
  ⟨some 3, .boxI 35 (.tmp 1), none, Q0⟩,
  ⟨some 4, .mv (.con (.bool false)), none, Q0⟩] false (some [2, 3]))
  (.seq (.reg 1 c71_r1 false (some [4]))
  .ret))
def c71 : EFn := ⟨2, 31, [.tmp 4], c71_b, none, true⟩
theorem c71_ok : cFn Try.prog Try.f71 = some c71.strip := by kernel_rfl
-- limbeck/exp.Same
def c72_r1 : List EI := [⟨some 5, .fA 0 (.tmp 2), none, Q0⟩,
  ⟨some 6, .ld none (.tmp 5), none, Q0⟩,
  ⟨some 7, .fA 0 (.tmp 3), none, Q0⟩,
  ⟨some 8, .ld none (.tmp 7), none, Q0⟩,
  ⟨some 9, .bin .eql (.tmp 6) (.tmp 8), none, Q0⟩,
  ⟨some 10, .mv (.tmp 9), none, Q0⟩,
  ⟨some 11, .fA 1 (.tmp 2), some (10, true), Q0⟩,
  ⟨some 12, .ld none (.tmp 11), some (10, true), Q0⟩,
  ⟨some 13, .fA 1 (.tmp 3), some (10, true), Q0⟩,
  ⟨some 14, .ld none (.tmp 13), some (10, true), Q0⟩,
  ⟨some 15, .bin .eql (.tmp 12) (.tmp 14), some (10, true), Q0⟩,
  ⟨some 16, .pick (.tmp 10) (.tmp 15) (.con (.bool false)), none, Q0⟩,
  ⟨some 17, .mv (.tmp 16), none, Q0⟩,
  ⟨some 18, .fA 2 (.tmp 2), some (17, true), Q0⟩,
  ⟨some 19, .ld none (.tmp 18), some (17, true), Q0⟩,
  ⟨some 20, .fA 2 (.tmp 3), some (17, true), Q0⟩,
  ⟨some 21, .ld none (.tmp 20), some (17, true), Q0⟩,
  ⟨some 22, .bin .eql (.tmp 19) (.tmp 21), some (17, true), Q0⟩,
  ⟨some 23, .pick (.tmp 17) (.tmp 22) (.con (.bool false)), none, Q0⟩,
  ⟨some 24, .mv (.tmp 23), none, Q0⟩,
  ⟨some 25, .fA 3 (.tmp 2), some (24, true), Q0⟩,
  ⟨some 26, .ld none (.tmp 25), some (24, true), Q0⟩,
  ⟨some 27, .fA 3 (.tmp 3), some (24, true), Q0⟩,
  ⟨some 28, .ld none (.tmp 27), some (24, true), Q0⟩,
  ⟨some 29, .eqB false (.tmp 26) (.tmp 28), some (24, true), Q0⟩,
  ⟨some 30, .pick (.tmp 24) (.tmp 29) (.con (.bool false)), none, Q0⟩,
  ⟨some 31, .mv (.tmp 30), none, Q0⟩,
  ⟨some 32, .fA 5 (.tmp 2), some (31, true), Q0⟩,
  ⟨some 33, .ld none (.tmp 32), some (31, true), Q0⟩,
  ⟨some 34, .fA 5 (.tmp 3), some (31, true), Q0⟩,
  ⟨some 35, .ld none (.tmp 34), some (31, true), Q0⟩,
  ⟨some 36, .call (.con (.fn 92 [] [])) [(.tmp 33), (.tmp 35)], some (31, true), Q0⟩,
  ⟨some 37, .pick (.tmp 31) (.tmp 36) (.con (.bool false)), none, Q0⟩,
  ⟨some 38, .mv (.tmp 37), none, Q0⟩,
  ⟨some 39, .fA 4 (.tmp 2), some (38, true), Q0⟩,
  ⟨some 40, .ld none (.tmp 39), some (38, true), Q0⟩,
  ⟨some 41, .fA 4 (.tmp 3), some (38, true), Q0⟩,
  ⟨some 42, .ld none (.tmp 41), some (38, true), Q0⟩,
  ⟨some 43, .call (.con (.fn 93 [] [])) [(.tmp 40), (.tmp 42), (.con (.fn 91 [] []))], some (38, true), Q0⟩,
  ⟨some 44, .pick (.tmp 38) (.tmp 43) (.con (.bool false)), none, Q0⟩,
  ⟨some 45, .mv (.tmp 44), none, Q0⟩,
  ⟨some 46, .fA 6 (.tmp 2), some (45, true), Q0⟩,
  ⟨some 47, .ld none (.tmp 46), some (45, true), Q0⟩,
  ⟨some 48, .fA 6 (.tmp 3), some (45, true), Q0⟩,
  ⟨some 49, .ld none (.tmp 48), some (45, true), Q0⟩,
  ⟨some 50, .call (.con (.fn 94 [] [])) [(.tmp 47), (.tmp 49), (.con (.fn 72 [] []))], some (45, true), Q0⟩,
  ⟨some 51, .pick (.tmp 45) (.tmp 50) (.con (.bool false)), none, Q0⟩,
  ⟨some 4, .mv (.tmp 51), none, Q0⟩]
def c72_b : EC := (.seq (.reg 0 [⟨some 2, .boxI 38 (.tmp 0), none, Q0⟩,
  ⟨some 3, .boxI 38 (.tmp 1), none, Q0⟩,
  ⟨some 4, .mv (.con (.bool false)), none, Q0⟩] false (some [2, 3]))
  (.seq (.reg 1 c72_r1 false (some [4]))
  .ret))
def c72 : EFn := ⟨2, 52, [.tmp 4], c72_b, none, true⟩
theorem c72_ok : cFn Try.prog Try.f72 = some c72.strip := by kernel_rfl
-- slices.IndexFunc[[]string,string]
def c73_l0_b : EC := (.seq (.reg 2 [⟨some 9, .bin .lss (.tmp 8) (.tmp 7), none, Q0⟩] false (some [0, 1, 7, 8, 9]))
  (.seq (.cond (.tmp 9) .skip (.exit 0))
  (.seq (.block 1 (.seq (.reg 3 [⟨some 10, .mv (.tmp 8), none, Q0⟩,
  ⟨some 5, .mv (.tmp 10), none, Q0⟩] false (some [0, 1, 5, 7, 8]))
  (.seq (.reg 4 [⟨some 11, .mv (.tmp 1), none, Q0⟩,
  ⟨some 12, .mv (.tmp 0), none, Q0⟩,
  ⟨some 13, .mv (.tmp 5), none, Q0⟩,
  ⟨some 14, .ixL 1 (.tmp 12) (.tmp 13), none, Q0⟩,
  ⟨some 15, .ld none (.tmp 14), none, Q0⟩,
  ⟨some 16, .call (.tmp 11) [(.tmp 15)], none, Q0⟩] false (some [0, 1, 5, 7, 8, 16]))
  (.cond (.tmp 16) (.seq (.reg 5 [⟨some 17, .mv (.tmp 5), none, Q0⟩,
  ⟨some 4, .mv (.tmp 17), none, Q0⟩] false (some [4]))
  .ret) .skip))))
  (.reg 6 [⟨some 18, .bin .add (.tmp 8) (.con (.int .i64 1)), none, Q0⟩,
  ⟨some 8, .mv (.tmp 18), none, Q0⟩] false (some [0, 1, 7, 8])))))
def c73_l0 : EC := .loop (some [0, 1, 7, 8]) c73_l0_b
def c73_b : EC := (.seq (.reg 0 [⟨some 4, .mv (.con (.int .i64 0)), none, Q0⟩] false (some [0, 1]))
  (.seq (.seq (.reg 1 [⟨some 6, .mv (.tmp 0), none, Q0⟩,
  ⟨some 7, .len false (.tmp 6), none, Q0⟩,
  ⟨some 8, .mv (.con (.int .i64 0)), none, Q0⟩] false (some [0, 1, 7, 8]))
  (.block 0 c73_l0))
  (.seq (.reg 7 [⟨some 4, .mv (.con (.int .i64 (-1))), none, Q0⟩] false (some [4]))
  .ret)))
def c73 : EFn := ⟨2, 19, [.tmp 4], c73_b, none, true⟩
theorem c73_l0_step {E : Env} {fin : Kont (PV × St)} {st : List Fr} {ts : Tmps} {S : St} {n : Nat} : (lvl E (n + 1)).ev c73_l0 ts S (kont E fin st) = (lvl E (n + 1)).ev c73_l0_b (sel (some [0, 1, 7, 8]) ts) S (kont E fin (.again n c73_l0 :: st)) := rfl
theorem c73_l0_w {E : Env} {fin : Kont (PV × St)} {st : List Fw} {ts : Tmps} {S : St} : run E fin st c73_l0 ts S = run E fin (.again c73_l0 :: st) c73_l0_b (sel (some [0, 1, 7, 8]) ts) S := w_loop
theorem c73_l0_a {E : Env} {fin : Kont (PV × St)} {st : List Fw} {ts : Tmps} {S : St} : aft E fin (.again c73_l0 :: st) .normal ts S = run E fin st c73_l0 (sel (some [0, 1, 7, 8]) ts) S := a_again_s
theorem c73_ok : cFn Try.prog Try.f73 = some c73.strip := by kernel_rfl
-- limbeck/limbeckref01.Fine
def c74_b : EC := (.seq (.reg 0 [⟨some 2, .mv (.con (.bool false)), none, Q0⟩] false (some [0]))
  (.seq (.reg 1 [⟨some 3, .mv (.tmp 0), none, Q0⟩,
  ⟨some 4, .call (.con (.fn 95 [] [])) [(.tmp 3)], none, Q0⟩,
  ⟨some 5, .bin .eql (.tmp 4) (.con (.int .i64 1)), none, Q0⟩,
  ⟨some 2, .mv (.tmp 5), none, Q0⟩] false (some [2]))
  .ret))
def c74 : EFn := ⟨1, 6, [.tmp 2], c74_b, none, true⟩
theorem c74_ok : cFn Try.prog Try.f74 = some c74.strip := by kernel_rfl
-- limbeck/limbeckref14.types
def c75_r4 : List EI := [⟨some 10, .mv (.tmp 0), none, Q0⟩,
  ⟨some 11, .mv (.tmp 3), none, Q0⟩,
  ⟨some 12, .ixL 5 (.tmp 10) (.tmp 11), none, Q0⟩,
  ⟨some 13, .ld (some 5) (.tmp 12), none, Q0⟩,
  ⟨some 14, .call (.con (.fn 96 [] [])) [(.tmp 13)], none, Q0⟩,
  ⟨some 15, .un .not (.tmp 14), none, Q0⟩,
  ⟨some 16, .mv (.tmp 15), none, Q0⟩,
  ⟨some 17, .mv (.tmp 0), some (16, false), Q0⟩,
  ⟨some 18, .mv (.tmp 3), some (16, false), Q0⟩,
  ⟨some 19, .ixL 5 (.tmp 17) (.tmp 18), some (16, false), Q0⟩,
  ⟨some 20, .ld (some 5) (.tmp 19), some (16, false), Q0⟩,
  ⟨some 21, .call (.con (.fn 97 [] [])) [(.tmp 20), (.con (.int .i64 9))], some (16, false), Q0⟩,
  ⟨some 22, .pick (.tmp 16) (.con (.bool true)) (.tmp 21), none, Q0⟩]
def c75_l0_b : EC := (.seq (.seq (.reg 2 [⟨some 4, .mv (.tmp 3), none, Q0⟩,
  ⟨some 5, .mv (.tmp 0), none, Q0⟩,
  ⟨some 6, .len false (.tmp 5), none, Q0⟩,
  ⟨some 7, .bin .lss (.tmp 4) (.tmp 6), none, Q0⟩] false (some [0, 3, 7]))
  (.cond (.tmp 7) .skip (.exit 0)))
  (.seq (.block 1 (.seq (.reg 4 c75_r4 false (some [0, 3, 22]))
  (.cond (.tmp 22) (.seq (.reg 5 [⟨some 2, .mv (.con (.bool false)), none, Q0⟩] false (some [2]))
  .ret) .skip)))
  (.reg 3 [⟨some 8, .mv (.tmp 3), none, Q0⟩,
  ⟨some 9, .bin .add (.tmp 8) (.con (.int .i64 1)), none, Q0⟩,
  ⟨some 3, .mv (.tmp 9), none, Q0⟩] false (some [0, 3]))))
def c75_l0 : EC := .loop (some [0, 3]) c75_l0_b
def c75_b : EC := (.seq (.reg 0 [⟨some 2, .mv (.con (.bool false)), none, Q0⟩] false (some [0]))
  (.seq (.seq (.reg 1 [⟨some 3, .mv (.con (.int .i64 0)), none, Q0⟩] false (some [0, 3]))
  (.block 0 c75_l0))
  (.seq (.reg 6 [⟨some 2, .mv (.con (.bool true)), none, Q0⟩] false (some [2]))
  .ret)))
def c75 : EFn := ⟨1, 23, [.tmp 2], c75_b, none, true⟩
theorem c75_l0_step {E : Env} {fin : Kont (PV × St)} {st : List Fr} {ts : Tmps} {S : St} {n : Nat} : (lvl E (n + 1)).ev c75_l0 ts S (kont E fin st) = (lvl E (n + 1)).ev c75_l0_b (sel (some [0, 3]) ts) S (kont E fin (.again n c75_l0 :: st)) := rfl
theorem c75_l0_w {E : Env} {fin : Kont (PV × St)} {st : List Fw} {ts : Tmps} {S : St} : run E fin st c75_l0 ts S = run E fin (.again c75_l0 :: st) c75_l0_b (sel (some [0, 3]) ts) S := w_loop
theorem c75_l0_a {E : Env} {fin : Kont (PV × St)} {st : List Fw} {ts : Tmps} {S : St} : aft E fin (.again c75_l0 :: st) .normal ts S = run E fin st c75_l0 (sel (some [0, 3]) ts) S := a_again_s
theorem c75_ok : cFn Try.prog Try.f75 = some c75.strip := by kernel_rfl
-- limbeck/limbeckref14.SigTypes
def c76_l0_b : EC := (.seq (.seq (.reg 3 [⟨some 6, .mv (.tmp 4), none, Q0⟩,
  ⟨some 7, .fA 1 (.tmp 1), none, Q0⟩,
  ⟨some 8, .ld none (.tmp 7), none, Q0⟩,
  ⟨some 9, .len false (.tmp 8), none, Q0⟩,
  ⟨some 10, .bin .lss (.tmp 6) (.tmp 9), none, Q0⟩] false (some [1, 3, 4, 10]))
  (.cond (.tmp 10) .skip (.exit 0)))
  (.seq (.block 1 (.reg 5 [⟨some 13, .mv (.tmp 3), none, Q0⟩,
  ⟨some 14, .fA 1 (.tmp 1), none, Q0⟩,
  ⟨some 15, .ld none (.tmp 14), none, Q0⟩,
  ⟨some 16, .mv (.tmp 4), none, Q0⟩,
  ⟨some 17, .ixL 6 (.tmp 15) (.tmp 16), none, Q0⟩,
  ⟨some 18, .fA 1 (.tmp 17), none, Q0⟩,
  ⟨some 19, .ld (some 5) (.tmp 18), none, Q0⟩,
  ⟨some 20, .rows 1 5 [(.int .i64 0), (.int .i64 0), (.str ⟨#[]⟩), (.sl .null []), (.sl .null [])] [(0, (.tmp 19))], none, Q0⟩,
  ⟨some 21, .app 33 5 80 (.tmp 13) (.tmp 20), none, Q0⟩,
  ⟨some 3, .mv (.tmp 21), none, Q0⟩] false (some [1, 3, 4])))
  (.reg 4 [⟨some 11, .mv (.tmp 4), none, Q0⟩,
  ⟨some 12, .bin .add (.tmp 11) (.con (.int .i64 1)), none, Q0⟩,
  ⟨some 4, .mv (.tmp 12), none, Q0⟩] false (some [1, 3, 4]))))
def c76_l0 : EC := .loop (some [1, 3, 4]) c76_l0_b
def c76_l1_b : EC := (.seq (.seq (.reg 7 [⟨some 22, .mv (.tmp 5), none, Q0⟩,
  ⟨some 23, .fA 2 (.tmp 1), none, Q0⟩,
  ⟨some 24, .ld none (.tmp 23), none, Q0⟩,
  ⟨some 25, .len false (.tmp 24), none, Q0⟩,
  ⟨some 26, .bin .lss (.tmp 22) (.tmp 25), none, Q0⟩] false (some [1, 3, 5, 26]))
  (.cond (.tmp 26) .skip (.exit 2)))
  (.seq (.block 3 (.reg 9 [⟨some 29, .mv (.tmp 3), none, Q0⟩,
  ⟨some 30, .fA 2 (.tmp 1), none, Q0⟩,
  ⟨some 31, .ld none (.tmp 30), none, Q0⟩,
  ⟨some 32, .mv (.tmp 5), none, Q0⟩,
  ⟨some 33, .ixL 6 (.tmp 31) (.tmp 32), none, Q0⟩,
  ⟨some 34, .fA 1 (.tmp 33), none, Q0⟩,
  ⟨some 35, .ld (some 5) (.tmp 34), none, Q0⟩,
  ⟨some 36, .rows 1 5 [(.int .i64 0), (.int .i64 0), (.str ⟨#[]⟩), (.sl .null []), (.sl .null [])] [(0, (.tmp 35))], none, Q0⟩,
  ⟨some 37, .app 33 5 80 (.tmp 29) (.tmp 36), none, Q0⟩,
  ⟨some 3, .mv (.tmp 37), none, Q0⟩] false (some [1, 3, 5])))
  (.reg 8 [⟨some 27, .mv (.tmp 5), none, Q0⟩,
  ⟨some 28, .bin .add (.tmp 27) (.con (.int .i64 1)), none, Q0⟩,
  ⟨some 5, .mv (.tmp 28), none, Q0⟩] false (some [1, 3, 5]))))
def c76_l1 : EC := .loop (some [1, 3, 5]) c76_l1_b
def c76_b : EC := (.seq (.reg 0 [⟨some 1, .boxI 35 (.tmp 0), none, Q0⟩,
  ⟨some 2, .mv (.con (.sl .null [])), none, Q0⟩] false (some [1]))
  (.seq (.reg 1 [⟨some 3, .mv (.con (.sl .null [])), none, Q0⟩] false (some [1, 3]))
  (.seq (.seq (.reg 2 [⟨some 4, .mv (.con (.int .i64 0)), none, Q0⟩] false (some [1, 3, 4]))
  (.block 0 c76_l0))
  (.seq (.seq (.reg 6 [⟨some 5, .mv (.con (.int .i64 0)), none, Q0⟩] false (some [1, 3, 5]))
  (.block 2 c76_l1))
  (.seq (.reg 10 [⟨some 38, .mv (.tmp 3), none, Q0⟩,
  ⟨some 39, .fA 3 (.tmp 1), none, Q0⟩,
  ⟨some 40, .ld (some 5) (.tmp 39), none, Q0⟩,
  ⟨some 41, .rows 1 5 [(.int .i64 0), (.int .i64 0), (.str ⟨#[]⟩), (.sl .null []), (.sl .null [])] [(0, (.tmp 40))], none, Q0⟩,
  ⟨some 42, .app 33 5 80 (.tmp 38) (.tmp 41), none, Q0⟩,
  ⟨some 2, .mv (.tmp 42), none, Q0⟩] false (some [2]))
  .ret)))))
def c76 : EFn := ⟨1, 43, [.tmp 2], c76_b, none, true⟩
theorem c76_l0_step {E : Env} {fin : Kont (PV × St)} {st : List Fr} {ts : Tmps} {S : St} {n : Nat} : (lvl E (n + 1)).ev c76_l0 ts S (kont E fin st) = (lvl E (n + 1)).ev c76_l0_b (sel (some [1, 3, 4]) ts) S (kont E fin (.again n c76_l0 :: st)) := rfl
theorem c76_l0_w {E : Env} {fin : Kont (PV × St)} {st : List Fw} {ts : Tmps} {S : St} : run E fin st c76_l0 ts S = run E fin (.again c76_l0 :: st) c76_l0_b (sel (some [1, 3, 4]) ts) S := w_loop
theorem c76_l0_a {E : Env} {fin : Kont (PV × St)} {st : List Fw} {ts : Tmps} {S : St} : aft E fin (.again c76_l0 :: st) .normal ts S = run E fin st c76_l0 (sel (some [1, 3, 4]) ts) S := a_again_s
theorem c76_l1_step {E : Env} {fin : Kont (PV × St)} {st : List Fr} {ts : Tmps} {S : St} {n : Nat} : (lvl E (n + 1)).ev c76_l1 ts S (kont E fin st) = (lvl E (n + 1)).ev c76_l1_b (sel (some [1, 3, 5]) ts) S (kont E fin (.again n c76_l1 :: st)) := rfl
theorem c76_l1_w {E : Env} {fin : Kont (PV × St)} {st : List Fw} {ts : Tmps} {S : St} : run E fin st c76_l1 ts S = run E fin (.again c76_l1 :: st) c76_l1_b (sel (some [1, 3, 5]) ts) S := w_loop
theorem c76_l1_a {E : Env} {fin : Kont (PV × St)} {st : List Fw} {ts : Tmps} {S : St} : aft E fin (.again c76_l1 :: st) .normal ts S = run E fin st c76_l1 (sel (some [1, 3, 5]) ts) S := a_again_s
theorem c76_ok : cFn Try.prog Try.f76 = some c76.strip := by kernel_rfl
-- limbeck/limbeckref01.Var
def c77_b : EC := (.seq (.reg 0 [⟨some 2, .mv (.con (.bool false)), none, Q0⟩] false (some [0]))
  (.seq (.reg 1 [⟨some 3, .mv (.tmp 0), none, Q0⟩,
  ⟨some 4, .call (.con (.fn 95 [] [])) [(.tmp 3)], none, Q0⟩,
  ⟨some 5, .bin .eql (.tmp 4) (.con (.int .i64 2)), none, Q0⟩,
  ⟨some 2, .mv (.tmp 5), none, Q0⟩] false (some [2]))
  .ret))
def c77 : EFn := ⟨1, 6, [.tmp 2], c77_b, none, true⟩
theorem c77_ok : cFn Try.prog Try.f77 = some c77.strip := by kernel_rfl
-- limbeck/limbeckref09.Names
def c78_l0_b : EC := (.seq (.seq (.reg 3 [⟨some 5, .mv (.tmp 4), none, Q0⟩,
  ⟨some 6, .mv (.tmp 0), none, Q0⟩,
  ⟨some 7, .len false (.tmp 6), none, Q0⟩,
  ⟨some 8, .bin .lss (.tmp 5) (.tmp 7), none, Q0⟩] false (some [0, 3, 4, 8]))
  (.cond (.tmp 8) .skip (.exit 0)))
  (.seq (.block 1 (.reg 5 [⟨some 11, .mv (.tmp 3), none, Q0⟩,
  ⟨some 12, .mv (.tmp 0), none, Q0⟩,
  ⟨some 13, .mv (.tmp 4), none, Q0⟩,
  ⟨some 14, .ixL 6 (.tmp 12) (.tmp 13), none, Q0⟩,
  ⟨some 15, .fA 0 (.tmp 14), none, Q0⟩,
  ⟨some 16, .ld none (.tmp 15), none, Q0⟩,
  ⟨some 17, .rows 1 1 [(.str ⟨#[]⟩)] [(0, (.tmp 16))], none, Q0⟩,
  ⟨some 18, .app 9 1 16 (.tmp 11) (.tmp 17), none, Q0⟩,
  ⟨some 3, .mv (.tmp 18), none, Q0⟩] false (some [0, 3, 4])))
  (.reg 4 [⟨some 9, .mv (.tmp 4), none, Q0⟩,
  ⟨some 10, .bin .add (.tmp 9) (.con (.int .i64 1)), none, Q0⟩,
  ⟨some 4, .mv (.tmp 10), none, Q0⟩] false (some [0, 3, 4]))))
def c78_l0 : EC := .loop (some [0, 3, 4]) c78_l0_b
def c78_b : EC := (.seq (.reg 0 [⟨some 2, .mv (.con (.sl .null [])), none, Q0⟩] false (some [0]))
  (.seq (.reg 1 [⟨some 3, .mv (.con (.sl .null [])), none, Q0⟩] false (some [0, 3]))
  (.seq (.seq (.reg 2 [⟨some 4, .mv (.con (.int .i64 0)), none, Q0⟩] false (some [0, 3, 4]))
  (.block 0 c78_l0))
  (.seq (.reg 6 [⟨some 19, .mv (.tmp 3), none, Q0⟩,
  ⟨some 2, .mv (.tmp 19), none, Q0⟩] false (some [2]))
  .ret))))
def c78 : EFn := ⟨1, 20, [.tmp 2], c78_b, none, true⟩
theorem c78_l0_step {E : Env} {fin : Kont (PV × St)} {st : List Fr} {ts : Tmps} {S : St} {n : Nat} : (lvl E (n + 1)).ev c78_l0 ts S (kont E fin st) = (lvl E (n + 1)).ev c78_l0_b (sel (some [0, 3, 4]) ts) S (kont E fin (.again n c78_l0 :: st)) := rfl
theorem c78_l0_w {E : Env} {fin : Kont (PV × St)} {st : List Fw} {ts : Tmps} {S : St} : run E fin st c78_l0 ts S = run E fin (.again c78_l0 :: st) c78_l0_b (sel (some [0, 3, 4]) ts) S := w_loop
theorem c78_l0_a {E : Env} {fin : Kont (PV × St)} {st : List Fw} {ts : Tmps} {S : St} : aft E fin (.again c78_l0 :: st) .normal ts S = run E fin st c78_l0 (sel (some [0, 3, 4]) ts) S := a_again_s
theorem c78_ok : cFn Try.prog Try.f78 = some c78.strip := by kernel_rfl
-- limbeck/limbeckref14.own
def c79_r1 : List EI := [⟨some 8, .fA 0 (.tmp 1), none, Q0⟩,
  ⟨some 9, .ld none (.tmp 8), none, Q0⟩,
  ⟨some 10, .bin .lss (.tmp 9) (.con (.int .i64 1)), none, Q0⟩,
  ⟨some 11, .mv (.tmp 10), none, Q0⟩,
  ⟨some 12, .fA 0 (.tmp 1), some (11, false), Q0⟩,
  ⟨some 13, .ld none (.tmp 12), some (11, false), Q0⟩,
  ⟨some 14, .bin .gtr (.tmp 13) (.con (.int .i64 13)), some (11, false), Q0⟩,
  ⟨some 15, .pick (.tmp 11) (.con (.bool true)) (.tmp 14), none, Q0⟩]
def c79_r3 : List EI := [⟨some 16, .fA 0 (.tmp 1), none, Q0⟩,
  ⟨some 17, .ld none (.tmp 16), none, Q0⟩,
  ⟨some 18, .bin .eql (.tmp 17) (.con (.int .i64 4)), none, Q0⟩,
  ⟨some 19, .mv (.tmp 18), none, Q0⟩,
  ⟨some 20, .fA 0 (.tmp 1), some (19, false), Q0⟩,
  ⟨some 21, .ld none (.tmp 20), some (19, false), Q0⟩,
  ⟨some 22, .bin .eql (.tmp 21) (.con (.int .i64 5)), some (19, false), Q0⟩,
  ⟨some 23, .pick (.tmp 19) (.con (.bool true)) (.tmp 22), none, Q0⟩,
  ⟨some 24, .mv (.tmp 23), none, Q0⟩,
  ⟨some 25, .fA 0 (.tmp 1), some (24, false), Q0⟩,
  ⟨some 26, .ld none (.tmp 25), some (24, false), Q0⟩,
  ⟨some 27, .bin .eql (.tmp 26) (.con (.int .i64 7)), some (24, false), Q0⟩,
  ⟨some 28, .pick (.tmp 24) (.con (.bool true)) (.tmp 27), none, Q0⟩,
  ⟨some 29, .mv (.tmp 28), none, Q0⟩,
  ⟨some 30, .fA 0 (.tmp 1), some (29, false), Q0⟩,
  ⟨some 31, .ld none (.tmp 30), some (29, false), Q0⟩,
  ⟨some 32, .bin .eql (.tmp 31) (.con (.int .i64 10)), some (29, false), Q0⟩,
  ⟨some 33, .pick (.tmp 29) (.con (.bool true)) (.tmp 32), none, Q0⟩,
  ⟨some 34, .mv (.tmp 33), none, Q0⟩,
  ⟨some 35, .fA 0 (.tmp 1), some (34, false), Q0⟩,
  ⟨some 36, .ld none (.tmp 35), some (34, false), Q0⟩,
  ⟨some 37, .bin .eql (.tmp 36) (.con (.int .i64 13)), some (34, false), Q0⟩,
  ⟨some 38, .pick (.tmp 34) (.con (.bool true)) (.tmp 37), none, Q0⟩,
  ⟨some 3, .mv (.tmp 38), none, Q0⟩]
def c79_r4 : List EI := [⟨some 39, .mv (.tmp 3), none, Q0⟩,
  ⟨some 40, .mv (.tmp 39), none, Q0⟩,
  ⟨some 41, .fA 2 (.tmp 1), some (40, true), Q0⟩,
  ⟨some 42, .ld none (.tmp 41), some (40, true), Q0⟩,
  ⟨some 43, .call (.con (.fn 74 [] [])) [(.tmp 42)], some (40, true), Q0⟩,
  ⟨some 44, .un .not (.tmp 43), some (40, true), Q0⟩,
  ⟨some 45, .pick (.tmp 40) (.tmp 44) (.con (.bool false)), none, Q0⟩,
  ⟨some 46, .mv (.tmp 45), none, Q0⟩,
  ⟨some 47, .mv (.tmp 3), some (46, false), Q0⟩,
  ⟨some 48, .un .not (.tmp 47), some (46, false), Q0⟩,
  ⟨some 49, .mv (.tmp 48), some (46, false), Q0⟩,
  ⟨some 50, .fA 0 (.tmp 1), some (49, true), Q0⟩,
  ⟨some 51, .ld none (.tmp 50), some (49, true), Q0⟩,
  ⟨some 52, .bin .neq (.tmp 51) (.con (.int .i64 3)), some (49, true), Q0⟩,
  ⟨some 53, .pick (.tmp 49) (.tmp 52) (.con (.bool false)), some (46, false), Q0⟩,
  ⟨some 54, .mv (.tmp 53), some (46, false), Q0⟩,
  ⟨some 55, .fA 2 (.tmp 1), some (54, true), Q0⟩,
  ⟨some 56, .ld none (.tmp 55), some (54, true), Q0⟩,
  ⟨some 57, .bin .neq (.tmp 56) (.con (.str ⟨#[]⟩)), some (54, true), Q0⟩,
  ⟨some 58, .pick (.tmp 54) (.tmp 57) (.con (.bool false)), some (46, false), Q0⟩,
  ⟨some 59, .pick (.tmp 46) (.con (.bool true)) (.tmp 58), none, Q0⟩,
  ⟨some 60, .mv (.tmp 59), none, Q0⟩,
  ⟨some 61, .fA 0 (.tmp 1), some (60, false), Q0⟩,
  ⟨some 62, .ld none (.tmp 61), some (60, false), Q0⟩,
  ⟨some 63, .bin .eql (.tmp 62) (.con (.int .i64 3)), some (60, false), Q0⟩,
  ⟨some 64, .mv (.tmp 63), some (60, false), Q0⟩,
  ⟨some 65, .fA 2 (.tmp 1), some (64, true), Q0⟩,
  ⟨some 66, .ld none (.tmp 65), some (64, true), Q0⟩,
  ⟨some 67, .len true (.tmp 66), some (64, true), Q0⟩,
  ⟨some 68, .bin .gtr (.tmp 67) (.con (.int .i64 40)), some (64, true), Q0⟩,
  ⟨some 69, .pick (.tmp 64) (.tmp 68) (.con (.bool false)), some (60, false), Q0⟩,
  ⟨some 70, .pick (.tmp 60) (.con (.bool true)) (.tmp 69), none, Q0⟩]
def c79_r6 : List EI := [⟨some 71, .fA 0 (.tmp 1), none, Q0⟩,
  ⟨some 72, .ld none (.tmp 71), none, Q0⟩,
  ⟨some 73, .bin .eql (.tmp 72) (.con (.int .i64 1)), none, Q0⟩,
  ⟨some 74, .mv (.tmp 73), none, Q0⟩,
  ⟨some 75, .fA 1 (.tmp 1), some (74, true), Q0⟩,
  ⟨some 76, .ld none (.tmp 75), some (74, true), Q0⟩,
  ⟨some 77, .bin .lss (.tmp 76) (.con (.int .i64 0)), some (74, true), Q0⟩,
  ⟨some 78, .pick (.tmp 74) (.tmp 77) (.con (.bool false)), none, Q0⟩,
  ⟨some 79, .mv (.tmp 78), none, Q0⟩,
  ⟨some 80, .fA 0 (.tmp 1), some (79, false), Q0⟩,
  ⟨some 81, .ld none (.tmp 80), some (79, false), Q0⟩,
  ⟨some 82, .bin .eql (.tmp 81) (.con (.int .i64 2)), some (79, false), Q0⟩,
  ⟨some 83, .mv (.tmp 82), some (79, false), Q0⟩,
  ⟨some 84, .fA 1 (.tmp 1), some (83, true), Q0⟩,
  ⟨some 85, .ld none (.tmp 84), some (83, true), Q0⟩,
  ⟨some 86, .bin .neq (.tmp 85) (.con (.int .i64 0)), some (83, true), Q0⟩,
  ⟨some 87, .pick (.tmp 83) (.tmp 86) (.con (.bool false)), some (79, false), Q0⟩,
  ⟨some 88, .mv (.tmp 87), some (79, false), Q0⟩,
  ⟨some 89, .fA 1 (.tmp 1), some (88, true), Q0⟩,
  ⟨some 90, .ld none (.tmp 89), some (88, true), Q0⟩,
  ⟨some 91, .bin .neq (.tmp 90) (.con (.int .i64 1)), some (88, true), Q0⟩,
  ⟨some 92, .pick (.tmp 88) (.tmp 91) (.con (.bool false)), some (79, false), Q0⟩,
  ⟨some 93, .pick (.tmp 79) (.con (.bool true)) (.tmp 92), none, Q0⟩,
  ⟨some 94, .mv (.tmp 93), none, Q0⟩,
  ⟨some 95, .fA 0 (.tmp 1), some (94, false), Q0⟩,
  ⟨some 96, .ld none (.tmp 95), some (94, false), Q0⟩,
  ⟨some 97, .bin .eql (.tmp 96) (.con (.int .i64 11)), some (94, false), Q0⟩,
  ⟨some 98, .mv (.tmp 97), some (94, false), Q0⟩,
  ⟨some 99, .fA 1 (.tmp 1), some (98, true), Q0⟩,
  ⟨some 100, .ld none (.tmp 99), some (98, true), Q0⟩,
  ⟨some 101, .bin .lss (.tmp 100) (.con (.int .i64 1)), some (98, true), Q0⟩,
  ⟨some 102, .mv (.tmp 101), some (98, true), Q0⟩,
  ⟨some 103, .fA 1 (.tmp 1), some (102, false), Q0⟩,
  ⟨some 104, .ld none (.tmp 103), some (102, false), Q0⟩,
  ⟨some 105, .bin .gtr (.tmp 104) (.con (.int .i64 7)), some (102, false), Q0⟩,
  ⟨some 106, .pick (.tmp 102) (.con (.bool true)) (.tmp 105), some (98, true), Q0⟩,
  ⟨some 107, .pick (.tmp 98) (.tmp 106) (.con (.bool false)), some (94, false), Q0⟩,
  ⟨some 108, .pick (.tmp 94) (.con (.bool true)) (.tmp 107), none, Q0⟩]
def c79_r8 : List EI := [⟨some 109, .fA 0 (.tmp 1), none, Q0⟩,
  ⟨some 110, .ld none (.tmp 109), none, Q0⟩,
  ⟨some 111, .bin .neq (.tmp 110) (.con (.int .i64 1)), none, Q0⟩,
  ⟨some 112, .mv (.tmp 111), none, Q0⟩,
  ⟨some 113, .fA 0 (.tmp 1), some (112, true), Q0⟩,
  ⟨some 114, .ld none (.tmp 113), some (112, true), Q0⟩,
  ⟨some 115, .bin .neq (.tmp 114) (.con (.int .i64 2)), some (112, true), Q0⟩,
  ⟨some 116, .pick (.tmp 112) (.tmp 115) (.con (.bool false)), none, Q0⟩,
  ⟨some 117, .mv (.tmp 116), none, Q0⟩,
  ⟨some 118, .fA 0 (.tmp 1), some (117, true), Q0⟩,
  ⟨some 119, .ld none (.tmp 118), some (117, true), Q0⟩,
  ⟨some 120, .bin .neq (.tmp 119) (.con (.int .i64 11)), some (117, true), Q0⟩,
  ⟨some 121, .pick (.tmp 117) (.tmp 120) (.con (.bool false)), none, Q0⟩,
  ⟨some 122, .mv (.tmp 121), none, Q0⟩,
  ⟨some 123, .fA 1 (.tmp 1), some (122, true), Q0⟩,
  ⟨some 124, .ld none (.tmp 123), some (122, true), Q0⟩,
  ⟨some 125, .bin .neq (.tmp 124) (.con (.int .i64 0)), some (122, true), Q0⟩,
  ⟨some 126, .pick (.tmp 122) (.tmp 125) (.con (.bool false)), none, Q0⟩,
  ⟨some 127, .mv (.tmp 126), none, Q0⟩,
  ⟨some 128, .fA 0 (.tmp 1), some (127, false), Q0⟩,
  ⟨some 129, .ld none (.tmp 128), some (127, false), Q0⟩,
  ⟨some 130, .bin .neq (.tmp 129) (.con (.int .i64 13)), some (127, false), Q0⟩,
  ⟨some 131, .mv (.tmp 130), some (127, false), Q0⟩,
  ⟨some 132, .fA 3 (.tmp 1), some (131, true), Q0⟩,
  ⟨some 133, .ld none (.tmp 132), some (131, true), Q0⟩,
  ⟨some 134, .pick (.tmp 131) (.tmp 133) (.con (.bool false)), some (127, false), Q0⟩,
  ⟨some 135, .pick (.tmp 127) (.con (.bool true)) (.tmp 134), none, Q0⟩]
def c79_r10 : List EI := [⟨some 136, .fA 0 (.tmp 1), none, Q0⟩,
  ⟨some 137, .ld none (.tmp 136), none, Q0⟩,
  ⟨some 138, .bin .neq (.tmp 137) (.con (.int .i64 9)), none, Q0⟩,
  ⟨some 139, .mv (.tmp 138), none, Q0⟩,
  ⟨some 140, .fA 5 (.tmp 1), some (139, true), Q0⟩,
  ⟨some 141, .ld none (.tmp 140), some (139, true), Q0⟩,
  ⟨some 142, .len false (.tmp 141), some (139, true), Q0⟩,
  ⟨some 143, .bin .gtr (.tmp 142) (.con (.int .i64 0)), some (139, true), Q0⟩,
  ⟨some 144, .pick (.tmp 139) (.tmp 143) (.con (.bool false)), none, Q0⟩,
  ⟨some 145, .mv (.tmp 144), none, Q0⟩,
  ⟨some 146, .fA 5 (.tmp 1), some (145, false), Q0⟩,
  ⟨some 147, .ld none (.tmp 146), some (145, false), Q0⟩,
  ⟨some 148, .call (.con (.fn 98 [] [])) [(.tmp 147)], some (145, false), Q0⟩,
  ⟨some 149, .un .not (.tmp 148), some (145, false), Q0⟩,
  ⟨some 150, .pick (.tmp 145) (.con (.bool true)) (.tmp 149), none, Q0⟩,
  ⟨some 151, .mv (.tmp 150), none, Q0⟩,
  ⟨some 152, .fA 5 (.tmp 1), some (151, false), Q0⟩,
  ⟨some 153, .ld none (.tmp 152), some (151, false), Q0⟩,
  ⟨some 154, .len false (.tmp 153), some (151, false), Q0⟩,
  ⟨some 155, .bin .gtr (.tmp 154) (.con (.int .i64 6)), some (151, false), Q0⟩,
  ⟨some 156, .pick (.tmp 151) (.con (.bool true)) (.tmp 155), none, Q0⟩]
def c79_r13 : List EI := [⟨some 164, .fA 4 (.tmp 1), none, Q0⟩,
  ⟨some 165, .ld none (.tmp 164), none, Q0⟩,
  ⟨some 166, .len false (.tmp 165), none, Q0⟩,
  ⟨some 167, .mv (.tmp 4), none, Q0⟩,
  ⟨some 168, .bin .geq (.tmp 166) (.tmp 167), none, Q0⟩,
  ⟨some 169, .mv (.tmp 168), none, Q0⟩,
  ⟨some 170, .fA 4 (.tmp 1), some (169, true), Q0⟩,
  ⟨some 171, .ld none (.tmp 170), some (169, true), Q0⟩,
  ⟨some 172, .len false (.tmp 171), some (169, true), Q0⟩,
  ⟨some 173, .mv (.tmp 5), some (169, true), Q0⟩,
  ⟨some 174, .bin .leq (.tmp 172) (.tmp 173), some (169, true), Q0⟩,
  ⟨some 175, .pick (.tmp 169) (.tmp 174) (.con (.bool false)), none, Q0⟩,
  ⟨some 176, .mv (.tmp 175), none, Q0⟩,
  ⟨some 177, .fA 6 (.tmp 1), some (176, true), Q0⟩,
  ⟨some 178, .ld none (.tmp 177), some (176, true), Q0⟩,
  ⟨some 179, .len false (.tmp 178), some (176, true), Q0⟩,
  ⟨some 180, .mv (.tmp 6), some (176, true), Q0⟩,
  ⟨some 181, .bin .geq (.tmp 179) (.tmp 180), some (176, true), Q0⟩,
  ⟨some 182, .pick (.tmp 176) (.tmp 181) (.con (.bool false)), none, Q0⟩,
  ⟨some 183, .mv (.tmp 182), none, Q0⟩,
  ⟨some 184, .fA 6 (.tmp 1), some (183, true), Q0⟩,
  ⟨some 185, .ld none (.tmp 184), some (183, true), Q0⟩,
  ⟨some 186, .len false (.tmp 185), some (183, true), Q0⟩,
  ⟨some 187, .mv (.tmp 7), some (183, true), Q0⟩,
  ⟨some 188, .bin .leq (.tmp 186) (.tmp 187), some (183, true), Q0⟩,
  ⟨some 189, .pick (.tmp 183) (.tmp 188) (.con (.bool false)), none, Q0⟩,
  ⟨some 190, .mv (.tmp 189), none, Q0⟩,
  ⟨some 191, .fA 4 (.tmp 1), some (190, true), Q0⟩,
  ⟨some 192, .ld none (.tmp 191), some (190, true), Q0⟩,
  ⟨some 193, .call (.con (.fn 75 [] [])) [(.tmp 192)], some (190, true), Q0⟩,
  ⟨some 194, .pick (.tmp 190) (.tmp 193) (.con (.bool false)), none, Q0⟩,
  ⟨some 2, .mv (.tmp 194), none, Q0⟩]
def c79_b : EC := (.seq (.reg 0 [⟨some 1, .boxI 38 (.tmp 0), none, Q0⟩,
  ⟨some 2, .mv (.con (.bool false)), none, Q0⟩] false (some [1]))
  (.seq (.seq (.reg 1 c79_r1 false (some [1, 15]))
  (.cond (.tmp 15) (.seq (.reg 2 [⟨some 2, .mv (.con (.bool false)), none, Q0⟩] false (some [2]))
  .ret) .skip))
  (.seq (.reg 3 c79_r3 false (some [1, 3]))
  (.seq (.seq (.reg 4 c79_r4 false (some [1, 70]))
  (.cond (.tmp 70) (.seq (.reg 5 [⟨some 2, .mv (.con (.bool false)), none, Q0⟩] false (some [2]))
  .ret) .skip))
  (.seq (.seq (.reg 6 c79_r6 false (some [1, 108]))
  (.cond (.tmp 108) (.seq (.reg 7 [⟨some 2, .mv (.con (.bool false)), none, Q0⟩] false (some [2]))
  .ret) .skip))
  (.seq (.seq (.reg 8 c79_r8 false (some [1, 135]))
  (.cond (.tmp 135) (.seq (.reg 9 [⟨some 2, .mv (.con (.bool false)), none, Q0⟩] false (some [2]))
  .ret) .skip))
  (.seq (.seq (.reg 10 c79_r10 false (some [1, 156]))
  (.cond (.tmp 156) (.seq (.reg 11 [⟨some 2, .mv (.con (.bool false)), none, Q0⟩] false (some [2]))
  .ret) .skip))
  (.seq (.reg 12 [⟨some 158, .ld (some 7) (.tmp 1), none, Q0⟩,
  ⟨some 159, .call (.con (.fn 99 [] [])) [(.tmp 158)], none, Q0⟩,
  ⟨some 157, .mv (.tmp 159), none, Q0⟩,
  ⟨some 160, .ext (.tmp 157) 0, none, Q0⟩,
  ⟨some 161, .ext (.tmp 157) 1, none, Q0⟩,
  ⟨some 162, .ext (.tmp 157) 2, none, Q0⟩,
  ⟨some 163, .ext (.tmp 157) 3, none, Q0⟩,
  ⟨some 4, .mv (.tmp 160), none, Q0⟩,
  ⟨some 5, .mv (.tmp 161), none, Q0⟩,
  ⟨some 6, .mv (.tmp 162), none, Q0⟩,
  ⟨some 7, .mv (.tmp 163), none, Q0⟩] false (some [1, 4, 5, 6, 7]))
  (.seq (.reg 13 c79_r13 false (some [2]))
  .ret)))))))))
def c79 : EFn := ⟨1, 195, [.tmp 2], c79_b, none, true⟩
theorem c79_ok : cFn Try.prog Try.f79 = some c79.strip := by kernel_rfl
-- limbeck/limbeckref14.Nodes
def c80_l0_b : EC := (.seq (.seq (.reg 3 [⟨some 6, .mv (.tmp 4), none, Q0⟩,
  ⟨some 7, .fA 4 (.tmp 1), none, Q0⟩,
  ⟨some 8, .ld none (.tmp 7), none, Q0⟩,
  ⟨some 9, .len false (.tmp 8), none, Q0⟩,
  ⟨some 10, .bin .lss (.tmp 6) (.tmp 9), none, Q0⟩] false (some [1, 3, 4, 10]))
  (.cond (.tmp 10) .skip (.exit 0)))
  (.seq (.block 1 (.reg 5 [⟨some 13, .mv (.tmp 3), none, Q0⟩,
  ⟨some 14, .fA 4 (.tmp 1), none, Q0⟩,
  ⟨some 15, .ld none (.tmp 14), none, Q0⟩,
  ⟨some 16, .mv (.tmp 4), none, Q0⟩,
  ⟨some 17, .ixL 5 (.tmp 15) (.tmp 16), none, Q0⟩,
  ⟨some 18, .ld (some 5) (.tmp 17), none, Q0⟩,
  ⟨some 19, .call (.con (.fn 82 [] [])) [(.tmp 18)], none, Q0⟩,
  ⟨some 20, .bin .add (.tmp 13) (.tmp 19), none, Q0⟩,
  ⟨some 3, .mv (.tmp 20), none, Q0⟩] false (some [1, 3, 4])))
  (.reg 4 [⟨some 11, .mv (.tmp 4), none, Q0⟩,
  ⟨some 12, .bin .add (.tmp 11) (.con (.int .i64 1)), none, Q0⟩,
  ⟨some 4, .mv (.tmp 12), none, Q0⟩] false (some [1, 3, 4]))))
def c80_l0 : EC := .loop (some [1, 3, 4]) c80_l0_b
def c80_l1_b : EC := (.seq (.seq (.reg 7 [⟨some 21, .mv (.tmp 5), none, Q0⟩,
  ⟨some 22, .fA 6 (.tmp 1), none, Q0⟩,
  ⟨some 23, .ld none (.tmp 22), none, Q0⟩,
  ⟨some 24, .len false (.tmp 23), none, Q0⟩,
  ⟨some 25, .bin .lss (.tmp 21) (.tmp 24), none, Q0⟩] false (some [1, 3, 5, 25]))
  (.cond (.tmp 25) .skip (.exit 2)))
  (.seq (.block 3 (.reg 9 [⟨some 28, .mv (.tmp 3), none, Q0⟩,
  ⟨some 29, .fA 6 (.tmp 1), none, Q0⟩,
  ⟨some 30, .ld none (.tmp 29), none, Q0⟩,
  ⟨some 31, .mv (.tmp 5), none, Q0⟩,
  ⟨some 32, .ixL 7 (.tmp 30) (.tmp 31), none, Q0⟩,
  ⟨some 33, .ld (some 7) (.tmp 32), none, Q0⟩,
  ⟨some 34, .call (.con (.fn 80 [] [])) [(.tmp 33)], none, Q0⟩,
  ⟨some 35, .bin .add (.tmp 28) (.tmp 34), none, Q0⟩,
  ⟨some 3, .mv (.tmp 35), none, Q0⟩] false (some [1, 3, 5])))
  (.reg 8 [⟨some 26, .mv (.tmp 5), none, Q0⟩,
  ⟨some 27, .bin .add (.tmp 26) (.con (.int .i64 1)), none, Q0⟩,
  ⟨some 5, .mv (.tmp 27), none, Q0⟩] false (some [1, 3, 5]))))
def c80_l1 : EC := .loop (some [1, 3, 5]) c80_l1_b
def c80_b : EC := (.seq (.reg 0 [⟨some 1, .boxI 38 (.tmp 0), none, Q0⟩,
  ⟨some 2, .mv (.con (.int .i64 0)), none, Q0⟩] false (some [1]))
  (.seq (.reg 1 [⟨some 3, .mv (.con (.int .i64 1)), none, Q0⟩] false (some [1, 3]))
  (.seq (.seq (.reg 2 [⟨some 4, .mv (.con (.int .i64 0)), none, Q0⟩] false (some [1, 3, 4]))
  (.block 0 c80_l0))
  (.seq (.seq (.reg 6 [⟨some 5, .mv (.con (.int .i64 0)), none, Q0⟩] false (some [1, 3, 5]))
  (.block 2 c80_l1))
  (.seq (.reg 10 [⟨some 36, .mv (.tmp 3), none, Q0⟩,
  ⟨some 2, .mv (.tmp 36), none, Q0⟩] false (some [2]))
  .ret)))))
def c80 : EFn := ⟨1, 37, [.tmp 2], c80_b, none, true⟩
theorem c80_l0_step {E : Env} {fin : Kont (PV × St)} {st : List Fr} {ts : Tmps} {S : St} {n : Nat} : (lvl E (n + 1)).ev c80_l0 ts S (kont E fin st) = (lvl E (n + 1)).ev c80_l0_b (sel (some [1, 3, 4]) ts) S (kont E fin (.again n c80_l0 :: st)) := rfl
theorem c80_l0_w {E : Env} {fin : Kont (PV × St)} {st : List Fw} {ts : Tmps} {S : St} : run E fin st c80_l0 ts S = run E fin (.again c80_l0 :: st) c80_l0_b (sel (some [1, 3, 4]) ts) S := w_loop
theorem c80_l0_a {E : Env} {fin : Kont (PV × St)} {st : List Fw} {ts : Tmps} {S : St} : aft E fin (.again c80_l0 :: st) .normal ts S = run E fin st c80_l0 (sel (some [1, 3, 4]) ts) S := a_again_s
theorem c80_l1_step {E : Env} {fin : Kont (PV × St)} {st : List Fr} {ts : Tmps} {S : St} {n : Nat} : (lvl E (n + 1)).ev c80_l1 ts S (kont E fin st) = (lvl E (n + 1)).ev c80_l1_b (sel (some [1, 3, 5]) ts) S (kont E fin (.again n c80_l1 :: st)) := rfl
theorem c80_l1_w {E : Env} {fin : Kont (PV × St)} {st : List Fw} {ts : Tmps} {S : St} : run E fin st c80_l1 ts S = run E fin (.again c80_l1 :: st) c80_l1_b (sel (some [1, 3, 5]) ts) S := w_loop
theorem c80_l1_a {E : Env} {fin : Kont (PV × St)} {st : List Fw} {ts : Tmps} {S : St} : aft E fin (.again c80_l1 :: st) .normal ts S = run E fin st c80_l1 (sel (some [1, 3, 5]) ts) S := a_again_s
theorem c80_ok : cFn Try.prog Try.f80 = some c80.strip := by kernel_rfl
-- limbeck/limbeckref14.Depth
def c81_l0_b : EC := (.seq (.seq (.reg 3 [⟨some 6, .mv (.tmp 4), none, Q0⟩,
  ⟨some 7, .fA 4 (.tmp 1), none, Q0⟩,
  ⟨some 8, .ld none (.tmp 7), none, Q0⟩,
  ⟨some 9, .len false (.tmp 8), none, Q0⟩,
  ⟨some 10, .bin .lss (.tmp 6) (.tmp 9), none, Q0⟩] false (some [1, 3, 4, 10]))
  (.cond (.tmp 10) .skip (.exit 0)))
  (.seq (.block 1 (.reg 5 [⟨some 13, .mv (.tmp 3), none, Q0⟩,
  ⟨some 14, .fA 4 (.tmp 1), none, Q0⟩,
  ⟨some 15, .ld none (.tmp 14), none, Q0⟩,
  ⟨some 16, .mv (.tmp 4), none, Q0⟩,
  ⟨some 17, .ixL 5 (.tmp 15) (.tmp 16), none, Q0⟩,
  ⟨some 18, .ld (some 5) (.tmp 17), none, Q0⟩,
  ⟨some 19, .call (.con (.fn 83 [] [])) [(.tmp 18)], none, Q0⟩,
  ⟨some 20, .mx false (.tmp 13) (.tmp 19), none, Q0⟩,
  ⟨some 3, .mv (.tmp 20), none, Q0⟩] false (some [1, 3, 4])))
  (.reg 4 [⟨some 11, .mv (.tmp 4), none, Q0⟩,
  ⟨some 12, .bin .add (.tmp 11) (.con (.int .i64 1)), none, Q0⟩,
  ⟨some 4, .mv (.tmp 12), none, Q0⟩] false (some [1, 3, 4]))))
def c81_l0 : EC := .loop (some [1, 3, 4]) c81_l0_b
def c81_l1_b : EC := (.seq (.seq (.reg 7 [⟨some 21, .mv (.tmp 5), none, Q0⟩,
  ⟨some 22, .fA 6 (.tmp 1), none, Q0⟩,
  ⟨some 23, .ld none (.tmp 22), none, Q0⟩,
  ⟨some 24, .len false (.tmp 23), none, Q0⟩,
  ⟨some 25, .bin .lss (.tmp 21) (.tmp 24), none, Q0⟩] false (some [1, 3, 5, 25]))
  (.cond (.tmp 25) .skip (.exit 2)))
  (.seq (.block 3 (.reg 9 [⟨some 28, .mv (.tmp 3), none, Q0⟩,
  ⟨some 29, .fA 6 (.tmp 1), none, Q0⟩,
  ⟨some 30, .ld none (.tmp 29), none, Q0⟩,
  ⟨some 31, .mv (.tmp 5), none, Q0⟩,
  ⟨some 32, .ixL 7 (.tmp 30) (.tmp 31), none, Q0⟩,
  ⟨some 33, .ld (some 7) (.tmp 32), none, Q0⟩,
  ⟨some 34, .call (.con (.fn 81 [] [])) [(.tmp 33)], none, Q0⟩,
  ⟨some 35, .mx false (.tmp 28) (.tmp 34), none, Q0⟩,
  ⟨some 3, .mv (.tmp 35), none, Q0⟩] false (some [1, 3, 5])))
  (.reg 8 [⟨some 26, .mv (.tmp 5), none, Q0⟩,
  ⟨some 27, .bin .add (.tmp 26) (.con (.int .i64 1)), none, Q0⟩,
  ⟨some 5, .mv (.tmp 27), none, Q0⟩] false (some [1, 3, 5]))))
def c81_l1 : EC := .loop (some [1, 3, 5]) c81_l1_b
def c81_b : EC := (.seq (.reg 0 [⟨some 1, .boxI 38 (.tmp 0), none, Q0⟩,
  ⟨some 2, .mv (.con (.int .i64 0)), none, Q0⟩] false (some [1]))
  (.seq (.reg 1 [⟨some 3, .mv (.con (.int .i64 0)), none, Q0⟩] false (some [1, 3]))
  (.seq (.seq (.reg 2 [⟨some 4, .mv (.con (.int .i64 0)), none, Q0⟩] false (some [1, 3, 4]))
  (.block 0 c81_l0))
  (.seq (.seq (.reg 6 [⟨some 5, .mv (.con (.int .i64 0)), none, Q0⟩] false (some [1, 3, 5]))
  (.block 2 c81_l1))
  (.seq (.reg 10 [⟨some 36, .mv (.tmp 3), none, Q0⟩,
  ⟨some 37, .bin .add (.tmp 36) (.con (.int .i64 1)), none, Q0⟩,
  ⟨some 2, .mv (.tmp 37), none, Q0⟩] false (some [2]))
  .ret)))))
def c81 : EFn := ⟨1, 38, [.tmp 2], c81_b, none, true⟩
theorem c81_l0_step {E : Env} {fin : Kont (PV × St)} {st : List Fr} {ts : Tmps} {S : St} {n : Nat} : (lvl E (n + 1)).ev c81_l0 ts S (kont E fin st) = (lvl E (n + 1)).ev c81_l0_b (sel (some [1, 3, 4]) ts) S (kont E fin (.again n c81_l0 :: st)) := rfl
theorem c81_l0_w {E : Env} {fin : Kont (PV × St)} {st : List Fw} {ts : Tmps} {S : St} : run E fin st c81_l0 ts S = run E fin (.again c81_l0 :: st) c81_l0_b (sel (some [1, 3, 4]) ts) S := w_loop
theorem c81_l0_a {E : Env} {fin : Kont (PV × St)} {st : List Fw} {ts : Tmps} {S : St} : aft E fin (.again c81_l0 :: st) .normal ts S = run E fin st c81_l0 (sel (some [1, 3, 4]) ts) S := a_again_s
theorem c81_l1_step {E : Env} {fin : Kont (PV × St)} {st : List Fr} {ts : Tmps} {S : St} {n : Nat} : (lvl E (n + 1)).ev c81_l1 ts S (kont E fin st) = (lvl E (n + 1)).ev c81_l1_b (sel (some [1, 3, 5]) ts) S (kont E fin (.again n c81_l1 :: st)) := rfl
theorem c81_l1_w {E : Env} {fin : Kont (PV × St)} {st : List Fw} {ts : Tmps} {S : St} : run E fin st c81_l1 ts S = run E fin (.again c81_l1 :: st) c81_l1_b (sel (some [1, 3, 5]) ts) S := w_loop
theorem c81_l1_a {E : Env} {fin : Kont (PV × St)} {st : List Fw} {ts : Tmps} {S : St} : aft E fin (.again c81_l1 :: st) .normal ts S = run E fin st c81_l1 (sel (some [1, 3, 5]) ts) S := a_again_s
theorem c81_ok : cFn Try.prog Try.f81 = some c81.strip := by kernel_rfl
-- limbeck/limbeckref04.Nodes
def c82_l0_b : EC := (.seq (.seq (.reg 3 [⟨some 5, .mv (.tmp 4), none, Q0⟩,
  ⟨some 6, .fA 4 (.tmp 1), none, Q0⟩,
  ⟨some 7, .ld none (.tmp 6), none, Q0⟩,
  ⟨some 8, .len false (.tmp 7), none, Q0⟩,
  ⟨some 9, .bin .lss (.tmp 5) (.tmp 8), none, Q0⟩] false (some [1, 3, 4, 9]))
  (.cond (.tmp 9) .skip (.exit 0)))
  (.seq (.block 1 (.reg 5 [⟨some 12, .mv (.tmp 3), none, Q0⟩,
  ⟨some 13, .fA 4 (.tmp 1), none, Q0⟩,
  ⟨some 14, .ld none (.tmp 13), none, Q0⟩,
  ⟨some 15, .mv (.tmp 4), none, Q0⟩,
  ⟨some 16, .ixL 5 (.tmp 14) (.tmp 15), none, Q0⟩,
  ⟨some 17, .ld (some 5) (.tmp 16), none, Q0⟩,
  ⟨some 18, .call (.con (.fn 82 [] [])) [(.tmp 17)], none, Q0⟩,
  ⟨some 19, .bin .add (.tmp 12) (.tmp 18), none, Q0⟩,
  ⟨some 3, .mv (.tmp 19), none, Q0⟩] false (some [1, 3, 4])))
  (.reg 4 [⟨some 10, .mv (.tmp 4), none, Q0⟩,
  ⟨some 11, .bin .add (.tmp 10) (.con (.int .i64 1)), none, Q0⟩,
  ⟨some 4, .mv (.tmp 11), none, Q0⟩] false (some [1, 3, 4]))))
def c82_l0 : EC := .loop (some [1, 3, 4]) c82_l0_b
def c82_b : EC := (.seq (.reg 0 [⟨some 1, .boxI 33 (.tmp 0), none, Q0⟩,
  ⟨some 2, .mv (.con (.int .i64 0)), none, Q0⟩] false (some [1]))
  (.seq (.reg 1 [⟨some 3, .mv (.con (.int .i64 1)), none, Q0⟩] false (some [1, 3]))
  (.seq (.seq (.reg 2 [⟨some 4, .mv (.con (.int .i64 0)), none, Q0⟩] false (some [1, 3, 4]))
  (.block 0 c82_l0))
  (.seq (.reg 6 [⟨some 20, .mv (.tmp 3), none, Q0⟩,
  ⟨some 2, .mv (.tmp 20), none, Q0⟩] false (some [2]))
  .ret))))
def c82 : EFn := ⟨1, 21, [.tmp 2], c82_b, none, true⟩
theorem c82_l0_step {E : Env} {fin : Kont (PV × St)} {st : List Fr} {ts : Tmps} {S : St} {n : Nat} : (lvl E (n + 1)).ev c82_l0 ts S (kont E fin st) = (lvl E (n + 1)).ev c82_l0_b (sel (some [1, 3, 4]) ts) S (kont E fin (.again n c82_l0 :: st)) := rfl
theorem c82_l0_w {E : Env} {fin : Kont (PV × St)} {st : List Fw} {ts : Tmps} {S : St} : run E fin st c82_l0 ts S = run E fin (.again c82_l0 :: st) c82_l0_b (sel (some [1, 3, 4]) ts) S := w_loop
theorem c82_l0_a {E : Env} {fin : Kont (PV × St)} {st : List Fw} {ts : Tmps} {S : St} : aft E fin (.again c82_l0 :: st) .normal ts S = run E fin st c82_l0 (sel (some [1, 3, 4]) ts) S := a_again_s
theorem c82_ok : cFn Try.prog Try.f82 = some c82.strip := by kernel_rfl
-- limbeck/limbeckref04.Depth
def c83_l0_b : EC := (.seq (.seq (.reg 3 [⟨some 5, .mv (.tmp 4), none, Q0⟩,
  ⟨some 6, .fA 4 (.tmp 1), none, Q0⟩,
  ⟨some 7, .ld none (.tmp 6), none, Q0⟩,
  ⟨some 8, .len false (.tmp 7), none, Q0⟩,
  ⟨some 9, .bin .lss (.tmp 5) (.tmp 8), none, Q0⟩] false (some [1, 3, 4, 9]))
  (.cond (.tmp 9) .skip (.exit 0)))
  (.seq (.block 1 (.reg 5 [⟨some 12, .mv (.tmp 3), none, Q0⟩,
  ⟨some 13, .fA 4 (.tmp 1), none, Q0⟩,
  ⟨some 14, .ld none (.tmp 13), none, Q0⟩,
  ⟨some 15, .mv (.tmp 4), none, Q0⟩,
  ⟨some 16, .ixL 5 (.tmp 14) (.tmp 15), none, Q0⟩,
  ⟨some 17, .ld (some 5) (.tmp 16), none, Q0⟩,
  ⟨some 18, .call (.con (.fn 83 [] [])) [(.tmp 17)], none, Q0⟩,
  ⟨some 19, .mx false (.tmp 12) (.tmp 18), none, Q0⟩,
  ⟨some 3, .mv (.tmp 19), none, Q0⟩] false (some [1, 3, 4])))
  (.reg 4 [⟨some 10, .mv (.tmp 4), none, Q0⟩,
  ⟨some 11, .bin .add (.tmp 10) (.con (.int .i64 1)), none, Q0⟩,
  ⟨some 4, .mv (.tmp 11), none, Q0⟩] false (some [1, 3, 4]))))
def c83_l0 : EC := .loop (some [1, 3, 4]) c83_l0_b
def c83_b : EC := (.seq (.reg 0 [⟨some 1, .boxI 33 (.tmp 0), none, Q0⟩,
  ⟨some 2, .mv (.con (.int .i64 0)), none, Q0⟩] false (some [1]))
  (.seq (.reg 1 [⟨some 3, .mv (.con (.int .i64 0)), none, Q0⟩] false (some [1, 3]))
  (.seq (.seq (.reg 2 [⟨some 4, .mv (.con (.int .i64 0)), none, Q0⟩] false (some [1, 3, 4]))
  (.block 0 c83_l0))
  (.seq (.reg 6 [⟨some 20, .mv (.tmp 3), none, Q0⟩,
  ⟨some 21, .bin .add (.tmp 20) (.con (.int .i64 1)), none, Q0⟩,
  ⟨some 2, .mv (.tmp 21), none, Q0⟩] false (some [2]))
  .ret))))
def c83 : EFn := ⟨1, 22, [.tmp 2], c83_b, none, true⟩
theorem c83_l0_step {E : Env} {fin : Kont (PV × St)} {st : List Fr} {ts : Tmps} {S : St} {n : Nat} : (lvl E (n + 1)).ev c83_l0 ts S (kont E fin st) = (lvl E (n + 1)).ev c83_l0_b (sel (some [1, 3, 4]) ts) S (kont E fin (.again n c83_l0 :: st)) := rfl
theorem c83_l0_w {E : Env} {fin : Kont (PV × St)} {st : List Fw} {ts : Tmps} {S : St} : run E fin st c83_l0 ts S = run E fin (.again c83_l0 :: st) c83_l0_b (sel (some [1, 3, 4]) ts) S := w_loop
theorem c83_l0_a {E : Env} {fin : Kont (PV × St)} {st : List Fw} {ts : Tmps} {S : St} : aft E fin (.again c83_l0 :: st) .normal ts S = run E fin st c83_l0 (sel (some [1, 3, 4]) ts) S := a_again_s
theorem c83_ok : cFn Try.prog Try.f83 = some c83.strip := by kernel_rfl
-- limbeck/exp.binds
def c90_b : EC := (.seq (.reg 0 [⟨some 4, .mv (.con (.bool false)), none, Q0⟩] false (some [0, 1]))
  (.seq (.reg 1 [⟨some 5, .mv (.tmp 0), none, Q0⟩,
  ⟨some 6, .mv (.tmp 1), none, Q0⟩,
  ⟨some 7, .call (.con (.fn 101 [] [])) [(.tmp 5), (.tmp 6), (.con (.fn 102 [] []))], none, Q0⟩,
  ⟨some 4, .mv (.tmp 7), none, Q0⟩] false (some [4]))
  .ret))
def c90 : EFn := ⟨2, 8, [.tmp 4], c90_b, none, true⟩
theorem c90_ok : cFn Try.prog Try.f90 = some c90.strip := by kernel_rfl
-- limbeck/ty.Same
def c91_r1 : List EI := [⟨some 5, .fA 0 (.tmp 2), none, Q0⟩,
  ⟨some 6, .ld none (.tmp 5), none, Q0⟩,
  ⟨some 7, .fA 0 (.tmp 3), none, Q0⟩,
  ⟨some 8, .ld none (.tmp 7), none, Q0⟩,
  ⟨some 9, .bin .eql (.tmp 6) (.tmp 8), none, Q0⟩,
  ⟨some 10, .mv (.tmp 9), none, Q0⟩,
  ⟨some 11, .fA 1 (.tmp 2), some (10, true), Q0⟩,
  ⟨some 12, .ld none (.tmp 11), some (10, true), Q0⟩,
  ⟨some 13, .fA 1 (.tmp 3), some (10, true), Q0⟩,
  ⟨some 14, .ld none (.tmp 13), some (10, true), Q0⟩,
  ⟨some 15, .bin .eql (.tmp 12) (.tmp 14), some (10, true), Q0⟩,
  ⟨some 16, .pick (.tmp 10) (.tmp 15) (.con (.bool false)), none, Q0⟩,
  ⟨some 17, .mv (.tmp 16), none, Q0⟩,
  ⟨some 18, .fA 2 (.tmp 2), some (17, true), Q0⟩,
  ⟨some 19, .ld none (.tmp 18), some (17, true), Q0⟩,
  ⟨some 20, .fA 2 (.tmp 3), some (17, true), Q0⟩,
  ⟨some 21, .ld none (.tmp 20), some (17, true), Q0⟩,
  ⟨some 22, .bin .eql (.tmp 19) (.tmp 21), some (17, true), Q0⟩,
  ⟨some 23, .pick (.tmp 17) (.tmp 22) (.con (.bool false)), none, Q0⟩,
  ⟨some 24, .mv (.tmp 23), none, Q0⟩,
  ⟨some 25, .fA 3 (.tmp 2), some (24, true), Q0⟩,
  ⟨some 26, .ld none (.tmp 25), some (24, true), Q0⟩,
  ⟨some 27, .fA 3 (.tmp 3), some (24, true), Q0⟩,
  ⟨some 28, .ld none (.tmp 27), some (24, true), Q0⟩,
  ⟨some 29, .call (.con (.fn 92 [] [])) [(.tmp 26), (.tmp 28)], some (24, true), Q0⟩,
  ⟨some 30, .pick (.tmp 24) (.tmp 29) (.con (.bool false)), none, Q0⟩,
  ⟨some 31, .mv (.tmp 30), none, Q0⟩,
  ⟨some 32, .fA 4 (.tmp 2), some (31, true), Q0⟩,
  ⟨some 33, .ld none (.tmp 32), some (31, true), Q0⟩,
  ⟨some 34, .fA 4 (.tmp 3), some (31, true), Q0⟩,
  ⟨some 35, .ld none (.tmp 34), some (31, true), Q0⟩,
  ⟨some 36, .call (.con (.fn 93 [] [])) [(.tmp 33), (.tmp 35), (.con (.fn 91 [] []))], some (31, true), Q0⟩,
  ⟨some 37, .pick (.tmp 31) (.tmp 36) (.con (.bool false)), none, Q0⟩,
  ⟨some 4, .mv (.tmp 37), none, Q0⟩]
def c91_b : EC := (.seq (.reg 0 [⟨some 2, .boxI 33 (.tmp 0), none, Q0⟩,
  ⟨some 3, .boxI 33 (.tmp 1), none, Q0⟩,
  ⟨some 4, .mv (.con (.bool false)), none, Q0⟩] false (some [2, 3]))
  (.seq (.reg 1 c91_r1 false (some [4]))
  .ret))
def c91 : EFn := ⟨2, 38, [.tmp 4], c91_b, none, true⟩
theorem c91_ok : cFn Try.prog Try.f91 = some c91.strip := by kernel_rfl
-- slices.Equal[[]string,string]
def c92_l0_b : EC := (.seq (.reg 4 [⟨some 14, .bin .lss (.tmp 13) (.tmp 12), none, Q0⟩] false (some [0, 1, 12, 13, 14]))
  (.seq (.cond (.tmp 14) .skip (.exit 0))
  (.seq (.block 1 (.seq (.reg 5 [⟨some 15, .mv (.tmp 13), none, Q0⟩,
  ⟨some 5, .mv (.tmp 15), none, Q0⟩] false (some [0, 1, 5, 12, 13]))
  (.seq (.reg 6 [⟨some 16, .mv (.tmp 0), none, ⟨.no, false⟩⟩,
  ⟨some 17, .mv (.tmp 5), none, ⟨.no, false⟩⟩,
  ⟨some 18, .ixL 1 (.tmp 16) (.tmp 17), none, ⟨.no, false⟩⟩,
  ⟨some 19, .ld none (.tmp 18), none, ⟨.still, false⟩⟩,
  ⟨some 20, .mv (.tmp 1), none, ⟨.no, false⟩⟩,
  ⟨some 21, .mv (.tmp 5), none, Q0⟩,
  ⟨some 22, .ixL 1 (.tmp 20) (.tmp 21), none, Q0⟩,
  ⟨some 23, .ld none (.tmp 22), none, Q1⟩,
  ⟨some 24, .bin .neq (.tmp 19) (.tmp 23), none, Q0⟩] true (some [0, 1, 12, 13, 24]))
  (.cond (.tmp 24) (.seq (.reg 7 [⟨some 4, .mv (.con (.bool false)), none, Q0⟩] false (some [4]))
  .ret) .skip))))
  (.reg 8 [⟨some 25, .bin .add (.tmp 13) (.con (.int .i64 1)), none, Q0⟩,
  ⟨some 13, .mv (.tmp 25), none, Q0⟩] false (some [0, 1, 12, 13])))))
def c92_l0 : EC := .loop (some [0, 1, 12, 13]) c92_l0_b
def c92_b : EC := (.seq (.reg 0 [⟨some 4, .mv (.con (.bool false)), none, Q0⟩] false (some [0, 1]))
  (.seq (.seq (.reg 1 [⟨some 6, .mv (.tmp 0), none, Q0⟩,
  ⟨some 7, .len false (.tmp 6), none, Q0⟩,
  ⟨some 8, .mv (.tmp 1), none, Q0⟩,
  ⟨some 9, .len false (.tmp 8), none, Q0⟩,
  ⟨some 10, .bin .neq (.tmp 7) (.tmp 9), none, Q0⟩] false (some [0, 1, 10]))
  (.cond (.tmp 10) (.seq (.reg 2 [⟨some 4, .mv (.con (.bool false)), none, Q0⟩] false (some [4]))
  .ret) .skip))
  (.seq (.seq (.reg 3 [⟨some 11, .mv (.tmp 0), none, Q0⟩,
  ⟨some 12, .len false (.tmp 11), none, Q0⟩,
  ⟨some 13, .mv (.con (.int .i64 0)), none, Q0⟩] false (some [0, 1, 12, 13]))
  (.block 0 c92_l0))
  (.seq (.reg 9 [⟨some 4, .mv (.con (.bool true)), none, Q0⟩] false (some [4]))
  .ret))))
def c92 : EFn := ⟨2, 26, [.tmp 4], c92_b, none, true⟩
theorem c92_l0_step {E : Env} {fin : Kont (PV × St)} {st : List Fr} {ts : Tmps} {S : St} {n : Nat} : (lvl E (n + 1)).ev c92_l0 ts S (kont E fin st) = (lvl E (n + 1)).ev c92_l0_b (sel (some [0, 1, 12, 13]) ts) S (kont E fin (.again n c92_l0 :: st)) := rfl
theorem c92_l0_w {E : Env} {fin : Kont (PV × St)} {st : List Fw} {ts : Tmps} {S : St} : run E fin st c92_l0 ts S = run E fin (.again c92_l0 :: st) c92_l0_b (sel (some [0, 1, 12, 13]) ts) S := w_loop
theorem c92_l0_a {E : Env} {fin : Kont (PV × St)} {st : List Fw} {ts : Tmps} {S : St} : aft E fin (.again c92_l0 :: st) .normal ts S = run E fin st c92_l0 (sel (some [0, 1, 12, 13]) ts) S := a_again_s
theorem c92_ok : cFn Try.prog Try.f92 = some c92.strip := by kernel_rfl
-- slices.EqualFunc[[]limbeck/api.Ty,[]limbeck/api.Ty,limbeck/api.Ty,limbeck/api.Ty]
def c93_l0_b : EC := (.seq (.reg 4 [⟨some 18, .bin .lss (.tmp 17) (.tmp 16), none, Q0⟩] false (some [1, 2, 15, 16, 17, 18]))
  (.seq (.cond (.tmp 18) .skip (.exit 0))
  (.seq (.block 1 (.seq (.reg 5 [⟨some 19, .mv (.tmp 17), none, Q0⟩,
  ⟨some 20, .ixL 5 (.tmp 15) (.tmp 17), none, Q0⟩,
  ⟨some 21, .ld (some 5) (.tmp 20), none, Q0⟩,
  ⟨some 8, .new 33 [(.int .i64 0), (.int .i64 0), (.str ⟨#[]⟩), (.sl .null []), (.sl .null [])], none, Q0⟩,
  ⟨some 7, .mv (.tmp 19), none, Q0⟩,
  ⟨none, .st 5 (.tmp 8) (.tmp 21), none, Q0⟩] false (some [1, 2, 7, 8, 15, 16, 17]))
  (.seq (.reg 6 [⟨some 22, .mv (.tmp 1), none, Q0⟩,
  ⟨some 23, .mv (.tmp 7), none, Q0⟩,
  ⟨some 24, .ixL 5 (.tmp 22) (.tmp 23), none, Q0⟩,
  ⟨some 25, .ld (some 5) (.tmp 24), none, Q0⟩,
  ⟨some 9, .new 33 [(.int .i64 0), (.int .i64 0), (.str ⟨#[]⟩), (.sl .null []), (.sl .null [])], none, Q0⟩,
  ⟨none, .st 5 (.tmp 9) (.tmp 25), none, Q0⟩] false (some [1, 2, 8, 9, 15, 16, 17]))
  (.seq (.reg 7 [⟨some 26, .mv (.tmp 2), none, Q0⟩,
  ⟨some 27, .ld (some 5) (.tmp 8), none, Q0⟩,
  ⟨some 28, .ld (some 5) (.tmp 9), none, Q0⟩,
  ⟨some 29, .call (.tmp 26) [(.tmp 27), (.tmp 28)], none, Q0⟩,
  ⟨some 30, .un .not (.tmp 29), none, Q0⟩] false (some [1, 2, 15, 16, 17, 30]))
  (.cond (.tmp 30) (.seq (.reg 8 [⟨some 6, .mv (.con (.bool false)), none, Q0⟩] false (some [6]))
  .ret) .skip)))))
  (.reg 9 [⟨some 31, .bin .add (.tmp 17) (.con (.int .i64 1)), none, Q0⟩,
  ⟨some 17, .mv (.tmp 31), none, Q0⟩] false (some [1, 2, 15, 16, 17])))))
def c93_l0 : EC := .loop (some [1, 2, 15, 16, 17]) c93_l0_b
def c93_b : EC := (.seq (.reg 0 [⟨some 6, .mv (.con (.bool false)), none, Q0⟩] false (some [0, 1, 2]))
  (.seq (.seq (.reg 1 [⟨some 10, .mv (.tmp 0), none, Q0⟩,
  ⟨some 11, .len false (.tmp 10), none, Q0⟩,
  ⟨some 12, .mv (.tmp 1), none, Q0⟩,
  ⟨some 13, .len false (.tmp 12), none, Q0⟩,
  ⟨some 14, .bin .neq (.tmp 11) (.tmp 13), none, Q0⟩] false (some [0, 1, 2, 14]))
  (.cond (.tmp 14) (.seq (.reg 2 [⟨some 6, .mv (.con (.bool false)), none, Q0⟩] false (some [6]))
  .ret) .skip))
  (.seq (.seq (.reg 3 [⟨some 15, .mv (.tmp 0), none, Q0⟩,
  ⟨some 16, .len false (.tmp 15), none, Q0⟩,
  ⟨some 17, .mv (.con (.int .i64 0)), none, Q0⟩] false (some [1, 2, 15, 16, 17]))
  (.block 0 c93_l0))
  (.seq (.reg 10 [⟨some 6, .mv (.con (.bool true)), none, Q0⟩] false (some [6]))
  .ret))))
def c93 : EFn := ⟨3, 32, [.tmp 6], c93_b, none, true⟩
theorem c93_l0_step {E : Env} {fin : Kont (PV × St)} {st : List Fr} {ts : Tmps} {S : St} {n : Nat} : (lvl E (n + 1)).ev c93_l0 ts S (kont E fin st) = (lvl E (n + 1)).ev c93_l0_b (sel (some [1, 2, 15, 16, 17]) ts) S (kont E fin (.again n c93_l0 :: st)) := rfl
theorem c93_l0_w {E : Env} {fin : Kont (PV × St)} {st : List Fw} {ts : Tmps} {S : St} : run E fin st c93_l0 ts S = run E fin (.again c93_l0 :: st) c93_l0_b (sel (some [1, 2, 15, 16, 17]) ts) S := w_loop
theorem c93_l0_a {E : Env} {fin : Kont (PV × St)} {st : List Fw} {ts : Tmps} {S : St} : aft E fin (.again c93_l0 :: st) .normal ts S = run E fin st c93_l0 (sel (some [1, 2, 15, 16, 17]) ts) S := a_again_s
theorem c93_ok : cFn Try.prog Try.f93 = some c93.strip := by kernel_rfl
-- slices.EqualFunc[[]limbeck/api.Exp,[]limbeck/api.Exp,limbeck/api.Exp,limbeck/api.Exp]
def c94_l0_b : EC := (.seq (.reg 4 [⟨some 18, .bin .lss (.tmp 17) (.tmp 16), none, Q0⟩] false (some [1, 2, 15, 16, 17, 18]))
  (.seq (.cond (.tmp 18) .skip (.exit 0))
  (.seq (.block 1 (.seq (.reg 5 [⟨some 19, .mv (.tmp 17), none, Q0⟩,
  ⟨some 20, .ixL 7 (.tmp 15) (.tmp 17), none, Q0⟩,
  ⟨some 21, .ld (some 7) (.tmp 20), none, Q0⟩,
  ⟨some 8, .new 38 [(.int .i64 0), (.int .i64 0), (.str ⟨#[]⟩), (.bool false), (.sl .null []), (.sl .null []), (.sl .null [])], none, Q0⟩,
  ⟨some 7, .mv (.tmp 19), none, Q0⟩,
  ⟨none, .st 7 (.tmp 8) (.tmp 21), none, Q0⟩] false (some [1, 2, 7, 8, 15, 16, 17]))
  (.seq (.reg 6 [⟨some 22, .mv (.tmp 1), none, Q0⟩,
  ⟨some 23, .mv (.tmp 7), none, Q0⟩,
  ⟨some 24, .ixL 7 (.tmp 22) (.tmp 23), none, Q0⟩,
  ⟨some 25, .ld (some 7) (.tmp 24), none, Q0⟩,
  ⟨some 9, .new 38 [(.int .i64 0), (.int .i64 0), (.str ⟨#[]⟩), (.bool false), (.sl .null []), (.sl .null []), (.sl .null [])], none, Q0⟩,
  ⟨none, .st 7 (.tmp 9) (.tmp 25), none, Q0⟩] false (some [1, 2, 8, 9, 15, 16, 17]))
  (.seq (.reg 7 [⟨some 26, .mv (.tmp 2), none, Q0⟩,
  ⟨some 27, .ld (some 7) (.tmp 8), none, Q0⟩,
  ⟨some 28, .ld (some 7) (.tmp 9), none, Q0⟩,
  ⟨some 29, .call (.tmp 26) [(.tmp 27), (.tmp 28)], none, Q0⟩,
  ⟨some 30, .un .not (.tmp 29), none, Q0⟩] false (some [1, 2, 15, 16, 17, 30]))
  (.cond (.tmp 30) (.seq (.reg 8 [⟨some 6, .mv (.con (.bool false)), none, Q0⟩] false (some [6]))
  .ret) .skip)))))
  (.reg 9 [⟨some 31, .bin .add (.tmp 17) (.con (.int .i64 1)), none, Q0⟩,
  ⟨some 17, .mv (.tmp 31), none, Q0⟩] false (some [1, 2, 15, 16, 17])))))
def c94_l0 : EC := .loop (some [1, 2, 15, 16, 17]) c94_l0_b
def c94_b : EC := (.seq (.reg 0 [⟨some 6, .mv (.con (.bool false)), none, Q0⟩] false (some [0, 1, 2]))
  (.seq (.seq (.reg 1 [⟨some 10, .mv (.tmp 0), none, Q0⟩,
  ⟨some 11, .len false (.tmp 10), none, Q0⟩,
  ⟨some 12, .mv (.tmp 1), none, Q0⟩,
  ⟨some 13, .len false (.tmp 12), none, Q0⟩,
  ⟨some 14, .bin .neq (.tmp 11) (.tmp 13), none, Q0⟩] false (some [0, 1, 2, 14]))
  (.cond (.tmp 14) (.seq (.reg 2 [⟨some 6, .mv (.con (.bool false)), none, Q0⟩] false (some [6]))
  .ret) .skip))
  (.seq (.seq (.reg 3 [⟨some 15, .mv (.tmp 0), none, Q0⟩,
  ⟨some 16, .len false (.tmp 15), none, Q0⟩,
  ⟨some 17, .mv (.con (.int .i64 0)), none, Q0⟩] false (some [1, 2, 15, 16, 17]))
  (.block 0 c94_l0))
  (.seq (.reg 10 [⟨some 6, .mv (.con (.bool true)), none, Q0⟩] false (some [6]))
  .ret))))
def c94 : EFn := ⟨3, 32, [.tmp 6], c94_b, none, true⟩
theorem c94_l0_step {E : Env} {fin : Kont (PV × St)} {st : List Fr} {ts : Tmps} {S : St} {n : Nat} : (lvl E (n + 1)).ev c94_l0 ts S (kont E fin st) = (lvl E (n + 1)).ev c94_l0_b (sel (some [1, 2, 15, 16, 17]) ts) S (kont E fin (.again n c94_l0 :: st)) := rfl
theorem c94_l0_w {E : Env} {fin : Kont (PV × St)} {st : List Fw} {ts : Tmps} {S : St} : run E fin st c94_l0 ts S = run E fin (.again c94_l0 :: st) c94_l0_b (sel (some [1, 2, 15, 16, 17]) ts) S := w_loop
theorem c94_l0_a {E : Env} {fin : Kont (PV × St)} {st : List Fw} {ts : Tmps} {S : St} : aft E fin (.again c94_l0 :: st) .normal ts S = run E fin st c94_l0 (sel (some [1, 2, 15, 16, 17]) ts) S := a_again_s
theorem c94_ok : cFn Try.prog Try.f94 = some c94.strip := by kernel_rfl
-- limbeck/limbeckref01.Kind
def c95_r4 : List EI := [⟨some 11, .mv (.tmp 0), none, Q0⟩,
  ⟨some 12, .len true (.tmp 11), none, Q0⟩,
  ⟨some 13, .bin .lss (.tmp 12) (.con (.int .i64 1)), none, Q0⟩,
  ⟨some 14, .mv (.tmp 13), none, Q0⟩,
  ⟨some 15, .mv (.tmp 0), some (14, false), Q0⟩,
  ⟨some 16, .len true (.tmp 15), some (14, false), Q0⟩,
  ⟨some 17, .bin .gtr (.tmp 16) (.con (.int .i64 8)), some (14, false), Q0⟩,
  ⟨some 18, .pick (.tmp 14) (.con (.bool true)) (.tmp 17), none, Q0⟩]
def c95_r14 : List EI := [⟨some 31, .mv (.tmp 0), none, Q0⟩,
  ⟨some 32, .mv (.tmp 5), none, Q0⟩,
  ⟨some 33, .ixS (.tmp 31) (.tmp 32), none, Q0⟩,
  ⟨some 34, .call (.con (.fn 106 [] [])) [(.tmp 33)], none, Q0⟩,
  ⟨some 35, .un .not (.tmp 34), none, Q0⟩,
  ⟨some 36, .mv (.tmp 35), none, Q0⟩,
  ⟨some 37, .mv (.tmp 0), some (36, true), Q0⟩,
  ⟨some 38, .mv (.tmp 5), some (36, true), Q0⟩,
  ⟨some 39, .ixS (.tmp 37) (.tmp 38), some (36, true), Q0⟩,
  ⟨some 40, .call (.con (.fn 104 [] [])) [(.tmp 39)], some (36, true), Q0⟩,
  ⟨some 41, .un .not (.tmp 40), some (36, true), Q0⟩,
  ⟨some 42, .pick (.tmp 36) (.tmp 41) (.con (.bool false)), none, Q0⟩,
  ⟨some 43, .mv (.tmp 42), none, Q0⟩,
  ⟨some 44, .mv (.tmp 0), some (43, true), Q0⟩,
  ⟨some 45, .mv (.tmp 5), some (43, true), Q0⟩,
  ⟨some 46, .ixS (.tmp 44) (.tmp 45), some (43, true), Q0⟩,
  ⟨some 47, .call (.con (.fn 105 [] [])) [(.tmp 46)], some (43, true), Q0⟩,
  ⟨some 48, .un .not (.tmp 47), some (43, true), Q0⟩,
  ⟨some 49, .mv (.tmp 48), some (43, true), Q0⟩,
  ⟨some 50, .mv (.tmp 4), some (49, false), Q0⟩,
  ⟨some 51, .bin .eql (.tmp 50) (.con (.int .i64 1)), some (49, false), Q0⟩,
  ⟨some 52, .pick (.tmp 49) (.con (.bool true)) (.tmp 51), some (43, true), Q0⟩,
  ⟨some 53, .pick (.tmp 43) (.tmp 52) (.con (.bool false)), none, Q0⟩]
def c95_l0_b : EC := (.seq (.seq (.reg 12 [⟨some 25, .mv (.tmp 5), none, Q0⟩,
  ⟨some 26, .mv (.tmp 0), none, Q0⟩,
  ⟨some 27, .len true (.tmp 26), none, Q0⟩,
  ⟨some 28, .bin .lss (.tmp 25) (.tmp 27), none, Q0⟩] false (some [0, 4, 5, 28]))
  (.cond (.tmp 28) .skip (.exit 0)))
  (.seq (.block 1 (.seq (.reg 14 c95_r14 false (some [0, 4, 5, 53]))
  (.cond (.tmp 53) (.seq (.reg 15 [⟨some 2, .mv (.con (.int .i64 0)), none, Q0⟩] false (some [2]))
  .ret) .skip)))
  (.reg 13 [⟨some 29, .mv (.tmp 5), none, Q0⟩,
  ⟨some 30, .bin .add (.tmp 29) (.con (.int .i64 1)), none, Q0⟩,
  ⟨some 5, .mv (.tmp 30), none, Q0⟩] false (some [0, 4, 5]))))
def c95_l0 : EC := .loop (some [0, 4, 5]) c95_l0_b
def c95_b : EC := (.seq (.reg 0 [⟨some 2, .mv (.con (.int .i64 0)), none, Q0⟩] false (some [0]))
  (.seq (.seq (.reg 1 [⟨some 6, .mv (.tmp 0), none, Q0⟩,
  ⟨some 7, .call (.con (.fn 103 [] [])) [(.tmp 6)], none, Q0⟩,
  ⟨some 3, .mv (.tmp 7), none, Q0⟩] false (some [0, 3]))
  (.seq (.reg 2 [⟨some 8, .mv (.tmp 3), none, Q0⟩,
  ⟨some 9, .bin .neq (.tmp 8) (.con (.int .i64 0)), none, Q0⟩] false (some [0, 3, 9]))
  (.cond (.tmp 9) (.seq (.reg 3 [⟨some 10, .mv (.tmp 3), none, Q0⟩,
  ⟨some 2, .mv (.tmp 10), none, Q0⟩] false (some [2]))
  .ret) .skip)))
  (.seq (.seq (.reg 4 c95_r4 false (some [0, 18]))
  (.cond (.tmp 18) (.seq (.reg 5 [⟨some 2, .mv (.con (.int .i64 0)), none, Q0⟩] false (some [2]))
  .ret) .skip))
  (.seq (.reg 6 [⟨some 4, .mv (.con (.int .i64 0)), none, Q0⟩] false (some [0, 4]))
  (.seq (.seq (.reg 7 [⟨some 19, .mv (.tmp 0), none, Q0⟩,
  ⟨some 20, .ixS (.tmp 19) (.con (.int .i64 0)), none, Q0⟩,
  ⟨some 21, .call (.con (.fn 104 [] [])) [(.tmp 20)], none, Q0⟩] false (some [0, 4, 21]))
  (.cond (.tmp 21) (.reg 8 [⟨some 4, .mv (.con (.int .i64 1)), none, Q0⟩] false (some [0, 4])) .skip))
  (.seq (.seq (.reg 9 [⟨some 22, .mv (.tmp 0), none, Q0⟩,
  ⟨some 23, .ixS (.tmp 22) (.con (.int .i64 0)), none, Q0⟩,
  ⟨some 24, .call (.con (.fn 105 [] [])) [(.tmp 23)], none, Q0⟩] false (some [0, 4, 24]))
  (.cond (.tmp 24) (.reg 10 [⟨some 4, .mv (.con (.int .i64 2)), none, Q0⟩] false (some [0, 4])) .skip))
  (.seq (.seq (.reg 11 [⟨some 5, .mv (.con (.int .i64 1)), none, Q0⟩] false (some [0, 4, 5]))
  (.block 0 c95_l0))
  (.seq (.reg 16 [⟨some 54, .mv (.tmp 4), none, Q0⟩,
  ⟨some 2, .mv (.tmp 54), none, Q0⟩] false (some [2]))
  .ret))))))))
def c95 : EFn := ⟨1, 55, [.tmp 2], c95_b, none, true⟩
theorem c95_l0_step {E : Env} {fin : Kont (PV × St)} {st : List Fr} {ts : Tmps} {S : St} {n : Nat} : (lvl E (n + 1)).ev c95_l0 ts S (kont E fin st) = (lvl E (n + 1)).ev c95_l0_b (sel (some [0, 4, 5]) ts) S (kont E fin (.again n c95_l0 :: st)) := rfl
theorem c95_l0_w {E : Env} {fin : Kont (PV × St)} {st : List Fw} {ts : Tmps} {S : St} : run E fin st c95_l0 ts S = run E fin (.again c95_l0 :: st) c95_l0_b (sel (some [0, 4, 5]) ts) S := w_loop
theorem c95_l0_a {E : Env} {fin : Kont (PV × St)} {st : List Fw} {ts : Tmps} {S : St} : aft E fin (.again c95_l0 :: st) .normal ts S = run E fin st c95_l0 (sel (some [0, 4, 5]) ts) S := a_again_s
theorem c95_ok : cFn Try.prog Try.f95 = some c95.strip := by kernel_rfl
-- limbeck/limbeckref04.Right
def c96_r6 : List EI := [⟨some 18, .fA 0 (.tmp 1), none, Q0⟩,
  ⟨some 19, .ld none (.tmp 18), none, Q0⟩,
  ⟨some 20, .bin .neq (.tmp 19) (.con (.int .i64 6)), none, Q0⟩,
  ⟨some 21, .mv (.tmp 20), none, Q0⟩,
  ⟨some 22, .fA 2 (.tmp 1), some (21, true), Q0⟩,
  ⟨some 23, .ld none (.tmp 22), some (21, true), Q0⟩,
  ⟨some 24, .bin .neq (.tmp 23) (.con (.str ⟨#[]⟩)), some (21, true), Q0⟩,
  ⟨some 25, .pick (.tmp 21) (.tmp 24) (.con (.bool false)), none, Q0⟩,
  ⟨some 26, .mv (.tmp 25), none, Q0⟩,
  ⟨some 27, .fA 0 (.tmp 1), some (26, false), Q0⟩,
  ⟨some 28, .ld none (.tmp 27), some (26, false), Q0⟩,
  ⟨some 29, .bin .neq (.tmp 28) (.con (.int .i64 9)), some (26, false), Q0⟩,
  ⟨some 30, .mv (.tmp 29), some (26, false), Q0⟩,
  ⟨some 31, .fA 1 (.tmp 1), some (30, true), Q0⟩,
  ⟨some 32, .ld none (.tmp 31), some (30, true), Q0⟩,
  ⟨some 33, .bin .neq (.tmp 32) (.con (.int .i64 0)), some (30, true), Q0⟩,
  ⟨some 34, .pick (.tmp 30) (.tmp 33) (.con (.bool false)), some (26, false), Q0⟩,
  ⟨some 35, .pick (.tmp 26) (.con (.bool true)) (.tmp 34), none, Q0⟩,
  ⟨some 36, .mv (.tmp 35), none, Q0⟩,
  ⟨some 37, .fA 0 (.tmp 1), some (36, false), Q0⟩,
  ⟨some 38, .ld none (.tmp 37), some (36, false), Q0⟩,
  ⟨some 39, .bin .neq (.tmp 38) (.con (.int .i64 8)), some (36, false), Q0⟩,
  ⟨some 40, .mv (.tmp 39), some (36, false), Q0⟩,
  ⟨some 41, .fA 3 (.tmp 1), some (40, true), Q0⟩,
  ⟨some 42, .ld none (.tmp 41), some (40, true), Q0⟩,
  ⟨some 43, .len false (.tmp 42), some (40, true), Q0⟩,
  ⟨some 44, .bin .gtr (.tmp 43) (.con (.int .i64 0)), some (40, true), Q0⟩,
  ⟨some 45, .pick (.tmp 40) (.tmp 44) (.con (.bool false)), some (36, false), Q0⟩,
  ⟨some 46, .pick (.tmp 36) (.con (.bool true)) (.tmp 45), none, Q0⟩]
def c96_r8 : List EI := [⟨some 47, .fA 0 (.tmp 1), none, Q0⟩,
  ⟨some 48, .ld none (.tmp 47), none, Q0⟩,
  ⟨some 49, .bin .geq (.tmp 48) (.con (.int .i64 1)), none, Q0⟩,
  ⟨some 50, .mv (.tmp 49), none, Q0⟩,
  ⟨some 51, .fA 0 (.tmp 1), some (50, true), Q0⟩,
  ⟨some 52, .ld none (.tmp 51), some (50, true), Q0⟩,
  ⟨some 53, .bin .leq (.tmp 52) (.con (.int .i64 5)), some (50, true), Q0⟩,
  ⟨some 54, .pick (.tmp 50) (.tmp 53) (.con (.bool false)), none, Q0⟩]
def c96_r11 : List EI := [⟨some 62, .fA 2 (.tmp 1), none, Q0⟩,
  ⟨some 63, .ld none (.tmp 62), none, Q0⟩,
  ⟨some 64, .call (.con (.fn 77 [] [])) [(.tmp 63)], none, Q0⟩,
  ⟨some 65, .mv (.tmp 64), none, Q0⟩,
  ⟨some 66, .fA 4 (.tmp 1), some (65, true), Q0⟩,
  ⟨some 67, .ld none (.tmp 66), some (65, true), Q0⟩,
  ⟨some 68, .len false (.tmp 67), some (65, true), Q0⟩,
  ⟨some 69, .bin .eql (.tmp 68) (.con (.int .i64 0)), some (65, true), Q0⟩,
  ⟨some 70, .pick (.tmp 65) (.tmp 69) (.con (.bool false)), none, Q0⟩,
  ⟨some 2, .mv (.tmp 70), none, Q0⟩]
def c96_r13 : List EI := [⟨some 74, .fA 1 (.tmp 1), none, Q0⟩,
  ⟨some 75, .ld none (.tmp 74), none, Q0⟩,
  ⟨some 76, .bin .geq (.tmp 75) (.con (.int .i64 0)), none, Q0⟩,
  ⟨some 77, .mv (.tmp 76), none, Q0⟩,
  ⟨some 78, .fA 1 (.tmp 1), some (77, true), Q0⟩,
  ⟨some 79, .ld none (.tmp 78), some (77, true), Q0⟩,
  ⟨some 80, .bin .leq (.tmp 79) (.con (.int .i64 1073741824)), some (77, true), Q0⟩,
  ⟨some 81, .pick (.tmp 77) (.tmp 80) (.con (.bool false)), none, Q0⟩,
  ⟨some 82, .mv (.tmp 81), none, Q0⟩,
  ⟨some 83, .fA 4 (.tmp 1), some (82, true), Q0⟩,
  ⟨some 84, .ld none (.tmp 83), some (82, true), Q0⟩,
  ⟨some 85, .len false (.tmp 84), some (82, true), Q0⟩,
  ⟨some 86, .bin .eql (.tmp 85) (.con (.int .i64 0)), some (82, true), Q0⟩,
  ⟨some 87, .pick (.tmp 82) (.tmp 86) (.con (.bool false)), none, Q0⟩,
  ⟨some 2, .mv (.tmp 87), none, Q0⟩]
def c96_r16 : List EI := [⟨some 95, .fA 0 (.tmp 1), none, Q0⟩,
  ⟨some 96, .ld none (.tmp 95), none, Q0⟩,
  ⟨some 97, .bin .eql (.tmp 96) (.con (.int .i64 8)), none, Q0⟩,
  ⟨some 98, .mv (.tmp 97), none, Q0⟩,
  ⟨some 99, .fA 3 (.tmp 1), some (98, true), Q0⟩,
  ⟨some 100, .ld none (.tmp 99), some (98, true), Q0⟩,
  ⟨some 101, .call (.con (.fn 98 [] [])) [(.tmp 100)], some (98, true), Q0⟩,
  ⟨some 102, .pick (.tmp 98) (.tmp 101) (.con (.bool false)), none, Q0⟩,
  ⟨some 103, .mv (.tmp 102), none, Q0⟩,
  ⟨some 104, .fA 3 (.tmp 1), some (103, true), Q0⟩,
  ⟨some 105, .ld none (.tmp 104), some (103, true), Q0⟩,
  ⟨some 106, .len false (.tmp 105), some (103, true), Q0⟩,
  ⟨some 107, .fA 4 (.tmp 1), some (103, true), Q0⟩,
  ⟨some 108, .ld none (.tmp 107), some (103, true), Q0⟩,
  ⟨some 109, .len false (.tmp 108), some (103, true), Q0⟩,
  ⟨some 110, .bin .eql (.tmp 106) (.tmp 109), some (103, true), Q0⟩,
  ⟨some 111, .pick (.tmp 103) (.tmp 110) (.con (.bool false)), none, Q0⟩,
  ⟨some 2, .mv (.tmp 111), none, Q0⟩]
def c96_l0_b : EC := (.seq (.seq (.reg 2 [⟨some 4, .mv (.tmp 3), none, Q0⟩,
  ⟨some 5, .fA 4 (.tmp 1), none, Q0⟩,
  ⟨some 6, .ld none (.tmp 5), none, Q0⟩,
  ⟨some 7, .len false (.tmp 6), none, Q0⟩,
  ⟨some 8, .bin .lss (.tmp 4) (.tmp 7), none, Q0⟩] false (some [1, 3, 8]))
  (.cond (.tmp 8) .skip (.exit 0)))
  (.seq (.block 1 (.seq (.reg 4 [⟨some 11, .fA 4 (.tmp 1), none, Q0⟩,
  ⟨some 12, .ld none (.tmp 11), none, Q0⟩,
  ⟨some 13, .mv (.tmp 3), none, Q0⟩,
  ⟨some 14, .ixL 5 (.tmp 12) (.tmp 13), none, Q0⟩,
  ⟨some 15, .ld (some 5) (.tmp 14), none, Q0⟩,
  ⟨some 16, .call (.con (.fn 96 [] [])) [(.tmp 15)], none, Q0⟩,
  ⟨some 17, .un .not (.tmp 16), none, Q0⟩] false (some [1, 3, 17]))
  (.cond (.tmp 17) (.seq (.reg 5 [⟨some 2, .mv (.con (.bool false)), none, Q0⟩] false (some [2]))
  .ret) .skip)))
  (.reg 3 [⟨some 9, .mv (.tmp 3), none, Q0⟩,
  ⟨some 10, .bin .add (.tmp 9) (.con (.int .i64 1)), none, Q0⟩,
  ⟨some 3, .mv (.tmp 10), none, Q0⟩] false (some [1, 3]))))
def c96_l0 : EC := .loop (some [1, 3]) c96_l0_b
def c96_b : EC := (.seq (.reg 0 [⟨some 1, .boxI 33 (.tmp 0), none, Q0⟩,
  ⟨some 2, .mv (.con (.bool false)), none, Q0⟩] false (some [1]))
  (.seq (.seq (.reg 1 [⟨some 3, .mv (.con (.int .i64 0)), none, Q0⟩] false (some [1, 3]))
  (.block 0 c96_l0))
  (.seq (.seq (.reg 6 c96_r6 false (some [1, 46]))
  (.cond (.tmp 46) (.seq (.reg 7 [⟨some 2, .mv (.con (.bool false)), none, Q0⟩] false (some [2]))
  .ret) .skip))
  (.seq (.seq (.reg 8 c96_r8 false (some [1, 54]))
  (.cond (.tmp 54) (.seq (.reg 9 [⟨some 55, .fA 4 (.tmp 1), none, Q0⟩,
  ⟨some 56, .ld none (.tmp 55), none, Q0⟩,
  ⟨some 57, .len false (.tmp 56), none, Q0⟩,
  ⟨some 58, .bin .eql (.tmp 57) (.con (.int .i64 0)), none, Q0⟩,
  ⟨some 2, .mv (.tmp 58), none, Q0⟩] false (some [2]))
  .ret) .skip))
  (.seq (.seq (.reg 10 [⟨some 59, .fA 0 (.tmp 1), none, Q0⟩,
  ⟨some 60, .ld none (.tmp 59), none, Q0⟩,
  ⟨some 61, .bin .eql (.tmp 60) (.con (.int .i64 6)), none, Q0⟩] false (some [1, 61]))
  (.cond (.tmp 61) (.seq (.reg 11 c96_r11 false (some [2]))
  .ret) .skip))
  (.seq (.seq (.reg 12 [⟨some 71, .fA 0 (.tmp 1), none, Q0⟩,
  ⟨some 72, .ld none (.tmp 71), none, Q0⟩,
  ⟨some 73, .bin .eql (.tmp 72) (.con (.int .i64 9)), none, Q0⟩] false (some [1, 73]))
  (.cond (.tmp 73) (.seq (.reg 13 c96_r13 false (some [2]))
  .ret) .skip))
  (.seq (.seq (.reg 14 [⟨some 88, .fA 0 (.tmp 1), none, Q0⟩,
  ⟨some 89, .ld none (.tmp 88), none, Q0⟩,
  ⟨some 90, .bin .eql (.tmp 89) (.con (.int .i64 7)), none, Q0⟩] false (some [1, 90]))
  (.cond (.tmp 90) (.seq (.reg 15 [⟨some 91, .fA 4 (.tmp 1), none, Q0⟩,
  ⟨some 92, .ld none (.tmp 91), none, Q0⟩,
  ⟨some 93, .len false (.tmp 92), none, Q0⟩,
  ⟨some 94, .bin .eql (.tmp 93) (.con (.int .i64 2)), none, Q0⟩,
  ⟨some 2, .mv (.tmp 94), none, Q0⟩] false (some [2]))
  .ret) .skip))
  (.seq (.reg 16 c96_r16 false (some [2]))
  .ret))))))))
def c96 : EFn := ⟨1, 112, [.tmp 2], c96_b, none, true⟩
theorem c96_l0_step {E : Env} {fin : Kont (PV × St)} {st : List Fr} {ts : Tmps} {S : St} {n : Nat} : (lvl E (n + 1)).ev c96_l0 ts S (kont E fin st) = (lvl E (n + 1)).ev c96_l0_b (sel (some [1, 3]) ts) S (kont E fin (.again n c96_l0 :: st)) := rfl
theorem c96_l0_w {E : Env} {fin : Kont (PV × St)} {st : List Fw} {ts : Tmps} {S : St} : run E fin st c96_l0 ts S = run E fin (.again c96_l0 :: st) c96_l0_b (sel (some [1, 3]) ts) S := w_loop
theorem c96_l0_a {E : Env} {fin : Kont (PV × St)} {st : List Fw} {ts : Tmps} {S : St} : aft E fin (.again c96_l0 :: st) .normal ts S = run E fin st c96_l0 (sel (some [1, 3]) ts) S := a_again_s
theorem c96_ok : cFn Try.prog Try.f96 = some c96.strip := by kernel_rfl
-- limbeck/limbeckref04.Has
def c97_l0_b : EC := (.seq (.seq (.reg 4 [⟨some 10, .mv (.tmp 5), none, Q0⟩,
  ⟨some 11, .fA 4 (.tmp 2), none, Q0⟩,
  ⟨some 12, .ld none (.tmp 11), none, Q0⟩,
  ⟨some 13, .len false (.tmp 12), none, Q0⟩,
  ⟨some 14, .bin .lss (.tmp 10) (.tmp 13), none, Q0⟩] false (some [1, 2, 5, 14]))
  (.cond (.tmp 14) .skip (.exit 0)))
  (.seq (.block 1 (.seq (.reg 6 [⟨some 17, .fA 4 (.tmp 2), none, Q0⟩,
  ⟨some 18, .ld none (.tmp 17), none, Q0⟩,
  ⟨some 19, .mv (.tmp 5), none, Q0⟩,
  ⟨some 20, .ixL 5 (.tmp 18) (.tmp 19), none, Q0⟩,
  ⟨some 21, .ld (some 5) (.tmp 20), none, Q0⟩,
  ⟨some 22, .mv (.tmp 1), none, Q0⟩,
  ⟨some 23, .call (.con (.fn 97 [] [])) [(.tmp 21), (.tmp 22)], none, Q0⟩] false (some [1, 2, 5, 23]))
  (.cond (.tmp 23) (.seq (.reg 7 [⟨some 4, .mv (.con (.bool true)), none, Q0⟩] false (some [4]))
  .ret) .skip)))
  (.reg 5 [⟨some 15, .mv (.tmp 5), none, Q0⟩,
  ⟨some 16, .bin .add (.tmp 15) (.con (.int .i64 1)), none, Q0⟩,
  ⟨some 5, .mv (.tmp 16), none, Q0⟩] false (some [1, 2, 5]))))
def c97_l0 : EC := .loop (some [1, 2, 5]) c97_l0_b
def c97_b : EC := (.seq (.reg 0 [⟨some 2, .boxI 33 (.tmp 0), none, Q0⟩,
  ⟨some 4, .mv (.con (.bool false)), none, Q0⟩] false (some [1, 2]))
  (.seq (.seq (.reg 1 [⟨some 6, .fA 0 (.tmp 2), none, Q0⟩,
  ⟨some 7, .ld none (.tmp 6), none, Q0⟩,
  ⟨some 8, .mv (.tmp 1), none, Q0⟩,
  ⟨some 9, .bin .eql (.tmp 7) (.tmp 8), none, Q0⟩] false (some [1, 2, 9]))
  (.cond (.tmp 9) (.seq (.reg 2 [⟨some 4, .mv (.con (.bool true)), none, Q0⟩] false (some [4]))
  .ret) .skip))
  (.seq (.seq (.reg 3 [⟨some 5, .mv (.con (.int .i64 0)), none, Q0⟩] false (some [1, 2, 5]))
  (.block 0 c97_l0))
  (.seq (.reg 8 [⟨some 4, .mv (.con (.bool false)), none, Q0⟩] false (some [4]))
  .ret))))
def c97 : EFn := ⟨2, 24, [.tmp 4], c97_b, none, true⟩
theorem c97_l0_step {E : Env} {fin : Kont (PV × St)} {st : List Fr} {ts : Tmps} {S : St} {n : Nat} : (lvl E (n + 1)).ev c97_l0 ts S (kont E fin st) = (lvl E (n + 1)).ev c97_l0_b (sel (some [1, 2, 5]) ts) S (kont E fin (.again n c97_l0 :: st)) := rfl
theorem c97_l0_w {E : Env} {fin : Kont (PV × St)} {st : List Fw} {ts : Tmps} {S : St} : run E fin st c97_l0 ts S = run E fin (.again c97_l0 :: st) c97_l0_b (sel (some [1, 2, 5]) ts) S := w_loop
theorem c97_l0_a {E : Env} {fin : Kont (PV × St)} {st : List Fw} {ts : Tmps} {S : St} : aft E fin (.again c97_l0 :: st) .normal ts S = run E fin st c97_l0 (sel (some [1, 2, 5]) ts) S := a_again_s
theorem c97_ok : cFn Try.prog Try.f97 = some c97.strip := by kernel_rfl
-- limbeck/limbeckref01.Rising
def c98_r4 : List EI := [⟨some 10, .mv (.tmp 0), none, ⟨.no, false⟩⟩,
  ⟨some 11, .mv (.tmp 3), none, Q0⟩,
  ⟨some 12, .ixL 1 (.tmp 10) (.tmp 11), none, Q0⟩,
  ⟨some 13, .ld none (.tmp 12), none, Q0⟩,
  ⟨some 14, .call (.con (.fn 74 [] [])) [(.tmp 13)], none, Q0⟩,
  ⟨some 15, .un .not (.tmp 14), none, Q0⟩,
  ⟨some 16, .mv (.tmp 15), none, Q0⟩,
  ⟨some 17, .mv (.tmp 3), some (16, false), Q0⟩,
  ⟨some 18, .bin .gtr (.tmp 17) (.con (.int .i64 0)), some (16, false), Q0⟩,
  ⟨some 19, .mv (.tmp 18), some (16, false), Q0⟩,
  ⟨some 20, .mv (.tmp 0), some (19, true), ⟨.no, false⟩⟩,
  ⟨some 21, .mv (.tmp 3), some (19, true), ⟨.no, false⟩⟩,
  ⟨some 22, .bin .sub (.tmp 21) (.con (.int .i64 1)), some (19, true), ⟨.no, false⟩⟩,
  ⟨some 23, .ixL 1 (.tmp 20) (.tmp 22), some (19, true), ⟨.no, false⟩⟩,
  ⟨some 24, .ld none (.tmp 23), some (19, true), ⟨.still, false⟩⟩,
  ⟨some 25, .mv (.tmp 0), some (19, true), ⟨.no, false⟩⟩,
  ⟨some 26, .mv (.tmp 3), some (19, true), Q0⟩,
  ⟨some 27, .ixL 1 (.tmp 25) (.tmp 26), some (19, true), Q0⟩,
  ⟨some 28, .ld none (.tmp 27), some (19, true), Q1⟩,
  ⟨some 29, .bin .geq (.tmp 24) (.tmp 28), some (19, true), Q0⟩,
  ⟨some 30, .pick (.tmp 19) (.tmp 29) (.con (.bool false)), some (16, false), Q0⟩,
  ⟨some 31, .pick (.tmp 16) (.con (.bool true)) (.tmp 30), none, Q0⟩]
def c98_l0_b : EC := (.seq (.seq (.reg 2 [⟨some 4, .mv (.tmp 3), none, Q0⟩,
  ⟨some 5, .mv (.tmp 0), none, Q0⟩,
  ⟨some 6, .len false (.tmp 5), none, Q0⟩,
  ⟨some 7, .bin .lss (.tmp 4) (.tmp 6), none, Q0⟩] false (some [0, 3, 7]))
  (.cond (.tmp 7) .skip (.exit 0)))
  (.seq (.block 1 (.seq (.reg 4 c98_r4 true (some [0, 3, 31]))
  (.cond (.tmp 31) (.seq (.reg 5 [⟨some 2, .mv (.con (.bool false)), none, Q0⟩] false (some [2]))
  .ret) .skip)))
  (.reg 3 [⟨some 8, .mv (.tmp 3), none, Q0⟩,
  ⟨some 9, .bin .add (.tmp 8) (.con (.int .i64 1)), none, Q0⟩,
  ⟨some 3, .mv (.tmp 9), none, Q0⟩] false (some [0, 3]))))
def c98_l0 : EC := .loop (some [0, 3]) c98_l0_b
def c98_b : EC := (.seq (.reg 0 [⟨some 2, .mv (.con (.bool false)), none, Q0⟩] false (some [0]))
  (.seq (.seq (.reg 1 [⟨some 3, .mv (.con (.int .i64 0)), none, Q0⟩] false (some [0, 3]))
  (.block 0 c98_l0))
  (.seq (.reg 6 [⟨some 2, .mv (.con (.bool true)), none, Q0⟩] false (some [2]))
  .ret)))
def c98 : EFn := ⟨1, 32, [.tmp 2], c98_b, none, true⟩
theorem c98_l0_step {E : Env} {fin : Kont (PV × St)} {st : List Fr} {ts : Tmps} {S : St} {n : Nat} : (lvl E (n + 1)).ev c98_l0 ts S (kont E fin st) = (lvl E (n + 1)).ev c98_l0_b (sel (some [0, 3]) ts) S (kont E fin (.again n c98_l0 :: st)) := rfl
theorem c98_l0_w {E : Env} {fin : Kont (PV × St)} {st : List Fw} {ts : Tmps} {S : St} : run E fin st c98_l0 ts S = run E fin (.again c98_l0 :: st) c98_l0_b (sel (some [0, 3]) ts) S := w_loop
theorem c98_l0_a {E : Env} {fin : Kont (PV × St)} {st : List Fw} {ts : Tmps} {S : St} : aft E fin (.again c98_l0 :: st) .normal ts S = run E fin st c98_l0 (sel (some [0, 3]) ts) S := a_again_s
theorem c98_ok : cFn Try.prog Try.f98 = some c98.strip := by kernel_rfl
end Go.PE
