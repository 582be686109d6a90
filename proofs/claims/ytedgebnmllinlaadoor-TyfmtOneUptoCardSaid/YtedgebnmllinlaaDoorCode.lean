/-
  The functions of this seat, as the evaluator's code (printed by a program out of the translation), and that each is what the compiler makes of it. No conditions.
-/
import Derived.Test.YtedgebnmllinlaaDoorPE21
import Derived.Test.YtedgebnmllinlaaDoorProg
import Derived.KernelRfl
namespace Go.PE
open Go Go.Proofs
set_option linter.unusedVariables false
set_option maxRecDepth 100000
-- limbeck/limbecklaw05.TyfmtShows
def c8_b : EC := (.seq (.reg 0 [⟨some 1, .boxI 70 (.tmp 0), none, false⟩,
  ⟨some 2, .mv (.con (.bool false)), none, false⟩] false (some [1]))
  (.seq (.seq (.reg 1 [⟨some 3, .ld (some 5) (.tmp 1), none, false⟩,
  ⟨some 4, .call (.con (.fn 34 [] [])) [(.tmp 3)], none, false⟩,
  ⟨some 5, .bin .gtr (.tmp 4) (.con (.int .i64 800)), none, false⟩] false (some [1, 5]))
  (.cond (.tmp 5) (.seq (.reg 2 [⟨some 6, .call (.con (.fn 35 [] [])) [], none, false⟩,
  ⟨some 2, .mv (.tmp 6), none, false⟩] false (some [2]))
  .ret) .skip))
  (.seq (.reg 3 [⟨some 7, .ld (some 5) (.tmp 1), none, true⟩,
  ⟨some 8, .call (.con (.fn 36 [] [])) [(.tmp 7)], none, true⟩,
  ⟨some 9, .ld (some 5) (.tmp 1), none, true⟩,
  ⟨some 10, .call (.con (.fn 37 [] [])) [(.tmp 9)], none, false⟩,
  ⟨some 11, .bin .eql (.tmp 8) (.tmp 10), none, false⟩,
  ⟨some 12, .mv (.tmp 11), none, false⟩,
  ⟨some 13, .call (.con (.fn 35 [] [])) [], some (12, true), false⟩,
  ⟨some 14, .pick (.tmp 12) (.tmp 13) (.con (.bool false)), none, false⟩,
  ⟨some 2, .mv (.tmp 14), none, false⟩] true (some [2]))
  .ret)))
def c8 : EFn := ⟨1, 15, [.tmp 2], c8_b⟩
theorem c8_ok : cFn Tryd.prog Tryd.f8 = some c8.strip := by kernel_rfl
-- limbeck/limbecklaw05.TyfmtOne
def c9_r1 : List EI := [⟨some 5, .ld (some 5) (.tmp 2), none, false⟩,
  ⟨some 6, .call (.con (.fn 34 [] [])) [(.tmp 5)], none, false⟩,
  ⟨some 7, .bin .gtr (.tmp 6) (.con (.int .i64 800)), none, false⟩,
  ⟨some 8, .mv (.tmp 7), none, false⟩,
  ⟨some 9, .ld (some 5) (.tmp 3), some (8, false), false⟩,
  ⟨some 10, .call (.con (.fn 34 [] [])) [(.tmp 9)], some (8, false), false⟩,
  ⟨some 11, .bin .gtr (.tmp 10) (.con (.int .i64 800)), some (8, false), false⟩,
  ⟨some 12, .pick (.tmp 8) (.con (.bool true)) (.tmp 11), none, false⟩,
  ⟨some 13, .mv (.tmp 12), none, false⟩,
  ⟨some 14, .ld (some 5) (.tmp 2), some (13, false), false⟩,
  ⟨some 15, .call (.con (.fn 38 [] [])) [(.tmp 14)], some (13, false), false⟩,
  ⟨some 16, .un .not (.tmp 15), some (13, false), false⟩,
  ⟨some 17, .pick (.tmp 13) (.con (.bool true)) (.tmp 16), none, false⟩,
  ⟨some 18, .mv (.tmp 17), none, false⟩,
  ⟨some 19, .ld (some 5) (.tmp 3), some (18, false), false⟩,
  ⟨some 20, .call (.con (.fn 38 [] [])) [(.tmp 19)], some (18, false), false⟩,
  ⟨some 21, .un .not (.tmp 20), some (18, false), false⟩,
  ⟨some 22, .pick (.tmp 18) (.con (.bool true)) (.tmp 21), none, false⟩]
def c9_b : EC := (.seq (.reg 0 [⟨some 2, .boxI 70 (.tmp 0), none, false⟩,
  ⟨some 3, .boxI 70 (.tmp 1), none, false⟩,
  ⟨some 4, .mv (.con (.bool false)), none, false⟩] false (some [2, 3]))
  (.seq (.seq (.reg 1 c9_r1 false (some [2, 3, 22]))
  (.cond (.tmp 22) (.seq (.reg 2 [⟨some 23, .call (.con (.fn 35 [] [])) [], none, false⟩,
  ⟨some 4, .mv (.tmp 23), none, false⟩] false (some [4]))
  .ret) .skip))
  (.seq (.reg 3 [⟨some 24, .ld (some 5) (.tmp 2), none, true⟩,
  ⟨some 25, .call (.con (.fn 36 [] [])) [(.tmp 24)], none, true⟩,
  ⟨some 26, .ld (some 5) (.tmp 3), none, true⟩,
  ⟨some 27, .call (.con (.fn 36 [] [])) [(.tmp 26)], none, true⟩,
  ⟨some 28, .bin .eql (.tmp 25) (.tmp 27), none, false⟩,
  ⟨some 29, .ld (some 5) (.tmp 2), none, true⟩,
  ⟨some 30, .ld (some 5) (.tmp 3), none, true⟩,
  ⟨some 31, .call (.con (.fn 39 [] [])) [(.tmp 29), (.tmp 30)], none, false⟩,
  ⟨some 32, .eqB false (.tmp 28) (.tmp 31), none, false⟩,
  ⟨some 33, .mv (.tmp 32), none, false⟩,
  ⟨some 34, .call (.con (.fn 35 [] [])) [], some (33, true), false⟩,
  ⟨some 35, .pick (.tmp 33) (.tmp 34) (.con (.bool false)), none, false⟩,
  ⟨some 4, .mv (.tmp 35), none, false⟩] true (some [4]))
  .ret)))
def c9 : EFn := ⟨2, 36, [.tmp 4], c9_b⟩
theorem c9_ok : cFn Tryd.prog Tryd.f9 = some c9.strip := by kernel_rfl
-- limbeck/limbecklaw05.TyfmtLists
def c10_r1 : List EI := [⟨some 7, .mv (.tmp 0), none, false⟩,
  ⟨some 8, .len false (.tmp 7), none, false⟩,
  ⟨some 9, .bin .gtr (.tmp 8) (.con (.int .i64 20)), none, false⟩,
  ⟨some 10, .mv (.tmp 9), none, false⟩,
  ⟨some 11, .mv (.tmp 1), some (10, false), false⟩,
  ⟨some 12, .len true (.tmp 11), some (10, false), false⟩,
  ⟨some 13, .bin .gtr (.tmp 12) (.con (.int .i64 100)), some (10, false), false⟩,
  ⟨some 14, .pick (.tmp 10) (.con (.bool true)) (.tmp 13), none, false⟩]
def c10_r7 : List EI := [⟨some 22, .mv (.tmp 0), none, false⟩,
  ⟨some 23, .mv (.tmp 6), none, false⟩,
  ⟨some 24, .ixL 6 (.tmp 22) (.tmp 23), none, false⟩,
  ⟨some 25, .fA 1 (.tmp 24), none, false⟩,
  ⟨some 26, .ld (some 5) (.tmp 25), none, false⟩,
  ⟨some 27, .call (.con (.fn 34 [] [])) [(.tmp 26)], none, false⟩,
  ⟨some 28, .bin .gtr (.tmp 27) (.con (.int .i64 100)), none, false⟩,
  ⟨some 29, .mv (.tmp 28), none, false⟩,
  ⟨some 30, .mv (.tmp 0), some (29, false), false⟩,
  ⟨some 31, .mv (.tmp 6), some (29, false), false⟩,
  ⟨some 32, .ixL 6 (.tmp 30) (.tmp 31), some (29, false), false⟩,
  ⟨some 33, .fA 0 (.tmp 32), some (29, false), false⟩,
  ⟨some 34, .ld none (.tmp 33), some (29, false), false⟩,
  ⟨some 35, .len true (.tmp 34), some (29, false), false⟩,
  ⟨some 36, .bin .gtr (.tmp 35) (.con (.int .i64 100)), some (29, false), false⟩,
  ⟨some 37, .pick (.tmp 29) (.con (.bool true)) (.tmp 36), none, false⟩]
def c10_r10 : List EI := [⟨some 47, .mv (.tmp 5), none, false⟩,
  ⟨some 48, .call (.con (.fn 40 [] [])) [(.tmp 47)], none, false⟩,
  ⟨some 49, .mv (.tmp 5), none, false⟩,
  ⟨some 50, .call (.con (.fn 41 [] [])) [(.tmp 49)], none, false⟩,
  ⟨some 51, .bin .eql (.tmp 48) (.tmp 50), none, false⟩,
  ⟨some 52, .mv (.tmp 51), none, false⟩,
  ⟨some 53, .mv (.tmp 0), some (52, true), false⟩,
  ⟨some 54, .mv (.tmp 1), some (52, true), false⟩,
  ⟨some 55, .call (.con (.fn 42 [] [])) [(.tmp 53), (.tmp 54)], some (52, true), false⟩,
  ⟨some 56, .mv (.tmp 0), some (52, true), false⟩,
  ⟨some 57, .mv (.tmp 1), some (52, true), false⟩,
  ⟨some 58, .call (.con (.fn 43 [] [])) [(.tmp 56), (.tmp 57)], some (52, true), false⟩,
  ⟨some 59, .bin .eql (.tmp 55) (.tmp 58), some (52, true), false⟩,
  ⟨some 60, .pick (.tmp 52) (.tmp 59) (.con (.bool false)), none, false⟩,
  ⟨some 61, .mv (.tmp 60), none, false⟩,
  ⟨some 62, .call (.con (.fn 35 [] [])) [], some (61, true), false⟩,
  ⟨some 63, .pick (.tmp 61) (.tmp 62) (.con (.bool false)), none, false⟩,
  ⟨some 4, .mv (.tmp 63), none, false⟩]
def c10_l0_b : EC := (.seq (.seq (.reg 5 [⟨some 16, .mv (.tmp 6), none, false⟩,
  ⟨some 17, .mv (.tmp 0), none, false⟩,
  ⟨some 18, .len false (.tmp 17), none, false⟩,
  ⟨some 19, .bin .lss (.tmp 16) (.tmp 18), none, false⟩] false (some [0, 1, 5, 6, 19]))
  (.cond (.tmp 19) .skip (.exit 0)))
  (.seq (.block 1 (.seq (.seq (.reg 7 c10_r7 false (some [0, 1, 5, 6, 37]))
  (.cond (.tmp 37) (.seq (.reg 8 [⟨some 38, .call (.con (.fn 35 [] [])) [], none, false⟩,
  ⟨some 4, .mv (.tmp 38), none, false⟩] false (some [4]))
  .ret) .skip))
  (.reg 9 [⟨some 39, .mv (.tmp 5), none, false⟩,
  ⟨some 40, .mv (.tmp 0), none, false⟩,
  ⟨some 41, .mv (.tmp 6), none, false⟩,
  ⟨some 42, .ixL 6 (.tmp 40) (.tmp 41), none, false⟩,
  ⟨some 43, .fA 1 (.tmp 42), none, false⟩,
  ⟨some 44, .ld (some 5) (.tmp 43), none, false⟩,
  ⟨some 45, .rows 1 5 [(.int .i64 0), (.int .i64 0), (.str ⟨#[]⟩), (.sl .null []), (.sl .null [])] [(0, (.tmp 44))], none, false⟩,
  ⟨some 46, .app 70 5 80 (.tmp 39) (.tmp 45), none, false⟩,
  ⟨some 5, .mv (.tmp 46), none, false⟩] false (some [0, 1, 5, 6]))))
  (.reg 6 [⟨some 20, .mv (.tmp 6), none, false⟩,
  ⟨some 21, .bin .add (.tmp 20) (.con (.int .i64 1)), none, false⟩,
  ⟨some 6, .mv (.tmp 21), none, false⟩] false (some [0, 1, 5, 6]))))
def c10_l0 : EC := .loop (some [0, 1, 5, 6]) c10_l0_b
def c10_b : EC := (.seq (.reg 0 [⟨some 4, .mv (.con (.bool false)), none, false⟩] false (some [0, 1]))
  (.seq (.seq (.reg 1 c10_r1 false (some [0, 1, 14]))
  (.cond (.tmp 14) (.seq (.reg 2 [⟨some 15, .call (.con (.fn 35 [] [])) [], none, false⟩,
  ⟨some 4, .mv (.tmp 15), none, false⟩] false (some [4]))
  .ret) .skip))
  (.seq (.reg 3 [⟨some 5, .mv (.con (.sl .null [])), none, false⟩] false (some [0, 1, 5]))
  (.seq (.seq (.reg 4 [⟨some 6, .mv (.con (.int .i64 0)), none, false⟩] false (some [0, 1, 5, 6]))
  (.block 0 c10_l0))
  (.seq (.reg 10 c10_r10 false (some [4]))
  .ret)))))
def c10 : EFn := ⟨2, 64, [.tmp 4], c10_b⟩
theorem c10_l0_step {E : Env} {fin : Kont (PV × St)} {st : List Fr} {ts : Tmps} {S : St} {n : Nat} : (lvl E (n + 1)).ev c10_l0 ts S (kont E fin st) = (lvl E (n + 1)).ev c10_l0_b (sel (some [0, 1, 5, 6]) ts) S (kont E fin (.again n c10_l0 :: st)) := rfl
theorem c10_l0_w {E : Env} {fin : Kont (PV × St)} {st : List Fw} {ts : Tmps} {S : St} : run E fin st c10_l0 ts S = run E fin (.again c10_l0 :: st) c10_l0_b (sel (some [0, 1, 5, 6]) ts) S := w_loop
theorem c10_l0_a {E : Env} {fin : Kont (PV × St)} {st : List Fw} {ts : Tmps} {S : St} : aft E fin (.again c10_l0 :: st) .normal ts S = run E fin st c10_l0 (sel (some [0, 1, 5, 6]) ts) S := a_again_s
theorem c10_ok : cFn Tryd.prog Tryd.f10 = some c10.strip := by kernel_rfl
-- limbeck/limbecklaw04.Much
def c34_r3 : List EI := [⟨some 15, .mv (.tmp 4), none, false⟩,
  ⟨some 16, .fA 3 (.tmp 1), none, false⟩,
  ⟨some 17, .ld none (.tmp 16), none, false⟩,
  ⟨some 18, .len false (.tmp 17), none, false⟩,
  ⟨some 19, .bin .lss (.tmp 15) (.tmp 18), none, false⟩,
  ⟨some 20, .mv (.tmp 19), none, false⟩,
  ⟨some 21, .mv (.tmp 4), some (20, true), false⟩,
  ⟨some 22, .bin .lss (.tmp 21) (.con (.int .i64 1000)), some (20, true), false⟩,
  ⟨some 23, .pick (.tmp 20) (.tmp 22) (.con (.bool false)), none, false⟩]
def c34_r7 : List EI := [⟨some 35, .mv (.tmp 5), none, false⟩,
  ⟨some 36, .fA 4 (.tmp 1), none, false⟩,
  ⟨some 37, .ld none (.tmp 36), none, false⟩,
  ⟨some 38, .len false (.tmp 37), none, false⟩,
  ⟨some 39, .bin .lss (.tmp 35) (.tmp 38), none, false⟩,
  ⟨some 40, .mv (.tmp 39), none, false⟩,
  ⟨some 41, .mv (.tmp 3), some (40, true), false⟩,
  ⟨some 42, .bin .lss (.tmp 41) (.con (.int .i64 3000)), some (40, true), false⟩,
  ⟨some 43, .pick (.tmp 40) (.tmp 42) (.con (.bool false)), none, false⟩]
def c34_l0_b : EC := (.seq (.seq (.reg 3 c34_r3 false (some [1, 3, 4, 23]))
  (.cond (.tmp 23) .skip (.exit 0)))
  (.seq (.block 1 (.reg 5 [⟨some 26, .mv (.tmp 3), none, false⟩,
  ⟨some 27, .fA 3 (.tmp 1), none, false⟩,
  ⟨some 28, .ld none (.tmp 27), none, false⟩,
  ⟨some 29, .mv (.tmp 4), none, false⟩,
  ⟨some 30, .ixL 1 (.tmp 28) (.tmp 29), none, false⟩,
  ⟨some 31, .ld none (.tmp 30), none, false⟩,
  ⟨some 32, .len true (.tmp 31), none, false⟩,
  ⟨some 33, .bin .quo (.tmp 32) (.con (.int .i64 8)), none, false⟩,
  ⟨some 34, .bin .add (.tmp 26) (.tmp 33), none, false⟩,
  ⟨some 3, .mv (.tmp 34), none, false⟩] false (some [1, 3, 4])))
  (.reg 4 [⟨some 24, .mv (.tmp 4), none, false⟩,
  ⟨some 25, .bin .add (.tmp 24) (.con (.int .i64 1)), none, false⟩,
  ⟨some 4, .mv (.tmp 25), none, false⟩] false (some [1, 3, 4]))))
def c34_l0 : EC := .loop (some [1, 3, 4]) c34_l0_b
def c34_l1_b : EC := (.seq (.seq (.reg 7 c34_r7 false (some [1, 3, 5, 43]))
  (.cond (.tmp 43) .skip (.exit 2)))
  (.seq (.block 3 (.reg 9 [⟨some 46, .mv (.tmp 3), none, false⟩,
  ⟨some 47, .fA 4 (.tmp 1), none, false⟩,
  ⟨some 48, .ld none (.tmp 47), none, false⟩,
  ⟨some 49, .mv (.tmp 5), none, false⟩,
  ⟨some 50, .ixL 5 (.tmp 48) (.tmp 49), none, false⟩,
  ⟨some 51, .ld (some 5) (.tmp 50), none, false⟩,
  ⟨some 52, .call (.con (.fn 34 [] [])) [(.tmp 51)], none, false⟩,
  ⟨some 53, .bin .add (.tmp 46) (.tmp 52), none, false⟩,
  ⟨some 3, .mv (.tmp 53), none, false⟩] false (some [1, 3, 5])))
  (.reg 8 [⟨some 44, .mv (.tmp 5), none, false⟩,
  ⟨some 45, .bin .add (.tmp 44) (.con (.int .i64 1)), none, false⟩,
  ⟨some 5, .mv (.tmp 45), none, false⟩] false (some [1, 3, 5]))))
def c34_l1 : EC := .loop (some [1, 3, 5]) c34_l1_b
def c34_b : EC := (.seq (.reg 0 [⟨some 1, .boxI 70 (.tmp 0), none, false⟩,
  ⟨some 2, .mv (.con (.int .i64 0)), none, false⟩] false (some [1]))
  (.seq (.reg 1 [⟨some 6, .fA 2 (.tmp 1), none, false⟩,
  ⟨some 7, .ld none (.tmp 6), none, false⟩,
  ⟨some 8, .len true (.tmp 7), none, false⟩,
  ⟨some 9, .bin .quo (.tmp 8) (.con (.int .i64 8)), none, false⟩,
  ⟨some 10, .bin .add (.con (.int .i64 1)) (.tmp 9), none, false⟩,
  ⟨some 11, .fA 3 (.tmp 1), none, false⟩,
  ⟨some 12, .ld none (.tmp 11), none, false⟩,
  ⟨some 13, .len false (.tmp 12), none, false⟩,
  ⟨some 14, .bin .add (.tmp 10) (.tmp 13), none, false⟩,
  ⟨some 3, .mv (.tmp 14), none, false⟩] false (some [1, 3]))
  (.seq (.seq (.reg 2 [⟨some 4, .mv (.con (.int .i64 0)), none, false⟩] false (some [1, 3, 4]))
  (.block 0 c34_l0))
  (.seq (.seq (.reg 6 [⟨some 5, .mv (.con (.int .i64 0)), none, false⟩] false (some [1, 3, 5]))
  (.block 2 c34_l1))
  (.seq (.reg 10 [⟨some 54, .mv (.tmp 3), none, false⟩,
  ⟨some 2, .mv (.tmp 54), none, false⟩] false (some [2]))
  .ret)))))
def c34 : EFn := ⟨1, 55, [.tmp 2], c34_b⟩
theorem c34_l0_step {E : Env} {fin : Kont (PV × St)} {st : List Fr} {ts : Tmps} {S : St} {n : Nat} : (lvl E (n + 1)).ev c34_l0 ts S (kont E fin st) = (lvl E (n + 1)).ev c34_l0_b (sel (some [1, 3, 4]) ts) S (kont E fin (.again n c34_l0 :: st)) := rfl
theorem c34_l0_w {E : Env} {fin : Kont (PV × St)} {st : List Fw} {ts : Tmps} {S : St} : run E fin st c34_l0 ts S = run E fin (.again c34_l0 :: st) c34_l0_b (sel (some [1, 3, 4]) ts) S := w_loop
theorem c34_l0_a {E : Env} {fin : Kont (PV × St)} {st : List Fw} {ts : Tmps} {S : St} : aft E fin (.again c34_l0 :: st) .normal ts S = run E fin st c34_l0 (sel (some [1, 3, 4]) ts) S := a_again_s
theorem c34_l1_step {E : Env} {fin : Kont (PV × St)} {st : List Fr} {ts : Tmps} {S : St} {n : Nat} : (lvl E (n + 1)).ev c34_l1 ts S (kont E fin st) = (lvl E (n + 1)).ev c34_l1_b (sel (some [1, 3, 5]) ts) S (kont E fin (.again n c34_l1 :: st)) := rfl
theorem c34_l1_w {E : Env} {fin : Kont (PV × St)} {st : List Fw} {ts : Tmps} {S : St} : run E fin st c34_l1 ts S = run E fin (.again c34_l1 :: st) c34_l1_b (sel (some [1, 3, 5]) ts) S := w_loop
theorem c34_l1_a {E : Env} {fin : Kont (PV × St)} {st : List Fw} {ts : Tmps} {S : St} : aft E fin (.again c34_l1 :: st) .normal ts S = run E fin st c34_l1 (sel (some [1, 3, 5]) ts) S := a_again_s
theorem c34_ok : cFn Tryd.prog Tryd.f34 = some c34.strip := by kernel_rfl
-- limbeck/limbecklaw05.awake
def c35_r3 : List EI := [⟨some 9, .ld (some 5) (.tmp 2), none, false⟩,
  ⟨some 10, .call (.con (.fn 36 [] [])) [(.tmp 9)], none, false⟩,
  ⟨some 11, .bin .eql (.tmp 10) (.con (.str ⟨#[40, 73, 110, 116, 32, 45, 62, 32, 73, 110, 116, 41, 32, 45, 62, 32, 63]⟩)), none, false⟩,
  ⟨some 12, .mv (.tmp 11), none, false⟩,
  ⟨some 13, .ld (some 5) (.tmp 1), some (12, true), false⟩,
  ⟨some 14, .build [(.str ⟨#[]⟩), (.int .i64 0), (.int .i64 0), (.str ⟨#[]⟩), (.sl .null []), (.sl .null [])] [(0, 1, (.con (.str ⟨#[120]⟩))), (1, 5, (.tmp 13))], some (12, true), false⟩,
  ⟨some 15, .rows 1 6 [(.str ⟨#[]⟩), (.int .i64 0), (.int .i64 0), (.str ⟨#[]⟩), (.sl .null []), (.sl .null [])] [(0, (.tmp 14))], some (12, true), false⟩,
  ⟨some 16, .call (.con (.fn 42 [] [])) [(.tmp 15), (.con (.str ⟨#[58, 32]⟩))], some (12, true), false⟩,
  ⟨some 17, .bin .eql (.tmp 16) (.con (.str ⟨#[120, 58, 32, 73, 110, 116]⟩)), some (12, true), false⟩,
  ⟨some 18, .pick (.tmp 12) (.tmp 17) (.con (.bool false)), none, false⟩,
  ⟨some 0, .mv (.tmp 18), none, false⟩]
def c35_b : EC := (.seq (.reg 0 [⟨some 0, .mv (.con (.bool false)), none, false⟩] false (some []))
  (.seq (.reg 1 [⟨some 3, .build [(.int .i64 0), (.int .i64 0), (.str ⟨#[]⟩), (.sl .null []), (.sl .null [])] [(0, 1, (.con (.int .i64 1)))], none, false⟩,
  ⟨some 1, .new 70 [(.int .i64 0), (.int .i64 0), (.str ⟨#[]⟩), (.sl .null []), (.sl .null [])], none, false⟩,
  ⟨none, .st 5 (.tmp 1) (.tmp 3), none, false⟩] false (some [1]))
  (.seq (.reg 2 [⟨some 4, .ld (some 5) (.tmp 1), none, false⟩,
  ⟨some 5, .ld (some 5) (.tmp 1), none, false⟩,
  ⟨some 6, .call (.con (.fn 56 [] [])) [(.tmp 4), (.tmp 5)], none, false⟩,
  ⟨some 7, .call (.con (.fn 57 [] [])) [], none, false⟩,
  ⟨some 8, .call (.con (.fn 56 [] [])) [(.tmp 6), (.tmp 7)], none, false⟩,
  ⟨some 2, .new 70 [(.int .i64 0), (.int .i64 0), (.str ⟨#[]⟩), (.sl .null []), (.sl .null [])], none, false⟩,
  ⟨none, .st 5 (.tmp 2) (.tmp 8), none, false⟩] false (some [1, 2]))
  (.seq (.reg 3 c35_r3 false (some [0]))
  .ret))))
def c35 : EFn := ⟨0, 19, [.tmp 0], c35_b⟩
theorem c35_ok : cFn Tryd.prog Tryd.f35 = some c35.strip := by kernel_rfl
-- limbeck/tyfmt.Show
def c36_b : EC := (.seq (.reg 0 [⟨some 1, .boxI 70 (.tmp 0), none, false⟩,
  ⟨some 2, .mv (.con (.str ⟨#[]⟩)), none, false⟩] false (some [1]))
  (.seq (.seq (.reg 1 [⟨some 3, .ld (some 5) (.tmp 1), none, false⟩,
  ⟨some 4, .call (.con (.fn 58 [] [])) [(.tmp 3)], none, false⟩,
  ⟨some 5, .un .not (.tmp 4), none, false⟩] false (some [1, 5]))
  (.cond (.tmp 5) (.seq (.reg 2 [⟨some 2, .mv (.con (.str ⟨#[]⟩)), none, false⟩] false (some [2]))
  .ret) .skip))
  (.seq (.reg 3 [⟨some 6, .ld (some 5) (.tmp 1), none, false⟩,
  ⟨some 7, .call (.con (.fn 59 [] [])) [(.tmp 6)], none, false⟩,
  ⟨some 2, .mv (.tmp 7), none, false⟩] false (some [2]))
  .ret)))
def c36 : EFn := ⟨1, 8, [.tmp 2], c36_b⟩
theorem c36_ok : cFn Tryd.prog Tryd.f36 = some c36.strip := by kernel_rfl
-- limbeck/limbeckref05.Show
def c37_b : EC := (.seq (.reg 0 [⟨some 1, .boxI 70 (.tmp 0), none, false⟩,
  ⟨some 2, .mv (.con (.str ⟨#[]⟩)), none, false⟩] false (some [1]))
  (.seq (.seq (.reg 1 [⟨some 3, .ld (some 5) (.tmp 1), none, false⟩,
  ⟨some 4, .call (.con (.fn 38 [] [])) [(.tmp 3)], none, false⟩,
  ⟨some 5, .un .not (.tmp 4), none, false⟩] false (some [1, 5]))
  (.cond (.tmp 5) (.seq (.reg 2 [⟨some 2, .mv (.con (.str ⟨#[]⟩)), none, false⟩] false (some [2]))
  .ret) .skip))
  (.seq (.reg 3 [⟨some 6, .ld (some 5) (.tmp 1), none, false⟩,
  ⟨some 7, .call (.con (.fn 60 [] [])) [(.tmp 6)], none, false⟩,
  ⟨some 2, .mv (.tmp 7), none, false⟩] false (some [2]))
  .ret)))
def c37 : EFn := ⟨1, 8, [.tmp 2], c37_b⟩
theorem c37_ok : cFn Tryd.prog Tryd.f37 = some c37.strip := by kernel_rfl
-- limbeck/limbeckref04.Right
def c38_r6 : List EI := [⟨some 18, .fA 0 (.tmp 1), none, false⟩,
  ⟨some 19, .ld none (.tmp 18), none, false⟩,
  ⟨some 20, .bin .neq (.tmp 19) (.con (.int .i64 6)), none, false⟩,
  ⟨some 21, .mv (.tmp 20), none, false⟩,
  ⟨some 22, .fA 2 (.tmp 1), some (21, true), false⟩,
  ⟨some 23, .ld none (.tmp 22), some (21, true), false⟩,
  ⟨some 24, .bin .neq (.tmp 23) (.con (.str ⟨#[]⟩)), some (21, true), false⟩,
  ⟨some 25, .pick (.tmp 21) (.tmp 24) (.con (.bool false)), none, false⟩,
  ⟨some 26, .mv (.tmp 25), none, false⟩,
  ⟨some 27, .fA 0 (.tmp 1), some (26, false), false⟩,
  ⟨some 28, .ld none (.tmp 27), some (26, false), false⟩,
  ⟨some 29, .bin .neq (.tmp 28) (.con (.int .i64 9)), some (26, false), false⟩,
  ⟨some 30, .mv (.tmp 29), some (26, false), false⟩,
  ⟨some 31, .fA 1 (.tmp 1), some (30, true), false⟩,
  ⟨some 32, .ld none (.tmp 31), some (30, true), false⟩,
  ⟨some 33, .bin .neq (.tmp 32) (.con (.int .i64 0)), some (30, true), false⟩,
  ⟨some 34, .pick (.tmp 30) (.tmp 33) (.con (.bool false)), some (26, false), false⟩,
  ⟨some 35, .pick (.tmp 26) (.con (.bool true)) (.tmp 34), none, false⟩,
  ⟨some 36, .mv (.tmp 35), none, false⟩,
  ⟨some 37, .fA 0 (.tmp 1), some (36, false), false⟩,
  ⟨some 38, .ld none (.tmp 37), some (36, false), false⟩,
  ⟨some 39, .bin .neq (.tmp 38) (.con (.int .i64 8)), some (36, false), false⟩,
  ⟨some 40, .mv (.tmp 39), some (36, false), false⟩,
  ⟨some 41, .fA 3 (.tmp 1), some (40, true), false⟩,
  ⟨some 42, .ld none (.tmp 41), some (40, true), false⟩,
  ⟨some 43, .len false (.tmp 42), some (40, true), false⟩,
  ⟨some 44, .bin .gtr (.tmp 43) (.con (.int .i64 0)), some (40, true), false⟩,
  ⟨some 45, .pick (.tmp 40) (.tmp 44) (.con (.bool false)), some (36, false), false⟩,
  ⟨some 46, .pick (.tmp 36) (.con (.bool true)) (.tmp 45), none, false⟩]
def c38_r8 : List EI := [⟨some 47, .fA 0 (.tmp 1), none, false⟩,
  ⟨some 48, .ld none (.tmp 47), none, false⟩,
  ⟨some 49, .bin .geq (.tmp 48) (.con (.int .i64 1)), none, false⟩,
  ⟨some 50, .mv (.tmp 49), none, false⟩,
  ⟨some 51, .fA 0 (.tmp 1), some (50, true), false⟩,
  ⟨some 52, .ld none (.tmp 51), some (50, true), false⟩,
  ⟨some 53, .bin .leq (.tmp 52) (.con (.int .i64 5)), some (50, true), false⟩,
  ⟨some 54, .pick (.tmp 50) (.tmp 53) (.con (.bool false)), none, false⟩]
def c38_r11 : List EI := [⟨some 62, .fA 2 (.tmp 1), none, false⟩,
  ⟨some 63, .ld none (.tmp 62), none, false⟩,
  ⟨some 64, .call (.con (.fn 61 [] [])) [(.tmp 63)], none, false⟩,
  ⟨some 65, .mv (.tmp 64), none, false⟩,
  ⟨some 66, .fA 4 (.tmp 1), some (65, true), false⟩,
  ⟨some 67, .ld none (.tmp 66), some (65, true), false⟩,
  ⟨some 68, .len false (.tmp 67), some (65, true), false⟩,
  ⟨some 69, .bin .eql (.tmp 68) (.con (.int .i64 0)), some (65, true), false⟩,
  ⟨some 70, .pick (.tmp 65) (.tmp 69) (.con (.bool false)), none, false⟩,
  ⟨some 2, .mv (.tmp 70), none, false⟩]
def c38_r13 : List EI := [⟨some 74, .fA 1 (.tmp 1), none, false⟩,
  ⟨some 75, .ld none (.tmp 74), none, false⟩,
  ⟨some 76, .bin .geq (.tmp 75) (.con (.int .i64 0)), none, false⟩,
  ⟨some 77, .mv (.tmp 76), none, false⟩,
  ⟨some 78, .fA 1 (.tmp 1), some (77, true), false⟩,
  ⟨some 79, .ld none (.tmp 78), some (77, true), false⟩,
  ⟨some 80, .bin .leq (.tmp 79) (.con (.int .i64 1073741824)), some (77, true), false⟩,
  ⟨some 81, .pick (.tmp 77) (.tmp 80) (.con (.bool false)), none, false⟩,
  ⟨some 82, .mv (.tmp 81), none, false⟩,
  ⟨some 83, .fA 4 (.tmp 1), some (82, true), false⟩,
  ⟨some 84, .ld none (.tmp 83), some (82, true), false⟩,
  ⟨some 85, .len false (.tmp 84), some (82, true), false⟩,
  ⟨some 86, .bin .eql (.tmp 85) (.con (.int .i64 0)), some (82, true), false⟩,
  ⟨some 87, .pick (.tmp 82) (.tmp 86) (.con (.bool false)), none, false⟩,
  ⟨some 2, .mv (.tmp 87), none, false⟩]
def c38_r16 : List EI := [⟨some 95, .fA 0 (.tmp 1), none, false⟩,
  ⟨some 96, .ld none (.tmp 95), none, false⟩,
  ⟨some 97, .bin .eql (.tmp 96) (.con (.int .i64 8)), none, false⟩,
  ⟨some 98, .mv (.tmp 97), none, false⟩,
  ⟨some 99, .fA 3 (.tmp 1), some (98, true), false⟩,
  ⟨some 100, .ld none (.tmp 99), some (98, true), false⟩,
  ⟨some 101, .call (.con (.fn 62 [] [])) [(.tmp 100)], some (98, true), false⟩,
  ⟨some 102, .pick (.tmp 98) (.tmp 101) (.con (.bool false)), none, false⟩,
  ⟨some 103, .mv (.tmp 102), none, false⟩,
  ⟨some 104, .fA 3 (.tmp 1), some (103, true), false⟩,
  ⟨some 105, .ld none (.tmp 104), some (103, true), false⟩,
  ⟨some 106, .len false (.tmp 105), some (103, true), false⟩,
  ⟨some 107, .fA 4 (.tmp 1), some (103, true), false⟩,
  ⟨some 108, .ld none (.tmp 107), some (103, true), false⟩,
  ⟨some 109, .len false (.tmp 108), some (103, true), false⟩,
  ⟨some 110, .bin .eql (.tmp 106) (.tmp 109), some (103, true), false⟩,
  ⟨some 111, .pick (.tmp 103) (.tmp 110) (.con (.bool false)), none, false⟩,
  ⟨some 2, .mv (.tmp 111), none, false⟩]
def c38_l0_b : EC := (.seq (.seq (.reg 2 [⟨some 4, .mv (.tmp 3), none, false⟩,
  ⟨some 5, .fA 4 (.tmp 1), none, false⟩,
  ⟨some 6, .ld none (.tmp 5), none, false⟩,
  ⟨some 7, .len false (.tmp 6), none, false⟩,
  ⟨some 8, .bin .lss (.tmp 4) (.tmp 7), none, false⟩] false (some [1, 3, 8]))
  (.cond (.tmp 8) .skip (.exit 0)))
  (.seq (.block 1 (.seq (.reg 4 [⟨some 11, .fA 4 (.tmp 1), none, false⟩,
  ⟨some 12, .ld none (.tmp 11), none, false⟩,
  ⟨some 13, .mv (.tmp 3), none, false⟩,
  ⟨some 14, .ixL 5 (.tmp 12) (.tmp 13), none, false⟩,
  ⟨some 15, .ld (some 5) (.tmp 14), none, false⟩,
  ⟨some 16, .call (.con (.fn 38 [] [])) [(.tmp 15)], none, false⟩,
  ⟨some 17, .un .not (.tmp 16), none, false⟩] false (some [1, 3, 17]))
  (.cond (.tmp 17) (.seq (.reg 5 [⟨some 2, .mv (.con (.bool false)), none, false⟩] false (some [2]))
  .ret) .skip)))
  (.reg 3 [⟨some 9, .mv (.tmp 3), none, false⟩,
  ⟨some 10, .bin .add (.tmp 9) (.con (.int .i64 1)), none, false⟩,
  ⟨some 3, .mv (.tmp 10), none, false⟩] false (some [1, 3]))))
def c38_l0 : EC := .loop (some [1, 3]) c38_l0_b
def c38_b : EC := (.seq (.reg 0 [⟨some 1, .boxI 70 (.tmp 0), none, false⟩,
  ⟨some 2, .mv (.con (.bool false)), none, false⟩] false (some [1]))
  (.seq (.seq (.reg 1 [⟨some 3, .mv (.con (.int .i64 0)), none, false⟩] false (some [1, 3]))
  (.block 0 c38_l0))
  (.seq (.seq (.reg 6 c38_r6 false (some [1, 46]))
  (.cond (.tmp 46) (.seq (.reg 7 [⟨some 2, .mv (.con (.bool false)), none, false⟩] false (some [2]))
  .ret) .skip))
  (.seq (.seq (.reg 8 c38_r8 false (some [1, 54]))
  (.cond (.tmp 54) (.seq (.reg 9 [⟨some 55, .fA 4 (.tmp 1), none, false⟩,
  ⟨some 56, .ld none (.tmp 55), none, false⟩,
  ⟨some 57, .len false (.tmp 56), none, false⟩,
  ⟨some 58, .bin .eql (.tmp 57) (.con (.int .i64 0)), none, false⟩,
  ⟨some 2, .mv (.tmp 58), none, false⟩] false (some [2]))
  .ret) .skip))
  (.seq (.seq (.reg 10 [⟨some 59, .fA 0 (.tmp 1), none, false⟩,
  ⟨some 60, .ld none (.tmp 59), none, false⟩,
  ⟨some 61, .bin .eql (.tmp 60) (.con (.int .i64 6)), none, false⟩] false (some [1, 61]))
  (.cond (.tmp 61) (.seq (.reg 11 c38_r11 false (some [2]))
  .ret) .skip))
  (.seq (.seq (.reg 12 [⟨some 71, .fA 0 (.tmp 1), none, false⟩,
  ⟨some 72, .ld none (.tmp 71), none, false⟩,
  ⟨some 73, .bin .eql (.tmp 72) (.con (.int .i64 9)), none, false⟩] false (some [1, 73]))
  (.cond (.tmp 73) (.seq (.reg 13 c38_r13 false (some [2]))
  .ret) .skip))
  (.seq (.seq (.reg 14 [⟨some 88, .fA 0 (.tmp 1), none, false⟩,
  ⟨some 89, .ld none (.tmp 88), none, false⟩,
  ⟨some 90, .bin .eql (.tmp 89) (.con (.int .i64 7)), none, false⟩] false (some [1, 90]))
  (.cond (.tmp 90) (.seq (.reg 15 [⟨some 91, .fA 4 (.tmp 1), none, false⟩,
  ⟨some 92, .ld none (.tmp 91), none, false⟩,
  ⟨some 93, .len false (.tmp 92), none, false⟩,
  ⟨some 94, .bin .eql (.tmp 93) (.con (.int .i64 2)), none, false⟩,
  ⟨some 2, .mv (.tmp 94), none, false⟩] false (some [2]))
  .ret) .skip))
  (.seq (.reg 16 c38_r16 false (some [2]))
  .ret))))))))
def c38 : EFn := ⟨1, 112, [.tmp 2], c38_b⟩
theorem c38_l0_step {E : Env} {fin : Kont (PV × St)} {st : List Fr} {ts : Tmps} {S : St} {n : Nat} : (lvl E (n + 1)).ev c38_l0 ts S (kont E fin st) = (lvl E (n + 1)).ev c38_l0_b (sel (some [1, 3]) ts) S (kont E fin (.again n c38_l0 :: st)) := rfl
theorem c38_l0_w {E : Env} {fin : Kont (PV × St)} {st : List Fw} {ts : Tmps} {S : St} : run E fin st c38_l0 ts S = run E fin (.again c38_l0 :: st) c38_l0_b (sel (some [1, 3]) ts) S := w_loop
theorem c38_l0_a {E : Env} {fin : Kont (PV × St)} {st : List Fw} {ts : Tmps} {S : St} : aft E fin (.again c38_l0 :: st) .normal ts S = run E fin st c38_l0 (sel (some [1, 3]) ts) S := a_again_s
theorem c38_ok : cFn Tryd.prog Tryd.f38 = some c38.strip := by kernel_rfl
-- limbeck/limbeckref04.Same
def c39_r1 : List EI := [⟨some 6, .fA 0 (.tmp 2), none, false⟩,
  ⟨some 7, .ld none (.tmp 6), none, false⟩,
  ⟨some 8, .fA 0 (.tmp 3), none, false⟩,
  ⟨some 9, .ld none (.tmp 8), none, false⟩,
  ⟨some 10, .bin .neq (.tmp 7) (.tmp 9), none, false⟩,
  ⟨some 11, .mv (.tmp 10), none, false⟩,
  ⟨some 12, .fA 1 (.tmp 2), some (11, false), false⟩,
  ⟨some 13, .ld none (.tmp 12), some (11, false), false⟩,
  ⟨some 14, .fA 1 (.tmp 3), some (11, false), false⟩,
  ⟨some 15, .ld none (.tmp 14), some (11, false), false⟩,
  ⟨some 16, .bin .neq (.tmp 13) (.tmp 15), some (11, false), false⟩,
  ⟨some 17, .pick (.tmp 11) (.con (.bool true)) (.tmp 16), none, false⟩,
  ⟨some 18, .mv (.tmp 17), none, false⟩,
  ⟨some 19, .fA 2 (.tmp 2), some (18, false), false⟩,
  ⟨some 20, .ld none (.tmp 19), some (18, false), false⟩,
  ⟨some 21, .fA 2 (.tmp 3), some (18, false), false⟩,
  ⟨some 22, .ld none (.tmp 21), some (18, false), false⟩,
  ⟨some 23, .bin .neq (.tmp 20) (.tmp 22), some (18, false), false⟩,
  ⟨some 24, .pick (.tmp 18) (.con (.bool true)) (.tmp 23), none, false⟩,
  ⟨some 25, .mv (.tmp 24), none, false⟩,
  ⟨some 26, .fA 3 (.tmp 2), some (25, false), false⟩,
  ⟨some 27, .ld none (.tmp 26), some (25, false), false⟩,
  ⟨some 28, .fA 3 (.tmp 3), some (25, false), false⟩,
  ⟨some 29, .ld none (.tmp 28), some (25, false), false⟩,
  ⟨some 30, .call (.con (.fn 63 [] [])) [(.tmp 27), (.tmp 29)], some (25, false), false⟩,
  ⟨some 31, .un .not (.tmp 30), some (25, false), false⟩,
  ⟨some 32, .pick (.tmp 25) (.con (.bool true)) (.tmp 31), none, false⟩,
  ⟨some 33, .mv (.tmp 32), none, false⟩,
  ⟨some 34, .fA 4 (.tmp 2), some (33, false), false⟩,
  ⟨some 35, .ld none (.tmp 34), some (33, false), false⟩,
  ⟨some 36, .len false (.tmp 35), some (33, false), false⟩,
  ⟨some 37, .fA 4 (.tmp 3), some (33, false), false⟩,
  ⟨some 38, .ld none (.tmp 37), some (33, false), false⟩,
  ⟨some 39, .len false (.tmp 38), some (33, false), false⟩,
  ⟨some 40, .bin .neq (.tmp 36) (.tmp 39), some (33, false), false⟩,
  ⟨some 41, .pick (.tmp 33) (.con (.bool true)) (.tmp 40), none, false⟩]
def c39_r4 : List EI := [⟨some 42, .mv (.tmp 5), none, false⟩,
  ⟨some 43, .fA 4 (.tmp 2), none, false⟩,
  ⟨some 44, .ld none (.tmp 43), none, false⟩,
  ⟨some 45, .len false (.tmp 44), none, false⟩,
  ⟨some 46, .bin .lss (.tmp 42) (.tmp 45), none, false⟩,
  ⟨some 47, .mv (.tmp 46), none, false⟩,
  ⟨some 48, .mv (.tmp 5), some (47, true), false⟩,
  ⟨some 49, .fA 4 (.tmp 3), some (47, true), false⟩,
  ⟨some 50, .ld none (.tmp 49), some (47, true), false⟩,
  ⟨some 51, .len false (.tmp 50), some (47, true), false⟩,
  ⟨some 52, .bin .lss (.tmp 48) (.tmp 51), some (47, true), false⟩,
  ⟨some 53, .pick (.tmp 47) (.tmp 52) (.con (.bool false)), none, false⟩]
def c39_l0_b : EC := (.seq (.seq (.reg 4 c39_r4 false (some [2, 3, 5, 53]))
  (.cond (.tmp 53) .skip (.exit 0)))
  (.seq (.block 1 (.seq (.reg 6 [⟨some 56, .fA 4 (.tmp 2), none, false⟩,
  ⟨some 57, .ld none (.tmp 56), none, true⟩,
  ⟨some 58, .mv (.tmp 5), none, false⟩,
  ⟨some 59, .ixL 5 (.tmp 57) (.tmp 58), none, false⟩,
  ⟨some 60, .ld (some 5) (.tmp 59), none, true⟩,
  ⟨some 61, .fA 4 (.tmp 3), none, false⟩,
  ⟨some 62, .ld none (.tmp 61), none, true⟩,
  ⟨some 63, .mv (.tmp 5), none, false⟩,
  ⟨some 64, .ixL 5 (.tmp 62) (.tmp 63), none, false⟩,
  ⟨some 65, .ld (some 5) (.tmp 64), none, true⟩,
  ⟨some 66, .call (.con (.fn 39 [] [])) [(.tmp 60), (.tmp 65)], none, false⟩,
  ⟨some 67, .un .not (.tmp 66), none, false⟩] true (some [2, 3, 5, 67]))
  (.cond (.tmp 67) (.seq (.reg 7 [⟨some 4, .mv (.con (.bool false)), none, false⟩] false (some [4]))
  .ret) .skip)))
  (.reg 5 [⟨some 54, .mv (.tmp 5), none, false⟩,
  ⟨some 55, .bin .add (.tmp 54) (.con (.int .i64 1)), none, false⟩,
  ⟨some 5, .mv (.tmp 55), none, false⟩] false (some [2, 3, 5]))))
def c39_l0 : EC := .loop (some [2, 3, 5]) c39_l0_b
def c39_b : EC := (.seq (.reg 0 [⟨some 2, .boxI 70 (.tmp 0), none, false⟩,
  ⟨some 3, .boxI 70 (.tmp 1), none, false⟩,
  ⟨some 4, .mv (.con (.bool false)), none, false⟩] false (some [2, 3]))
  (.seq (.seq (.reg 1 c39_r1 false (some [2, 3, 41]))
  (.cond (.tmp 41) (.seq (.reg 2 [⟨some 4, .mv (.con (.bool false)), none, false⟩] false (some [4]))
  .ret) .skip))
  (.seq (.seq (.reg 3 [⟨some 5, .mv (.con (.int .i64 0)), none, false⟩] false (some [2, 3, 5]))
  (.block 0 c39_l0))
  (.seq (.reg 8 [⟨some 4, .mv (.con (.bool true)), none, false⟩] false (some [4]))
  .ret))))
def c39 : EFn := ⟨2, 68, [.tmp 4], c39_b⟩
theorem c39_l0_step {E : Env} {fin : Kont (PV × St)} {st : List Fr} {ts : Tmps} {S : St} {n : Nat} : (lvl E (n + 1)).ev c39_l0 ts S (kont E fin st) = (lvl E (n + 1)).ev c39_l0_b (sel (some [2, 3, 5]) ts) S (kont E fin (.again n c39_l0 :: st)) := rfl
theorem c39_l0_w {E : Env} {fin : Kont (PV × St)} {st : List Fw} {ts : Tmps} {S : St} : run E fin st c39_l0 ts S = run E fin (.again c39_l0 :: st) c39_l0_b (sel (some [2, 3, 5]) ts) S := w_loop
theorem c39_l0_a {E : Env} {fin : Kont (PV × St)} {st : List Fw} {ts : Tmps} {S : St} : aft E fin (.again c39_l0 :: st) .normal ts S = run E fin st c39_l0 (sel (some [2, 3, 5]) ts) S := a_again_s
theorem c39_ok : cFn Tryd.prog Tryd.f39 = some c39.strip := by kernel_rfl
-- limbeck/tyfmt.List
def c40_b : EC := (.seq (.reg 0 [⟨some 2, .mv (.con (.str ⟨#[]⟩)), none, false⟩] false (some [0]))
  (.seq (.reg 1 [⟨some 3, .mv (.tmp 0), none, false⟩,
  ⟨some 4, .call (.con (.fn 64 [] [])) [(.tmp 3), (.con (.fn 65 [] []))], none, false⟩,
  ⟨some 2, .mv (.tmp 4), none, false⟩] false (some [2]))
  .ret))
def c40 : EFn := ⟨1, 5, [.tmp 2], c40_b⟩
theorem c40_ok : cFn Tryd.prog Tryd.f40 = some c40.strip := by kernel_rfl
-- limbeck/limbeckref05.List
def c41_l0_b : EC := (.seq (.seq (.reg 3 [⟨some 5, .mv (.tmp 4), none, false⟩,
  ⟨some 6, .mv (.tmp 0), none, false⟩,
  ⟨some 7, .len false (.tmp 6), none, false⟩,
  ⟨some 8, .bin .lss (.tmp 5) (.tmp 7), none, false⟩] false (some [0, 3, 4, 8]))
  (.cond (.tmp 8) .skip (.exit 0)))
  (.seq (.block 1 (.seq (.seq (.reg 5 [⟨some 11, .mv (.tmp 4), none, false⟩,
  ⟨some 12, .bin .gtr (.tmp 11) (.con (.int .i64 0)), none, false⟩] false (some [0, 3, 4, 12]))
  (.cond (.tmp 12) (.reg 6 [⟨some 13, .mv (.tmp 3), none, false⟩,
  ⟨some 14, .bin .add (.tmp 13) (.con (.str ⟨#[44, 32]⟩)), none, false⟩,
  ⟨some 3, .mv (.tmp 14), none, false⟩] false (some [0, 3, 4])) .skip))
  (.reg 7 [⟨some 15, .mv (.tmp 3), none, false⟩,
  ⟨some 16, .mv (.tmp 0), none, false⟩,
  ⟨some 17, .mv (.tmp 4), none, false⟩,
  ⟨some 18, .ixL 5 (.tmp 16) (.tmp 17), none, false⟩,
  ⟨some 19, .ld (some 5) (.tmp 18), none, false⟩,
  ⟨some 20, .call (.con (.fn 37 [] [])) [(.tmp 19)], none, false⟩,
  ⟨some 21, .bin .add (.tmp 15) (.tmp 20), none, false⟩,
  ⟨some 3, .mv (.tmp 21), none, false⟩] false (some [0, 3, 4]))))
  (.reg 4 [⟨some 9, .mv (.tmp 4), none, false⟩,
  ⟨some 10, .bin .add (.tmp 9) (.con (.int .i64 1)), none, false⟩,
  ⟨some 4, .mv (.tmp 10), none, false⟩] false (some [0, 3, 4]))))
def c41_l0 : EC := .loop (some [0, 3, 4]) c41_l0_b
def c41_b : EC := (.seq (.reg 0 [⟨some 2, .mv (.con (.str ⟨#[]⟩)), none, false⟩] false (some [0]))
  (.seq (.reg 1 [⟨some 3, .mv (.con (.str ⟨#[]⟩)), none, false⟩] false (some [0, 3]))
  (.seq (.seq (.reg 2 [⟨some 4, .mv (.con (.int .i64 0)), none, false⟩] false (some [0, 3, 4]))
  (.block 0 c41_l0))
  (.seq (.reg 8 [⟨some 22, .mv (.tmp 3), none, false⟩,
  ⟨some 2, .mv (.tmp 22), none, false⟩] false (some [2]))
  .ret))))
def c41 : EFn := ⟨1, 23, [.tmp 2], c41_b⟩
theorem c41_l0_step {E : Env} {fin : Kont (PV × St)} {st : List Fr} {ts : Tmps} {S : St} {n : Nat} : (lvl E (n + 1)).ev c41_l0 ts S (kont E fin st) = (lvl E (n + 1)).ev c41_l0_b (sel (some [0, 3, 4]) ts) S (kont E fin (.again n c41_l0 :: st)) := rfl
theorem c41_l0_w {E : Env} {fin : Kont (PV × St)} {st : List Fw} {ts : Tmps} {S : St} : run E fin st c41_l0 ts S = run E fin (.again c41_l0 :: st) c41_l0_b (sel (some [0, 3, 4]) ts) S := w_loop
theorem c41_l0_a {E : Env} {fin : Kont (PV × St)} {st : List Fw} {ts : Tmps} {S : St} : aft E fin (.again c41_l0 :: st) .normal ts S = run E fin st c41_l0 (sel (some [0, 3, 4]) ts) S := a_again_s
theorem c41_ok : cFn Tryd.prog Tryd.f41 = some c41.strip := by kernel_rfl
-- limbeck/tyfmt.Binds
def c42_b : EC := (.seq (.reg 0 [⟨some 3, .boxI 9 (.tmp 1), none, false⟩,
  ⟨some 4, .mv (.con (.str ⟨#[]⟩)), none, false⟩] false (some [0, 3]))
  (.seq (.reg 1 [⟨some 5, .mv (.tmp 0), none, false⟩,
  ⟨some 6, .fnv 67 [] [(.tmp 3)], none, false⟩,
  ⟨some 7, .call (.con (.fn 66 [] [])) [(.tmp 5), (.tmp 6)], none, false⟩,
  ⟨some 4, .mv (.tmp 7), none, false⟩] false (some [4]))
  .ret))
def c42 : EFn := ⟨2, 8, [.tmp 4], c42_b⟩
theorem c42_ok : cFn Tryd.prog Tryd.f42 = some c42.strip := by kernel_rfl
-- limbeck/limbeckref05.Binds
def c43_l0_b : EC := (.seq (.seq (.reg 3 [⟨some 7, .mv (.tmp 6), none, false⟩,
  ⟨some 8, .mv (.tmp 0), none, false⟩,
  ⟨some 9, .len false (.tmp 8), none, false⟩,
  ⟨some 10, .bin .lss (.tmp 7) (.tmp 9), none, false⟩] false (some [0, 1, 5, 6, 10]))
  (.cond (.tmp 10) .skip (.exit 0)))
  (.seq (.block 1 (.seq (.seq (.reg 5 [⟨some 13, .mv (.tmp 6), none, false⟩,
  ⟨some 14, .bin .gtr (.tmp 13) (.con (.int .i64 0)), none, false⟩] false (some [0, 1, 5, 6, 14]))
  (.cond (.tmp 14) (.reg 6 [⟨some 15, .mv (.tmp 5), none, false⟩,
  ⟨some 16, .bin .add (.tmp 15) (.con (.str ⟨#[44, 32]⟩)), none, false⟩,
  ⟨some 5, .mv (.tmp 16), none, false⟩] false (some [0, 1, 5, 6])) .skip))
  (.reg 7 [⟨some 17, .mv (.tmp 5), none, false⟩,
  ⟨some 18, .mv (.tmp 0), none, false⟩,
  ⟨some 19, .mv (.tmp 6), none, false⟩,
  ⟨some 20, .ixL 6 (.tmp 18) (.tmp 19), none, false⟩,
  ⟨some 21, .fA 0 (.tmp 20), none, false⟩,
  ⟨some 22, .ld none (.tmp 21), none, true⟩,
  ⟨some 23, .bin .add (.tmp 17) (.tmp 22), none, false⟩,
  ⟨some 24, .mv (.tmp 1), none, false⟩,
  ⟨some 25, .bin .add (.tmp 23) (.tmp 24), none, false⟩,
  ⟨some 26, .mv (.tmp 0), none, false⟩,
  ⟨some 27, .mv (.tmp 6), none, false⟩,
  ⟨some 28, .ixL 6 (.tmp 26) (.tmp 27), none, false⟩,
  ⟨some 29, .fA 1 (.tmp 28), none, false⟩,
  ⟨some 30, .ld (some 5) (.tmp 29), none, true⟩,
  ⟨some 31, .call (.con (.fn 37 [] [])) [(.tmp 30)], none, true⟩,
  ⟨some 32, .bin .add (.tmp 25) (.tmp 31), none, false⟩,
  ⟨some 5, .mv (.tmp 32), none, false⟩] true (some [0, 1, 5, 6]))))
  (.reg 4 [⟨some 11, .mv (.tmp 6), none, false⟩,
  ⟨some 12, .bin .add (.tmp 11) (.con (.int .i64 1)), none, false⟩,
  ⟨some 6, .mv (.tmp 12), none, false⟩] false (some [0, 1, 5, 6]))))
def c43_l0 : EC := .loop (some [0, 1, 5, 6]) c43_l0_b
def c43_b : EC := (.seq (.reg 0 [⟨some 4, .mv (.con (.str ⟨#[]⟩)), none, false⟩] false (some [0, 1]))
  (.seq (.reg 1 [⟨some 5, .mv (.con (.str ⟨#[]⟩)), none, false⟩] false (some [0, 1, 5]))
  (.seq (.seq (.reg 2 [⟨some 6, .mv (.con (.int .i64 0)), none, false⟩] false (some [0, 1, 5, 6]))
  (.block 0 c43_l0))
  (.seq (.reg 8 [⟨some 33, .mv (.tmp 5), none, false⟩,
  ⟨some 4, .mv (.tmp 33), none, false⟩] false (some [4]))
  .ret))))
def c43 : EFn := ⟨2, 34, [.tmp 4], c43_b⟩
theorem c43_l0_step {E : Env} {fin : Kont (PV × St)} {st : List Fr} {ts : Tmps} {S : St} {n : Nat} : (lvl E (n + 1)).ev c43_l0 ts S (kont E fin st) = (lvl E (n + 1)).ev c43_l0_b (sel (some [0, 1, 5, 6]) ts) S (kont E fin (.again n c43_l0 :: st)) := rfl
theorem c43_l0_w {E : Env} {fin : Kont (PV × St)} {st : List Fw} {ts : Tmps} {S : St} : run E fin st c43_l0 ts S = run E fin (.again c43_l0 :: st) c43_l0_b (sel (some [0, 1, 5, 6]) ts) S := w_loop
theorem c43_l0_a {E : Env} {fin : Kont (PV × St)} {st : List Fw} {ts : Tmps} {S : St} : aft E fin (.again c43_l0 :: st) .normal ts S = run E fin st c43_l0 (sel (some [0, 1, 5, 6]) ts) S := a_again_s
theorem c43_ok : cFn Tryd.prog Tryd.f43 = some c43.strip := by kernel_rfl
-- limbeck/limbeckref04.Fun
def c56_b : EC := (.seq (.reg 0 [⟨some 2, .boxI 70 (.tmp 0), none, false⟩,
  ⟨some 3, .boxI 70 (.tmp 1), none, false⟩,
  ⟨some 4, .new 70 [(.int .i64 0), (.int .i64 0), (.str ⟨#[]⟩), (.sl .null []), (.sl .null [])], none, false⟩] false (some [2, 3, 4]))
  (.seq (.reg 1 [⟨some 5, .ld (some 5) (.tmp 2), none, false⟩,
  ⟨some 6, .ld (some 5) (.tmp 3), none, false⟩,
  ⟨some 7, .rows 2 5 [(.int .i64 0), (.int .i64 0), (.str ⟨#[]⟩), (.sl .null []), (.sl .null [])] [(0, (.tmp 5)), (1, (.tmp 6))], none, false⟩,
  ⟨some 8, .build [(.int .i64 0), (.int .i64 0), (.str ⟨#[]⟩), (.sl .null []), (.sl .null [])] [(0, 1, (.con (.int .i64 7))), (4, 1, (.tmp 7))], none, false⟩,
  ⟨none, .st 5 (.tmp 4) (.tmp 8), none, false⟩] false (some [4]))
  .ret))
def c56 : EFn := ⟨2, 9, [.cell 4 (some 5)], c56_b⟩
theorem c56_ok : cFn Tryd.prog Tryd.f56 = some c56.strip := by kernel_rfl
-- limbeck/limbeckref04.Dyn
def c57_b : EC := (.seq (.reg 0 [⟨some 0, .new 70 [(.int .i64 0), (.int .i64 0), (.str ⟨#[]⟩), (.sl .null []), (.sl .null [])], none, false⟩] false (some [0]))
  (.seq (.reg 1 [⟨some 1, .build [(.int .i64 0), (.int .i64 0), (.str ⟨#[]⟩), (.sl .null []), (.sl .null [])] [(0, 1, (.con (.int .i64 5)))], none, false⟩,
  ⟨none, .st 5 (.tmp 0) (.tmp 1), none, false⟩] false (some [0]))
  .ret))
def c57 : EFn := ⟨0, 2, [.cell 0 (some 5)], c57_b⟩
theorem c57_ok : cFn Tryd.prog Tryd.f57 = some c57.strip := by kernel_rfl
-- limbeck/ty.Right
def c58_r1 : List EI := [⟨some 3, .ld (some 5) (.tmp 1), none, false⟩,
  ⟨some 4, .call (.con (.fn 81 [] [])) [(.tmp 3)], none, false⟩,
  ⟨some 5, .un .not (.tmp 4), none, false⟩,
  ⟨some 6, .mv (.tmp 5), none, false⟩,
  ⟨some 7, .fA 4 (.tmp 1), some (6, false), false⟩,
  ⟨some 8, .ld none (.tmp 7), some (6, false), false⟩,
  ⟨some 9, .call (.con (.fn 82 [] [])) [(.tmp 8), (.con (.fn 83 [] []))], some (6, false), false⟩,
  ⟨some 10, .pick (.tmp 6) (.con (.bool true)) (.tmp 9), none, false⟩]
def c58_r11 : List EI := [⟨some 25, .fA 4 (.tmp 1), none, false⟩,
  ⟨some 26, .ld none (.tmp 25), none, false⟩,
  ⟨some 27, .len false (.tmp 26), none, false⟩,
  ⟨some 28, .bin .eql (.tmp 27) (.con (.int .i64 0)), none, false⟩,
  ⟨some 29, .mv (.tmp 28), none, false⟩,
  ⟨some 30, .fA 2 (.tmp 1), some (29, true), false⟩,
  ⟨some 31, .ld none (.tmp 30), some (29, true), false⟩,
  ⟨some 32, .call (.con (.fn 84 [] [])) [(.tmp 31)], some (29, true), false⟩,
  ⟨some 33, .pick (.tmp 29) (.tmp 32) (.con (.bool false)), none, false⟩,
  ⟨some 2, .mv (.tmp 33), none, false⟩]
def c58_r13 : List EI := [⟨some 36, .fA 4 (.tmp 1), none, false⟩,
  ⟨some 37, .ld none (.tmp 36), none, false⟩,
  ⟨some 38, .len false (.tmp 37), none, false⟩,
  ⟨some 39, .bin .eql (.tmp 38) (.con (.int .i64 0)), none, false⟩,
  ⟨some 40, .mv (.tmp 39), none, false⟩,
  ⟨some 41, .fA 1 (.tmp 1), some (40, true), false⟩,
  ⟨some 42, .ld none (.tmp 41), some (40, true), false⟩,
  ⟨some 43, .bin .geq (.tmp 42) (.con (.int .i64 0)), some (40, true), false⟩,
  ⟨some 44, .pick (.tmp 40) (.tmp 43) (.con (.bool false)), none, false⟩,
  ⟨some 45, .mv (.tmp 44), none, false⟩,
  ⟨some 46, .fA 1 (.tmp 1), some (45, true), false⟩,
  ⟨some 47, .ld none (.tmp 46), some (45, true), false⟩,
  ⟨some 48, .bin .leq (.tmp 47) (.con (.int .i64 1073741824)), some (45, true), false⟩,
  ⟨some 49, .pick (.tmp 45) (.tmp 48) (.con (.bool false)), none, false⟩,
  ⟨some 2, .mv (.tmp 49), none, false⟩]
def c58_r17 : List EI := [⟨some 58, .fA 4 (.tmp 1), none, false⟩,
  ⟨some 59, .ld none (.tmp 58), none, false⟩,
  ⟨some 60, .len false (.tmp 59), none, false⟩,
  ⟨some 61, .fA 3 (.tmp 1), none, false⟩,
  ⟨some 62, .ld none (.tmp 61), none, false⟩,
  ⟨some 63, .len false (.tmp 62), none, false⟩,
  ⟨some 64, .bin .eql (.tmp 60) (.tmp 63), none, false⟩,
  ⟨some 65, .mv (.tmp 64), none, false⟩,
  ⟨some 66, .fA 3 (.tmp 1), some (65, true), false⟩,
  ⟨some 67, .ld none (.tmp 66), some (65, true), false⟩,
  ⟨some 68, .call (.con (.fn 85 [] [])) [(.tmp 67)], some (65, true), false⟩,
  ⟨some 69, .pick (.tmp 65) (.tmp 68) (.con (.bool false)), none, false⟩,
  ⟨some 2, .mv (.tmp 69), none, false⟩]
def c58_b : EC := (.seq (.reg 0 [⟨some 1, .boxI 70 (.tmp 0), none, false⟩,
  ⟨some 2, .mv (.con (.bool false)), none, false⟩] false (some [1]))
  (.seq (.seq (.reg 1 c58_r1 false (some [1, 10]))
  (.cond (.tmp 10) (.seq (.reg 2 [⟨some 2, .mv (.con (.bool false)), none, false⟩] false (some [2]))
  .ret) .skip))
  (.seq (.seq (.reg 3 [⟨some 11, .fA 0 (.tmp 1), none, false⟩,
  ⟨some 12, .ld none (.tmp 11), none, false⟩] false (some [1, 12]))
  (.block 0 (.seq (.seq (.reg 4 [⟨some 14, .bin .eql (.tmp 12) (.con (.int .i64 1)), none, false⟩,
  ⟨some 13, .mv (.tmp 14), none, false⟩] false (some [1, 12, 13]))
  (.cond (.tmp 13) .skip (.seq (.reg 5 [⟨some 15, .bin .eql (.tmp 12) (.con (.int .i64 2)), none, false⟩,
  ⟨some 13, .mv (.tmp 15), none, false⟩] false (some [1, 12, 13]))
  (.cond (.tmp 13) .skip (.seq (.reg 6 [⟨some 16, .bin .eql (.tmp 12) (.con (.int .i64 3)), none, false⟩,
  ⟨some 13, .mv (.tmp 16), none, false⟩] false (some [1, 12, 13]))
  (.cond (.tmp 13) .skip (.seq (.reg 7 [⟨some 17, .bin .eql (.tmp 12) (.con (.int .i64 4)), none, false⟩,
  ⟨some 13, .mv (.tmp 17), none, false⟩] false (some [1, 12, 13]))
  (.cond (.tmp 13) .skip (.reg 8 [⟨some 18, .bin .eql (.tmp 12) (.con (.int .i64 5)), none, false⟩,
  ⟨some 13, .mv (.tmp 18), none, false⟩] false (some [1, 12, 13]))))))))))
  (.cond (.tmp 13) (.seq (.reg 9 [⟨some 19, .fA 4 (.tmp 1), none, false⟩,
  ⟨some 20, .ld none (.tmp 19), none, false⟩,
  ⟨some 21, .len false (.tmp 20), none, false⟩,
  ⟨some 22, .bin .eql (.tmp 21) (.con (.int .i64 0)), none, false⟩,
  ⟨some 2, .mv (.tmp 22), none, false⟩] false (some [2]))
  .ret) (.seq (.reg 10 [⟨some 24, .bin .eql (.tmp 12) (.con (.int .i64 6)), none, false⟩,
  ⟨some 23, .mv (.tmp 24), none, false⟩] false (some [1, 12, 23]))
  (.cond (.tmp 23) (.seq (.reg 11 c58_r11 false (some [2]))
  .ret) (.seq (.reg 12 [⟨some 35, .bin .eql (.tmp 12) (.con (.int .i64 9)), none, false⟩,
  ⟨some 34, .mv (.tmp 35), none, false⟩] false (some [1, 12, 34]))
  (.cond (.tmp 34) (.seq (.reg 13 c58_r13 false (some [2]))
  .ret) (.seq (.reg 14 [⟨some 51, .bin .eql (.tmp 12) (.con (.int .i64 7)), none, false⟩,
  ⟨some 50, .mv (.tmp 51), none, false⟩] false (some [1, 12, 50]))
  (.cond (.tmp 50) (.seq (.reg 15 [⟨some 52, .fA 4 (.tmp 1), none, false⟩,
  ⟨some 53, .ld none (.tmp 52), none, false⟩,
  ⟨some 54, .len false (.tmp 53), none, false⟩,
  ⟨some 55, .bin .eql (.tmp 54) (.con (.int .i64 2)), none, false⟩,
  ⟨some 2, .mv (.tmp 55), none, false⟩] false (some [2]))
  .ret) (.seq (.reg 16 [⟨some 57, .bin .eql (.tmp 12) (.con (.int .i64 8)), none, false⟩,
  ⟨some 56, .mv (.tmp 57), none, false⟩] false (some [1, 56]))
  (.cond (.tmp 56) (.seq (.reg 17 c58_r17 false (some [2]))
  .ret) .skip))))))))))))
  (.seq (.reg 18 [⟨some 2, .mv (.con (.bool false)), none, false⟩] false (some [2]))
  .ret))))
def c58 : EFn := ⟨1, 70, [.tmp 2], c58_b⟩
theorem c58_ok : cFn Tryd.prog Tryd.f58 = some c58.strip := by kernel_rfl
-- limbeck/tyfmt.shown
def c59_b : EC := (.seq (.reg 0 [⟨some 1, .boxI 70 (.tmp 0), none, false⟩,
  ⟨some 2, .mv (.con (.str ⟨#[]⟩)), none, false⟩] false (some [1]))
  (.seq (.seq (.reg 1 [⟨some 3, .fA 0 (.tmp 1), none, false⟩,
  ⟨some 4, .ld none (.tmp 3), none, false⟩] false (some [1, 4]))
  (.block 0 (.seq (.reg 2 [⟨some 6, .bin .eql (.tmp 4) (.con (.int .i64 1)), none, false⟩,
  ⟨some 5, .mv (.tmp 6), none, false⟩] false (some [1, 4, 5]))
  (.cond (.tmp 5) (.seq (.reg 3 [⟨some 2, .mv (.con (.str ⟨#[73, 110, 116]⟩)), none, false⟩] false (some [2]))
  .ret) (.seq (.reg 4 [⟨some 8, .bin .eql (.tmp 4) (.con (.int .i64 2)), none, false⟩,
  ⟨some 7, .mv (.tmp 8), none, false⟩] false (some [1, 4, 7]))
  (.cond (.tmp 7) (.seq (.reg 5 [⟨some 2, .mv (.con (.str ⟨#[66, 111, 111, 108]⟩)), none, false⟩] false (some [2]))
  .ret) (.seq (.reg 6 [⟨some 10, .bin .eql (.tmp 4) (.con (.int .i64 3)), none, false⟩,
  ⟨some 9, .mv (.tmp 10), none, false⟩] false (some [1, 4, 9]))
  (.cond (.tmp 9) (.seq (.reg 7 [⟨some 2, .mv (.con (.str ⟨#[83, 116, 114, 105, 110, 103]⟩)), none, false⟩] false (some [2]))
  .ret) (.seq (.reg 8 [⟨some 12, .bin .eql (.tmp 4) (.con (.int .i64 4)), none, false⟩,
  ⟨some 11, .mv (.tmp 12), none, false⟩] false (some [1, 4, 11]))
  (.cond (.tmp 11) (.seq (.reg 9 [⟨some 2, .mv (.con (.str ⟨#[84, 111, 112]⟩)), none, false⟩] false (some [2]))
  .ret) (.seq (.reg 10 [⟨some 14, .bin .eql (.tmp 4) (.con (.int .i64 5)), none, false⟩,
  ⟨some 13, .mv (.tmp 14), none, false⟩] false (some [1, 4, 13]))
  (.cond (.tmp 13) (.seq (.reg 11 [⟨some 2, .mv (.con (.str ⟨#[63]⟩)), none, false⟩] false (some [2]))
  .ret) (.seq (.reg 12 [⟨some 16, .bin .eql (.tmp 4) (.con (.int .i64 6)), none, false⟩,
  ⟨some 15, .mv (.tmp 16), none, false⟩] false (some [1, 4, 15]))
  (.cond (.tmp 15) (.seq (.reg 13 [⟨some 17, .fA 2 (.tmp 1), none, false⟩,
  ⟨some 18, .ld none (.tmp 17), none, false⟩,
  ⟨some 2, .mv (.tmp 18), none, false⟩] false (some [2]))
  .ret) (.seq (.reg 14 [⟨some 20, .bin .eql (.tmp 4) (.con (.int .i64 9)), none, false⟩,
  ⟨some 19, .mv (.tmp 20), none, false⟩] false (some [1, 4, 19]))
  (.cond (.tmp 19) (.seq (.reg 15 [⟨some 21, .fA 1 (.tmp 1), none, false⟩,
  ⟨some 22, .ld none (.tmp 21), none, false⟩,
  ⟨some 23, .call (.con (.fn 49 [] [])) [(.tmp 22)], none, false⟩,
  ⟨some 24, .bin .add (.con (.str ⟨#[35]⟩)) (.tmp 23), none, false⟩,
  ⟨some 2, .mv (.tmp 24), none, false⟩] false (some [2]))
  .ret) (.seq (.reg 16 [⟨some 26, .bin .eql (.tmp 4) (.con (.int .i64 7)), none, false⟩,
  ⟨some 25, .mv (.tmp 26), none, false⟩] false (some [1, 25]))
  (.cond (.tmp 25) (.seq (.reg 17 [⟨some 27, .fA 4 (.tmp 1), none, false⟩,
  ⟨some 28, .ld none (.tmp 27), none, true⟩,
  ⟨some 29, .ixL 5 (.tmp 28) (.con (.int .i64 0)), none, false⟩,
  ⟨some 30, .ld (some 5) (.tmp 29), none, true⟩,
  ⟨some 31, .call (.con (.fn 86 [] [])) [(.tmp 30)], none, true⟩,
  ⟨some 32, .bin .add (.tmp 31) (.con (.str ⟨#[32, 45, 62, 32]⟩)), none, false⟩,
  ⟨some 33, .fA 4 (.tmp 1), none, false⟩,
  ⟨some 34, .ld none (.tmp 33), none, true⟩,
  ⟨some 35, .ixL 5 (.tmp 34) (.con (.int .i64 1)), none, false⟩,
  ⟨some 36, .ld (some 5) (.tmp 35), none, true⟩,
  ⟨some 37, .call (.con (.fn 59 [] [])) [(.tmp 36)], none, false⟩,
  ⟨some 38, .bin .add (.tmp 32) (.tmp 37), none, false⟩,
  ⟨some 2, .mv (.tmp 38), none, false⟩] true (some [2]))
  .ret) .skip))))))))))))))))))
  (.seq (.reg 18 [⟨some 39, .fA 4 (.tmp 1), none, false⟩,
  ⟨some 40, .ld none (.tmp 39), none, false⟩,
  ⟨some 41, .fnv 87 [] [(.tmp 1)], none, false⟩,
  ⟨some 42, .call (.con (.fn 64 [] [])) [(.tmp 40), (.tmp 41)], none, false⟩,
  ⟨some 43, .bin .add (.con (.str ⟨#[123]⟩)) (.tmp 42), none, false⟩,
  ⟨some 44, .bin .add (.tmp 43) (.con (.str ⟨#[125]⟩)), none, false⟩,
  ⟨some 2, .mv (.tmp 44), none, false⟩] false (some [2]))
  .ret)))
def c59 : EFn := ⟨1, 45, [.tmp 2], c59_b⟩
theorem c59_ok : cFn Tryd.prog Tryd.f59 = some c59.strip := by kernel_rfl
-- limbeck/limbeckref05.show
def c60_l0_b : EC := (.seq (.seq (.reg 15 [⟨some 55, .mv (.tmp 6), none, false⟩,
  ⟨some 56, .fA 3 (.tmp 1), none, false⟩,
  ⟨some 57, .ld none (.tmp 56), none, false⟩,
  ⟨some 58, .len false (.tmp 57), none, false⟩,
  ⟨some 59, .bin .lss (.tmp 55) (.tmp 58), none, false⟩] false (some [1, 5, 6, 59]))
  (.cond (.tmp 59) .skip (.exit 0)))
  (.seq (.block 1 (.seq (.seq (.reg 17 [⟨some 62, .mv (.tmp 6), none, false⟩,
  ⟨some 63, .bin .gtr (.tmp 62) (.con (.int .i64 0)), none, false⟩] false (some [1, 5, 6, 63]))
  (.cond (.tmp 63) (.reg 18 [⟨some 64, .mv (.tmp 5), none, false⟩,
  ⟨some 65, .bin .add (.tmp 64) (.con (.str ⟨#[44, 32]⟩)), none, false⟩,
  ⟨some 5, .mv (.tmp 65), none, false⟩] false (some [1, 5, 6])) .skip))
  (.reg 19 [⟨some 66, .mv (.tmp 5), none, false⟩,
  ⟨some 67, .fA 3 (.tmp 1), none, false⟩,
  ⟨some 68, .ld none (.tmp 67), none, true⟩,
  ⟨some 69, .mv (.tmp 6), none, false⟩,
  ⟨some 70, .ixL 1 (.tmp 68) (.tmp 69), none, false⟩,
  ⟨some 71, .ld none (.tmp 70), none, true⟩,
  ⟨some 72, .bin .add (.tmp 66) (.tmp 71), none, false⟩,
  ⟨some 73, .bin .add (.tmp 72) (.con (.str ⟨#[58, 32]⟩)), none, false⟩,
  ⟨some 74, .fA 4 (.tmp 1), none, false⟩,
  ⟨some 75, .ld none (.tmp 74), none, true⟩,
  ⟨some 76, .mv (.tmp 6), none, false⟩,
  ⟨some 77, .ixL 5 (.tmp 75) (.tmp 76), none, false⟩,
  ⟨some 78, .ld (some 5) (.tmp 77), none, true⟩,
  ⟨some 79, .call (.con (.fn 60 [] [])) [(.tmp 78)], none, true⟩,
  ⟨some 80, .bin .add (.tmp 73) (.tmp 79), none, false⟩,
  ⟨some 5, .mv (.tmp 80), none, false⟩] true (some [1, 5, 6]))))
  (.reg 16 [⟨some 60, .mv (.tmp 6), none, false⟩,
  ⟨some 61, .bin .add (.tmp 60) (.con (.int .i64 1)), none, false⟩,
  ⟨some 6, .mv (.tmp 61), none, false⟩] false (some [1, 5, 6]))))
def c60_l0 : EC := .loop (some [1, 5, 6]) c60_l0_b
def c60_b : EC := (.seq (.reg 0 [⟨some 1, .boxI 70 (.tmp 0), none, false⟩,
  ⟨some 2, .mv (.con (.str ⟨#[]⟩)), none, false⟩] false (some [1]))
  (.seq (.reg 1 [⟨some 7, .rows 6 1 [(.str ⟨#[]⟩)] [(0, (.con (.str ⟨#[]⟩))), (1, (.con (.str ⟨#[73, 110, 116]⟩))), (2, (.con (.str ⟨#[66, 111, 111, 108]⟩))), (3, (.con (.str ⟨#[83, 116, 114, 105, 110, 103]⟩))), (4, (.con (.str ⟨#[84, 111, 112]⟩))), (5, (.con (.str ⟨#[63]⟩)))], none, false⟩,
  ⟨some 3, .mv (.tmp 7), none, false⟩] false (some [1, 3]))
  (.seq (.seq (.reg 2 [⟨some 8, .fA 0 (.tmp 1), none, false⟩,
  ⟨some 9, .ld none (.tmp 8), none, false⟩,
  ⟨some 10, .mv (.tmp 3), none, false⟩,
  ⟨some 11, .len false (.tmp 10), none, false⟩,
  ⟨some 12, .bin .lss (.tmp 9) (.tmp 11), none, false⟩] false (some [1, 3, 12]))
  (.cond (.tmp 12) (.seq (.reg 3 [⟨some 13, .mv (.tmp 3), none, false⟩,
  ⟨some 14, .fA 0 (.tmp 1), none, false⟩,
  ⟨some 15, .ld none (.tmp 14), none, false⟩,
  ⟨some 16, .ixL 1 (.tmp 13) (.tmp 15), none, false⟩,
  ⟨some 17, .ld none (.tmp 16), none, false⟩,
  ⟨some 2, .mv (.tmp 17), none, false⟩] false (some [2]))
  .ret) .skip))
  (.seq (.seq (.reg 4 [⟨some 18, .fA 0 (.tmp 1), none, false⟩,
  ⟨some 19, .ld none (.tmp 18), none, false⟩,
  ⟨some 20, .bin .eql (.tmp 19) (.con (.int .i64 6)), none, false⟩] false (some [1, 20]))
  (.cond (.tmp 20) (.seq (.reg 5 [⟨some 21, .fA 2 (.tmp 1), none, false⟩,
  ⟨some 22, .ld none (.tmp 21), none, false⟩,
  ⟨some 2, .mv (.tmp 22), none, false⟩] false (some [2]))
  .ret) .skip))
  (.seq (.seq (.reg 6 [⟨some 23, .fA 0 (.tmp 1), none, false⟩,
  ⟨some 24, .ld none (.tmp 23), none, false⟩,
  ⟨some 25, .bin .eql (.tmp 24) (.con (.int .i64 9)), none, false⟩] false (some [1, 25]))
  (.cond (.tmp 25) (.seq (.reg 7 [⟨some 26, .fA 1 (.tmp 1), none, false⟩,
  ⟨some 27, .ld none (.tmp 26), none, false⟩,
  ⟨some 28, .call (.con (.fn 88 [] [])) [(.tmp 27)], none, false⟩,
  ⟨some 29, .bin .add (.con (.str ⟨#[35]⟩)) (.tmp 28), none, false⟩,
  ⟨some 2, .mv (.tmp 29), none, false⟩] false (some [2]))
  .ret) .skip))
  (.seq (.seq (.reg 8 [⟨some 30, .fA 0 (.tmp 1), none, false⟩,
  ⟨some 31, .ld none (.tmp 30), none, false⟩,
  ⟨some 32, .bin .eql (.tmp 31) (.con (.int .i64 7)), none, false⟩] false (some [1, 32]))
  (.cond (.tmp 32) (.seq (.reg 9 [⟨some 33, .fA 4 (.tmp 1), none, false⟩,
  ⟨some 34, .ld none (.tmp 33), none, false⟩,
  ⟨some 35, .ixL 5 (.tmp 34) (.con (.int .i64 0)), none, false⟩,
  ⟨some 36, .ld (some 5) (.tmp 35), none, false⟩,
  ⟨some 37, .call (.con (.fn 60 [] [])) [(.tmp 36)], none, false⟩,
  ⟨some 4, .mv (.tmp 37), none, false⟩] false (some [1, 4]))
  (.seq (.seq (.reg 10 [⟨some 38, .fA 4 (.tmp 1), none, false⟩,
  ⟨some 39, .ld none (.tmp 38), none, false⟩,
  ⟨some 40, .ixL 5 (.tmp 39) (.con (.int .i64 0)), none, false⟩,
  ⟨some 41, .fA 0 (.tmp 40), none, false⟩,
  ⟨some 42, .ld none (.tmp 41), none, false⟩,
  ⟨some 43, .bin .eql (.tmp 42) (.con (.int .i64 7)), none, false⟩] false (some [1, 4, 43]))
  (.cond (.tmp 43) (.reg 11 [⟨some 44, .mv (.tmp 4), none, false⟩,
  ⟨some 45, .bin .add (.con (.str ⟨#[40]⟩)) (.tmp 44), none, false⟩,
  ⟨some 46, .bin .add (.tmp 45) (.con (.str ⟨#[41]⟩)), none, false⟩,
  ⟨some 4, .mv (.tmp 46), none, false⟩] false (some [1, 4])) .skip))
  (.seq (.reg 12 [⟨some 47, .mv (.tmp 4), none, false⟩,
  ⟨some 48, .bin .add (.tmp 47) (.con (.str ⟨#[32, 45, 62, 32]⟩)), none, false⟩,
  ⟨some 49, .fA 4 (.tmp 1), none, false⟩,
  ⟨some 50, .ld none (.tmp 49), none, false⟩,
  ⟨some 51, .ixL 5 (.tmp 50) (.con (.int .i64 1)), none, false⟩,
  ⟨some 52, .ld (some 5) (.tmp 51), none, false⟩,
  ⟨some 53, .call (.con (.fn 60 [] [])) [(.tmp 52)], none, false⟩,
  ⟨some 54, .bin .add (.tmp 48) (.tmp 53), none, false⟩,
  ⟨some 2, .mv (.tmp 54), none, false⟩] false (some [2]))
  .ret))) .skip))
  (.seq (.reg 13 [⟨some 5, .mv (.con (.str ⟨#[123]⟩)), none, false⟩] false (some [1, 5]))
  (.seq (.seq (.reg 14 [⟨some 6, .mv (.con (.int .i64 0)), none, false⟩] false (some [1, 5, 6]))
  (.block 0 c60_l0))
  (.seq (.reg 20 [⟨some 81, .mv (.tmp 5), none, false⟩,
  ⟨some 82, .bin .add (.tmp 81) (.con (.str ⟨#[125]⟩)), none, false⟩,
  ⟨some 2, .mv (.tmp 82), none, false⟩] false (some [2]))
  .ret)))))))))
def c60 : EFn := ⟨1, 83, [.tmp 2], c60_b⟩
theorem c60_l0_step {E : Env} {fin : Kont (PV × St)} {st : List Fr} {ts : Tmps} {S : St} {n : Nat} : (lvl E (n + 1)).ev c60_l0 ts S (kont E fin st) = (lvl E (n + 1)).ev c60_l0_b (sel (some [1, 5, 6]) ts) S (kont E fin (.again n c60_l0 :: st)) := rfl
theorem c60_l0_w {E : Env} {fin : Kont (PV × St)} {st : List Fw} {ts : Tmps} {S : St} : run E fin st c60_l0 ts S = run E fin (.again c60_l0 :: st) c60_l0_b (sel (some [1, 5, 6]) ts) S := w_loop
theorem c60_l0_a {E : Env} {fin : Kont (PV × St)} {st : List Fw} {ts : Tmps} {S : St} : aft E fin (.again c60_l0 :: st) .normal ts S = run E fin st c60_l0 (sel (some [1, 5, 6]) ts) S := a_again_s
theorem c60_ok : cFn Tryd.prog Tryd.f60 = some c60.strip := by kernel_rfl
-- limbeck/limbeckref01.Var
def c61_b : EC := (.seq (.reg 0 [⟨some 2, .mv (.con (.bool false)), none, false⟩] false (some [0]))
  (.seq (.reg 1 [⟨some 3, .mv (.tmp 0), none, false⟩,
  ⟨some 4, .call (.con (.fn 89 [] [])) [(.tmp 3)], none, false⟩,
  ⟨some 5, .bin .eql (.tmp 4) (.con (.int .i64 2)), none, false⟩,
  ⟨some 2, .mv (.tmp 5), none, false⟩] false (some [2]))
  .ret))
def c61 : EFn := ⟨1, 6, [.tmp 2], c61_b⟩
theorem c61_ok : cFn Tryd.prog Tryd.f61 = some c61.strip := by kernel_rfl
-- limbeck/limbeckref01.Rising
def c62_r4 : List EI := [⟨some 10, .mv (.tmp 0), none, false⟩,
  ⟨some 11, .mv (.tmp 3), none, false⟩,
  ⟨some 12, .ixL 1 (.tmp 10) (.tmp 11), none, false⟩,
  ⟨some 13, .ld none (.tmp 12), none, false⟩,
  ⟨some 14, .call (.con (.fn 90 [] [])) [(.tmp 13)], none, false⟩,
  ⟨some 15, .un .not (.tmp 14), none, false⟩,
  ⟨some 16, .mv (.tmp 15), none, false⟩,
  ⟨some 17, .mv (.tmp 3), some (16, false), false⟩,
  ⟨some 18, .bin .gtr (.tmp 17) (.con (.int .i64 0)), some (16, false), false⟩,
  ⟨some 19, .mv (.tmp 18), some (16, false), false⟩,
  ⟨some 20, .mv (.tmp 0), some (19, true), false⟩,
  ⟨some 21, .mv (.tmp 3), some (19, true), false⟩,
  ⟨some 22, .bin .sub (.tmp 21) (.con (.int .i64 1)), some (19, true), false⟩,
  ⟨some 23, .ixL 1 (.tmp 20) (.tmp 22), some (19, true), false⟩,
  ⟨some 24, .ld none (.tmp 23), some (19, true), true⟩,
  ⟨some 25, .mv (.tmp 0), some (19, true), false⟩,
  ⟨some 26, .mv (.tmp 3), some (19, true), false⟩,
  ⟨some 27, .ixL 1 (.tmp 25) (.tmp 26), some (19, true), false⟩,
  ⟨some 28, .ld none (.tmp 27), some (19, true), true⟩,
  ⟨some 29, .bin .geq (.tmp 24) (.tmp 28), some (19, true), false⟩,
  ⟨some 30, .pick (.tmp 19) (.tmp 29) (.con (.bool false)), some (16, false), false⟩,
  ⟨some 31, .pick (.tmp 16) (.con (.bool true)) (.tmp 30), none, false⟩]
def c62_l0_b : EC := (.seq (.seq (.reg 2 [⟨some 4, .mv (.tmp 3), none, false⟩,
  ⟨some 5, .mv (.tmp 0), none, false⟩,
  ⟨some 6, .len false (.tmp 5), none, false⟩,
  ⟨some 7, .bin .lss (.tmp 4) (.tmp 6), none, false⟩] false (some [0, 3, 7]))
  (.cond (.tmp 7) .skip (.exit 0)))
  (.seq (.block 1 (.seq (.reg 4 c62_r4 true (some [0, 3, 31]))
  (.cond (.tmp 31) (.seq (.reg 5 [⟨some 2, .mv (.con (.bool false)), none, false⟩] false (some [2]))
  .ret) .skip)))
  (.reg 3 [⟨some 8, .mv (.tmp 3), none, false⟩,
  ⟨some 9, .bin .add (.tmp 8) (.con (.int .i64 1)), none, false⟩,
  ⟨some 3, .mv (.tmp 9), none, false⟩] false (some [0, 3]))))
def c62_l0 : EC := .loop (some [0, 3]) c62_l0_b
def c62_b : EC := (.seq (.reg 0 [⟨some 2, .mv (.con (.bool false)), none, false⟩] false (some [0]))
  (.seq (.seq (.reg 1 [⟨some 3, .mv (.con (.int .i64 0)), none, false⟩] false (some [0, 3]))
  (.block 0 c62_l0))
  (.seq (.reg 6 [⟨some 2, .mv (.con (.bool true)), none, false⟩] false (some [2]))
  .ret)))
def c62 : EFn := ⟨1, 32, [.tmp 2], c62_b⟩
theorem c62_l0_step {E : Env} {fin : Kont (PV × St)} {st : List Fr} {ts : Tmps} {S : St} {n : Nat} : (lvl E (n + 1)).ev c62_l0 ts S (kont E fin st) = (lvl E (n + 1)).ev c62_l0_b (sel (some [0, 3]) ts) S (kont E fin (.again n c62_l0 :: st)) := rfl
theorem c62_l0_w {E : Env} {fin : Kont (PV × St)} {st : List Fw} {ts : Tmps} {S : St} : run E fin st c62_l0 ts S = run E fin (.again c62_l0 :: st) c62_l0_b (sel (some [0, 3]) ts) S := w_loop
theorem c62_l0_a {E : Env} {fin : Kont (PV × St)} {st : List Fw} {ts : Tmps} {S : St} : aft E fin (.again c62_l0 :: st) .normal ts S = run E fin st c62_l0 (sel (some [0, 3]) ts) S := a_again_s
theorem c62_ok : cFn Tryd.prog Tryd.f62 = some c62.strip := by kernel_rfl
-- limbeck/limbeckref01.Same
def c63_r4 : List EI := [⟨some 11, .mv (.tmp 5), none, false⟩,
  ⟨some 12, .mv (.tmp 0), none, false⟩,
  ⟨some 13, .len false (.tmp 12), none, false⟩,
  ⟨some 14, .bin .lss (.tmp 11) (.tmp 13), none, false⟩,
  ⟨some 15, .mv (.tmp 14), none, false⟩,
  ⟨some 16, .mv (.tmp 5), some (15, true), false⟩,
  ⟨some 17, .mv (.tmp 1), some (15, true), false⟩,
  ⟨some 18, .len false (.tmp 17), some (15, true), false⟩,
  ⟨some 19, .bin .lss (.tmp 16) (.tmp 18), some (15, true), false⟩,
  ⟨some 20, .pick (.tmp 15) (.tmp 19) (.con (.bool false)), none, false⟩]
def c63_l0_b : EC := (.seq (.seq (.reg 4 c63_r4 false (some [0, 1, 5, 20]))
  (.cond (.tmp 20) .skip (.exit 0)))
  (.seq (.block 1 (.seq (.reg 6 [⟨some 23, .mv (.tmp 0), none, false⟩,
  ⟨some 24, .mv (.tmp 5), none, false⟩,
  ⟨some 25, .ixL 1 (.tmp 23) (.tmp 24), none, false⟩,
  ⟨some 26, .ld none (.tmp 25), none, true⟩,
  ⟨some 27, .mv (.tmp 1), none, false⟩,
  ⟨some 28, .mv (.tmp 5), none, false⟩,
  ⟨some 29, .ixL 1 (.tmp 27) (.tmp 28), none, false⟩,
  ⟨some 30, .ld none (.tmp 29), none, true⟩,
  ⟨some 31, .bin .neq (.tmp 26) (.tmp 30), none, false⟩] true (some [0, 1, 5, 31]))
  (.cond (.tmp 31) (.seq (.reg 7 [⟨some 4, .mv (.con (.bool false)), none, false⟩] false (some [4]))
  .ret) .skip)))
  (.reg 5 [⟨some 21, .mv (.tmp 5), none, false⟩,
  ⟨some 22, .bin .add (.tmp 21) (.con (.int .i64 1)), none, false⟩,
  ⟨some 5, .mv (.tmp 22), none, false⟩] false (some [0, 1, 5]))))
def c63_l0 : EC := .loop (some [0, 1, 5]) c63_l0_b
def c63_b : EC := (.seq (.reg 0 [⟨some 4, .mv (.con (.bool false)), none, false⟩] false (some [0, 1]))
  (.seq (.seq (.reg 1 [⟨some 6, .mv (.tmp 0), none, false⟩,
  ⟨some 7, .len false (.tmp 6), none, false⟩,
  ⟨some 8, .mv (.tmp 1), none, false⟩,
  ⟨some 9, .len false (.tmp 8), none, false⟩,
  ⟨some 10, .bin .neq (.tmp 7) (.tmp 9), none, false⟩] false (some [0, 1, 10]))
  (.cond (.tmp 10) (.seq (.reg 2 [⟨some 4, .mv (.con (.bool false)), none, false⟩] false (some [4]))
  .ret) .skip))
  (.seq (.seq (.reg 3 [⟨some 5, .mv (.con (.int .i64 0)), none, false⟩] false (some [0, 1, 5]))
  (.block 0 c63_l0))
  (.seq (.reg 8 [⟨some 4, .mv (.con (.bool true)), none, false⟩] false (some [4]))
  .ret))))
def c63 : EFn := ⟨2, 32, [.tmp 4], c63_b⟩
theorem c63_l0_step {E : Env} {fin : Kont (PV × St)} {st : List Fr} {ts : Tmps} {S : St} {n : Nat} : (lvl E (n + 1)).ev c63_l0 ts S (kont E fin st) = (lvl E (n + 1)).ev c63_l0_b (sel (some [0, 1, 5]) ts) S (kont E fin (.again n c63_l0 :: st)) := rfl
theorem c63_l0_w {E : Env} {fin : Kont (PV × St)} {st : List Fw} {ts : Tmps} {S : St} : run E fin st c63_l0 ts S = run E fin (.again c63_l0 :: st) c63_l0_b (sel (some [0, 1, 5]) ts) S := w_loop
theorem c63_l0_a {E : Env} {fin : Kont (PV × St)} {st : List Fw} {ts : Tmps} {S : St} : aft E fin (.again c63_l0 :: st) .normal ts S = run E fin st c63_l0 (sel (some [0, 1, 5]) ts) S := a_again_s
theorem c63_ok : cFn Tryd.prog Tryd.f63 = some c63.strip := by kernel_rfl
-- limbeck/tyfmt.joined[limbeck/api.Ty]
def c64_l0_b : EC := (.seq (.reg 3 [⟨some 11, .bin .lss (.tmp 10) (.tmp 9), none, false⟩] false (some [1, 5, 8, 9, 10, 11]))
  (.seq (.cond (.tmp 11) .skip (.exit 0))
  (.seq (.block 1 (.seq (.reg 4 [⟨some 12, .mv (.tmp 10), none, false⟩,
  ⟨some 13, .ixL 5 (.tmp 8) (.tmp 10), none, false⟩,
  ⟨some 14, .ld (some 5) (.tmp 13), none, false⟩,
  ⟨some 7, .new 70 [(.int .i64 0), (.int .i64 0), (.str ⟨#[]⟩), (.sl .null []), (.sl .null [])], none, false⟩,
  ⟨some 6, .mv (.tmp 12), none, false⟩,
  ⟨none, .st 5 (.tmp 7) (.tmp 14), none, false⟩] false (some [1, 5, 6, 7, 8, 9, 10]))
  (.seq (.seq (.reg 5 [⟨some 15, .mv (.tmp 6), none, false⟩,
  ⟨some 16, .bin .gtr (.tmp 15) (.con (.int .i64 0)), none, false⟩] false (some [1, 5, 6, 7, 8, 9, 10, 16]))
  (.cond (.tmp 16) (.reg 6 [⟨some 17, .call (.con (.fn 77 [] [])) [(.tmp 5), (.con (.str ⟨#[44, 32]⟩))], none, false⟩] false (some [1, 5, 6, 7, 8, 9, 10])) .skip))
  (.reg 7 [⟨some 18, .mv (.tmp 1), none, false⟩,
  ⟨some 19, .mv (.tmp 6), none, false⟩,
  ⟨some 20, .ld (some 5) (.tmp 7), none, false⟩,
  ⟨some 21, .call (.tmp 18) [(.tmp 19), (.tmp 20)], none, false⟩,
  ⟨some 22, .call (.con (.fn 77 [] [])) [(.tmp 5), (.tmp 21)], none, false⟩] false (some [1, 5, 8, 9, 10])))))
  (.reg 8 [⟨some 23, .bin .add (.tmp 10) (.con (.int .i64 1)), none, false⟩,
  ⟨some 10, .mv (.tmp 23), none, false⟩] false (some [1, 5, 8, 9, 10])))))
def c64_l0 : EC := .loop (some [1, 5, 8, 9, 10]) c64_l0_b
def c64_b : EC := (.seq (.reg 0 [⟨some 4, .mv (.con (.str ⟨#[]⟩)), none, false⟩] false (some [0, 1]))
  (.seq (.reg 1 [⟨some 5, .new 121 [.nilp, (.sl .null [])], none, false⟩] false (some [0, 1, 5]))
  (.seq (.seq (.reg 2 [⟨some 8, .mv (.tmp 0), none, false⟩,
  ⟨some 9, .len false (.tmp 8), none, false⟩,
  ⟨some 10, .mv (.con (.int .i64 0)), none, false⟩] false (some [1, 5, 8, 9, 10]))
  (.block 0 c64_l0))
  (.seq (.reg 9 [⟨some 24, .call (.con (.fn 78 [] [])) [(.tmp 5)], none, false⟩,
  ⟨some 4, .mv (.tmp 24), none, false⟩] false (some [4]))
  .ret))))
def c64 : EFn := ⟨2, 25, [.tmp 4], c64_b⟩
theorem c64_l0_step {E : Env} {fin : Kont (PV × St)} {st : List Fr} {ts : Tmps} {S : St} {n : Nat} : (lvl E (n + 1)).ev c64_l0 ts S (kont E fin st) = (lvl E (n + 1)).ev c64_l0_b (sel (some [1, 5, 8, 9, 10]) ts) S (kont E fin (.again n c64_l0 :: st)) := rfl
theorem c64_l0_w {E : Env} {fin : Kont (PV × St)} {st : List Fw} {ts : Tmps} {S : St} : run E fin st c64_l0 ts S = run E fin (.again c64_l0 :: st) c64_l0_b (sel (some [1, 5, 8, 9, 10]) ts) S := w_loop
theorem c64_l0_a {E : Env} {fin : Kont (PV × St)} {st : List Fw} {ts : Tmps} {S : St} : aft E fin (.again c64_l0 :: st) .normal ts S = run E fin st c64_l0 (sel (some [1, 5, 8, 9, 10]) ts) S := a_again_s
theorem c64_ok : cFn Tryd.prog Tryd.f64 = some c64.strip := by kernel_rfl
-- limbeck/tyfmt.List$1
def c65_b : EC := (.seq (.reg 0 [⟨some 3, .boxI 70 (.tmp 1), none, false⟩,
  ⟨some 4, .mv (.con (.str ⟨#[]⟩)), none, false⟩] false (some [3]))
  (.seq (.reg 1 [⟨some 5, .ld (some 5) (.tmp 3), none, false⟩,
  ⟨some 6, .call (.con (.fn 36 [] [])) [(.tmp 5)], none, false⟩,
  ⟨some 4, .mv (.tmp 6), none, false⟩] false (some [4]))
  .ret))
def c65 : EFn := ⟨2, 7, [.tmp 4], c65_b⟩
theorem c65_ok : cFn Tryd.prog Tryd.f65 = some c65.strip := by kernel_rfl
-- limbeck/tyfmt.joined[limbeck/api.Bind]
def c66_l0_b : EC := (.seq (.reg 3 [⟨some 11, .bin .lss (.tmp 10) (.tmp 9), none, false⟩] false (some [1, 5, 8, 9, 10, 11]))
  (.seq (.cond (.tmp 11) .skip (.exit 0))
  (.seq (.block 1 (.seq (.reg 4 [⟨some 12, .mv (.tmp 10), none, false⟩,
  ⟨some 13, .ixL 6 (.tmp 8) (.tmp 10), none, false⟩,
  ⟨some 14, .ld (some 6) (.tmp 13), none, false⟩,
  ⟨some 7, .new 77 [(.str ⟨#[]⟩), (.int .i64 0), (.int .i64 0), (.str ⟨#[]⟩), (.sl .null []), (.sl .null [])], none, false⟩,
  ⟨some 6, .mv (.tmp 12), none, false⟩,
  ⟨none, .st 6 (.tmp 7) (.tmp 14), none, false⟩] false (some [1, 5, 6, 7, 8, 9, 10]))
  (.seq (.seq (.reg 5 [⟨some 15, .mv (.tmp 6), none, false⟩,
  ⟨some 16, .bin .gtr (.tmp 15) (.con (.int .i64 0)), none, false⟩] false (some [1, 5, 6, 7, 8, 9, 10, 16]))
  (.cond (.tmp 16) (.reg 6 [⟨some 17, .call (.con (.fn 77 [] [])) [(.tmp 5), (.con (.str ⟨#[44, 32]⟩))], none, false⟩] false (some [1, 5, 6, 7, 8, 9, 10])) .skip))
  (.reg 7 [⟨some 18, .mv (.tmp 1), none, false⟩,
  ⟨some 19, .mv (.tmp 6), none, false⟩,
  ⟨some 20, .ld (some 6) (.tmp 7), none, false⟩,
  ⟨some 21, .call (.tmp 18) [(.tmp 19), (.tmp 20)], none, false⟩,
  ⟨some 22, .call (.con (.fn 77 [] [])) [(.tmp 5), (.tmp 21)], none, false⟩] false (some [1, 5, 8, 9, 10])))))
  (.reg 8 [⟨some 23, .bin .add (.tmp 10) (.con (.int .i64 1)), none, false⟩,
  ⟨some 10, .mv (.tmp 23), none, false⟩] false (some [1, 5, 8, 9, 10])))))
def c66_l0 : EC := .loop (some [1, 5, 8, 9, 10]) c66_l0_b
def c66_b : EC := (.seq (.reg 0 [⟨some 4, .mv (.con (.str ⟨#[]⟩)), none, false⟩] false (some [0, 1]))
  (.seq (.reg 1 [⟨some 5, .new 121 [.nilp, (.sl .null [])], none, false⟩] false (some [0, 1, 5]))
  (.seq (.seq (.reg 2 [⟨some 8, .mv (.tmp 0), none, false⟩,
  ⟨some 9, .len false (.tmp 8), none, false⟩,
  ⟨some 10, .mv (.con (.int .i64 0)), none, false⟩] false (some [1, 5, 8, 9, 10]))
  (.block 0 c66_l0))
  (.seq (.reg 9 [⟨some 24, .call (.con (.fn 78 [] [])) [(.tmp 5)], none, false⟩,
  ⟨some 4, .mv (.tmp 24), none, false⟩] false (some [4]))
  .ret))))
def c66 : EFn := ⟨2, 25, [.tmp 4], c66_b⟩
theorem c66_l0_step {E : Env} {fin : Kont (PV × St)} {st : List Fr} {ts : Tmps} {S : St} {n : Nat} : (lvl E (n + 1)).ev c66_l0 ts S (kont E fin st) = (lvl E (n + 1)).ev c66_l0_b (sel (some [1, 5, 8, 9, 10]) ts) S (kont E fin (.again n c66_l0 :: st)) := rfl
theorem c66_l0_w {E : Env} {fin : Kont (PV × St)} {st : List Fw} {ts : Tmps} {S : St} : run E fin st c66_l0 ts S = run E fin (.again c66_l0 :: st) c66_l0_b (sel (some [1, 5, 8, 9, 10]) ts) S := w_loop
theorem c66_l0_a {E : Env} {fin : Kont (PV × St)} {st : List Fw} {ts : Tmps} {S : St} : aft E fin (.again c66_l0 :: st) .normal ts S = run E fin st c66_l0 (sel (some [1, 5, 8, 9, 10]) ts) S := a_again_s
theorem c66_ok : cFn Tryd.prog Tryd.f66 = some c66.strip := by kernel_rfl
-- limbeck/tyfmt.Binds$1
def c67_b : EC := (.seq (.reg 0 [⟨some 4, .boxI 77 (.tmp 1), none, false⟩,
  ⟨some 5, .mv (.con (.str ⟨#[]⟩)), none, false⟩] false (some [2, 4]))
  (.seq (.reg 1 [⟨some 6, .fA 0 (.tmp 4), none, false⟩,
  ⟨some 7, .ld none (.tmp 6), none, true⟩,
  ⟨some 8, .ld none (.tmp 2), none, true⟩,
  ⟨some 9, .bin .add (.tmp 7) (.tmp 8), none, false⟩,
  ⟨some 10, .fA 1 (.tmp 4), none, false⟩,
  ⟨some 11, .ld (some 5) (.tmp 10), none, true⟩,
  ⟨some 12, .call (.con (.fn 36 [] [])) [(.tmp 11)], none, true⟩,
  ⟨some 13, .bin .add (.tmp 9) (.tmp 12), none, false⟩,
  ⟨some 5, .mv (.tmp 13), none, false⟩] true (some [5]))
  .ret))
def c67 : EFn := ⟨3, 14, [.tmp 5], c67_b⟩
theorem c67_ok : cFn Tryd.prog Tryd.f67 = some c67.strip := by kernel_rfl
-- (*strings.Builder).WriteString
def c77_b : EC := (.seq (.reg 0 [⟨some 4, .mv (.con (.int .i64 0)), none, false⟩,
  ⟨some 5, .mv (.con .nilifc), none, false⟩] false (some [0, 1]))
  (.seq (.reg 1 [⟨some 6, .mv (.tmp 0), none, false⟩,
  ⟨some 7, .call (.con (.fn 94 [] [])) [(.tmp 6)], none, false⟩] false (some [0, 1]))
  (.seq (.reg 2 [⟨some 8, .mv (.tmp 0), none, false⟩,
  ⟨some 9, .mv (.tmp 0), none, false⟩,
  ⟨some 10, .nck (.tmp 9), none, false⟩,
  ⟨some 11, .fA 1 (.tmp 10), none, false⟩,
  ⟨some 12, .ld none (.tmp 11), none, false⟩,
  ⟨some 13, .mv (.tmp 1), none, false⟩,
  ⟨some 14, .apS 5 (.tmp 12) (.tmp 13), none, false⟩,
  ⟨some 15, .nck (.tmp 8), none, false⟩,
  ⟨some 16, .fA 1 (.tmp 15), none, false⟩,
  ⟨none, .st 1 (.tmp 16) (.tmp 14), none, false⟩] false (some [1]))
  (.seq (.reg 3 [⟨some 17, .mv (.tmp 1), none, false⟩,
  ⟨some 18, .len true (.tmp 17), none, false⟩,
  ⟨some 4, .mv (.tmp 18), none, false⟩,
  ⟨some 5, .mv (.con .nilifc), none, false⟩] false (some [4, 5]))
  .ret))))
def c77 : EFn := ⟨2, 19, [.tmp 4, .tmp 5], c77_b⟩
theorem c77_ok : cFn Tryd.prog Tryd.f77 = some c77.strip := by kernel_rfl
-- (*strings.Builder).String
def c78_b : EC := (.seq (.reg 0 [⟨some 2, .mv (.con (.str ⟨#[]⟩)), none, false⟩] false (some [0]))
  (.seq (.reg 1 [⟨some 3, .mv (.tmp 0), none, false⟩,
  ⟨some 4, .nck (.tmp 3), none, false⟩,
  ⟨some 5, .fA 1 (.tmp 4), none, false⟩,
  ⟨some 6, .ld none (.tmp 5), none, true⟩,
  ⟨some 7, .usd (.tmp 6), none, false⟩,
  ⟨some 8, .mv (.tmp 0), none, false⟩,
  ⟨some 9, .nck (.tmp 8), none, false⟩,
  ⟨some 10, .fA 1 (.tmp 9), none, false⟩,
  ⟨some 11, .ld none (.tmp 10), none, true⟩,
  ⟨some 12, .len false (.tmp 11), none, false⟩,
  ⟨some 13, .ust 5 (.tmp 7) (.tmp 12), none, false⟩,
  ⟨some 2, .mv (.tmp 13), none, false⟩] true (some [2]))
  .ret))
def c78 : EFn := ⟨1, 14, [.tmp 2], c78_b⟩
theorem c78_ok : cFn Tryd.prog Tryd.f78 = some c78.strip := by kernel_rfl
-- limbeck/ty.bare
def c81_r1 : List EI := [⟨some 3, .fA 0 (.tmp 1), none, false⟩,
  ⟨some 4, .ld none (.tmp 3), none, false⟩,
  ⟨some 5, .bin .eql (.tmp 4) (.con (.int .i64 6)), none, false⟩,
  ⟨some 6, .mv (.tmp 5), none, false⟩,
  ⟨some 7, .fA 2 (.tmp 1), some (6, false), false⟩,
  ⟨some 8, .ld none (.tmp 7), some (6, false), false⟩,
  ⟨some 9, .bin .eql (.tmp 8) (.con (.str ⟨#[]⟩)), some (6, false), false⟩,
  ⟨some 10, .pick (.tmp 6) (.con (.bool true)) (.tmp 9), none, false⟩,
  ⟨some 11, .mv (.tmp 10), none, false⟩,
  ⟨some 12, .fA 0 (.tmp 1), some (11, true), false⟩,
  ⟨some 13, .ld none (.tmp 12), some (11, true), false⟩,
  ⟨some 14, .bin .eql (.tmp 13) (.con (.int .i64 9)), some (11, true), false⟩,
  ⟨some 15, .mv (.tmp 14), some (11, true), false⟩,
  ⟨some 16, .fA 1 (.tmp 1), some (15, false), false⟩,
  ⟨some 17, .ld none (.tmp 16), some (15, false), false⟩,
  ⟨some 18, .bin .eql (.tmp 17) (.con (.int .i64 0)), some (15, false), false⟩,
  ⟨some 19, .pick (.tmp 15) (.con (.bool true)) (.tmp 18), some (11, true), false⟩,
  ⟨some 20, .pick (.tmp 11) (.tmp 19) (.con (.bool false)), none, false⟩,
  ⟨some 21, .mv (.tmp 20), none, false⟩,
  ⟨some 22, .fA 0 (.tmp 1), some (21, true), false⟩,
  ⟨some 23, .ld none (.tmp 22), some (21, true), false⟩,
  ⟨some 24, .bin .eql (.tmp 23) (.con (.int .i64 8)), some (21, true), false⟩,
  ⟨some 25, .mv (.tmp 24), some (21, true), false⟩,
  ⟨some 26, .fA 3 (.tmp 1), some (25, false), false⟩,
  ⟨some 27, .ld none (.tmp 26), some (25, false), false⟩,
  ⟨some 28, .len false (.tmp 27), some (25, false), false⟩,
  ⟨some 29, .bin .eql (.tmp 28) (.con (.int .i64 0)), some (25, false), false⟩,
  ⟨some 30, .pick (.tmp 25) (.con (.bool true)) (.tmp 29), some (21, true), false⟩,
  ⟨some 31, .pick (.tmp 21) (.tmp 30) (.con (.bool false)), none, false⟩,
  ⟨some 2, .mv (.tmp 31), none, false⟩]
def c81_b : EC := (.seq (.reg 0 [⟨some 1, .boxI 70 (.tmp 0), none, false⟩,
  ⟨some 2, .mv (.con (.bool false)), none, false⟩] false (some [1]))
  (.seq (.reg 1 c81_r1 false (some [2]))
  .ret))
def c81 : EFn := ⟨1, 32, [.tmp 2], c81_b⟩
theorem c81_ok : cFn Tryd.prog Tryd.f81 = some c81.strip := by kernel_rfl
-- slices.ContainsFunc[[]limbeck/api.Ty,limbeck/api.Ty]
def c82_b : EC := (.seq (.reg 0 [⟨some 4, .mv (.con (.bool false)), none, false⟩] false (some [0, 1]))
  (.seq (.reg 1 [⟨some 5, .mv (.tmp 0), none, false⟩,
  ⟨some 6, .mv (.tmp 1), none, false⟩,
  ⟨some 7, .call (.con (.fn 95 [] [])) [(.tmp 5), (.tmp 6)], none, false⟩,
  ⟨some 8, .bin .geq (.tmp 7) (.con (.int .i64 0)), none, false⟩,
  ⟨some 4, .mv (.tmp 8), none, false⟩] false (some [4]))
  .ret))
def c82 : EFn := ⟨2, 9, [.tmp 4], c82_b⟩
theorem c82_ok : cFn Tryd.prog Tryd.f82 = some c82.strip := by kernel_rfl
-- limbeck/ty.Right$1
def c83_b : EC := (.seq (.reg 0 [⟨some 1, .boxI 70 (.tmp 0), none, false⟩,
  ⟨some 2, .mv (.con (.bool false)), none, false⟩] false (some [1]))
  (.seq (.reg 1 [⟨some 3, .ld (some 5) (.tmp 1), none, false⟩,
  ⟨some 4, .call (.con (.fn 58 [] [])) [(.tmp 3)], none, false⟩,
  ⟨some 5, .un .not (.tmp 4), none, false⟩,
  ⟨some 2, .mv (.tmp 5), none, false⟩] false (some [2]))
  .ret))
def c83 : EFn := ⟨1, 6, [.tmp 2], c83_b⟩
theorem c83_ok : cFn Tryd.prog Tryd.f83 = some c83.strip := by kernel_rfl
-- limbeck/name.Var
def c84_b : EC := (.seq (.reg 0 [⟨some 2, .mv (.con (.bool false)), none, false⟩] false (some [0]))
  (.seq (.reg 1 [⟨some 3, .mv (.tmp 0), none, false⟩,
  ⟨some 4, .call (.con (.fn 96 [] [])) [(.tmp 3)], none, false⟩,
  ⟨some 5, .bin .eql (.tmp 4) (.con (.int .i64 2)), none, false⟩,
  ⟨some 2, .mv (.tmp 5), none, false⟩] false (some [2]))
  .ret))
def c84 : EFn := ⟨1, 6, [.tmp 2], c84_b⟩
theorem c84_ok : cFn Tryd.prog Tryd.f84 = some c84.strip := by kernel_rfl
-- limbeck/name.Rising
def c85_r4 : List EI := [⟨some 12, .mv (.tmp 4), none, false⟩,
  ⟨some 13, .call (.con (.fn 97 [] [])) [(.tmp 12)], none, false⟩,
  ⟨some 14, .un .not (.tmp 13), none, false⟩,
  ⟨some 15, .mv (.tmp 14), none, false⟩,
  ⟨some 16, .mv (.tmp 3), some (15, false), false⟩,
  ⟨some 17, .bin .gtr (.tmp 16) (.con (.int .i64 0)), some (15, false), false⟩,
  ⟨some 18, .mv (.tmp 17), some (15, false), false⟩,
  ⟨some 19, .mv (.tmp 0), some (18, true), false⟩,
  ⟨some 20, .mv (.tmp 3), some (18, true), false⟩,
  ⟨some 21, .bin .sub (.tmp 20) (.con (.int .i64 1)), some (18, true), false⟩,
  ⟨some 22, .ixL 1 (.tmp 19) (.tmp 21), some (18, true), false⟩,
  ⟨some 23, .ld none (.tmp 22), some (18, true), false⟩,
  ⟨some 24, .mv (.tmp 4), some (18, true), false⟩,
  ⟨some 25, .bin .geq (.tmp 23) (.tmp 24), some (18, true), false⟩,
  ⟨some 26, .pick (.tmp 18) (.tmp 25) (.con (.bool false)), some (15, false), false⟩,
  ⟨some 27, .pick (.tmp 15) (.con (.bool true)) (.tmp 26), none, false⟩]
def c85_l0_b : EC := (.seq (.reg 2 [⟨some 8, .bin .lss (.tmp 7) (.tmp 6), none, false⟩] false (some [0, 5, 6, 7, 8]))
  (.seq (.cond (.tmp 8) .skip (.exit 0))
  (.seq (.block 1 (.seq (.reg 3 [⟨some 9, .mv (.tmp 7), none, false⟩,
  ⟨some 10, .ixL 1 (.tmp 5) (.tmp 7), none, false⟩,
  ⟨some 11, .ld none (.tmp 10), none, false⟩,
  ⟨some 3, .mv (.tmp 9), none, false⟩,
  ⟨some 4, .mv (.tmp 11), none, false⟩] false (some [0, 3, 4, 5, 6, 7]))
  (.seq (.reg 4 c85_r4 false (some [0, 5, 6, 7, 27]))
  (.cond (.tmp 27) (.seq (.reg 5 [⟨some 2, .mv (.con (.bool false)), none, false⟩] false (some [2]))
  .ret) .skip))))
  (.reg 6 [⟨some 28, .bin .add (.tmp 7) (.con (.int .i64 1)), none, false⟩,
  ⟨some 7, .mv (.tmp 28), none, false⟩] false (some [0, 5, 6, 7])))))
def c85_l0 : EC := .loop (some [0, 5, 6, 7]) c85_l0_b
def c85_b : EC := (.seq (.reg 0 [⟨some 2, .mv (.con (.bool false)), none, false⟩] false (some [0]))
  (.seq (.seq (.reg 1 [⟨some 5, .mv (.tmp 0), none, false⟩,
  ⟨some 6, .len false (.tmp 5), none, false⟩,
  ⟨some 7, .mv (.con (.int .i64 0)), none, false⟩] false (some [0, 5, 6, 7]))
  (.block 0 c85_l0))
  (.seq (.reg 7 [⟨some 2, .mv (.con (.bool true)), none, false⟩] false (some [2]))
  .ret)))
def c85 : EFn := ⟨1, 29, [.tmp 2], c85_b⟩
theorem c85_l0_step {E : Env} {fin : Kont (PV × St)} {st : List Fr} {ts : Tmps} {S : St} {n : Nat} : (lvl E (n + 1)).ev c85_l0 ts S (kont E fin st) = (lvl E (n + 1)).ev c85_l0_b (sel (some [0, 5, 6, 7]) ts) S (kont E fin (.again n c85_l0 :: st)) := rfl
theorem c85_l0_w {E : Env} {fin : Kont (PV × St)} {st : List Fw} {ts : Tmps} {S : St} : run E fin st c85_l0 ts S = run E fin (.again c85_l0 :: st) c85_l0_b (sel (some [0, 5, 6, 7]) ts) S := w_loop
theorem c85_l0_a {E : Env} {fin : Kont (PV × St)} {st : List Fw} {ts : Tmps} {S : St} : aft E fin (.again c85_l0 :: st) .normal ts S = run E fin st c85_l0 (sel (some [0, 5, 6, 7]) ts) S := a_again_s
theorem c85_ok : cFn Tryd.prog Tryd.f85 = some c85.strip := by kernel_rfl
-- limbeck/tyfmt.taken
def c86_b : EC := (.seq (.reg 0 [⟨some 1, .boxI 70 (.tmp 0), none, false⟩,
  ⟨some 2, .mv (.con (.str ⟨#[]⟩)), none, false⟩] false (some [1]))
  (.seq (.seq (.reg 1 [⟨some 3, .fA 0 (.tmp 1), none, false⟩,
  ⟨some 4, .ld none (.tmp 3), none, false⟩,
  ⟨some 5, .bin .eql (.tmp 4) (.con (.int .i64 7)), none, false⟩] false (some [1, 5]))
  (.cond (.tmp 5) (.seq (.reg 2 [⟨some 6, .ld (some 5) (.tmp 1), none, false⟩,
  ⟨some 7, .call (.con (.fn 59 [] [])) [(.tmp 6)], none, false⟩,
  ⟨some 8, .bin .add (.con (.str ⟨#[40]⟩)) (.tmp 7), none, false⟩,
  ⟨some 9, .bin .add (.tmp 8) (.con (.str ⟨#[41]⟩)), none, false⟩,
  ⟨some 2, .mv (.tmp 9), none, false⟩] false (some [2]))
  .ret) .skip))
  (.seq (.reg 3 [⟨some 10, .ld (some 5) (.tmp 1), none, false⟩,
  ⟨some 11, .call (.con (.fn 59 [] [])) [(.tmp 10)], none, false⟩,
  ⟨some 2, .mv (.tmp 11), none, false⟩] false (some [2]))
  .ret)))
def c86 : EFn := ⟨1, 12, [.tmp 2], c86_b⟩
theorem c86_ok : cFn Tryd.prog Tryd.f86 = some c86.strip := by kernel_rfl
-- limbeck/tyfmt.shown$1
def c87_b : EC := (.seq (.reg 0 [⟨some 4, .boxI 70 (.tmp 1), none, false⟩,
  ⟨some 5, .mv (.con (.str ⟨#[]⟩)), none, false⟩] false (some [0, 2, 4]))
  (.seq (.reg 1 [⟨some 6, .fA 3 (.tmp 2), none, false⟩,
  ⟨some 7, .ld none (.tmp 6), none, true⟩,
  ⟨some 8, .mv (.tmp 0), none, false⟩,
  ⟨some 9, .ixL 1 (.tmp 7) (.tmp 8), none, false⟩,
  ⟨some 10, .ld none (.tmp 9), none, true⟩,
  ⟨some 11, .bin .add (.tmp 10) (.con (.str ⟨#[58, 32]⟩)), none, false⟩,
  ⟨some 12, .ld (some 5) (.tmp 4), none, true⟩,
  ⟨some 13, .call (.con (.fn 59 [] [])) [(.tmp 12)], none, true⟩,
  ⟨some 14, .bin .add (.tmp 11) (.tmp 13), none, false⟩,
  ⟨some 5, .mv (.tmp 14), none, false⟩] true (some [5]))
  .ret))
def c87 : EFn := ⟨3, 15, [.tmp 5], c87_b⟩
theorem c87_ok : cFn Tryd.prog Tryd.f87 = some c87.strip := by kernel_rfl
-- limbeck/limbeckref05.digits
def c88_b : EC := (.seq (.reg 0 [⟨some 2, .mv (.con (.str ⟨#[]⟩)), none, false⟩] false (some [0]))
  (.seq (.seq (.reg 1 [⟨some 3, .mv (.tmp 0), none, false⟩,
  ⟨some 4, .bin .lss (.tmp 3) (.con (.int .i64 10)), none, false⟩] false (some [0, 4]))
  (.cond (.tmp 4) (.seq (.reg 2 [⟨some 5, .mv (.tmp 0), none, false⟩,
  ⟨some 6, .bin .add (.con (.int .i64 48)) (.tmp 5), none, false⟩,
  ⟨some 7, .cvI .u8 (.tmp 6), none, false⟩,
  ⟨some 8, .rows 1 1 [(.int .u8 0)] [(0, (.tmp 7))], none, false⟩,
  ⟨some 9, .b2s (.tmp 8), none, false⟩,
  ⟨some 2, .mv (.tmp 9), none, false⟩] false (some [2]))
  .ret) .skip))
  (.seq (.reg 3 [⟨some 10, .mv (.tmp 0), none, false⟩,
  ⟨some 11, .bin .quo (.tmp 10) (.con (.int .i64 10)), none, false⟩,
  ⟨some 12, .call (.con (.fn 88 [] [])) [(.tmp 11)], none, true⟩,
  ⟨some 13, .mv (.tmp 0), none, false⟩,
  ⟨some 14, .bin .rem (.tmp 13) (.con (.int .i64 10)), none, false⟩,
  ⟨some 15, .bin .add (.con (.int .i64 48)) (.tmp 14), none, false⟩,
  ⟨some 16, .cvI .u8 (.tmp 15), none, false⟩,
  ⟨some 17, .rows 1 1 [(.int .u8 0)] [(0, (.tmp 16))], none, false⟩,
  ⟨some 18, .b2s (.tmp 17), none, true⟩,
  ⟨some 19, .bin .add (.tmp 12) (.tmp 18), none, false⟩,
  ⟨some 2, .mv (.tmp 19), none, false⟩] true (some [2]))
  .ret)))
def c88 : EFn := ⟨1, 20, [.tmp 2], c88_b⟩
theorem c88_ok : cFn Tryd.prog Tryd.f88 = some c88.strip := by kernel_rfl
-- limbeck/limbeckref01.Kind
def c89_r4 : List EI := [⟨some 11, .mv (.tmp 0), none, false⟩,
  ⟨some 12, .len true (.tmp 11), none, false⟩,
  ⟨some 13, .bin .lss (.tmp 12) (.con (.int .i64 1)), none, false⟩,
  ⟨some 14, .mv (.tmp 13), none, false⟩,
  ⟨some 15, .mv (.tmp 0), some (14, false), false⟩,
  ⟨some 16, .len true (.tmp 15), some (14, false), false⟩,
  ⟨some 17, .bin .gtr (.tmp 16) (.con (.int .i64 8)), some (14, false), false⟩,
  ⟨some 18, .pick (.tmp 14) (.con (.bool true)) (.tmp 17), none, false⟩]
def c89_r14 : List EI := [⟨some 31, .mv (.tmp 0), none, false⟩,
  ⟨some 32, .mv (.tmp 5), none, false⟩,
  ⟨some 33, .ixS (.tmp 31) (.tmp 32), none, false⟩,
  ⟨some 34, .call (.con (.fn 101 [] [])) [(.tmp 33)], none, false⟩,
  ⟨some 35, .un .not (.tmp 34), none, false⟩,
  ⟨some 36, .mv (.tmp 35), none, false⟩,
  ⟨some 37, .mv (.tmp 0), some (36, true), false⟩,
  ⟨some 38, .mv (.tmp 5), some (36, true), false⟩,
  ⟨some 39, .ixS (.tmp 37) (.tmp 38), some (36, true), false⟩,
  ⟨some 40, .call (.con (.fn 99 [] [])) [(.tmp 39)], some (36, true), false⟩,
  ⟨some 41, .un .not (.tmp 40), some (36, true), false⟩,
  ⟨some 42, .pick (.tmp 36) (.tmp 41) (.con (.bool false)), none, false⟩,
  ⟨some 43, .mv (.tmp 42), none, false⟩,
  ⟨some 44, .mv (.tmp 0), some (43, true), false⟩,
  ⟨some 45, .mv (.tmp 5), some (43, true), false⟩,
  ⟨some 46, .ixS (.tmp 44) (.tmp 45), some (43, true), false⟩,
  ⟨some 47, .call (.con (.fn 100 [] [])) [(.tmp 46)], some (43, true), false⟩,
  ⟨some 48, .un .not (.tmp 47), some (43, true), false⟩,
  ⟨some 49, .mv (.tmp 48), some (43, true), false⟩,
  ⟨some 50, .mv (.tmp 4), some (49, false), false⟩,
  ⟨some 51, .bin .eql (.tmp 50) (.con (.int .i64 1)), some (49, false), false⟩,
  ⟨some 52, .pick (.tmp 49) (.con (.bool true)) (.tmp 51), some (43, true), false⟩,
  ⟨some 53, .pick (.tmp 43) (.tmp 52) (.con (.bool false)), none, false⟩]
def c89_l0_b : EC := (.seq (.seq (.reg 12 [⟨some 25, .mv (.tmp 5), none, false⟩,
  ⟨some 26, .mv (.tmp 0), none, false⟩,
  ⟨some 27, .len true (.tmp 26), none, false⟩,
  ⟨some 28, .bin .lss (.tmp 25) (.tmp 27), none, false⟩] false (some [0, 4, 5, 28]))
  (.cond (.tmp 28) .skip (.exit 0)))
  (.seq (.block 1 (.seq (.reg 14 c89_r14 false (some [0, 4, 5, 53]))
  (.cond (.tmp 53) (.seq (.reg 15 [⟨some 2, .mv (.con (.int .i64 0)), none, false⟩] false (some [2]))
  .ret) .skip)))
  (.reg 13 [⟨some 29, .mv (.tmp 5), none, false⟩,
  ⟨some 30, .bin .add (.tmp 29) (.con (.int .i64 1)), none, false⟩,
  ⟨some 5, .mv (.tmp 30), none, false⟩] false (some [0, 4, 5]))))
def c89_l0 : EC := .loop (some [0, 4, 5]) c89_l0_b
def c89_b : EC := (.seq (.reg 0 [⟨some 2, .mv (.con (.int .i64 0)), none, false⟩] false (some [0]))
  (.seq (.seq (.reg 1 [⟨some 6, .mv (.tmp 0), none, false⟩,
  ⟨some 7, .call (.con (.fn 98 [] [])) [(.tmp 6)], none, false⟩,
  ⟨some 3, .mv (.tmp 7), none, false⟩] false (some [0, 3]))
  (.seq (.reg 2 [⟨some 8, .mv (.tmp 3), none, false⟩,
  ⟨some 9, .bin .neq (.tmp 8) (.con (.int .i64 0)), none, false⟩] false (some [0, 3, 9]))
  (.cond (.tmp 9) (.seq (.reg 3 [⟨some 10, .mv (.tmp 3), none, false⟩,
  ⟨some 2, .mv (.tmp 10), none, false⟩] false (some [2]))
  .ret) .skip)))
  (.seq (.seq (.reg 4 c89_r4 false (some [0, 18]))
  (.cond (.tmp 18) (.seq (.reg 5 [⟨some 2, .mv (.con (.int .i64 0)), none, false⟩] false (some [2]))
  .ret) .skip))
  (.seq (.reg 6 [⟨some 4, .mv (.con (.int .i64 0)), none, false⟩] false (some [0, 4]))
  (.seq (.seq (.reg 7 [⟨some 19, .mv (.tmp 0), none, false⟩,
  ⟨some 20, .ixS (.tmp 19) (.con (.int .i64 0)), none, false⟩,
  ⟨some 21, .call (.con (.fn 99 [] [])) [(.tmp 20)], none, false⟩] false (some [0, 4, 21]))
  (.cond (.tmp 21) (.reg 8 [⟨some 4, .mv (.con (.int .i64 1)), none, false⟩] false (some [0, 4])) .skip))
  (.seq (.seq (.reg 9 [⟨some 22, .mv (.tmp 0), none, false⟩,
  ⟨some 23, .ixS (.tmp 22) (.con (.int .i64 0)), none, false⟩,
  ⟨some 24, .call (.con (.fn 100 [] [])) [(.tmp 23)], none, false⟩] false (some [0, 4, 24]))
  (.cond (.tmp 24) (.reg 10 [⟨some 4, .mv (.con (.int .i64 2)), none, false⟩] false (some [0, 4])) .skip))
  (.seq (.seq (.reg 11 [⟨some 5, .mv (.con (.int .i64 1)), none, false⟩] false (some [0, 4, 5]))
  (.block 0 c89_l0))
  (.seq (.reg 16 [⟨some 54, .mv (.tmp 4), none, false⟩,
  ⟨some 2, .mv (.tmp 54), none, false⟩] false (some [2]))
  .ret))))))))
def c89 : EFn := ⟨1, 55, [.tmp 2], c89_b⟩
theorem c89_l0_step {E : Env} {fin : Kont (PV × St)} {st : List Fr} {ts : Tmps} {S : St} {n : Nat} : (lvl E (n + 1)).ev c89_l0 ts S (kont E fin st) = (lvl E (n + 1)).ev c89_l0_b (sel (some [0, 4, 5]) ts) S (kont E fin (.again n c89_l0 :: st)) := rfl
theorem c89_l0_w {E : Env} {fin : Kont (PV × St)} {st : List Fw} {ts : Tmps} {S : St} : run E fin st c89_l0 ts S = run E fin (.again c89_l0 :: st) c89_l0_b (sel (some [0, 4, 5]) ts) S := w_loop
theorem c89_l0_a {E : Env} {fin : Kont (PV × St)} {st : List Fw} {ts : Tmps} {S : St} : aft E fin (.again c89_l0 :: st) .normal ts S = run E fin st c89_l0 (sel (some [0, 4, 5]) ts) S := a_again_s
theorem c89_ok : cFn Tryd.prog Tryd.f89 = some c89.strip := by kernel_rfl
-- limbeck/limbeckref01.Fine
def c90_b : EC := (.seq (.reg 0 [⟨some 2, .mv (.con (.bool false)), none, false⟩] false (some [0]))
  (.seq (.reg 1 [⟨some 3, .mv (.tmp 0), none, false⟩,
  ⟨some 4, .call (.con (.fn 89 [] [])) [(.tmp 3)], none, false⟩,
  ⟨some 5, .bin .eql (.tmp 4) (.con (.int .i64 1)), none, false⟩,
  ⟨some 2, .mv (.tmp 5), none, false⟩] false (some [2]))
  .ret))
def c90 : EFn := ⟨1, 6, [.tmp 2], c90_b⟩
theorem c90_ok : cFn Tryd.prog Tryd.f90 = some c90.strip := by kernel_rfl
-- slices.IndexFunc[[]limbeck/api.Ty,limbeck/api.Ty]
def c95_l0_b : EC := (.seq (.reg 2 [⟨some 9, .bin .lss (.tmp 8) (.tmp 7), none, false⟩] false (some [0, 1, 7, 8, 9]))
  (.seq (.cond (.tmp 9) .skip (.exit 0))
  (.seq (.block 1 (.seq (.reg 3 [⟨some 10, .mv (.tmp 8), none, false⟩,
  ⟨some 5, .mv (.tmp 10), none, false⟩] false (some [0, 1, 5, 7, 8]))
  (.seq (.reg 4 [⟨some 11, .mv (.tmp 1), none, false⟩,
  ⟨some 12, .mv (.tmp 0), none, false⟩,
  ⟨some 13, .mv (.tmp 5), none, false⟩,
  ⟨some 14, .ixL 5 (.tmp 12) (.tmp 13), none, false⟩,
  ⟨some 15, .ld (some 5) (.tmp 14), none, false⟩,
  ⟨some 16, .call (.tmp 11) [(.tmp 15)], none, false⟩] false (some [0, 1, 5, 7, 8, 16]))
  (.cond (.tmp 16) (.seq (.reg 5 [⟨some 17, .mv (.tmp 5), none, false⟩,
  ⟨some 4, .mv (.tmp 17), none, false⟩] false (some [4]))
  .ret) .skip))))
  (.reg 6 [⟨some 18, .bin .add (.tmp 8) (.con (.int .i64 1)), none, false⟩,
  ⟨some 8, .mv (.tmp 18), none, false⟩] false (some [0, 1, 7, 8])))))
def c95_l0 : EC := .loop (some [0, 1, 7, 8]) c95_l0_b
def c95_b : EC := (.seq (.reg 0 [⟨some 4, .mv (.con (.int .i64 0)), none, false⟩] false (some [0, 1]))
  (.seq (.seq (.reg 1 [⟨some 6, .mv (.tmp 0), none, false⟩,
  ⟨some 7, .len false (.tmp 6), none, false⟩,
  ⟨some 8, .mv (.con (.int .i64 0)), none, false⟩] false (some [0, 1, 7, 8]))
  (.block 0 c95_l0))
  (.seq (.reg 7 [⟨some 4, .mv (.con (.int .i64 (-1))), none, false⟩] false (some [4]))
  .ret)))
def c95 : EFn := ⟨2, 19, [.tmp 4], c95_b⟩
theorem c95_l0_step {E : Env} {fin : Kont (PV × St)} {st : List Fr} {ts : Tmps} {S : St} {n : Nat} : (lvl E (n + 1)).ev c95_l0 ts S (kont E fin st) = (lvl E (n + 1)).ev c95_l0_b (sel (some [0, 1, 7, 8]) ts) S (kont E fin (.again n c95_l0 :: st)) := rfl
theorem c95_l0_w {E : Env} {fin : Kont (PV × St)} {st : List Fw} {ts : Tmps} {S : St} : run E fin st c95_l0 ts S = run E fin (.again c95_l0 :: st) c95_l0_b (sel (some [0, 1, 7, 8]) ts) S := w_loop
theorem c95_l0_a {E : Env} {fin : Kont (PV × St)} {st : List Fw} {ts : Tmps} {S : St} : aft E fin (.again c95_l0 :: st) .normal ts S = run E fin st c95_l0 (sel (some [0, 1, 7, 8]) ts) S := a_again_s
theorem c95_ok : cFn Tryd.prog Tryd.f95 = some c95.strip := by kernel_rfl
-- limbeck/name.Kind
def c96_b : EC := (.seq (.reg 0 [⟨some 2, .mv (.con (.int .i64 0)), none, false⟩] false (some [0]))
  (.seq (.reg 1 [⟨some 4, .mv (.tmp 0), none, false⟩,
  ⟨some 5, .call (.con (.fn 107 [] [])) [(.tmp 4)], none, false⟩,
  ⟨some 3, .mv (.tmp 5), none, false⟩] false (some [0, 3]))
  (.seq (.seq (.reg 2 [⟨some 6, .mv (.tmp 0), none, false⟩] false (some [3, 6]))
  (.block 0 (.seq (.block 3 (.seq (.block 2 (.block 1 (.seq (.seq (.seq (.seq (.reg 3 [⟨some 8, .bin .eql (.tmp 6) (.con (.str ⟨#[108, 101, 116]⟩)), none, false⟩,
  ⟨some 7, .mv (.tmp 8), none, false⟩] false (some [3, 6, 7]))
  (.cond (.tmp 7) .skip (.seq (.reg 4 [⟨some 9, .bin .eql (.tmp 6) (.con (.str ⟨#[105, 110]⟩)), none, false⟩,
  ⟨some 7, .mv (.tmp 9), none, false⟩] false (some [3, 6, 7]))
  (.cond (.tmp 7) .skip (.seq (.reg 5 [⟨some 10, .bin .eql (.tmp 6) (.con (.str ⟨#[105, 102]⟩)), none, false⟩,
  ⟨some 7, .mv (.tmp 10), none, false⟩] false (some [3, 6, 7]))
  (.cond (.tmp 7) .skip (.seq (.reg 6 [⟨some 11, .bin .eql (.tmp 6) (.con (.str ⟨#[116, 104, 101, 110]⟩)), none, false⟩,
  ⟨some 7, .mv (.tmp 11), none, false⟩] false (some [3, 6, 7]))
  (.cond (.tmp 7) .skip (.reg 7 [⟨some 12, .bin .eql (.tmp 6) (.con (.str ⟨#[101, 108, 115, 101]⟩)), none, false⟩,
  ⟨some 7, .mv (.tmp 12), none, false⟩] false (some [3, 6, 7]))))))))))
  (.cond (.tmp 7) (.exit 1) .skip))
  (.seq (.seq (.seq (.reg 8 [⟨some 14, .bin .eql (.tmp 6) (.con (.str ⟨#[102, 110]⟩)), none, false⟩,
  ⟨some 13, .mv (.tmp 14), none, false⟩] false (some [3, 6, 13]))
  (.cond (.tmp 13) .skip (.seq (.reg 9 [⟨some 15, .bin .eql (.tmp 6) (.con (.str ⟨#[99, 97, 108, 108]⟩)), none, false⟩,
  ⟨some 13, .mv (.tmp 15), none, false⟩] false (some [3, 6, 13]))
  (.cond (.tmp 13) .skip (.seq (.reg 10 [⟨some 16, .bin .eql (.tmp 6) (.con (.str ⟨#[100, 101, 102]⟩)), none, false⟩,
  ⟨some 13, .mv (.tmp 16), none, false⟩] false (some [3, 6, 13]))
  (.cond (.tmp 13) .skip (.seq (.reg 11 [⟨some 17, .bin .eql (.tmp 6) (.con (.str ⟨#[116, 114, 117, 101]⟩)), none, false⟩,
  ⟨some 13, .mv (.tmp 17), none, false⟩] false (some [3, 6, 13]))
  (.cond (.tmp 13) .skip (.reg 12 [⟨some 18, .bin .eql (.tmp 6) (.con (.str ⟨#[102, 97, 108, 115, 101]⟩)), none, false⟩,
  ⟨some 13, .mv (.tmp 18), none, false⟩] false (some [3, 6, 13]))))))))))
  (.cond (.tmp 13) (.exit 2) .skip))
  (.seq (.seq (.reg 13 [⟨some 20, .bin .eql (.tmp 6) (.con (.str ⟨#[73, 110, 116]⟩)), none, false⟩,
  ⟨some 19, .mv (.tmp 20), none, false⟩] false (some [3, 6, 19]))
  (.cond (.tmp 19) .skip (.seq (.reg 14 [⟨some 21, .bin .eql (.tmp 6) (.con (.str ⟨#[66, 111, 111, 108]⟩)), none, false⟩,
  ⟨some 19, .mv (.tmp 21), none, false⟩] false (some [3, 6, 19]))
  (.cond (.tmp 19) .skip (.seq (.reg 15 [⟨some 22, .bin .eql (.tmp 6) (.con (.str ⟨#[83, 116, 114, 105, 110, 103]⟩)), none, false⟩,
  ⟨some 19, .mv (.tmp 22), none, false⟩] false (some [3, 6, 19]))
  (.cond (.tmp 19) .skip (.reg 16 [⟨some 23, .bin .eql (.tmp 6) (.con (.str ⟨#[84, 111, 112]⟩)), none, false⟩,
  ⟨some 19, .mv (.tmp 23), none, false⟩] false (some [3, 19]))))))))
  (.cond (.tmp 19) (.exit 3) .skip))))
  (.exit 0))))
  (.seq (.seq (.reg 17 [⟨some 2, .mv (.con (.int .i64 3)), none, false⟩] false (some [2]))
  .ret)
  (.exit 0))))
  (.seq (.seq (.reg 18 [⟨some 2, .mv (.con (.int .i64 4)), none, false⟩] false (some [2]))
  .ret)
  (.exit 0)))))
  (.seq (.reg 19 [⟨some 24, .mv (.tmp 3), none, false⟩,
  ⟨some 2, .mv (.tmp 24), none, false⟩] false (some [2]))
  .ret))))
def c96 : EFn := ⟨1, 25, [.tmp 2], c96_b⟩
theorem c96_ok : cFn Tryd.prog Tryd.f96 = some c96.strip := by kernel_rfl
-- limbeck/name.Fine
def c97_b : EC := (.seq (.reg 0 [⟨some 2, .mv (.con (.bool false)), none, false⟩] false (some [0]))
  (.seq (.reg 1 [⟨some 3, .mv (.tmp 0), none, false⟩,
  ⟨some 4, .call (.con (.fn 96 [] [])) [(.tmp 3)], none, false⟩,
  ⟨some 5, .bin .eql (.tmp 4) (.con (.int .i64 1)), none, false⟩,
  ⟨some 2, .mv (.tmp 5), none, false⟩] false (some [2]))
  .ret))
def c97 : EFn := ⟨1, 6, [.tmp 2], c97_b⟩
theorem c97_ok : cFn Tryd.prog Tryd.f97 = some c97.strip := by kernel_rfl
-- limbeck/limbeckref01.Kept
def c98_l0_b : EC := (.seq (.seq (.reg 3 [⟨some 8, .mv (.tmp 4), none, false⟩,
  ⟨some 9, .mv (.tmp 3), none, false⟩,
  ⟨some 10, .len false (.tmp 9), none, false⟩,
  ⟨some 11, .bin .lss (.tmp 8) (.tmp 10), none, false⟩] false (some [0, 3, 4, 11]))
  (.cond (.tmp 11) .skip (.exit 0)))
  (.seq (.block 1 (.seq (.reg 5 [⟨some 14, .mv (.tmp 3), none, false⟩,
  ⟨some 15, .mv (.tmp 4), none, false⟩,
  ⟨some 16, .ixL 1 (.tmp 14) (.tmp 15), none, false⟩,
  ⟨some 17, .ld none (.tmp 16), none, false⟩,
  ⟨some 18, .mv (.tmp 0), none, false⟩,
  ⟨some 19, .bin .eql (.tmp 17) (.tmp 18), none, false⟩] false (some [0, 3, 4, 19]))
  (.cond (.tmp 19) (.seq (.reg 6 [⟨some 2, .mv (.con (.int .i64 3)), none, false⟩] false (some [2]))
  .ret) .skip)))
  (.reg 4 [⟨some 12, .mv (.tmp 4), none, false⟩,
  ⟨some 13, .bin .add (.tmp 12) (.con (.int .i64 1)), none, false⟩,
  ⟨some 4, .mv (.tmp 13), none, false⟩] false (some [0, 3, 4]))))
def c98_l0 : EC := .loop (some [0, 3, 4]) c98_l0_b
def c98_l1_b : EC := (.seq (.seq (.reg 9 [⟨some 21, .mv (.tmp 6), none, false⟩,
  ⟨some 22, .mv (.tmp 5), none, false⟩,
  ⟨some 23, .len false (.tmp 22), none, false⟩,
  ⟨some 24, .bin .lss (.tmp 21) (.tmp 23), none, false⟩] false (some [0, 5, 6, 24]))
  (.cond (.tmp 24) .skip (.exit 2)))
  (.seq (.block 3 (.seq (.reg 11 [⟨some 27, .mv (.tmp 5), none, false⟩,
  ⟨some 28, .mv (.tmp 6), none, false⟩,
  ⟨some 29, .ixL 1 (.tmp 27) (.tmp 28), none, false⟩,
  ⟨some 30, .ld none (.tmp 29), none, false⟩,
  ⟨some 31, .mv (.tmp 0), none, false⟩,
  ⟨some 32, .bin .eql (.tmp 30) (.tmp 31), none, false⟩] false (some [0, 5, 6, 32]))
  (.cond (.tmp 32) (.seq (.reg 12 [⟨some 2, .mv (.con (.int .i64 4)), none, false⟩] false (some [2]))
  .ret) .skip)))
  (.reg 10 [⟨some 25, .mv (.tmp 6), none, false⟩,
  ⟨some 26, .bin .add (.tmp 25) (.con (.int .i64 1)), none, false⟩,
  ⟨some 6, .mv (.tmp 26), none, false⟩] false (some [0, 5, 6]))))
def c98_l1 : EC := .loop (some [0, 5, 6]) c98_l1_b
def c98_b : EC := (.seq (.reg 0 [⟨some 2, .mv (.con (.int .i64 0)), none, false⟩] false (some [0]))
  (.seq (.reg 1 [⟨some 7, .rows 10 1 [(.str ⟨#[]⟩)] [(0, (.con (.str ⟨#[108, 101, 116]⟩))), (1, (.con (.str ⟨#[105, 110]⟩))), (2, (.con (.str ⟨#[105, 102]⟩))), (3, (.con (.str ⟨#[116, 104, 101, 110]⟩))), (4, (.con (.str ⟨#[101, 108, 115, 101]⟩))), (5, (.con (.str ⟨#[102, 110]⟩))), (6, (.con (.str ⟨#[99, 97, 108, 108]⟩))), (7, (.con (.str ⟨#[100, 101, 102]⟩))), (8, (.con (.str ⟨#[116, 114, 117, 101]⟩))), (9, (.con (.str ⟨#[102, 97, 108, 115, 101]⟩)))], none, false⟩,
  ⟨some 3, .mv (.tmp 7), none, false⟩] false (some [0, 3]))
  (.seq (.seq (.reg 2 [⟨some 4, .mv (.con (.int .i64 0)), none, false⟩] false (some [0, 3, 4]))
  (.block 0 c98_l0))
  (.seq (.reg 7 [⟨some 20, .rows 4 1 [(.str ⟨#[]⟩)] [(0, (.con (.str ⟨#[73, 110, 116]⟩))), (1, (.con (.str ⟨#[66, 111, 111, 108]⟩))), (2, (.con (.str ⟨#[83, 116, 114, 105, 110, 103]⟩))), (3, (.con (.str ⟨#[84, 111, 112]⟩)))], none, false⟩,
  ⟨some 5, .mv (.tmp 20), none, false⟩] false (some [0, 5]))
  (.seq (.seq (.reg 8 [⟨some 6, .mv (.con (.int .i64 0)), none, false⟩] false (some [0, 5, 6]))
  (.block 2 c98_l1))
  (.seq (.reg 13 [⟨some 2, .mv (.con (.int .i64 0)), none, false⟩] false (some [2]))
  .ret))))))
def c98 : EFn := ⟨1, 33, [.tmp 2], c98_b⟩
theorem c98_l0_step {E : Env} {fin : Kont (PV × St)} {st : List Fr} {ts : Tmps} {S : St} {n : Nat} : (lvl E (n + 1)).ev c98_l0 ts S (kont E fin st) = (lvl E (n + 1)).ev c98_l0_b (sel (some [0, 3, 4]) ts) S (kont E fin (.again n c98_l0 :: st)) := rfl
theorem c98_l0_w {E : Env} {fin : Kont (PV × St)} {st : List Fw} {ts : Tmps} {S : St} : run E fin st c98_l0 ts S = run E fin (.again c98_l0 :: st) c98_l0_b (sel (some [0, 3, 4]) ts) S := w_loop
theorem c98_l0_a {E : Env} {fin : Kont (PV × St)} {st : List Fw} {ts : Tmps} {S : St} : aft E fin (.again c98_l0 :: st) .normal ts S = run E fin st c98_l0 (sel (some [0, 3, 4]) ts) S := a_again_s
theorem c98_l1_step {E : Env} {fin : Kont (PV × St)} {st : List Fr} {ts : Tmps} {S : St} {n : Nat} : (lvl E (n + 1)).ev c98_l1 ts S (kont E fin st) = (lvl E (n + 1)).ev c98_l1_b (sel (some [0, 5, 6]) ts) S (kont E fin (.again n c98_l1 :: st)) := rfl
theorem c98_l1_w {E : Env} {fin : Kont (PV × St)} {st : List Fw} {ts : Tmps} {S : St} : run E fin st c98_l1 ts S = run E fin (.again c98_l1 :: st) c98_l1_b (sel (some [0, 5, 6]) ts) S := w_loop
theorem c98_l1_a {E : Env} {fin : Kont (PV × St)} {st : List Fw} {ts : Tmps} {S : St} : aft E fin (.again c98_l1 :: st) .normal ts S = run E fin st c98_l1 (sel (some [0, 5, 6]) ts) S := a_again_s
theorem c98_ok : cFn Tryd.prog Tryd.f98 = some c98.strip := by kernel_rfl
-- limbeck/limbeckref01.Low
def c99_r1 : List EI := [⟨some 3, .mv (.tmp 0), none, false⟩,
  ⟨some 4, .bin .geq (.tmp 3) (.con (.int .u8 97)), none, false⟩,
  ⟨some 5, .mv (.tmp 4), none, false⟩,
  ⟨some 6, .mv (.tmp 0), some (5, true), false⟩,
  ⟨some 7, .bin .leq (.tmp 6) (.con (.int .u8 122)), some (5, true), false⟩,
  ⟨some 8, .pick (.tmp 5) (.tmp 7) (.con (.bool false)), none, false⟩,
  ⟨some 2, .mv (.tmp 8), none, false⟩]
def c99_b : EC := (.seq (.reg 0 [⟨some 2, .mv (.con (.bool false)), none, false⟩] false (some [0]))
  (.seq (.reg 1 c99_r1 false (some [2]))
  .ret))
def c99 : EFn := ⟨1, 9, [.tmp 2], c99_b⟩
theorem c99_ok : cFn Tryd.prog Tryd.f99 = some c99.strip := by kernel_rfl
-- limbeck/limbeckref01.Up
def c100_r1 : List EI := [⟨some 3, .mv (.tmp 0), none, false⟩,
  ⟨some 4, .bin .geq (.tmp 3) (.con (.int .u8 65)), none, false⟩,
  ⟨some 5, .mv (.tmp 4), none, false⟩,
  ⟨some 6, .mv (.tmp 0), some (5, true), false⟩,
  ⟨some 7, .bin .leq (.tmp 6) (.con (.int .u8 90)), some (5, true), false⟩,
  ⟨some 8, .pick (.tmp 5) (.tmp 7) (.con (.bool false)), none, false⟩,
  ⟨some 2, .mv (.tmp 8), none, false⟩]
def c100_b : EC := (.seq (.reg 0 [⟨some 2, .mv (.con (.bool false)), none, false⟩] false (some [0]))
  (.seq (.reg 1 c100_r1 false (some [2]))
  .ret))
def c100 : EFn := ⟨1, 9, [.tmp 2], c100_b⟩
theorem c100_ok : cFn Tryd.prog Tryd.f100 = some c100.strip := by kernel_rfl
-- limbeck/limbeckref01.Digit
def c101_r1 : List EI := [⟨some 3, .mv (.tmp 0), none, false⟩,
  ⟨some 4, .bin .geq (.tmp 3) (.con (.int .u8 48)), none, false⟩,
  ⟨some 5, .mv (.tmp 4), none, false⟩,
  ⟨some 6, .mv (.tmp 0), some (5, true), false⟩,
  ⟨some 7, .bin .leq (.tmp 6) (.con (.int .u8 57)), some (5, true), false⟩,
  ⟨some 8, .pick (.tmp 5) (.tmp 7) (.con (.bool false)), none, false⟩,
  ⟨some 2, .mv (.tmp 8), none, false⟩]
def c101_b : EC := (.seq (.reg 0 [⟨some 2, .mv (.con (.bool false)), none, false⟩] false (some [0]))
  (.seq (.reg 1 c101_r1 false (some [2]))
  .ret))
def c101 : EFn := ⟨1, 9, [.tmp 2], c101_b⟩
theorem c101_ok : cFn Tryd.prog Tryd.f101 = some c101.strip := by kernel_rfl
-- limbeck/name.shape
def c107_r8 : List EI := [⟨some 16, .mv (.tmp 4), none, false⟩,
  ⟨some 17, .bin .eql (.tmp 16) (.con (.int .i64 0)), none, false⟩,
  ⟨some 18, .mv (.tmp 17), none, false⟩,
  ⟨some 19, .mv (.tmp 5), some (18, true), false⟩,
  ⟨some 20, .call (.con (.fn 113 [] [])) [(.tmp 19)], some (18, true), false⟩,
  ⟨some 21, .pick (.tmp 18) (.tmp 20) (.con (.bool false)), none, false⟩,
  ⟨some 15, .mv (.tmp 21), none, false⟩]
def c107_r10 : List EI := [⟨some 23, .mv (.tmp 4), none, false⟩,
  ⟨some 24, .bin .eql (.tmp 23) (.con (.int .i64 0)), none, false⟩,
  ⟨some 25, .mv (.tmp 24), none, false⟩,
  ⟨some 26, .mv (.tmp 5), some (25, true), false⟩,
  ⟨some 27, .call (.con (.fn 114 [] [])) [(.tmp 26)], some (25, true), false⟩,
  ⟨some 28, .pick (.tmp 25) (.tmp 27) (.con (.bool false)), none, false⟩,
  ⟨some 22, .mv (.tmp 28), none, false⟩]
def c107_r12 : List EI := [⟨some 30, .mv (.tmp 4), none, false⟩,
  ⟨some 31, .bin .gtr (.tmp 30) (.con (.int .i64 0)), none, false⟩,
  ⟨some 32, .mv (.tmp 31), none, false⟩,
  ⟨some 33, .mv (.tmp 3), some (32, true), false⟩,
  ⟨some 34, .bin .neq (.tmp 33) (.con (.int .i64 0)), some (32, true), false⟩,
  ⟨some 35, .pick (.tmp 32) (.tmp 34) (.con (.bool false)), none, false⟩,
  ⟨some 36, .mv (.tmp 35), none, false⟩,
  ⟨some 37, .mv (.tmp 5), some (36, true), false⟩,
  ⟨some 38, .call (.con (.fn 113 [] [])) [(.tmp 37)], some (36, true), false⟩,
  ⟨some 39, .mv (.tmp 38), some (36, true), false⟩,
  ⟨some 40, .mv (.tmp 5), some (39, false), false⟩,
  ⟨some 41, .call (.con (.fn 115 [] [])) [(.tmp 40)], some (39, false), false⟩,
  ⟨some 42, .pick (.tmp 39) (.con (.bool true)) (.tmp 41), some (36, true), false⟩,
  ⟨some 43, .pick (.tmp 36) (.tmp 42) (.con (.bool false)), none, false⟩,
  ⟨some 29, .mv (.tmp 43), none, false⟩]
def c107_r13 : List EI := [⟨some 45, .mv (.tmp 4), none, false⟩,
  ⟨some 46, .bin .gtr (.tmp 45) (.con (.int .i64 0)), none, false⟩,
  ⟨some 47, .mv (.tmp 46), none, false⟩,
  ⟨some 48, .mv (.tmp 3), some (47, true), false⟩,
  ⟨some 49, .bin .eql (.tmp 48) (.con (.int .i64 2)), some (47, true), false⟩,
  ⟨some 50, .pick (.tmp 47) (.tmp 49) (.con (.bool false)), none, false⟩,
  ⟨some 51, .mv (.tmp 50), none, false⟩,
  ⟨some 52, .mv (.tmp 5), some (51, true), false⟩,
  ⟨some 53, .call (.con (.fn 114 [] [])) [(.tmp 52)], some (51, true), false⟩,
  ⟨some 54, .pick (.tmp 51) (.tmp 53) (.con (.bool false)), none, false⟩,
  ⟨some 44, .mv (.tmp 54), none, false⟩]
def c107_l0_b : EC := (.seq (.reg 5 [⟨some 11, .nxt (.tmp 10), none, false⟩,
  ⟨some 12, .ext (.tmp 11) 0, none, false⟩] false (some [3, 10, 11, 12]))
  (.seq (.cond (.tmp 12) .skip (.exit 0))
  (.block 1 (.seq (.reg 6 [⟨some 13, .ext (.tmp 11) 1, none, false⟩,
  ⟨some 14, .ext (.tmp 11) 2, none, false⟩,
  ⟨some 4, .mv (.tmp 13), none, false⟩,
  ⟨some 5, .mv (.tmp 14), none, false⟩] false (some [3, 4, 5, 10]))
  (.block 2 (.seq (.reg 8 c107_r8 false (some [3, 4, 5, 10, 15]))
  (.cond (.tmp 15) (.reg 9 [⟨some 3, .mv (.con (.int .i64 1)), none, false⟩] false (some [3, 10])) (.seq (.reg 10 c107_r10 false (some [3, 4, 5, 10, 22]))
  (.cond (.tmp 22) (.reg 11 [⟨some 3, .mv (.con (.int .i64 2)), none, false⟩] false (some [3, 10])) (.seq (.reg 12 c107_r12 false (some [3, 4, 5, 10, 29]))
  (.cond (.tmp 29) .skip (.seq (.reg 13 c107_r13 false (some [3, 10, 44]))
  (.cond (.tmp 44) .skip (.seq (.reg 7 [⟨some 2, .mv (.con (.int .i64 0)), none, false⟩] false (some [2]))
  .ret))))))))))))))
def c107_l0 : EC := .loop (some [3, 10]) c107_l0_b
def c107_b : EC := (.seq (.reg 0 [⟨some 2, .mv (.con (.int .i64 0)), none, false⟩] false (some [0]))
  (.seq (.seq (.reg 1 [⟨some 6, .mv (.tmp 0), none, false⟩,
  ⟨some 7, .len true (.tmp 6), none, false⟩,
  ⟨some 8, .bin .gtr (.tmp 7) (.con (.int .i64 8)), none, false⟩] false (some [0, 8]))
  (.cond (.tmp 8) (.seq (.reg 2 [⟨some 2, .mv (.con (.int .i64 0)), none, false⟩] false (some [2]))
  .ret) .skip))
  (.seq (.reg 3 [⟨some 3, .mv (.con (.int .i64 0)), none, false⟩] false (some [0, 3]))
  (.seq (.seq (.reg 4 [⟨some 9, .mv (.tmp 0), none, false⟩,
  ⟨some 10, .rng (.tmp 9), none, false⟩] false (some [3, 10]))
  (.block 0 c107_l0))
  (.seq (.reg 14 [⟨some 55, .mv (.tmp 3), none, false⟩,
  ⟨some 2, .mv (.tmp 55), none, false⟩] false (some [2]))
  .ret)))))
def c107 : EFn := ⟨1, 56, [.tmp 2], c107_b⟩
theorem c107_l0_step {E : Env} {fin : Kont (PV × St)} {st : List Fr} {ts : Tmps} {S : St} {n : Nat} : (lvl E (n + 1)).ev c107_l0 ts S (kont E fin st) = (lvl E (n + 1)).ev c107_l0_b (sel (some [3, 10]) ts) S (kont E fin (.again n c107_l0 :: st)) := rfl
theorem c107_l0_w {E : Env} {fin : Kont (PV × St)} {st : List Fw} {ts : Tmps} {S : St} : run E fin st c107_l0 ts S = run E fin (.again c107_l0 :: st) c107_l0_b (sel (some [3, 10]) ts) S := w_loop
theorem c107_l0_a {E : Env} {fin : Kont (PV × St)} {st : List Fw} {ts : Tmps} {S : St} : aft E fin (.again c107_l0 :: st) .normal ts S = run E fin st c107_l0 (sel (some [3, 10]) ts) S := a_again_s
theorem c107_ok : cFn Tryd.prog Tryd.f107 = some c107.strip := by kernel_rfl
-- limbeck/name.low
def c113_r1 : List EI := [⟨some 3, .mv (.tmp 0), none, false⟩,
  ⟨some 4, .bin .geq (.tmp 3) (.con (.int .i32 97)), none, false⟩,
  ⟨some 5, .mv (.tmp 4), none, false⟩,
  ⟨some 6, .mv (.tmp 0), some (5, true), false⟩,
  ⟨some 7, .bin .leq (.tmp 6) (.con (.int .i32 122)), some (5, true), false⟩,
  ⟨some 8, .pick (.tmp 5) (.tmp 7) (.con (.bool false)), none, false⟩,
  ⟨some 2, .mv (.tmp 8), none, false⟩]
def c113_b : EC := (.seq (.reg 0 [⟨some 2, .mv (.con (.bool false)), none, false⟩] false (some [0]))
  (.seq (.reg 1 c113_r1 false (some [2]))
  .ret))
def c113 : EFn := ⟨1, 9, [.tmp 2], c113_b⟩
theorem c113_ok : cFn Tryd.prog Tryd.f113 = some c113.strip := by kernel_rfl
-- limbeck/name.up
def c114_r1 : List EI := [⟨some 3, .mv (.tmp 0), none, false⟩,
  ⟨some 4, .bin .geq (.tmp 3) (.con (.int .i32 65)), none, false⟩,
  ⟨some 5, .mv (.tmp 4), none, false⟩,
  ⟨some 6, .mv (.tmp 0), some (5, true), false⟩,
  ⟨some 7, .bin .leq (.tmp 6) (.con (.int .i32 90)), some (5, true), false⟩,
  ⟨some 8, .pick (.tmp 5) (.tmp 7) (.con (.bool false)), none, false⟩,
  ⟨some 2, .mv (.tmp 8), none, false⟩]
def c114_b : EC := (.seq (.reg 0 [⟨some 2, .mv (.con (.bool false)), none, false⟩] false (some [0]))
  (.seq (.reg 1 c114_r1 false (some [2]))
  .ret))
def c114 : EFn := ⟨1, 9, [.tmp 2], c114_b⟩
theorem c114_ok : cFn Tryd.prog Tryd.f114 = some c114.strip := by kernel_rfl
-- limbeck/name.digit
def c115_r1 : List EI := [⟨some 3, .mv (.tmp 0), none, false⟩,
  ⟨some 4, .bin .geq (.tmp 3) (.con (.int .i32 48)), none, false⟩,
  ⟨some 5, .mv (.tmp 4), none, false⟩,
  ⟨some 6, .mv (.tmp 0), some (5, true), false⟩,
  ⟨some 7, .bin .leq (.tmp 6) (.con (.int .i32 57)), some (5, true), false⟩,
  ⟨some 8, .pick (.tmp 5) (.tmp 7) (.con (.bool false)), none, false⟩,
  ⟨some 2, .mv (.tmp 8), none, false⟩]
def c115_b : EC := (.seq (.reg 0 [⟨some 2, .mv (.con (.bool false)), none, false⟩] false (some [0]))
  (.seq (.reg 1 c115_r1 false (some [2]))
  .ret))
def c115 : EFn := ⟨1, 9, [.tmp 2], c115_b⟩
theorem c115_ok : cFn Tryd.prog Tryd.f115 = some c115.strip := by kernel_rfl
end Go.PE
