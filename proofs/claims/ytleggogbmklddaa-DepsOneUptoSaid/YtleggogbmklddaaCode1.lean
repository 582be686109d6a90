/-
  The functions of this seat, as the evaluator's code (printed by a program out of the translation), and that each is what the compiler makes of it. No conditions.
-/
import Derived.Test.YtleggogbmklddaaPE21
import Derived.Test.YtleggogbmklddaaProg
import Derived.KernelRfl
namespace Go.PE
open Go Go.Proofs
set_option linter.unusedVariables false
set_option maxRecDepth 100000
-- limbeck/limbeckref14.shape
def c99_b : EC := (.seq (.reg 0 [⟨some 1, .boxI 38 (.tmp 0), none, Q0⟩,
  ⟨some 2, .mv (.con (.int .i64 0)), none, Q0⟩,
  ⟨some 3, .mv (.con (.int .i64 0)), none, Q0⟩,
  ⟨some 4, .mv (.con (.int .i64 0)), none, Q0⟩,
  ⟨some 5, .mv (.con (.int .i64 0)), none, Q0⟩] false (some [1]))
  (.seq (.seq (.reg 1 [⟨some 6, .fA 0 (.tmp 1), none, Q0⟩,
  ⟨some 7, .ld none (.tmp 6), none, Q0⟩] false (some [1, 7]))
  (.block 0 (.seq (.reg 2 [⟨some 9, .bin .eql (.tmp 7) (.con (.int .i64 5)), none, Q0⟩,
  ⟨some 8, .mv (.tmp 9), none, Q0⟩] false (some [1, 7, 8]))
  (.cond (.tmp 8) (.seq (.reg 3 [⟨some 2, .mv (.con (.int .i64 0)), none, Q0⟩,
  ⟨some 3, .mv (.con (.int .i64 1)), none, Q0⟩,
  ⟨some 4, .mv (.con (.int .i64 2)), none, Q0⟩,
  ⟨some 5, .mv (.con (.int .i64 2)), none, Q0⟩] false (some [2, 3, 4, 5]))
  .ret) (.seq (.reg 4 [⟨some 11, .bin .eql (.tmp 7) (.con (.int .i64 6)), none, Q0⟩,
  ⟨some 10, .mv (.tmp 11), none, Q0⟩] false (some [1, 7, 10]))
  (.cond (.tmp 10) (.seq (.reg 5 [⟨some 2, .mv (.con (.int .i64 0)), none, Q0⟩,
  ⟨some 3, .mv (.con (.int .i64 0)), none, Q0⟩,
  ⟨some 4, .mv (.con (.int .i64 3)), none, Q0⟩,
  ⟨some 5, .mv (.con (.int .i64 3)), none, Q0⟩] false (some [2, 3, 4, 5]))
  .ret) (.seq (.reg 6 [⟨some 13, .bin .eql (.tmp 7) (.con (.int .i64 7)), none, Q0⟩,
  ⟨some 12, .mv (.tmp 13), none, Q0⟩] false (some [1, 7, 12]))
  (.cond (.tmp 12) (.seq (.reg 7 [⟨some 2, .mv (.con (.int .i64 0)), none, Q0⟩,
  ⟨some 3, .mv (.con (.int .i64 1)), none, Q0⟩,
  ⟨some 4, .mv (.con (.int .i64 1)), none, Q0⟩,
  ⟨some 5, .mv (.con (.int .i64 1)), none, Q0⟩] false (some [2, 3, 4, 5]))
  .ret) (.seq (.seq (.reg 8 [⟨some 15, .bin .eql (.tmp 7) (.con (.int .i64 8)), none, Q0⟩,
  ⟨some 14, .mv (.tmp 15), none, Q0⟩] false (some [1, 7, 14]))
  (.cond (.tmp 14) .skip (.reg 9 [⟨some 16, .bin .eql (.tmp 7) (.con (.int .i64 11)), none, Q0⟩,
  ⟨some 14, .mv (.tmp 16), none, Q0⟩] false (some [1, 7, 14]))))
  (.cond (.tmp 14) (.seq (.reg 10 [⟨some 2, .mv (.con (.int .i64 0)), none, Q0⟩,
  ⟨some 3, .mv (.con (.int .i64 0)), none, Q0⟩,
  ⟨some 4, .mv (.con (.int .i64 2)), none, Q0⟩,
  ⟨some 5, .mv (.con (.int .i64 2)), none, Q0⟩] false (some [2, 3, 4, 5]))
  .ret) (.seq (.reg 11 [⟨some 18, .bin .eql (.tmp 7) (.con (.int .i64 9)), none, Q0⟩,
  ⟨some 17, .mv (.tmp 18), none, Q0⟩] false (some [1, 7, 17]))
  (.cond (.tmp 17) (.seq (.reg 12 [⟨some 19, .fA 5 (.tmp 1), none, ⟨.no, false⟩⟩,
  ⟨some 20, .ld none (.tmp 19), none, ⟨.still, false⟩⟩,
  ⟨some 21, .len false (.tmp 20), none, ⟨.no, false⟩⟩,
  ⟨some 22, .fA 5 (.tmp 1), none, ⟨.no, false⟩⟩,
  ⟨some 23, .ld none (.tmp 22), none, ⟨.still, false⟩⟩,
  ⟨some 24, .len false (.tmp 23), none, ⟨.no, false⟩⟩,
  ⟨some 2, .mv (.con (.int .i64 0)), none, Q0⟩,
  ⟨some 3, .mv (.con (.int .i64 0)), none, Q0⟩,
  ⟨some 4, .mv (.tmp 21), none, Q0⟩,
  ⟨some 5, .mv (.tmp 24), none, Q0⟩] true (some [2, 3, 4, 5]))
  .ret) (.seq (.reg 13 [⟨some 26, .bin .eql (.tmp 7) (.con (.int .i64 10)), none, Q0⟩,
  ⟨some 25, .mv (.tmp 26), none, Q0⟩] false (some [1, 7, 25]))
  (.cond (.tmp 25) (.seq (.reg 14 [⟨some 2, .mv (.con (.int .i64 0)), none, Q0⟩,
  ⟨some 3, .mv (.con (.int .i64 0)), none, Q0⟩,
  ⟨some 4, .mv (.con (.int .i64 1)), none, Q0⟩,
  ⟨some 5, .mv (.con (.int .i64 1)), none, Q0⟩] false (some [2, 3, 4, 5]))
  .ret) (.seq (.reg 15 [⟨some 28, .bin .eql (.tmp 7) (.con (.int .i64 12)), none, Q0⟩,
  ⟨some 27, .mv (.tmp 28), none, Q0⟩] false (some [1, 7, 27]))
  (.cond (.tmp 27) (.seq (.reg 16 [⟨some 2, .mv (.con (.int .i64 1)), none, Q0⟩,
  ⟨some 3, .mv (.con (.int .i64 1)), none, Q0⟩,
  ⟨some 4, .mv (.con (.int .i64 1)), none, Q0⟩,
  ⟨some 5, .mv (.con (.int .i64 1)), none, Q0⟩] false (some [2, 3, 4, 5]))
  .ret) (.seq (.reg 17 [⟨some 30, .bin .eql (.tmp 7) (.con (.int .i64 13)), none, Q0⟩,
  ⟨some 29, .mv (.tmp 30), none, Q0⟩] false (some [1, 29]))
  (.cond (.tmp 29) (.seq (.seq (.reg 18 [⟨some 31, .fA 3 (.tmp 1), none, Q0⟩,
  ⟨some 32, .ld none (.tmp 31), none, Q0⟩] false (some [32]))
  (.cond (.tmp 32) (.seq (.reg 19 [⟨some 2, .mv (.con (.int .i64 1)), none, Q0⟩,
  ⟨some 3, .mv (.con (.int .i64 3)), none, Q0⟩,
  ⟨some 4, .mv (.con (.int .i64 0)), none, Q0⟩,
  ⟨some 5, .mv (.con (.int .i64 4)), none, Q0⟩] false (some [2, 3, 4, 5]))
  .ret) .skip))
  (.seq (.reg 20 [⟨some 2, .mv (.con (.int .i64 0)), none, Q0⟩,
  ⟨some 3, .mv (.con (.int .i64 0)), none, Q0⟩,
  ⟨some 4, .mv (.con (.int .i64 0)), none, Q0⟩,
  ⟨some 5, .mv (.con (.int .i64 4)), none, Q0⟩] false (some [2, 3, 4, 5]))
  .ret)) .skip))))))))))))))))))
  (.seq (.reg 21 [⟨some 2, .mv (.con (.int .i64 0)), none, Q0⟩,
  ⟨some 3, .mv (.con (.int .i64 0)), none, Q0⟩,
  ⟨some 4, .mv (.con (.int .i64 0)), none, Q0⟩,
  ⟨some 5, .mv (.con (.int .i64 0)), none, Q0⟩] false (some [2, 3, 4, 5]))
  .ret)))
def c99 : EFn := ⟨1, 33, [.tmp 2, .tmp 3, .tmp 4, .tmp 5], c99_b, none, true⟩
theorem c99_ok : cFn Try.prog Try.f99 = some c99.strip := by kernel_rfl
-- slices.EqualFunc[[]limbeck/api.Bind,[]limbeck/api.Bind,limbeck/api.Bind,limbeck/api.Bind]
def c101_l0_b : EC := (.seq (.reg 4 [⟨some 18, .bin .lss (.tmp 17) (.tmp 16), none, Q0⟩] false (some [1, 2, 15, 16, 17, 18]))
  (.seq (.cond (.tmp 18) .skip (.exit 0))
  (.seq (.block 1 (.seq (.reg 5 [⟨some 19, .mv (.tmp 17), none, Q0⟩,
  ⟨some 20, .ixL 6 (.tmp 15) (.tmp 17), none, Q0⟩,
  ⟨some 21, .ld (some 6) (.tmp 20), none, Q0⟩,
  ⟨some 8, .new 76 [(.str ⟨#[]⟩), (.int .i64 0), (.int .i64 0), (.str ⟨#[]⟩), (.sl .null []), (.sl .null [])], none, Q0⟩,
  ⟨some 7, .mv (.tmp 19), none, Q0⟩,
  ⟨none, .st 6 (.tmp 8) (.tmp 21), none, Q0⟩] false (some [1, 2, 7, 8, 15, 16, 17]))
  (.seq (.reg 6 [⟨some 22, .mv (.tmp 1), none, Q0⟩,
  ⟨some 23, .mv (.tmp 7), none, Q0⟩,
  ⟨some 24, .ixL 6 (.tmp 22) (.tmp 23), none, Q0⟩,
  ⟨some 25, .ld (some 6) (.tmp 24), none, Q0⟩,
  ⟨some 9, .new 76 [(.str ⟨#[]⟩), (.int .i64 0), (.int .i64 0), (.str ⟨#[]⟩), (.sl .null []), (.sl .null [])], none, Q0⟩,
  ⟨none, .st 6 (.tmp 9) (.tmp 25), none, Q0⟩] false (some [1, 2, 8, 9, 15, 16, 17]))
  (.seq (.reg 7 [⟨some 26, .mv (.tmp 2), none, Q0⟩,
  ⟨some 27, .ld (some 6) (.tmp 8), none, Q0⟩,
  ⟨some 28, .ld (some 6) (.tmp 9), none, Q0⟩,
  ⟨some 29, .call (.tmp 26) [(.tmp 27), (.tmp 28)], none, Q0⟩,
  ⟨some 30, .un .not (.tmp 29), none, Q0⟩] false (some [1, 2, 15, 16, 17, 30]))
  (.cond (.tmp 30) (.seq (.reg 8 [⟨some 6, .mv (.con (.bool false)), none, Q0⟩] false (some [6]))
  .ret) .skip)))))
  (.reg 9 [⟨some 31, .bin .add (.tmp 17) (.con (.int .i64 1)), none, Q0⟩,
  ⟨some 17, .mv (.tmp 31), none, Q0⟩] false (some [1, 2, 15, 16, 17])))))
def c101_l0 : EC := .loop (some [1, 2, 15, 16, 17]) c101_l0_b
def c101_b : EC := (.seq (.reg 0 [⟨some 6, .mv (.con (.bool false)), none, Q0⟩] false (some [0, 1, 2]))
  (.seq (.seq (.reg 1 [⟨some 10, .mv (.tmp 0), none, Q0⟩,
  ⟨some 11, .len false (.tmp 10), none, Q0⟩,
  ⟨some 12, .mv (.tmp 1), none, Q0⟩,
  ⟨some 13, .len false (.tmp 12), none, Q0⟩,
  ⟨some 14, .bin .neq (.tmp 11) (.tmp 13), none, Q0⟩] false (some [0, 1, 2, 14]))
  (.cond (.tmp 14) (.seq (.reg 2 [⟨some 6, .mv (.con (.bool false)), none, Q0⟩] false (some [6]))
  .ret) .skip))
  (.seq (.seq (.reg 3 [⟨some 15, .mv (.tmp 0), none, Q0⟩,
  ⟨some 16, .len false (.tmp 15), none, Q0⟩,
  ⟨some 17, .mv (.con (.int .i64 0)), none, Q0⟩] false (some [1, 2, 15, 16, 17]))
  (.block 0 c101_l0))
  (.seq (.reg 10 [⟨some 6, .mv (.con (.bool true)), none, Q0⟩] false (some [6]))
  .ret))))
def c101 : EFn := ⟨3, 32, [.tmp 6], c101_b, none, true⟩
theorem c101_l0_step {E : Env} {fin : Kont (PV × St)} {st : List Fr} {ts : Tmps} {S : St} {n : Nat} : (lvl E (n + 1)).ev c101_l0 ts S (kont E fin st) = (lvl E (n + 1)).ev c101_l0_b (sel (some [1, 2, 15, 16, 17]) ts) S (kont E fin (.again n c101_l0 :: st)) := rfl
theorem c101_l0_w {E : Env} {fin : Kont (PV × St)} {st : List Fw} {ts : Tmps} {S : St} : run E fin st c101_l0 ts S = run E fin (.again c101_l0 :: st) c101_l0_b (sel (some [1, 2, 15, 16, 17]) ts) S := w_loop
theorem c101_l0_a {E : Env} {fin : Kont (PV × St)} {st : List Fw} {ts : Tmps} {S : St} : aft E fin (.again c101_l0 :: st) .normal ts S = run E fin st c101_l0 (sel (some [1, 2, 15, 16, 17]) ts) S := a_again_s
theorem c101_ok : cFn Try.prog Try.f101 = some c101.strip := by kernel_rfl
-- limbeck/exp.binds$1
def c102_r1 : List EI := [⟨some 5, .fA 0 (.tmp 2), none, Q0⟩,
  ⟨some 6, .ld none (.tmp 5), none, Q0⟩,
  ⟨some 7, .fA 0 (.tmp 3), none, Q0⟩,
  ⟨some 8, .ld none (.tmp 7), none, Q0⟩,
  ⟨some 9, .bin .eql (.tmp 6) (.tmp 8), none, Q0⟩,
  ⟨some 10, .mv (.tmp 9), none, Q0⟩,
  ⟨some 11, .fA 1 (.tmp 2), some (10, true), Q0⟩,
  ⟨some 12, .ld (some 5) (.tmp 11), some (10, true), Q0⟩,
  ⟨some 13, .fA 1 (.tmp 3), some (10, true), Q0⟩,
  ⟨some 14, .ld (some 5) (.tmp 13), some (10, true), Q0⟩,
  ⟨some 15, .call (.con (.fn 91 [] [])) [(.tmp 12), (.tmp 14)], some (10, true), Q0⟩,
  ⟨some 16, .pick (.tmp 10) (.tmp 15) (.con (.bool false)), none, Q0⟩,
  ⟨some 4, .mv (.tmp 16), none, Q0⟩]
def c102_b : EC := (.seq (.reg 0 [⟨some 2, .boxI 76 (.tmp 0), none, Q0⟩,
  ⟨some 3, .boxI 76 (.tmp 1), none, Q0⟩,
  ⟨some 4, .mv (.con (.bool false)), none, Q0⟩] false (some [2, 3]))
  (.seq (.reg 1 c102_r1 false (some [4]))
  .ret))
def c102 : EFn := ⟨2, 17, [.tmp 4], c102_b, none, true⟩
theorem c102_ok : cFn Try.prog Try.f102 = some c102.strip := by kernel_rfl
-- limbeck/limbeckref01.Kept
def c103_l0_b : EC := (.seq (.seq (.reg 3 [⟨some 8, .mv (.tmp 4), none, Q0⟩,
  ⟨some 9, .mv (.tmp 3), none, Q0⟩,
  ⟨some 10, .len false (.tmp 9), none, Q0⟩,
  ⟨some 11, .bin .lss (.tmp 8) (.tmp 10), none, Q0⟩] false (some [0, 3, 4, 11]))
  (.cond (.tmp 11) .skip (.exit 0)))
  (.seq (.block 1 (.seq (.reg 5 [⟨some 14, .mv (.tmp 3), none, Q0⟩,
  ⟨some 15, .mv (.tmp 4), none, Q0⟩,
  ⟨some 16, .ixL 1 (.tmp 14) (.tmp 15), none, Q0⟩,
  ⟨some 17, .ld none (.tmp 16), none, Q0⟩,
  ⟨some 18, .mv (.tmp 0), none, Q0⟩,
  ⟨some 19, .bin .eql (.tmp 17) (.tmp 18), none, Q0⟩] false (some [0, 3, 4, 19]))
  (.cond (.tmp 19) (.seq (.reg 6 [⟨some 2, .mv (.con (.int .i64 3)), none, Q0⟩] false (some [2]))
  .ret) .skip)))
  (.reg 4 [⟨some 12, .mv (.tmp 4), none, Q0⟩,
  ⟨some 13, .bin .add (.tmp 12) (.con (.int .i64 1)), none, Q0⟩,
  ⟨some 4, .mv (.tmp 13), none, Q0⟩] false (some [0, 3, 4]))))
def c103_l0 : EC := .loop (some [0, 3, 4]) c103_l0_b
def c103_l1_b : EC := (.seq (.seq (.reg 9 [⟨some 21, .mv (.tmp 6), none, Q0⟩,
  ⟨some 22, .mv (.tmp 5), none, Q0⟩,
  ⟨some 23, .len false (.tmp 22), none, Q0⟩,
  ⟨some 24, .bin .lss (.tmp 21) (.tmp 23), none, Q0⟩] false (some [0, 5, 6, 24]))
  (.cond (.tmp 24) .skip (.exit 2)))
  (.seq (.block 3 (.seq (.reg 11 [⟨some 27, .mv (.tmp 5), none, Q0⟩,
  ⟨some 28, .mv (.tmp 6), none, Q0⟩,
  ⟨some 29, .ixL 1 (.tmp 27) (.tmp 28), none, Q0⟩,
  ⟨some 30, .ld none (.tmp 29), none, Q0⟩,
  ⟨some 31, .mv (.tmp 0), none, Q0⟩,
  ⟨some 32, .bin .eql (.tmp 30) (.tmp 31), none, Q0⟩] false (some [0, 5, 6, 32]))
  (.cond (.tmp 32) (.seq (.reg 12 [⟨some 2, .mv (.con (.int .i64 4)), none, Q0⟩] false (some [2]))
  .ret) .skip)))
  (.reg 10 [⟨some 25, .mv (.tmp 6), none, Q0⟩,
  ⟨some 26, .bin .add (.tmp 25) (.con (.int .i64 1)), none, Q0⟩,
  ⟨some 6, .mv (.tmp 26), none, Q0⟩] false (some [0, 5, 6]))))
def c103_l1 : EC := .loop (some [0, 5, 6]) c103_l1_b
def c103_b : EC := (.seq (.reg 0 [⟨some 2, .mv (.con (.int .i64 0)), none, Q0⟩] false (some [0]))
  (.seq (.reg 1 [⟨some 7, .rows 10 1 [(.str ⟨#[]⟩)] [(0, (.con (.str ⟨#[108, 101, 116]⟩))), (1, (.con (.str ⟨#[105, 110]⟩))), (2, (.con (.str ⟨#[105, 102]⟩))), (3, (.con (.str ⟨#[116, 104, 101, 110]⟩))), (4, (.con (.str ⟨#[101, 108, 115, 101]⟩))), (5, (.con (.str ⟨#[102, 110]⟩))), (6, (.con (.str ⟨#[99, 97, 108, 108]⟩))), (7, (.con (.str ⟨#[100, 101, 102]⟩))), (8, (.con (.str ⟨#[116, 114, 117, 101]⟩))), (9, (.con (.str ⟨#[102, 97, 108, 115, 101]⟩)))], none, Q0⟩,
  ⟨some 3, .mv (.tmp 7), none, Q0⟩] false (some [0, 3]))
  (.seq (.seq (.reg 2 [⟨some 4, .mv (.con (.int .i64 0)), none, Q0⟩] false (some [0, 3, 4]))
  (.block 0 c103_l0))
  (.seq (.reg 7 [⟨some 20, .rows 4 1 [(.str ⟨#[]⟩)] [(0, (.con (.str ⟨#[73, 110, 116]⟩))), (1, (.con (.str ⟨#[66, 111, 111, 108]⟩))), (2, (.con (.str ⟨#[83, 116, 114, 105, 110, 103]⟩))), (3, (.con (.str ⟨#[84, 111, 112]⟩)))], none, Q0⟩,
  ⟨some 5, .mv (.tmp 20), none, Q0⟩] false (some [0, 5]))
  (.seq (.seq (.reg 8 [⟨some 6, .mv (.con (.int .i64 0)), none, Q0⟩] false (some [0, 5, 6]))
  (.block 2 c103_l1))
  (.seq (.reg 13 [⟨some 2, .mv (.con (.int .i64 0)), none, Q0⟩] false (some [2]))
  .ret))))))
def c103 : EFn := ⟨1, 33, [.tmp 2], c103_b, none, true⟩
theorem c103_l0_step {E : Env} {fin : Kont (PV × St)} {st : List Fr} {ts : Tmps} {S : St} {n : Nat} : (lvl E (n + 1)).ev c103_l0 ts S (kont E fin st) = (lvl E (n + 1)).ev c103_l0_b (sel (some [0, 3, 4]) ts) S (kont E fin (.again n c103_l0 :: st)) := rfl
theorem c103_l0_w {E : Env} {fin : Kont (PV × St)} {st : List Fw} {ts : Tmps} {S : St} : run E fin st c103_l0 ts S = run E fin (.again c103_l0 :: st) c103_l0_b (sel (some [0, 3, 4]) ts) S := w_loop
theorem c103_l0_a {E : Env} {fin : Kont (PV × St)} {st : List Fw} {ts : Tmps} {S : St} : aft E fin (.again c103_l0 :: st) .normal ts S = run E fin st c103_l0 (sel (some [0, 3, 4]) ts) S := a_again_s
theorem c103_l1_step {E : Env} {fin : Kont (PV × St)} {st : List Fr} {ts : Tmps} {S : St} {n : Nat} : (lvl E (n + 1)).ev c103_l1 ts S (kont E fin st) = (lvl E (n + 1)).ev c103_l1_b (sel (some [0, 5, 6]) ts) S (kont E fin (.again n c103_l1 :: st)) := rfl
theorem c103_l1_w {E : Env} {fin : Kont (PV × St)} {st : List Fw} {ts : Tmps} {S : St} : run E fin st c103_l1 ts S = run E fin (.again c103_l1 :: st) c103_l1_b (sel (some [0, 5, 6]) ts) S := w_loop
theorem c103_l1_a {E : Env} {fin : Kont (PV × St)} {st : List Fw} {ts : Tmps} {S : St} : aft E fin (.again c103_l1 :: st) .normal ts S = run E fin st c103_l1 (sel (some [0, 5, 6]) ts) S := a_again_s
theorem c103_ok : cFn Try.prog Try.f103 = some c103.strip := by kernel_rfl
-- limbeck/limbeckref01.Low
def c104_r1 : List EI := [⟨some 3, .mv (.tmp 0), none, Q0⟩,
  ⟨some 4, .bin .geq (.tmp 3) (.con (.int .u8 97)), none, Q0⟩,
  ⟨some 5, .mv (.tmp 4), none, Q0⟩,
  ⟨some 6, .mv (.tmp 0), some (5, true), Q0⟩,
  ⟨some 7, .bin .leq (.tmp 6) (.con (.int .u8 122)), some (5, true), Q0⟩,
  ⟨some 8, .pick (.tmp 5) (.tmp 7) (.con (.bool false)), none, Q0⟩,
  ⟨some 2, .mv (.tmp 8), none, Q0⟩]
def c104_b : EC := (.seq (.reg 0 [⟨some 2, .mv (.con (.bool false)), none, Q0⟩] false (some [0]))
  (.seq (.reg 1 c104_r1 false (some [2]))
  .ret))
def c104 : EFn := ⟨1, 9, [.tmp 2], c104_b, none, true⟩
theorem c104_ok : cFn Try.prog Try.f104 = some c104.strip := by kernel_rfl
-- limbeck/limbeckref01.Up
def c105_r1 : List EI := [⟨some 3, .mv (.tmp 0), none, Q0⟩,
  ⟨some 4, .bin .geq (.tmp 3) (.con (.int .u8 65)), none, Q0⟩,
  ⟨some 5, .mv (.tmp 4), none, Q0⟩,
  ⟨some 6, .mv (.tmp 0), some (5, true), Q0⟩,
  ⟨some 7, .bin .leq (.tmp 6) (.con (.int .u8 90)), some (5, true), Q0⟩,
  ⟨some 8, .pick (.tmp 5) (.tmp 7) (.con (.bool false)), none, Q0⟩,
  ⟨some 2, .mv (.tmp 8), none, Q0⟩]
def c105_b : EC := (.seq (.reg 0 [⟨some 2, .mv (.con (.bool false)), none, Q0⟩] false (some [0]))
  (.seq (.reg 1 c105_r1 false (some [2]))
  .ret))
def c105 : EFn := ⟨1, 9, [.tmp 2], c105_b, none, true⟩
theorem c105_ok : cFn Try.prog Try.f105 = some c105.strip := by kernel_rfl
-- limbeck/limbeckref01.Digit
def c106_r1 : List EI := [⟨some 3, .mv (.tmp 0), none, Q0⟩,
  ⟨some 4, .bin .geq (.tmp 3) (.con (.int .u8 48)), none, Q0⟩,
  ⟨some 5, .mv (.tmp 4), none, Q0⟩,
  ⟨some 6, .mv (.tmp 0), some (5, true), Q0⟩,
  ⟨some 7, .bin .leq (.tmp 6) (.con (.int .u8 57)), some (5, true), Q0⟩,
  ⟨some 8, .pick (.tmp 5) (.tmp 7) (.con (.bool false)), none, Q0⟩,
  ⟨some 2, .mv (.tmp 8), none, Q0⟩]
def c106_b : EC := (.seq (.reg 0 [⟨some 2, .mv (.con (.bool false)), none, Q0⟩] false (some [0]))
  (.seq (.reg 1 c106_r1 false (some [2]))
  .ret))
def c106 : EFn := ⟨1, 9, [.tmp 2], c106_b, none, true⟩
theorem c106_ok : cFn Try.prog Try.f106 = some c106.strip := by kernel_rfl
end Go.PE
