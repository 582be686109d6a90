/-
  The functions of this seat, as the evaluator's code (printed by a program out of the translation), and that each is what the compiler makes of it. No conditions.
-/
import Derived.Test.YtleggogbmklddaaGreatDoorPQ
import Derived.Test.YtleggogbmklddaaGreatDoorProg
import Derived.KernelRfl
namespace Go.PE
open Go Go.Proofs
set_option linter.unusedVariables false
set_option maxRecDepth 100000
def c5_r1:List EI:=[qD 9 15 4,qI 10 (.call (qF 12) [(qt 9)]),qI 11 (.bin .gtr (qt 10) (qN 600)),qM 12 11,qJ 13 (.ld (some 15) (qt 5)) 12 false,
 qJ 14 (.call (qF 12) [(qt 13)]) 12 false,qJ 15 (.bin .gtr (qt 14) (qN 600)) 12 false,qI 16 (.pick (qt 12) (.con (.bool true)) (qt 15)),qM 17 16,
 qJ 18 (.ld (some 7) (qt 6)) 17 false,qJ 19 (.call (qF 6) [(qt 18)]) 17 false,qJ 20 (.bin .gtr (qt 19) (qN 600)) 17 false,qI 21 (.pick (qt 17) (.con (.bool true)) (qt 20)),
 qM 22 21,qJ 23 (.ld (some 7) (qt 7)) 22 false,qJ 24 (.call (qF 6) [(qt 23)]) 22 false,qJ 25 (.bin .gtr (qt 24) (qN 600)) 22 false,qI 26 (.pick (qt 22) (.con (.bool true)) (qt 25))]
def c5_r3:List EI:=[qD 28 15 4,qI 29 (.call (qF 17) [(qt 28)]),qM 30 29,qJ 31 (.ld (some 15) (qt 5)) 30 true,qJ 32 (.call (qF 17) [(qt 31)]) 30 true,
 qI 33 (.pick (qt 30) (qt 32) (.con (.bool false))),qM 34 33,
 ⟨some 35,.ld (some 15) (qt 4),some (34,true),⟨.lds [(some 15,(qt 5)),(some 15,(qt 4)),(some 15,(qt 5))],false⟩⟩,
 ⟨some 36,.call (qF 13) [(qt 35)],some (34,true),⟨.lds [(some 15,(qt 5)),(some 15,(qt 4)),(some 15,(qt 5))],false⟩⟩,
 ⟨some 37,.ld (some 15) (qt 5),some (34,true),⟨.still,false⟩⟩,
 ⟨some 38,.call (qF 13) [(qt 37)],some (34,true),⟨.lds [(some 15,(qt 4)),(some 15,(qt 5))],false⟩⟩,
 ⟨some 39,.bin .eql (qt 36) (qt 38),some (34,true),⟨.no,false⟩⟩,
 ⟨some 40,.ld (some 15) (qt 4),some (34,true),⟨.still,false⟩⟩,
 ⟨some 41,.ld (some 15) (qt 5),some (34,true),Q1⟩,qJ 42 (.call (qF 18) [(qt 40),(qt 41)]) 34 true,qJ 43 (.eqB true (qt 39) (qt 42)) 34 true,qI 44 (.pick (qt 34) (qt 43) (.con (.bool false)))]
def c5_r5:List EI:=[qD 45 7 6,qI 46 (.call (qF 19) [(qt 45)]),qM 47 46,qJ 48 (.ld (some 7) (qt 7)) 47 true,qJ 49 (.call (qF 19) [(qt 48)]) 47 true,
 qI 50 (.pick (qt 47) (qt 49) (.con (.bool false))),qM 51 50,
 ⟨some 52,.ld (some 7) (qt 6),some (51,true),⟨.lds [(some 7,(qt 7)),(some 7,(qt 6)),(some 7,(qt 7))],false⟩⟩,
 ⟨some 53,.call (qF 8) [(qt 52)],some (51,true),⟨.lds [(some 7,(qt 7)),(some 7,(qt 6)),(some 7,(qt 7))],false⟩⟩,
 ⟨some 54,.ld (some 7) (qt 7),some (51,true),⟨.still,false⟩⟩,
 ⟨some 55,.call (qF 8) [(qt 54)],some (51,true),⟨.lds [(some 7,(qt 6)),(some 7,(qt 7))],false⟩⟩,
 ⟨some 56,.bin .eql (qt 53) (qt 55),some (51,true),⟨.no,false⟩⟩,
 ⟨some 57,.ld (some 7) (qt 6),some (51,true),⟨.still,false⟩⟩,
 ⟨some 58,.ld (some 7) (qt 7),some (51,true),Q1⟩,qJ 59 (.call (qF 20) [(qt 57),(qt 58)]) 51 true,qJ 60 (.eqB true (qt 56) (qt 59)) 51 true,qI 61 (.pick (qt 51) (qt 60) (.con (.bool false)))]
def c5_b:EC:=(.seq (.reg 0 [qI 4 (.boxI 38 (qt 0)),qI 5 (.boxI 38 (qt 1)),qI 6 (.boxI 26 (qt 2)),qI 7 (.boxI 26 (qt 3)),qI 8 (.mv (.con (.bool false)))] false (some [4,5,6,7]))
 (.seq (.seq (.reg 1 c5_r1 false (some [4,5,6,7,26]))
 (.cond (qt 26) (.seq (.regP 2 [qI 27 (.call (qF 7) []),qM 8 27] false (some [8]))
 .ret) .skip))
 (.seq (.seq (.regP 3 c5_r3 true (some [6,7,44]))
 (.cond (qt 44) (.seq (.reg 4 [qI 8 (.mv (.con (.bool false)))] false (some [8]))
 .ret) .skip))
 (.seq (.seq (.regP 5 c5_r5 true (some [61]))
 (.cond (qt 61) (.seq (.reg 6 [qI 8 (.mv (.con (.bool false)))] false (some [8]))
 .ret) .skip))
 (.seq (.regP 7 [qI 62 (.call (qF 7) []),qM 8 62] false (some [8]))
 .ret)))))
def c5:EFn:=⟨4,63,[.tmp 8],c5_b,none,true⟩
theorem c5_ok:cFn Tryz.prog Tryz.f5=some c5.strip:=by kernel_rfl
def c6_r3:List EI:=[qM 16 4,qA 17 5 1,qL 18 17,qI 19 (.len false (qt 18)),qI 20 (.bin .lss (qt 16) (qt 19)),qM 21 20,qJ 22 (.mv (qt 4)) 21 true,
 qJ 23 (.bin .lss (qt 22) (qN 1000)) 21 true,qI 24 (.pick (qt 21) (qt 23) (.con (.bool false)))]
def c6_r7:List EI:=[qM 36 5,qA 37 4 1,qL 38 37,qI 39 (.len false (qt 38)),qI 40 (.bin .lss (qt 36) (qt 39)),qM 41 40,qJ 42 (.mv (qt 3)) 41 true,
 qJ 43 (.bin .lss (qt 42) (qN 3000)) 41 true,qI 44 (.pick (qt 41) (qt 43) (.con (.bool false)))]
def c6_r11:List EI:=[qM 55 6,qA 56 6 1,qL 57 56,qI 58 (.len false (qt 57)),qI 59 (.bin .lss (qt 55) (qt 58)),qM 60 59,qJ 61 (.mv (qt 3)) 60 true,
 qJ 62 (.bin .lss (qt 61) (qN 3000)) 60 true,qI 63 (.pick (qt 60) (qt 62) (.con (.bool false)))]
def c6_l0_b:EC:=(.seq (.seq (.reg 3 c6_r3 false (some [1,3,4,24]))
 (.cond (qt 24) .skip (.exit 0)))
 (.seq (.block 1 (.reg 5 [qM 27 3,qA 28 5 1,qL 29 28,qM 30 4,qI 31 (.ixL 1 (qt 29) (qt 30)),qL 32 31,qI 33 (.len true (qt 32)),qI 34 (.bin .quo (qt 33) (qN 8)),
 qI 35 (.bin .add (qt 27) (qt 34)),qM 3 35] false (some [1,3,4])))
 (.reg 4 [qM 25 4,qI 26 (.bin .add (qt 25) (qN 1)),qM 4 26] false (some [1,3,4]))))
def c6_l0:EC:= .loop (some [1,3,4]) c6_l0_b
def c6_l1_b:EC:=(.seq (.seq (.reg 7 c6_r7 false (some [1,3,5,44]))
 (.cond (qt 44) .skip (.exit 2)))
 (.seq (.block 3 (.reg 9 [qM 47 3,qA 48 4 1,qL 49 48,qM 50 5,qI 51 (.ixL 5 (qt 49) (qt 50)),qD 52 5 51,qI 53 (.call (qF 21) [(qt 52)]),qI 54 (.bin .add (qt 47) (qt 53)),
 qM 3 54] false (some [1,3,5])))
 (.reg 8 [qM 45 5,qI 46 (.bin .add (qt 45) (qN 1)),qM 5 46] false (some [1,3,5]))))
def c6_l1:EC:= .loop (some [1,3,5]) c6_l1_b
def c6_l2_b:EC:=(.seq (.seq (.reg 11 c6_r11 false (some [1,3,6,63]))
 (.cond (qt 63) .skip (.exit 4)))
 (.seq (.block 5 (.reg 13 [qM 66 3,qA 67 6 1,qL 68 67,qM 69 6,qI 70 (.ixL 7 (qt 68) (qt 69)),qD 71 7 70,qI 72 (.call (qF 6) [(qt 71)]),qI 73 (.bin .add (qt 66) (qt 72)),
 qM 3 73] false (some [1,3,6])))
 (.reg 12 [qM 64 6,qI 65 (.bin .add (qt 64) (qN 1)),qM 6 65] false (some [1,3,6]))))
def c6_l2:EC:= .loop (some [1,3,6]) c6_l2_b
def c6_b:EC:=(.seq (.reg 0 [qI 1 (.boxI 26 (qt 0)),qI 2 (.mv (qN 0))] false (some [1]))
 (.seq (.reg 1 [qA 7 2 1,qL 8 7,qI 9 (.len true (qt 8)),qI 10 (.bin .quo (qt 9) (qN 8)),qI 11 (.bin .add (qN 1) (qt 10)),qA 12 5 1,qL 13 12,qI 14 (.len false (qt 13)),
 qI 15 (.bin .add (qt 11) (qt 14)),qM 3 15] false (some [1,3]))
 (.seq (.seq (.reg 2 [qI 4 (.mv (qN 0))] false (some [1,3,4]))
 (.block 0 c6_l0))
 (.seq (.seq (.reg 6 [qI 5 (.mv (qN 0))] false (some [1,3,5]))
 (.block 2 c6_l1))
 (.seq (.seq (.reg 10 [qI 6 (.mv (qN 0))] false (some [1,3,6]))
 (.block 4 c6_l2))
 (.seq (.reg 14 [qM 74 3,qM 2 74] false (some [2]))
 .ret))))))
def c6:EFn:=⟨1,75,[.tmp 2],c6_b,none,true⟩
theorem c6_l0_w {E:Env} {fin:Kont (PV×St)} {st:List Fw} {ts:Tmps} {S:St}:run E fin st c6_l0 ts S=run E fin (.again c6_l0::st) c6_l0_b (sel (some [1,3,4]) ts) S:=w_loop
theorem c6_l0_a {E:Env} {fin:Kont (PV×St)} {st:List Fw} {ts:Tmps} {S:St}:aft E fin (.again c6_l0::st) .normal ts S=run E fin st c6_l0 (sel (some [1,3,4]) ts) S:=a_again_s
theorem c6_l1_w {E:Env} {fin:Kont (PV×St)} {st:List Fw} {ts:Tmps} {S:St}:run E fin st c6_l1 ts S=run E fin (.again c6_l1::st) c6_l1_b (sel (some [1,3,5]) ts) S:=w_loop
theorem c6_l1_a {E:Env} {fin:Kont (PV×St)} {st:List Fw} {ts:Tmps} {S:St}:aft E fin (.again c6_l1::st) .normal ts S=run E fin st c6_l1 (sel (some [1,3,5]) ts) S:=a_again_s
theorem c6_l2_w {E:Env} {fin:Kont (PV×St)} {st:List Fw} {ts:Tmps} {S:St}:run E fin st c6_l2 ts S=run E fin (.again c6_l2::st) c6_l2_b (sel (some [1,3,6]) ts) S:=w_loop
theorem c6_l2_a {E:Env} {fin:Kont (PV×St)} {st:List Fw} {ts:Tmps} {S:St}:aft E fin (.again c6_l2::st) .normal ts S=run E fin st c6_l2 (sel (some [1,3,6]) ts) S:=a_again_s
theorem c6_ok:cFn Tryz.prog Tryz.f6=some c6.strip:=by kernel_rfl
def c7_r3:List EI:=[qD 11 7 2,qI 12 (.call (qF 8) [(qt 11)]),qI 13 (.bin .eql (qt 12) (.con (.str ⟨#[120,32,42,32,40,120,32,43,32,120,41]⟩))),
 qM 14 13,qJ 15 (.call (qF 10) [(qN 5)]) 14 true,qJ 16 (.bin .eql (qt 15) (.con (.str ⟨#[43,43]⟩))) 14 true,qI 17 (.pick (qt 14) (qt 16) (.con (.bool false))),
 qM 0 17]
def c7_b:EC:=(.seq (.reg 0 [qI 0 (.mv (.con (.bool false)))] false (some []))
 (.seq (.reg 1 [qI 3 (.build qz0 [(0,1,(qN 4)),(2,1,(.con (.str ⟨#[120]⟩)))]),qI 1 (.new 26 qz0),
 ⟨none,.st 7 (qt 1) (qt 3),none,Q0⟩] false (some [1]))
 (.seq (.reg 2 [qD 4 7 1,qD 5 7 1,qD 6 7 1,qI 7 (.rows 2 7 qz0 [(0,(qt 5)),(1,(qt 6))]),qI 8 (.build qz0 [(0,1,(qN 11)),(1,1,(qN 1)),(6,1,(qt 7))]),
 qI 9 (.rows 2 7 qz0 [(0,(qt 4)),(1,(qt 8))]),qI 10 (.build qz0 [(0,1,(qN 11)),(1,1,(qN 3)),(6,1,(qt 9))]),qI 2 (.new 26 qz0),
 ⟨none,.st 7 (qt 2) (qt 10),none,Q0⟩] false (some [2]))
 (.seq (.regP 3 c7_r3 false (some [0]))
 .ret))))
def c7:EFn:=⟨0,18,[.tmp 0],c7_b,none,true⟩
theorem c7_ok:cFn Tryz.prog Tryz.f7=some c7.strip:=by kernel_rfl
def c8_b:EC:=(.seq (.reg 0 [qI 1 (.boxI 26 (qt 0)),qI 2 (.mv (.con (.str ⟨#[]⟩)))] false (some [1]))
 (.seq (.seq (.reg 1 [qD 3 7 1,qI 4 (.call (qF 22) [(qt 3)]),qI 5 (.un .not (qt 4))] false (some [1,5]))
 (.cond (qt 5) (.seq (.reg 2 [qI 2 (.mv (.con (.str ⟨#[]⟩)))] false (some [2]))
 .ret) .skip))
 (.seq (.regP 3 [qD 6 7 1,qI 7 (.call (qF 23) [(qt 6)]),qM 2 7] false (some [2]))
 .ret)))
def c8:EFn:=⟨1,8,[.tmp 2],c8_b,none,true⟩
theorem c8_ok:cFn Tryz.prog Tryz.f8=some c8.strip:=by kernel_rfl
def c10_b:EC:=(.seq (.reg 0 [qI 2 (.mv (.con (.str ⟨#[]⟩)))] false (some [0]))
 (.seq (.seq (.reg 1 [qM 3 0] false (some [3]))
 (.block 0 (.seq (.reg 2 [qI 5 (.bin .eql (qt 3) (qN 1)),qM 4 5] false (some [3,4]))
 (.cond (qt 4) (.seq (.reg 3 [qI 2 (.mv (.con (.str ⟨#[43]⟩)))] false (some [2]))
 .ret) (.seq (.reg 4 [qI 7 (.bin .eql (qt 3) (qN 2)),qM 6 7] false (some [3,6]))
 (.cond (qt 6) (.seq (.reg 5 [qI 2 (.mv (.con (.str ⟨#[45]⟩)))] false (some [2]))
 .ret) (.seq (.reg 6 [qI 9 (.bin .eql (qt 3) (qN 3)),qM 8 9] false (some [3,8]))
 (.cond (qt 8) (.seq (.reg 7 [qI 2 (.mv (.con (.str ⟨#[42]⟩)))] false (some [2]))
 .ret) (.seq (.reg 8 [qI 11 (.bin .eql (qt 3) (qN 4)),qM 10 11] false (some [3,10]))
 (.cond (qt 10) (.seq (.reg 9 [qI 2 (.mv (.con (.str ⟨#[47]⟩)))] false (some [2]))
 .ret) (.seq (.reg 10 [qI 13 (.bin .eql (qt 3) (qN 5)),qM 12 13] false (some [3,12]))
 (.cond (qt 12) (.seq (.reg 11 [qI 2 (.mv (.con (.str ⟨#[43,43]⟩)))] false (some [2]))
 .ret) (.seq (.reg 12 [qI 15 (.bin .eql (qt 3) (qN 6)),qM 14 15] false (some [3,14]))
 (.cond (qt 14) (.seq (.reg 13 [qI 2 (.mv (.con (.str ⟨#[60]⟩)))] false (some [2]))
 .ret) (.seq (.reg 14 [qI 17 (.bin .eql (qt 3) (qN 7)),qM 16 17] false (some [16]))
 (.cond (qt 16) (.seq (.reg 15 [qI 2 (.mv (.con (.str ⟨#[61,61]⟩)))] false (some [2]))
 .ret) .skip))))))))))))))))
 (.seq (.reg 16 [qI 2 (.mv (.con (.str ⟨#[]⟩)))] false (some [2]))
 .ret)))
def c10:EFn:=⟨1,18,[.tmp 2],c10_b,none,true⟩
theorem c10_ok:cFn Tryz.prog Tryz.f10=some c10.strip:=by kernel_rfl
def c12_b:EC:=(.seq (.reg 0 [qI 1 (.boxI 38 (qt 0)),qI 2 (.mv (qN 0))] false (some [1]))
 (.seq (.reg 1 [⟨some 3,.fA 8 (qt 1),none,⟨.no,false⟩⟩,
 ⟨some 4,.ld (some 7) (qt 3),none,⟨.still,false⟩⟩,
 ⟨some 5,.call (qF 6) [(qt 4)],none,⟨.still,false⟩⟩,
 ⟨some 6,.fA 0 (qt 1),none,⟨.no,false⟩⟩,
 ⟨some 7,.fA 1 (qt 6),none,⟨.no,false⟩⟩,
 ⟨some 8,.ld none (qt 7),none,⟨.still,false⟩⟩,
 ⟨some 9,.call (qF 25) [(qt 8)],none,⟨.still,false⟩⟩,
 ⟨some 10,.bin .add (qt 5) (qt 9),none,⟨.no,false⟩⟩,
 ⟨some 11,.fA 0 (qt 1),none,⟨.no,false⟩⟩,
 ⟨some 12,.fA 2 (qt 11),none,⟨.no,false⟩⟩,
 ⟨some 13,.ld none (qt 12),none,⟨.still,false⟩⟩,
 ⟨some 14,.call (qF 25) [(qt 13)],none,⟨.still,false⟩⟩,
 ⟨some 15,.bin .add (qt 10) (qt 14),none,⟨.no,false⟩⟩,
 ⟨some 16,.fA 0 (qt 1),none,⟨.no,false⟩⟩,
 ⟨some 17,.fA 3 (qt 16),none,⟨.no,false⟩⟩,
 ⟨some 18,.ld (some 5) (qt 17),none,⟨.still,false⟩⟩,
 ⟨some 19,.call (qF 21) [(qt 18)],none,⟨.still,false⟩⟩,
 ⟨some 20,.bin .add (qt 15) (qt 19),none,⟨.no,false⟩⟩,qA 21 0 1,qA 22 0 21,
 ⟨some 23,.ld none (qt 22),none,Q1⟩,qI 24 (.len true (qt 23)),qI 25 (.bin .quo (qt 24) (qN 8)),qI 26 (.bin .add (qt 20) (qt 25)),qM 2 26] true (some [2]))
 .ret))
def c12:EFn:=⟨1,27,[.tmp 2],c12_b,none,true⟩
theorem c12_ok:cFn Tryz.prog Tryz.f12=some c12.strip:=by kernel_rfl
def c13_b:EC:=(.seq (.reg 0 [qI 1 (.boxI 38 (qt 0)),qI 2 (.mv (.con (.str ⟨#[]⟩)))] false (some [1]))
 (.seq (.seq (.reg 1 [qD 3 15 1,qI 4 (.call (qF 26) [(qt 3)]),qI 5 (.un .not (qt 4))] false (some [1,5]))
 (.cond (qt 5) (.seq (.reg 2 [qI 2 (.mv (.con (.str ⟨#[]⟩)))] false (some [2]))
 .ret) .skip))
 (.seq (.regP 3 [⟨some 6,.fA 0 (qt 1),none,⟨.no,false⟩⟩,
 ⟨some 7,.ld (some 8) (qt 6),none,⟨.still,false⟩⟩,
 ⟨some 8,.call (qF 15) [(qt 7)],none,⟨.still,false⟩⟩,
 ⟨some 9,.bin .add (qt 8) (.con (.str ⟨#[32,61,32]⟩)),none,⟨.no,false⟩⟩,qA 10 8 1,
 ⟨some 11,.ld (some 7) (qt 10),none,Q1⟩,qI 12 (.call (qF 23) [(qt 11)]),qI 13 (.bin .add (qt 9) (qt 12)),qM 2 13] true (some [2]))
 .ret)))
def c13:EFn:=⟨1,14,[.tmp 2],c13_b,none,true⟩
theorem c13_ok:cFn Tryz.prog Tryz.f13=some c13.strip:=by kernel_rfl
def c15_b:EC:=(.seq (.reg 0 [qI 1 (.boxI 36 (qt 0)),qI 2 (.mv (.con (.str ⟨#[]⟩)))] false (some [1]))
 (.seq (.reg 1 [qI 3 (.mv (.con (.str ⟨#[]⟩)))] false (some [1,3]))
 (.seq (.seq (.reg 2 [qA 4 1 1,qL 5 4,qI 6 (.len false (qt 5)),qI 7 (.bin .gtr (qt 6) (qN 0))] false (some [1,3,7]))
 (.cond (qt 7) (.reg 3 [qA 8 1 1,qL 9 8,qI 10 (.call (qF 27) [(qt 9),(.con (.str ⟨#[32,60,58,32]⟩))]),qI 11 (.bin .add (.con (.str ⟨#[91]⟩)) (qt 10)),
 qI 12 (.bin .add (qt 11) (.con (.str ⟨#[93]⟩))),qM 3 12] false (some [1,3])) .skip))
 (.seq (.reg 4 [⟨some 13,.fA 0 (qt 1),none,⟨.no,false⟩⟩,
 ⟨some 14,.ld none (qt 13),none,⟨.still,false⟩⟩,
 ⟨some 15,.bin .add (.con (.str ⟨#[100,101,102,32]⟩)) (qt 14),none,⟨.no,false⟩⟩,
 ⟨some 16,.mv (qt 3),none,⟨.no,false⟩⟩,
 ⟨some 17,.bin .add (qt 15) (qt 16),none,⟨.no,false⟩⟩,
 ⟨some 18,.bin .add (qt 17) (.con (.str ⟨#[40]⟩)),none,⟨.no,false⟩⟩,
 ⟨some 19,.fA 2 (qt 1),none,⟨.no,false⟩⟩,
 ⟨some 20,.ld none (qt 19),none,⟨.still,false⟩⟩,
 ⟨some 21,.call (qF 27) [(qt 20),(.con (.str ⟨#[58,32]⟩))],none,⟨.still,false⟩⟩,
 ⟨some 22,.bin .add (qt 18) (qt 21),none,⟨.no,false⟩⟩,
 ⟨some 23,.bin .add (qt 22) (.con (.str ⟨#[41,58,32]⟩)),none,⟨.no,false⟩⟩,qA 24 3 1,
 ⟨some 25,.ld (some 5) (qt 24),none,Q1⟩,
 ⟨some 26,.call (qF 28) [(qt 25)],none,Q1⟩,qI 27 (.bin .add (qt 23) (qt 26)),qM 2 27] true (some [2]))
 .ret))))
def c15:EFn:=⟨1,28,[.tmp 2],c15_b,none,true⟩
theorem c15_ok:cFn Tryz.prog Tryz.f15=some c15.strip:=by kernel_rfl
def c17_r1:List EI:=[qA 5 0 1,qD 6 8 5,qI 7 (.call (qF 31) [(qt 6)]),qI 8 (.un .not (qt 7)),qM 9 8,qJ 10 (.fA 8 (qt 1)) 9 false,qJ 11 (.ld (some 7) (qt 10)) 9 false,
 qJ 12 (.call (qF 19) [(qt 11)]) 9 false,qJ 13 (.un .not (qt 12)) 9 false,qI 14 (.pick (qt 9) (.con (.bool true)) (qt 13))]
def c17_r4:List EI:=[qM 20 3,qI 21 (.bin .leq (qt 20) (qN 240)),qM 22 21,qJ 23 (.mv (qt 4)) 22 true,qJ 24 (.bin .leq (qt 23) (qN 40)) 22 true,
 qI 25 (.pick (qt 22) (qt 24) (.con (.bool false))),qM 2 25]
def c17_b:EC:=(.seq (.reg 0 [qI 1 (.boxI 38 (qt 0)),qI 2 (.mv (.con (.bool false)))] false (some [1]))
 (.seq (.seq (.reg 1 c17_r1 false (some [1,14]))
 (.cond (qt 14) (.seq (.reg 2 [qI 2 (.mv (.con (.bool false)))] false (some [2]))
 .ret) .skip))
 (.seq (.reg 3 [qD 16 15 1,qI 17 (.call (qF 32) [(qt 16)]),qM 15 17,qI 18 (.ext (qt 15) 0),qI 19 (.ext (qt 15) 1),qM 3 18,qM 4 19] false (some [3,4]))
 (.seq (.reg 4 c17_r4 false (some [2]))
 .ret))))
def c17:EFn:=⟨1,26,[.tmp 2],c17_b,none,true⟩
theorem c17_ok:cFn Tryz.prog Tryz.f17=some c17.strip:=by kernel_rfl
def c18_r1:List EI:=[qA 5 0 2,qD 6 8 5,qA 7 0 3,qD 8 8 7,qI 9 (.call (qF 33) [(qt 6),(qt 8)]),qM 10 9,qJ 11 (.fA 8 (qt 2)) 10 true,qJ 12 (.ld (some 7) (qt 11)) 10 true,
 qJ 13 (.fA 8 (qt 3)) 10 true,qJ 14 (.ld (some 7) (qt 13)) 10 true,qJ 15 (.call (qF 20) [(qt 12),(qt 14)]) 10 true,qI 16 (.pick (qt 10) (qt 15) (.con (.bool false))),
 qM 4 16]
def c18_b:EC:=(.seq (.reg 0 [qI 2 (.boxI 38 (qt 0)),qI 3 (.boxI 38 (qt 1)),qI 4 (.mv (.con (.bool false)))] false (some [2,3]))
 (.seq (.reg 1 c18_r1 false (some [4]))
 .ret))
def c18:EFn:=⟨2,17,[.tmp 4],c18_b,none,true⟩
theorem c18_ok:cFn Tryz.prog Tryz.f18=some c18.strip:=by kernel_rfl
def c19_l0_b:EC:=(.seq (.seq (.reg 4 [qM 7 3,qA 8 6 1,qL 9 8,qI 10 (.len false (qt 9)),qI 11 (.bin .lss (qt 7) (qt 10))] false (some [1,3,11]))
 (.cond (qt 11) .skip (.exit 0)))
 (.seq (.block 1 (.seq (.reg 6 [qA 14 6 1,qL 15 14,qM 16 3,qI 17 (.ixL 7 (qt 15) (qt 16)),qD 18 7 17,qI 19 (.call (qF 19) [(qt 18)]),qI 20 (.un .not (qt 19))] false (some [1,3,20]))
 (.cond (qt 20) (.seq (.reg 7 [qI 2 (.mv (.con (.bool false)))] false (some [2]))
 .ret) .skip)))
 (.reg 5 [qM 12 3,qI 13 (.bin .add (qt 12) (qN 1)),qM 3 13] false (some [1,3]))))
def c19_l0:EC:= .loop (some [1,3]) c19_l0_b
def c19_b:EC:=(.seq (.reg 0 [qI 1 (.boxI 26 (qt 0)),qI 2 (.mv (.con (.bool false)))] false (some [1]))
 (.seq (.seq (.reg 1 [qD 4 7 1,qI 5 (.call (qF 34) [(qt 4)]),qI 6 (.un .not (qt 5))] false (some [1,6]))
 (.cond (qt 6) (.seq (.reg 2 [qI 2 (.mv (.con (.bool false)))] false (some [2]))
 .ret) .skip))
 (.seq (.seq (.reg 3 [qI 3 (.mv (qN 0))] false (some [1,3]))
 (.block 0 c19_l0))
 (.seq (.reg 8 [qI 2 (.mv (.con (.bool true)))] false (some [2]))
 .ret))))
def c19:EFn:=⟨1,21,[.tmp 2],c19_b,none,true⟩
theorem c19_l0_w {E:Env} {fin:Kont (PV×St)} {st:List Fw} {ts:Tmps} {S:St}:run E fin st c19_l0 ts S=run E fin (.again c19_l0::st) c19_l0_b (sel (some [1,3]) ts) S:=w_loop
theorem c19_l0_a {E:Env} {fin:Kont (PV×St)} {st:List Fw} {ts:Tmps} {S:St}:aft E fin (.again c19_l0::st) .normal ts S=run E fin st c19_l0 (sel (some [1,3]) ts) S:=a_again_s
theorem c19_ok:cFn Tryz.prog Tryz.f19=some c19.strip:=by kernel_rfl
def c20_r1:List EI:=[qA 6 0 2,qL 7 6,qA 8 0 3,qL 9 8,qI 10 (.bin .neq (qt 7) (qt 9)),qM 11 10,qJ 12 (.fA 1 (qt 2)) 11 false,qJ 13 (.ld none (qt 12)) 11 false,
 qJ 14 (.fA 1 (qt 3)) 11 false,qJ 15 (.ld none (qt 14)) 11 false,qJ 16 (.bin .neq (qt 13) (qt 15)) 11 false,qI 17 (.pick (qt 11) (.con (.bool true)) (qt 16)),
 qM 18 17,qJ 19 (.fA 2 (qt 2)) 18 false,qJ 20 (.ld none (qt 19)) 18 false,qJ 21 (.fA 2 (qt 3)) 18 false,qJ 22 (.ld none (qt 21)) 18 false,qJ 23 (.bin .neq (qt 20) (qt 22)) 18 false,
 qI 24 (.pick (qt 18) (.con (.bool true)) (qt 23)),qM 25 24,qJ 26 (.fA 3 (qt 2)) 25 false,qJ 27 (.ld none (qt 26)) 25 false,qJ 28 (.fA 3 (qt 3)) 25 false,
 qJ 29 (.ld none (qt 28)) 25 false,qJ 30 (.eqB true (qt 27) (qt 29)) 25 false,qI 31 (.pick (qt 25) (.con (.bool true)) (qt 30)),qM 32 31,qJ 33 (.fA 4 (qt 2)) 32 false,
 qJ 34 (.ld none (qt 33)) 32 false,qJ 35 (.fA 4 (qt 3)) 32 false,qJ 36 (.ld none (qt 35)) 32 false,qJ 37 (.call (qF 35) [(qt 34),(qt 36)]) 32 false,
 qJ 38 (.un .not (qt 37)) 32 false,qI 39 (.pick (qt 32) (.con (.bool true)) (qt 38)),qM 40 39,qJ 41 (.fA 5 (qt 2)) 40 false,qJ 42 (.ld none (qt 41)) 40 false,
 qJ 43 (.fA 5 (qt 3)) 40 false,qJ 44 (.ld none (qt 43)) 40 false,qJ 45 (.call (qF 36) [(qt 42),(qt 44)]) 40 false,qJ 46 (.un .not (qt 45)) 40 false,
 qI 47 (.pick (qt 40) (.con (.bool true)) (qt 46)),qM 48 47,qJ 49 (.fA 6 (qt 2)) 48 false,qJ 50 (.ld none (qt 49)) 48 false,qJ 51 (.len false (qt 50)) 48 false,
 qJ 52 (.fA 6 (qt 3)) 48 false,qJ 53 (.ld none (qt 52)) 48 false,qJ 54 (.len false (qt 53)) 48 false,qJ 55 (.bin .neq (qt 51) (qt 54)) 48 false,qI 56 (.pick (qt 48) (.con (.bool true)) (qt 55))]
def c20_r4:List EI:=[qM 57 5,qA 58 6 2,qL 59 58,qI 60 (.len false (qt 59)),qI 61 (.bin .lss (qt 57) (qt 60)),qM 62 61,qJ 63 (.mv (qt 5)) 62 true,
 qJ 64 (.fA 6 (qt 3)) 62 true,qJ 65 (.ld none (qt 64)) 62 true,qJ 66 (.len false (qt 65)) 62 true,qJ 67 (.bin .lss (qt 63) (qt 66)) 62 true,qI 68 (.pick (qt 62) (qt 67) (.con (.bool false)))]
def c20_l0_b:EC:=(.seq (.seq (.reg 4 c20_r4 false (some [2,3,5,68]))
 (.cond (qt 68) .skip (.exit 0)))
 (.seq (.block 1 (.seq (.reg 6 [⟨some 71,.fA 6 (qt 2),none,⟨.no,false⟩⟩,
 ⟨some 72,.ld none (qt 71),none,⟨.still,false⟩⟩,
 ⟨some 73,.mv (qt 5),none,⟨.no,false⟩⟩,
 ⟨some 74,.ixL 7 (qt 72) (qt 73),none,⟨.no,false⟩⟩,
 ⟨some 75,.ld (some 7) (qt 74),none,⟨.still,false⟩⟩,
 ⟨some 76,.fA 6 (qt 3),none,⟨.no,false⟩⟩,
 ⟨some 77,.ld none (qt 76),none,⟨.still,false⟩⟩,qM 78 5,qI 79 (.ixL 7 (qt 77) (qt 78)),
 ⟨some 80,.ld (some 7) (qt 79),none,Q1⟩,qI 81 (.call (qF 20) [(qt 75),(qt 80)]),qI 82 (.un .not (qt 81))] true (some [2,3,5,82]))
 (.cond (qt 82) (.seq (.reg 7 [qI 4 (.mv (.con (.bool false)))] false (some [4]))
 .ret) .skip)))
 (.reg 5 [qM 69 5,qI 70 (.bin .add (qt 69) (qN 1)),qM 5 70] false (some [2,3,5]))))
def c20_l0:EC:= .loop (some [2,3,5]) c20_l0_b
def c20_b:EC:=(.seq (.reg 0 [qI 2 (.boxI 26 (qt 0)),qI 3 (.boxI 26 (qt 1)),qI 4 (.mv (.con (.bool false)))] false (some [2,3]))
 (.seq (.seq (.reg 1 c20_r1 false (some [2,3,56]))
 (.cond (qt 56) (.seq (.reg 2 [qI 4 (.mv (.con (.bool false)))] false (some [4]))
 .ret) .skip))
 (.seq (.seq (.reg 3 [qI 5 (.mv (qN 0))] false (some [2,3,5]))
 (.block 0 c20_l0))
 (.seq (.reg 8 [qI 4 (.mv (.con (.bool true)))] false (some [4]))
 .ret))))
def c20:EFn:=⟨2,83,[.tmp 4],c20_b,none,true⟩
theorem c20_l0_w {E:Env} {fin:Kont (PV×St)} {st:List Fw} {ts:Tmps} {S:St}:run E fin st c20_l0 ts S=run E fin (.again c20_l0::st) c20_l0_b (sel (some [2,3,5]) ts) S:=w_loop
theorem c20_l0_a {E:Env} {fin:Kont (PV×St)} {st:List Fw} {ts:Tmps} {S:St}:aft E fin (.again c20_l0::st) .normal ts S=run E fin st c20_l0 (sel (some [2,3,5]) ts) S:=a_again_s
theorem c20_ok:cFn Tryz.prog Tryz.f20=some c20.strip:=by kernel_rfl
def c21_r3:List EI:=[qM 15 4,qA 16 3 1,qL 17 16,qI 18 (.len false (qt 17)),qI 19 (.bin .lss (qt 15) (qt 18)),qM 20 19,qJ 21 (.mv (qt 4)) 20 true,
 qJ 22 (.bin .lss (qt 21) (qN 1000)) 20 true,qI 23 (.pick (qt 20) (qt 22) (.con (.bool false)))]
def c21_r7:List EI:=[qM 35 5,qA 36 4 1,qL 37 36,qI 38 (.len false (qt 37)),qI 39 (.bin .lss (qt 35) (qt 38)),qM 40 39,qJ 41 (.mv (qt 3)) 40 true,
 qJ 42 (.bin .lss (qt 41) (qN 3000)) 40 true,qI 43 (.pick (qt 40) (qt 42) (.con (.bool false)))]
def c21_l0_b:EC:=(.seq (.seq (.reg 3 c21_r3 false (some [1,3,4,23]))
 (.cond (qt 23) .skip (.exit 0)))
 (.seq (.block 1 (.reg 5 [qM 26 3,qA 27 3 1,qL 28 27,qM 29 4,qI 30 (.ixL 1 (qt 28) (qt 29)),qL 31 30,qI 32 (.len true (qt 31)),qI 33 (.bin .quo (qt 32) (qN 8)),
 qI 34 (.bin .add (qt 26) (qt 33)),qM 3 34] false (some [1,3,4])))
 (.reg 4 [qM 24 4,qI 25 (.bin .add (qt 24) (qN 1)),qM 4 25] false (some [1,3,4]))))
def c21_l0:EC:= .loop (some [1,3,4]) c21_l0_b
def c21_l1_b:EC:=(.seq (.seq (.reg 7 c21_r7 false (some [1,3,5,43]))
 (.cond (qt 43) .skip (.exit 2)))
 (.seq (.block 3 (.reg 9 [qM 46 3,qA 47 4 1,qL 48 47,qM 49 5,qI 50 (.ixL 5 (qt 48) (qt 49)),qD 51 5 50,qI 52 (.call (qF 21) [(qt 51)]),qI 53 (.bin .add (qt 46) (qt 52)),
 qM 3 53] false (some [1,3,5])))
 (.reg 8 [qM 44 5,qI 45 (.bin .add (qt 44) (qN 1)),qM 5 45] false (some [1,3,5]))))
def c21_l1:EC:= .loop (some [1,3,5]) c21_l1_b
def c21_b:EC:=(.seq (.reg 0 [qI 1 (.boxI 34 (qt 0)),qI 2 (.mv (qN 0))] false (some [1]))
 (.seq (.reg 1 [qA 6 2 1,qL 7 6,qI 8 (.len true (qt 7)),qI 9 (.bin .quo (qt 8) (qN 8)),qI 10 (.bin .add (qN 1) (qt 9)),qA 11 3 1,qL 12 11,qI 13 (.len false (qt 12)),
 qI 14 (.bin .add (qt 10) (qt 13)),qM 3 14] false (some [1,3]))
 (.seq (.seq (.reg 2 [qI 4 (.mv (qN 0))] false (some [1,3,4]))
 (.block 0 c21_l0))
 (.seq (.seq (.reg 6 [qI 5 (.mv (qN 0))] false (some [1,3,5]))
 (.block 2 c21_l1))
 (.seq (.reg 10 [qM 54 3,qM 2 54] false (some [2]))
 .ret)))))
def c21:EFn:=⟨1,55,[.tmp 2],c21_b,none,true⟩
theorem c21_l0_step {E:Env} {fin:Kont (PV×St)} {st:List Fr} {ts:Tmps} {S:St} {n:Nat}:(lvl E (n+1)).ev c21_l0 ts S (kont E fin st)=(lvl E (n+1)).ev c21_l0_b (sel (some [1,3,4]) ts) S (kont E fin (.again n c21_l0::st)):=rfl
theorem c21_l0_w {E:Env} {fin:Kont (PV×St)} {st:List Fw} {ts:Tmps} {S:St}:run E fin st c21_l0 ts S=run E fin (.again c21_l0::st) c21_l0_b (sel (some [1,3,4]) ts) S:=w_loop
theorem c21_l0_a {E:Env} {fin:Kont (PV×St)} {st:List Fw} {ts:Tmps} {S:St}:aft E fin (.again c21_l0::st) .normal ts S=run E fin st c21_l0 (sel (some [1,3,4]) ts) S:=a_again_s
theorem c21_l1_step {E:Env} {fin:Kont (PV×St)} {st:List Fr} {ts:Tmps} {S:St} {n:Nat}:(lvl E (n+1)).ev c21_l1 ts S (kont E fin st)=(lvl E (n+1)).ev c21_l1_b (sel (some [1,3,5]) ts) S (kont E fin (.again n c21_l1::st)):=rfl
theorem c21_l1_w {E:Env} {fin:Kont (PV×St)} {st:List Fw} {ts:Tmps} {S:St}:run E fin st c21_l1 ts S=run E fin (.again c21_l1::st) c21_l1_b (sel (some [1,3,5]) ts) S:=w_loop
theorem c21_l1_a {E:Env} {fin:Kont (PV×St)} {st:List Fw} {ts:Tmps} {S:St}:aft E fin (.again c21_l1::st) .normal ts S=run E fin st c21_l1 (sel (some [1,3,5]) ts) S:=a_again_s
theorem c21_ok:cFn Tryz.prog Tryz.f21=some c21.strip:=by kernel_rfl
def c22_r1:List EI:=[qA 3 0 1,qL 4 3,qI 5 (.bin .neq (qt 4) (qN 9)),qM 6 5,qJ 7 (.fA 5 (qt 1)) 6 true,qJ 8 (.ld none (qt 7)) 6 true,qJ 9 (.len false (qt 8)) 6 true,
 qJ 10 (.bin .gtr (qt 9) (qN 0)) 6 true,qI 11 (.pick (qt 6) (qt 10) (.con (.bool false))),qM 12 11,qJ 13 (.fA 0 (qt 1)) 12 false,qJ 14 (.ld none (qt 13)) 12 false,
 qJ 15 (.bin .neq (qt 14) (qN 13)) 12 false,qJ 16 (.mv (qt 15)) 12 false,qJ 17 (.fA 3 (qt 1)) 16 true,qJ 18 (.ld none (qt 17)) 16 true,qJ 19 (.pick (qt 16) (qt 18) (.con (.bool false))) 12 false,
 qI 20 (.pick (qt 12) (.con (.bool true)) (qt 19))]
def c22_r3:List EI:=[qD 21 7 1,qI 22 (.call (qF 37) [(qt 21)]),qM 23 22,qJ 24 (.ld (some 7) (qt 1)) 23 true,qJ 25 (.call (qF 38) [(qt 24)]) 23 true,
 qI 26 (.pick (qt 23) (qt 25) (.con (.bool false))),qM 27 26,qJ 28 (.ld (some 7) (qt 1)) 27 true,qJ 29 (.call (qF 39) [(qt 28)]) 27 true,qI 30 (.pick (qt 27) (qt 29) (.con (.bool false))),
 qM 31 30,qJ 32 (.ld (some 7) (qt 1)) 31 true,qJ 33 (.call (qF 40) [(qt 32)]) 31 true,qI 34 (.pick (qt 31) (qt 33) (.con (.bool false))),qM 35 34,
 qJ 36 (.fA 4 (qt 1)) 35 true,qJ 37 (.ld none (qt 36)) 35 true,qJ 38 (.call (qF 41) [(qt 37),(qF 42)]) 35 true,qI 39 (.pick (qt 35) (qt 38) (.con (.bool false))),
 qM 40 39,qJ 41 (.fA 6 (qt 1)) 40 true,qJ 42 (.ld none (qt 41)) 40 true,qJ 43 (.call (qF 43) [(qt 42),(qF 22)]) 40 true,qI 44 (.pick (qt 40) (qt 43) (.con (.bool false))),
 qM 2 44]
def c22_b:EC:=(.seq (.reg 0 [qI 1 (.boxI 26 (qt 0)),qI 2 (.mv (.con (.bool false)))] false (some [1]))
 (.seq (.seq (.reg 1 c22_r1 false (some [1,20]))
 (.cond (qt 20) (.seq (.reg 2 [qI 2 (.mv (.con (.bool false)))] false (some [2]))
 .ret) .skip))
 (.seq (.reg 3 c22_r3 false (some [2]))
 .ret)))
def c22:EFn:=⟨1,45,[.tmp 2],c22_b,none,true⟩
theorem c22_ok:cFn Tryz.prog Tryz.f22=some c22.strip:=by kernel_rfl
def c23_b:EC:=(.seq (.reg 0 [qI 1 (.boxI 26 (qt 0)),qI 2 (.mv (.con (.str ⟨#[]⟩)))] false (some [1]))
 (.seq (.seq (.reg 1 [qA 3 0 1,qL 4 3] false (some [1,4]))
 (.block 0 (.seq (.reg 2 [qI 6 (.bin .eql (qt 4) (qN 5)),qM 5 6] false (some [1,4,5]))
 (.cond (qt 5) (.seq (.regP 3 [⟨some 7,.ld (some 7) (qt 1),none,⟨.still,false⟩⟩,
 ⟨some 8,.call (qF 44) [(qt 7)],none,⟨.still,false⟩⟩,
 ⟨some 9,.bin .add (.con (.str ⟨#[108,101,116,32]⟩)) (qt 8),none,⟨.no,false⟩⟩,
 ⟨some 10,.bin .add (qt 9) (.con (.str ⟨#[32,61,32]⟩)),none,⟨.no,false⟩⟩,
 ⟨some 11,.fA 6 (qt 1),none,⟨.no,false⟩⟩,
 ⟨some 12,.ld none (qt 11),none,⟨.still,false⟩⟩,
 ⟨some 13,.ixL 7 (qt 12) (qN 0),none,⟨.no,false⟩⟩,
 ⟨some 14,.ld (some 7) (qt 13),none,⟨.still,false⟩⟩,
 ⟨some 15,.call (qF 23) [(qt 14)],none,⟨.still,false⟩⟩,
 ⟨some 16,.bin .add (qt 10) (qt 15),none,⟨.no,false⟩⟩,
 ⟨some 17,.bin .add (qt 16) (.con (.str ⟨#[32,105,110,32]⟩)),none,⟨.no,false⟩⟩,qA 18 6 1,
 ⟨some 19,.ld none (qt 18),none,Q1⟩,qI 20 (.ixL 7 (qt 19) (qN 1)),
 ⟨some 21,.ld (some 7) (qt 20),none,Q1⟩,qI 22 (.call (qF 23) [(qt 21)]),qI 23 (.bin .add (qt 17) (qt 22)),qM 2 23] true (some [2]))
 .ret) (.seq (.reg 4 [qI 25 (.bin .eql (qt 4) (qN 6)),qM 24 25] false (some [1,4,24]))
 (.cond (qt 24) (.seq (.regP 5 [⟨some 26,.fA 6 (qt 1),none,⟨.no,false⟩⟩,
 ⟨some 27,.ld none (qt 26),none,⟨.still,false⟩⟩,
 ⟨some 28,.ixL 7 (qt 27) (qN 0),none,⟨.no,false⟩⟩,
 ⟨some 29,.ld (some 7) (qt 28),none,⟨.still,false⟩⟩,
 ⟨some 30,.call (qF 23) [(qt 29)],none,⟨.still,false⟩⟩,
 ⟨some 31,.bin .add (.con (.str ⟨#[105,102,32]⟩)) (qt 30),none,⟨.no,false⟩⟩,
 ⟨some 32,.bin .add (qt 31) (.con (.str ⟨#[32,116,104,101,110,32]⟩)),none,⟨.no,false⟩⟩,
 ⟨some 33,.fA 6 (qt 1),none,⟨.no,false⟩⟩,
 ⟨some 34,.ld none (qt 33),none,⟨.still,false⟩⟩,
 ⟨some 35,.ixL 7 (qt 34) (qN 1),none,⟨.no,false⟩⟩,
 ⟨some 36,.ld (some 7) (qt 35),none,⟨.still,false⟩⟩,
 ⟨some 37,.call (qF 23) [(qt 36)],none,⟨.still,false⟩⟩,
 ⟨some 38,.bin .add (qt 32) (qt 37),none,⟨.no,false⟩⟩,
 ⟨some 39,.bin .add (qt 38) (.con (.str ⟨#[32,101,108,115,101,32]⟩)),none,⟨.no,false⟩⟩,qA 40 6 1,
 ⟨some 41,.ld none (qt 40),none,Q1⟩,qI 42 (.ixL 7 (qt 41) (qN 2)),
 ⟨some 43,.ld (some 7) (qt 42),none,Q1⟩,qI 44 (.call (qF 23) [(qt 43)]),qI 45 (.bin .add (qt 39) (qt 44)),qM 2 45] true (some [2]))
 .ret) (.seq (.reg 6 [qI 47 (.bin .eql (qt 4) (qN 7)),qM 46 47] false (some [1,4,46]))
 (.cond (qt 46) (.seq (.regP 7 [⟨some 48,.ld (some 7) (qt 1),none,⟨.still,false⟩⟩,
 ⟨some 49,.call (qF 44) [(qt 48)],none,⟨.still,false⟩⟩,
 ⟨some 50,.bin .add (.con (.str ⟨#[102,110,32]⟩)) (qt 49),none,⟨.no,false⟩⟩,
 ⟨some 51,.bin .add (qt 50) (.con (.str ⟨#[32,61,62,32]⟩)),none,⟨.no,false⟩⟩,qA 52 6 1,
 ⟨some 53,.ld none (qt 52),none,Q1⟩,qI 54 (.ixL 7 (qt 53) (qN 0)),
 ⟨some 55,.ld (some 7) (qt 54),none,Q1⟩,qI 56 (.call (qF 23) [(qt 55)]),qI 57 (.bin .add (qt 51) (qt 56)),qM 2 57] true (some [2]))
 .ret) (.seq (.reg 8 [qI 59 (.bin .eql (qt 4) (qN 8)),qM 58 59] false (some [1,4,58]))
 (.cond (qt 58) (.seq (.regP 9 [⟨some 60,.fA 6 (qt 1),none,⟨.no,false⟩⟩,
 ⟨some 61,.ld none (qt 60),none,⟨.still,false⟩⟩,
 ⟨some 62,.ixL 7 (qt 61) (qN 0),none,⟨.no,false⟩⟩,
 ⟨some 63,.ld (some 7) (qt 62),none,⟨.still,false⟩⟩,
 ⟨some 64,.call (qF 45) [(qt 63),(qN 4)],none,⟨.still,false⟩⟩,
 ⟨some 65,.bin .add (qt 64) (.con (.str ⟨#[40]⟩)),none,⟨.no,false⟩⟩,qA 66 6 1,
 ⟨some 67,.ld none (qt 66),none,Q1⟩,qI 68 (.ixL 7 (qt 67) (qN 1)),
 ⟨some 69,.ld (some 7) (qt 68),none,Q1⟩,qI 70 (.call (qF 23) [(qt 69)]),qI 71 (.bin .add (qt 65) (qt 70)),qI 72 (.bin .add (qt 71) (.con (.str ⟨#[41]⟩))),
 qM 2 72] true (some [2]))
 .ret) (.seq (.reg 10 [qI 74 (.bin .eql (qt 4) (qN 10)),qM 73 74] false (some [1,4,73]))
 (.cond (qt 73) (.seq (.regP 11 [⟨some 75,.fA 6 (qt 1),none,⟨.no,false⟩⟩,
 ⟨some 76,.ld none (qt 75),none,⟨.still,false⟩⟩,
 ⟨some 77,.ixL 7 (qt 76) (qN 0),none,⟨.no,false⟩⟩,
 ⟨some 78,.ld (some 7) (qt 77),none,⟨.still,false⟩⟩,
 ⟨some 79,.call (qF 45) [(qt 78),(qN 4)],none,⟨.still,false⟩⟩,
 ⟨some 80,.bin .add (qt 79) (.con (.str ⟨#[46]⟩)),none,⟨.no,false⟩⟩,qA 81 2 1,
 ⟨some 82,.ld none (qt 81),none,Q1⟩,qI 83 (.bin .add (qt 80) (qt 82)),qM 2 83] true (some [2]))
 .ret) (.seq (.reg 12 [qI 85 (.bin .eql (qt 4) (qN 11)),qM 84 85] false (some [1,4,84]))
 (.cond (qt 84) (.seq (.regP 13 [qD 86 7 1,qI 87 (.call (qF 46) [(qt 86)]),qM 2 87] false (some [2]))
 .ret) (.seq (.reg 14 [qI 89 (.bin .eql (qt 4) (qN 9)),qM 88 89] false (some [1,4,88]))
 (.cond (qt 88) (.seq (.regP 15 [qD 90 7 1,qI 91 (.fnv 48 [] [(qt 1)]),qI 92 (.call (qF 47) [(qt 90),(qt 91)]),qI 93 (.bin .add (.con (.str ⟨#[123]⟩)) (qt 92)),
 qI 94 (.bin .add (qt 93) (.con (.str ⟨#[125]⟩))),qM 2 94] false (some [2]))
 .ret) (.seq (.reg 16 [qI 96 (.bin .eql (qt 4) (qN 12)),qM 95 96] false (some [1,4,95]))
 (.cond (qt 95) (.seq (.regP 17 [⟨some 97,.fA 6 (qt 1),none,⟨.no,false⟩⟩,
 ⟨some 98,.ld none (qt 97),none,⟨.still,false⟩⟩,
 ⟨some 99,.ixL 7 (qt 98) (qN 0),none,⟨.no,false⟩⟩,
 ⟨some 100,.ld (some 7) (qt 99),none,⟨.still,false⟩⟩,
 ⟨some 101,.call (qF 23) [(qt 100)],none,⟨.still,false⟩⟩,
 ⟨some 102,.bin .add (.con (.str ⟨#[40]⟩)) (qt 101),none,⟨.no,false⟩⟩,
 ⟨some 103,.bin .add (qt 102) (.con (.str ⟨#[32,58,32]⟩)),none,⟨.no,false⟩⟩,qA 104 4 1,
 ⟨some 105,.ld none (qt 104),none,Q1⟩,qI 106 (.ixL 5 (qt 105) (qN 0)),
 ⟨some 107,.ld (some 5) (qt 106),none,Q1⟩,qI 108 (.call (qF 28) [(qt 107)]),qI 109 (.bin .add (qt 103) (qt 108)),qI 110 (.bin .add (qt 109) (.con (.str ⟨#[41]⟩))),
 qM 2 110] true (some [2]))
 .ret) (.seq (.reg 18 [qI 112 (.bin .eql (qt 4) (qN 13)),qM 111 112] false (some [1,111]))
 (.cond (qt 111) (.seq (.regP 19 [qD 113 7 1,qI 114 (.call (qF 49) [(qt 113)]),qM 2 114] false (some [2]))
 .ret) .skip))))))))))))))))))))
 (.seq (.reg 20 [qD 115 7 1,qI 116 (.call (qF 50) [(qt 115)]),qM 2 116] false (some [2]))
 .ret)))
def c23:EFn:=⟨1,117,[.tmp 2],c23_b,none,true⟩
theorem c23_ok:cFn Tryz.prog Tryz.f23=some c23.strip:=by kernel_rfl
def c25_r3:List EI:=[qM 7 4,qM 8 0,qI 9 (.len false (qt 8)),qI 10 (.bin .lss (qt 7) (qt 9)),qM 11 10,qJ 12 (.mv (qt 3)) 11 true,qJ 13 (.bin .lss (qt 12) (qN 3000)) 11 true,
 qI 14 (.pick (qt 11) (qt 13) (.con (.bool false)))]
def c25_l0_b:EC:=(.seq (.seq (.reg 3 c25_r3 false (some [0,3,4,14]))
 (.cond (qt 14) .skip (.exit 0)))
 (.seq (.block 1 (.reg 5 [⟨some 17,.mv (qt 3),none,⟨.no,false⟩⟩,
 ⟨some 18,.mv (qt 0),none,⟨.no,false⟩⟩,
 ⟨some 19,.mv (qt 4),none,⟨.no,false⟩⟩,
 ⟨some 20,.ixL 6 (qt 18) (qt 19),none,⟨.no,false⟩⟩,
 ⟨some 21,.fA 1 (qt 20),none,⟨.no,false⟩⟩,
 ⟨some 22,.ld (some 5) (qt 21),none,⟨.still,false⟩⟩,
 ⟨some 23,.call (qF 21) [(qt 22)],none,⟨.still,false⟩⟩,
 ⟨some 24,.bin .add (qt 17) (qt 23),none,⟨.no,false⟩⟩,
 ⟨some 25,.mv (qt 0),none,⟨.no,false⟩⟩,qM 26 4,qI 27 (.ixL 6 (qt 25) (qt 26)),qA 28 0 27,
 ⟨some 29,.ld none (qt 28),none,Q1⟩,qI 30 (.len true (qt 29)),qI 31 (.bin .quo (qt 30) (qN 8)),qI 32 (.bin .add (qt 24) (qt 31)),qM 3 32] true (some [0,3,4])))
 (.reg 4 [qM 15 4,qI 16 (.bin .add (qt 15) (qN 1)),qM 4 16] false (some [0,3,4]))))
def c25_l0:EC:= .loop (some [0,3,4]) c25_l0_b
def c25_b:EC:=(.seq (.reg 0 [qI 2 (.mv (qN 0))] false (some [0]))
 (.seq (.reg 1 [qM 5 0,qI 6 (.len false (qt 5)),qM 3 6] false (some [0,3]))
 (.seq (.seq (.reg 2 [qI 4 (.mv (qN 0))] false (some [0,3,4]))
 (.block 0 c25_l0))
 (.seq (.reg 6 [qM 33 3,qM 2 33] false (some [2]))
 .ret))))
def c25:EFn:=⟨1,34,[.tmp 2],c25_b,none,true⟩
theorem c25_l0_w {E:Env} {fin:Kont (PV×St)} {st:List Fw} {ts:Tmps} {S:St}:run E fin st c25_l0 ts S=run E fin (.again c25_l0::st) c25_l0_b (sel (some [0,3,4]) ts) S:=w_loop
theorem c25_l0_a {E:Env} {fin:Kont (PV×St)} {st:List Fw} {ts:Tmps} {S:St}:aft E fin (.again c25_l0::st) .normal ts S=run E fin st c25_l0 (sel (some [0,3,4]) ts) S:=a_again_s
theorem c25_ok:cFn Tryz.prog Tryz.f25=some c25.strip:=by kernel_rfl
def c26_r1:List EI:=[qA 5 0 1,qA 6 0 5,qL 7 6,qI 8 (.call (qF 58) [(qt 7)]),qI 9 (.un .not (qt 8)),qM 10 9,qJ 11 (.fA 0 (qt 1)) 10 false,qJ 12 (.fA 1 (qt 11)) 10 false,
 qJ 13 (.ld none (qt 12)) 10 false,qJ 14 (.call (qF 59) [(qt 13),(qN 3),(qF 60)]) 10 false,qJ 15 (.un .not (qt 14)) 10 false,qI 16 (.pick (qt 10) (.con (.bool true)) (qt 15)),
 qM 17 16,qJ 18 (.fA 0 (qt 1)) 17 false,qJ 19 (.fA 2 (qt 18)) 17 false,qJ 20 (.ld none (qt 19)) 17 false,qJ 21 (.call (qF 59) [(qt 20),(qN 4),(qF 58)]) 17 false,
 qJ 22 (.un .not (qt 21)) 17 false,qI 23 (.pick (qt 17) (.con (.bool true)) (qt 22))]
def c26_r4:List EI:=[qM 29 3,qI 30 (.bin .leq (qt 29) (qN 240)),qM 31 30,qJ 32 (.mv (qt 4)) 31 true,qJ 33 (.bin .leq (qt 32) (qN 40)) 31 true,
 qI 34 (.pick (qt 31) (qt 33) (.con (.bool false))),qM 35 34,qJ 36 (.fA 0 (qt 1)) 35 true,qJ 37 (.ld (some 8) (qt 36)) 35 true,qJ 38 (.call (qF 62) [(qt 37)]) 35 true,
 qJ 39 (.call (qF 41) [(qt 38),(qF 42)]) 35 true,qI 40 (.pick (qt 35) (qt 39) (.con (.bool false))),qM 41 40,qJ 42 (.fA 8 (qt 1)) 41 true,qJ 43 (.ld (some 7) (qt 42)) 41 true,
 qJ 44 (.call (qF 22) [(qt 43)]) 41 true,qI 45 (.pick (qt 41) (qt 44) (.con (.bool false))),qM 2 45]
def c26_b:EC:=(.seq (.reg 0 [qI 1 (.boxI 38 (qt 0)),qI 2 (.mv (.con (.bool false)))] false (some [1]))
 (.seq (.seq (.reg 1 c26_r1 false (some [1,23]))
 (.cond (qt 23) (.seq (.reg 2 [qI 2 (.mv (.con (.bool false)))] false (some [2]))
 .ret) .skip))
 (.seq (.reg 3 [qD 25 15 1,qI 26 (.call (qF 61) [(qt 25)]),qM 24 26,qI 27 (.ext (qt 24) 0),qI 28 (.ext (qt 24) 1),qM 3 27,qM 4 28] false (some [1,3,4]))
 (.seq (.reg 4 c26_r4 false (some [2]))
 .ret))))
def c26:EFn:=⟨1,46,[.tmp 2],c26_b,none,true⟩
theorem c26_ok:cFn Tryz.prog Tryz.f26=some c26.strip:=by kernel_rfl
def c27_b:EC:=(.seq (.reg 0 [qI 3 (.boxI 9 (qt 1)),qI 4 (.mv (.con (.str ⟨#[]⟩)))] false (some [0,3]))
 (.seq (.reg 1 [qM 5 0,qI 6 (.fnv 64 [] [(qt 3)]),qI 7 (.call (qF 63) [(qt 5),(qt 6)]),qM 4 7] false (some [4]))
 .ret))
def c27:EFn:=⟨2,8,[.tmp 4],c27_b,none,true⟩
theorem c27_ok:cFn Tryz.prog Tryz.f27=some c27.strip:=by kernel_rfl
def c28_b:EC:=(.seq (.reg 0 [qI 1 (.boxI 34 (qt 0)),qI 2 (.mv (.con (.str ⟨#[]⟩)))] false (some [1]))
 (.seq (.seq (.reg 1 [qD 3 5 1,qI 4 (.call (qF 65) [(qt 3)]),qI 5 (.un .not (qt 4))] false (some [1,5]))
 (.cond (qt 5) (.seq (.reg 2 [qI 2 (.mv (.con (.str ⟨#[]⟩)))] false (some [2]))
 .ret) .skip))
 (.seq (.reg 3 [qD 6 5 1,qI 7 (.call (qF 66) [(qt 6)]),qM 2 7] false (some [2]))
 .ret)))
def c28:EFn:=⟨1,8,[.tmp 2],c28_b,none,true⟩
theorem c28_ok:cFn Tryz.prog Tryz.f28=some c28.strip:=by kernel_rfl
def c31_r1:List EI:=[qA 5 0 1,qL 6 5,qI 7 (.call (qF 69) [(qt 6)]),qI 8 (.un .not (qt 7)),qM 9 8,qJ 10 (.fA 1 (qt 1)) 9 false,qJ 11 (.ld none (qt 10)) 9 false,
 qJ 12 (.len false (qt 11)) 9 false,qJ 13 (.bin .gtr (qt 12) (qN 3)) 9 false,qI 14 (.pick (qt 9) (.con (.bool true)) (qt 13)),qM 15 14,qJ 16 (.fA 2 (qt 1)) 15 false,
 qJ 17 (.ld none (qt 16)) 15 false,qJ 18 (.len false (qt 17)) 15 false,qJ 19 (.bin .gtr (qt 18) (qN 4)) 15 false,qI 20 (.pick (qt 15) (.con (.bool true)) (qt 19)),
 qM 21 20,qJ 22 (.ld (some 8) (qt 1)) 21 false,qJ 23 (.call (qF 71) [(qt 22)]) 21 false,qJ 24 (.call (qF 70) [(qt 23)]) 21 false,qJ 25 (.un .not (qt 24)) 21 false,
 qI 26 (.pick (qt 21) (.con (.bool true)) (qt 25))]
def c31_r6:List EI:=[⟨some 34,.fA 1 (qt 1),none,⟨.no,false⟩⟩,
 ⟨some 35,.ld none (qt 34),none,⟨.no,false⟩⟩,qM 36 3,qI 37 (.ixL 6 (qt 35) (qt 36)),qA 38 0 37,qL 39 38,qI 40 (.call (qF 72) [(qt 39)]),qI 41 (.un .not (qt 40)),
 qM 42 41,
 ⟨some 43,.fA 1 (qt 1),some (42,false),⟨.no,false⟩⟩,
 ⟨some 44,.ld none (qt 43),some (42,false),⟨.still,false⟩⟩,
 ⟨some 45,.mv (qt 3),some (42,false),⟨.no,false⟩⟩,
 ⟨some 46,.slL 6 (qt 44) none (some (qt 45)) none,some (42,false),⟨.no,false⟩⟩,
 ⟨some 47,.call (qF 74) [(qt 46)],some (42,false),⟨.still,false⟩⟩,
 ⟨some 48,.fA 1 (qt 1),some (42,false),⟨.no,false⟩⟩,
 ⟨some 49,.ld none (qt 48),some (42,false),⟨.still,false⟩⟩,qJ 50 (.mv (qt 3)) 42 false,qJ 51 (.ixL 6 (qt 49) (qt 50)) 42 false,qJ 52 (.fA 0 (qt 51)) 42 false,
 ⟨some 53,.ld none (qt 52),some (42,false),Q1⟩,qJ 54 (.call (qF 73) [(qt 47),(qt 53)]) 42 false,qJ 55 (.bin .geq (qt 54) (qN 0)) 42 false,qI 56 (.pick (qt 42) (.con (.bool true)) (qt 55))]
def c31_r11:List EI:=[⟨some 64,.fA 2 (qt 1),none,⟨.no,false⟩⟩,
 ⟨some 65,.ld none (qt 64),none,⟨.no,false⟩⟩,qM 66 4,qI 67 (.ixL 6 (qt 65) (qt 66)),qA 68 0 67,qL 69 68,qI 70 (.call (qF 69) [(qt 69)]),qI 71 (.un .not (qt 70)),
 qM 72 71,
 ⟨some 73,.fA 2 (qt 1),some (72,false),⟨.no,false⟩⟩,
 ⟨some 74,.ld none (qt 73),some (72,false),⟨.still,false⟩⟩,
 ⟨some 75,.mv (qt 4),some (72,false),⟨.no,false⟩⟩,
 ⟨some 76,.slL 6 (qt 74) none (some (qt 75)) none,some (72,false),⟨.no,false⟩⟩,
 ⟨some 77,.call (qF 74) [(qt 76)],some (72,false),⟨.still,false⟩⟩,
 ⟨some 78,.fA 2 (qt 1),some (72,false),⟨.no,false⟩⟩,
 ⟨some 79,.ld none (qt 78),some (72,false),⟨.still,false⟩⟩,qJ 80 (.mv (qt 4)) 72 false,qJ 81 (.ixL 6 (qt 79) (qt 80)) 72 false,qJ 82 (.fA 0 (qt 81)) 72 false,
 ⟨some 83,.ld none (qt 82),some (72,false),Q1⟩,qJ 84 (.call (qF 73) [(qt 77),(qt 83)]) 72 false,qJ 85 (.bin .geq (qt 84) (qN 0)) 72 false,qI 86 (.pick (qt 72) (.con (.bool true)) (qt 85))]
def c31_l0_b:EC:=(.seq (.seq (.reg 4 [qM 27 3,qA 28 1 1,qL 29 28,qI 30 (.len false (qt 29)),qI 31 (.bin .lss (qt 27) (qt 30))] false (some [1,3,31]))
 (.cond (qt 31) .skip (.exit 0)))
 (.seq (.block 1 (.seq (.reg 6 c31_r6 true (some [1,3,56]))
 (.cond (qt 56) (.seq (.reg 7 [qI 2 (.mv (.con (.bool false)))] false (some [2]))
 .ret) .skip)))
 (.reg 5 [qM 32 3,qI 33 (.bin .add (qt 32) (qN 1)),qM 3 33] false (some [1,3]))))
def c31_l0:EC:= .loop (some [1,3]) c31_l0_b
def c31_l1_b:EC:=(.seq (.seq (.reg 9 [qM 57 4,qA 58 2 1,qL 59 58,qI 60 (.len false (qt 59)),qI 61 (.bin .lss (qt 57) (qt 60))] false (some [1,4,61]))
 (.cond (qt 61) .skip (.exit 2)))
 (.seq (.block 3 (.seq (.reg 11 c31_r11 true (some [1,4,86]))
 (.cond (qt 86) (.seq (.reg 12 [qI 2 (.mv (.con (.bool false)))] false (some [2]))
 .ret) .skip)))
 (.reg 10 [qM 62 4,qI 63 (.bin .add (qt 62) (qN 1)),qM 4 63] false (some [1,4]))))
def c31_l1:EC:= .loop (some [1,4]) c31_l1_b
def c31_b:EC:=(.seq (.reg 0 [qI 1 (.boxI 36 (qt 0)),qI 2 (.mv (.con (.bool false)))] false (some [1]))
 (.seq (.seq (.reg 1 c31_r1 false (some [1,26]))
 (.cond (qt 26) (.seq (.reg 2 [qI 2 (.mv (.con (.bool false)))] false (some [2]))
 .ret) .skip))
 (.seq (.seq (.reg 3 [qI 3 (.mv (qN 0))] false (some [1,3]))
 (.block 0 c31_l0))
 (.seq (.seq (.reg 8 [qI 4 (.mv (qN 0))] false (some [1,4]))
 (.block 2 c31_l1))
 (.seq (.reg 13 [qI 2 (.mv (.con (.bool true)))] false (some [2]))
 .ret)))))
def c31:EFn:=⟨1,87,[.tmp 2],c31_b,none,true⟩
theorem c31_l0_w {E:Env} {fin:Kont (PV×St)} {st:List Fw} {ts:Tmps} {S:St}:run E fin st c31_l0 ts S=run E fin (.again c31_l0::st) c31_l0_b (sel (some [1,3]) ts) S:=w_loop
theorem c31_l0_a {E:Env} {fin:Kont (PV×St)} {st:List Fw} {ts:Tmps} {S:St}:aft E fin (.again c31_l0::st) .normal ts S=run E fin st c31_l0 (sel (some [1,3]) ts) S:=a_again_s
theorem c31_l1_w {E:Env} {fin:Kont (PV×St)} {st:List Fw} {ts:Tmps} {S:St}:run E fin st c31_l1 ts S=run E fin (.again c31_l1::st) c31_l1_b (sel (some [1,4]) ts) S:=w_loop
theorem c31_l1_a {E:Env} {fin:Kont (PV×St)} {st:List Fw} {ts:Tmps} {S:St}:aft E fin (.again c31_l1::st) .normal ts S=run E fin st c31_l1 (sel (some [1,4]) ts) S:=a_again_s
theorem c31_ok:cFn Tryz.prog Tryz.f31=some c31.strip:=by kernel_rfl
def c32_l0_b:EC:=(.seq (.seq (.reg 5 [qM 17 7,qM 18 6,qI 19 (.len false (qt 18)),qI 20 (.bin .lss (qt 17) (qt 19))] false (some [4,5,6,7,20]))
 (.cond (qt 20) .skip (.exit 0)))
 (.seq (.block 1 (.seq (.reg 7 [qM 23 4,qM 24 6,qM 25 7,qI 26 (.ixL 5 (qt 24) (qt 25)),qD 27 5 26,qI 28 (.call (qF 77) [(qt 27)]),qI 29 (.bin .add (qt 23) (qt 28)),
 qM 4 29] false (some [4,5,6,7]))
 (.reg 8 [qM 30 5,qM 31 6,qM 32 7,qI 33 (.ixL 5 (qt 31) (qt 32)),qD 34 5 33,qI 35 (.call (qF 78) [(qt 34)]),qI 36 (.mx false (qt 30) (qt 35)),
 qM 5 36] false (some [4,5,6,7]))))
 (.reg 6 [qM 21 7,qI 22 (.bin .add (qt 21) (qN 1)),qM 7 22] false (some [4,5,6,7]))))
def c32_l0:EC:= .loop (some [4,5,6,7]) c32_l0_b
def c32_b:EC:=(.seq (.reg 0 [qI 1 (.boxI 38 (qt 0)),qI 2 (.mv (qN 0)),qI 3 (.mv (qN 0))] false (some [1]))
 (.seq (.reg 1 [qA 8 8 1,qD 9 7 8,qI 10 (.call (qF 75) [(qt 9)]),qM 4 10] false (some [1,4]))
 (.seq (.reg 2 [qA 11 8 1,qD 12 7 11,qI 13 (.call (qF 76) [(qt 12)]),qM 5 13] false (some [1,4,5]))
 (.seq (.reg 3 [qA 14 0 1,qD 15 8 14,qI 16 (.call (qF 71) [(qt 15)]),qM 6 16] false (some [4,5,6]))
 (.seq (.seq (.reg 4 [qI 7 (.mv (qN 0))] false (some [4,5,6,7]))
 (.block 0 c32_l0))
 (.seq (.reg 9 [qM 37 4,qM 38 5,qM 2 37,qM 3 38] false (some [2,3]))
 .ret))))))
def c32:EFn:=⟨1,39,[.tmp 2,.tmp 3],c32_b,none,true⟩
theorem c32_l0_w {E:Env} {fin:Kont (PV×St)} {st:List Fw} {ts:Tmps} {S:St}:run E fin st c32_l0 ts S=run E fin (.again c32_l0::st) c32_l0_b (sel (some [4,5,6,7]) ts) S:=w_loop
theorem c32_l0_a {E:Env} {fin:Kont (PV×St)} {st:List Fw} {ts:Tmps} {S:St}:aft E fin (.again c32_l0::st) .normal ts S=run E fin st c32_l0 (sel (some [4,5,6,7]) ts) S:=a_again_s
theorem c32_ok:cFn Tryz.prog Tryz.f32=some c32.strip:=by kernel_rfl
def c33_r1:List EI:=[qA 5 0 2,qL 6 5,qA 7 0 3,qL 8 7,qI 9 (.bin .eql (qt 6) (qt 8)),qM 10 9,qJ 11 (.fA 1 (qt 2)) 10 true,qJ 12 (.ld none (qt 11)) 10 true,
 qJ 13 (.fA 1 (qt 3)) 10 true,qJ 14 (.ld none (qt 13)) 10 true,qJ 15 (.call (qF 79) [(qt 12),(qt 14)]) 10 true,qI 16 (.pick (qt 10) (qt 15) (.con (.bool false))),
 qM 17 16,qJ 18 (.fA 2 (qt 2)) 17 true,qJ 19 (.ld none (qt 18)) 17 true,qJ 20 (.fA 2 (qt 3)) 17 true,qJ 21 (.ld none (qt 20)) 17 true,qJ 22 (.call (qF 79) [(qt 19),(qt 21)]) 17 true,
 qI 23 (.pick (qt 17) (qt 22) (.con (.bool false))),qM 24 23,qJ 25 (.fA 3 (qt 2)) 24 true,qJ 26 (.ld (some 5) (qt 25)) 24 true,qJ 27 (.fA 3 (qt 3)) 24 true,
 qJ 28 (.ld (some 5) (qt 27)) 24 true,qJ 29 (.call (qF 80) [(qt 26),(qt 28)]) 24 true,qI 30 (.pick (qt 24) (qt 29) (.con (.bool false))),qM 4 30]
def c33_b:EC:=(.seq (.reg 0 [qI 2 (.boxI 36 (qt 0)),qI 3 (.boxI 36 (qt 1)),qI 4 (.mv (.con (.bool false)))] false (some [2,3]))
 (.seq (.reg 1 c33_r1 false (some [4]))
 .ret))
def c33:EFn:=⟨2,31,[.tmp 4],c33_b,none,true⟩
theorem c33_ok:cFn Tryz.prog Tryz.f33=some c33.strip:=by kernel_rfl
def c34_r1:List EI:=[qA 8 0 1,qL 9 8,qI 10 (.bin .lss (qt 9) (qN 1)),qM 11 10,qJ 12 (.fA 0 (qt 1)) 11 false,qJ 13 (.ld none (qt 12)) 11 false,
 qJ 14 (.bin .gtr (qt 13) (qN 13)) 11 false,qI 15 (.pick (qt 11) (.con (.bool true)) (qt 14))]
def c34_r3:List EI:=[qA 16 0 1,qL 17 16,qI 18 (.bin .eql (qt 17) (qN 4)),qM 19 18,qJ 20 (.fA 0 (qt 1)) 19 false,qJ 21 (.ld none (qt 20)) 19 false,
 qJ 22 (.bin .eql (qt 21) (qN 5)) 19 false,qI 23 (.pick (qt 19) (.con (.bool true)) (qt 22)),qM 24 23,qJ 25 (.fA 0 (qt 1)) 24 false,qJ 26 (.ld none (qt 25)) 24 false,
 qJ 27 (.bin .eql (qt 26) (qN 7)) 24 false,qI 28 (.pick (qt 24) (.con (.bool true)) (qt 27)),qM 29 28,qJ 30 (.fA 0 (qt 1)) 29 false,qJ 31 (.ld none (qt 30)) 29 false,
 qJ 32 (.bin .eql (qt 31) (qN 10)) 29 false,qI 33 (.pick (qt 29) (.con (.bool true)) (qt 32)),qM 34 33,qJ 35 (.fA 0 (qt 1)) 34 false,qJ 36 (.ld none (qt 35)) 34 false,
 qJ 37 (.bin .eql (qt 36) (qN 13)) 34 false,qI 38 (.pick (qt 34) (.con (.bool true)) (qt 37)),qM 3 38]
def c34_r4:List EI:=[qM 39 3,qM 40 39,qJ 41 (.fA 2 (qt 1)) 40 true,qJ 42 (.ld none (qt 41)) 40 true,qJ 43 (.call (qF 69) [(qt 42)]) 40 true,qJ 44 (.un .not (qt 43)) 40 true,
 qI 45 (.pick (qt 40) (qt 44) (.con (.bool false))),qM 46 45,qJ 47 (.mv (qt 3)) 46 false,qJ 48 (.un .not (qt 47)) 46 false,qJ 49 (.mv (qt 48)) 46 false,
 qJ 50 (.fA 0 (qt 1)) 49 true,qJ 51 (.ld none (qt 50)) 49 true,qJ 52 (.bin .neq (qt 51) (qN 3)) 49 true,qJ 53 (.pick (qt 49) (qt 52) (.con (.bool false))) 46 false,
 qJ 54 (.mv (qt 53)) 46 false,qJ 55 (.fA 2 (qt 1)) 54 true,qJ 56 (.ld none (qt 55)) 54 true,qJ 57 (.bin .neq (qt 56) (.con (.str ⟨#[]⟩))) 54 true,
 qJ 58 (.pick (qt 54) (qt 57) (.con (.bool false))) 46 false,qI 59 (.pick (qt 46) (.con (.bool true)) (qt 58)),qM 60 59,qJ 61 (.fA 0 (qt 1)) 60 false,
 qJ 62 (.ld none (qt 61)) 60 false,qJ 63 (.bin .eql (qt 62) (qN 3)) 60 false,qJ 64 (.mv (qt 63)) 60 false,qJ 65 (.fA 2 (qt 1)) 64 true,qJ 66 (.ld none (qt 65)) 64 true,
 qJ 67 (.len true (qt 66)) 64 true,qJ 68 (.bin .gtr (qt 67) (qN 40)) 64 true,qJ 69 (.pick (qt 64) (qt 68) (.con (.bool false))) 60 false,qI 70 (.pick (qt 60) (.con (.bool true)) (qt 69))]
def c34_r6:List EI:=[qA 71 0 1,qL 72 71,qI 73 (.bin .eql (qt 72) (qN 1)),qM 74 73,qJ 75 (.fA 1 (qt 1)) 74 true,qJ 76 (.ld none (qt 75)) 74 true,
 qJ 77 (.bin .lss (qt 76) (qN 0)) 74 true,qI 78 (.pick (qt 74) (qt 77) (.con (.bool false))),qM 79 78,qJ 80 (.fA 0 (qt 1)) 79 false,qJ 81 (.ld none (qt 80)) 79 false,
 qJ 82 (.bin .eql (qt 81) (qN 2)) 79 false,qJ 83 (.mv (qt 82)) 79 false,qJ 84 (.fA 1 (qt 1)) 83 true,qJ 85 (.ld none (qt 84)) 83 true,qJ 86 (.bin .neq (qt 85) (qN 0)) 83 true,
 qJ 87 (.pick (qt 83) (qt 86) (.con (.bool false))) 79 false,qJ 88 (.mv (qt 87)) 79 false,qJ 89 (.fA 1 (qt 1)) 88 true,qJ 90 (.ld none (qt 89)) 88 true,
 qJ 91 (.bin .neq (qt 90) (qN 1)) 88 true,qJ 92 (.pick (qt 88) (qt 91) (.con (.bool false))) 79 false,qI 93 (.pick (qt 79) (.con (.bool true)) (qt 92)),
 qM 94 93,qJ 95 (.fA 0 (qt 1)) 94 false,qJ 96 (.ld none (qt 95)) 94 false,qJ 97 (.bin .eql (qt 96) (qN 11)) 94 false,qJ 98 (.mv (qt 97)) 94 false,
 qJ 99 (.fA 1 (qt 1)) 98 true,qJ 100 (.ld none (qt 99)) 98 true,qJ 101 (.bin .lss (qt 100) (qN 1)) 98 true,qJ 102 (.mv (qt 101)) 98 true,qJ 103 (.fA 1 (qt 1)) 102 false,
 qJ 104 (.ld none (qt 103)) 102 false,qJ 105 (.bin .gtr (qt 104) (qN 7)) 102 false,qJ 106 (.pick (qt 102) (.con (.bool true)) (qt 105)) 98 true,qJ 107 (.pick (qt 98) (qt 106) (.con (.bool false))) 94 false,
 qI 108 (.pick (qt 94) (.con (.bool true)) (qt 107))]
def c34_r8:List EI:=[qA 109 0 1,qL 110 109,qI 111 (.bin .neq (qt 110) (qN 1)),qM 112 111,qJ 113 (.fA 0 (qt 1)) 112 true,qJ 114 (.ld none (qt 113)) 112 true,
 qJ 115 (.bin .neq (qt 114) (qN 2)) 112 true,qI 116 (.pick (qt 112) (qt 115) (.con (.bool false))),qM 117 116,qJ 118 (.fA 0 (qt 1)) 117 true,qJ 119 (.ld none (qt 118)) 117 true,
 qJ 120 (.bin .neq (qt 119) (qN 11)) 117 true,qI 121 (.pick (qt 117) (qt 120) (.con (.bool false))),qM 122 121,qJ 123 (.fA 1 (qt 1)) 122 true,qJ 124 (.ld none (qt 123)) 122 true,
 qJ 125 (.bin .neq (qt 124) (qN 0)) 122 true,qI 126 (.pick (qt 122) (qt 125) (.con (.bool false))),qM 127 126,qJ 128 (.fA 0 (qt 1)) 127 false,qJ 129 (.ld none (qt 128)) 127 false,
 qJ 130 (.bin .neq (qt 129) (qN 13)) 127 false,qJ 131 (.mv (qt 130)) 127 false,qJ 132 (.fA 3 (qt 1)) 131 true,qJ 133 (.ld none (qt 132)) 131 true,
 qJ 134 (.pick (qt 131) (qt 133) (.con (.bool false))) 127 false,qI 135 (.pick (qt 127) (.con (.bool true)) (qt 134))]
def c34_r10:List EI:=[qA 136 0 1,qL 137 136,qI 138 (.bin .neq (qt 137) (qN 9)),qM 139 138,qJ 140 (.fA 5 (qt 1)) 139 true,qJ 141 (.ld none (qt 140)) 139 true,
 qJ 142 (.len false (qt 141)) 139 true,qJ 143 (.bin .gtr (qt 142) (qN 0)) 139 true,qI 144 (.pick (qt 139) (qt 143) (.con (.bool false))),qM 145 144,
 qJ 146 (.fA 5 (qt 1)) 145 false,qJ 147 (.ld none (qt 146)) 145 false,qJ 148 (.call (qF 81) [(qt 147)]) 145 false,qJ 149 (.un .not (qt 148)) 145 false,
 qI 150 (.pick (qt 145) (.con (.bool true)) (qt 149)),qM 151 150,qJ 152 (.fA 5 (qt 1)) 151 false,qJ 153 (.ld none (qt 152)) 151 false,qJ 154 (.len false (qt 153)) 151 false,
 qJ 155 (.bin .gtr (qt 154) (qN 6)) 151 false,qI 156 (.pick (qt 151) (.con (.bool true)) (qt 155))]
def c34_r13:List EI:=[qA 164 4 1,qL 165 164,qI 166 (.len false (qt 165)),qM 167 4,qI 168 (.bin .geq (qt 166) (qt 167)),qM 169 168,qJ 170 (.fA 4 (qt 1)) 169 true,
 qJ 171 (.ld none (qt 170)) 169 true,qJ 172 (.len false (qt 171)) 169 true,qJ 173 (.mv (qt 5)) 169 true,qJ 174 (.bin .leq (qt 172) (qt 173)) 169 true,
 qI 175 (.pick (qt 169) (qt 174) (.con (.bool false))),qM 176 175,qJ 177 (.fA 6 (qt 1)) 176 true,qJ 178 (.ld none (qt 177)) 176 true,qJ 179 (.len false (qt 178)) 176 true,
 qJ 180 (.mv (qt 6)) 176 true,qJ 181 (.bin .geq (qt 179) (qt 180)) 176 true,qI 182 (.pick (qt 176) (qt 181) (.con (.bool false))),qM 183 182,qJ 184 (.fA 6 (qt 1)) 183 true,
 qJ 185 (.ld none (qt 184)) 183 true,qJ 186 (.len false (qt 185)) 183 true,qJ 187 (.mv (qt 7)) 183 true,qJ 188 (.bin .leq (qt 186) (qt 187)) 183 true,
 qI 189 (.pick (qt 183) (qt 188) (.con (.bool false))),qM 190 189,qJ 191 (.fA 4 (qt 1)) 190 true,qJ 192 (.ld none (qt 191)) 190 true,qJ 193 (.call (qF 70) [(qt 192)]) 190 true,
 qI 194 (.pick (qt 190) (qt 193) (.con (.bool false))),qM 2 194]
def c34_b:EC:=(.seq (.reg 0 [qI 1 (.boxI 26 (qt 0)),qI 2 (.mv (.con (.bool false)))] false (some [1]))
 (.seq (.seq (.reg 1 c34_r1 false (some [1,15]))
 (.cond (qt 15) (.seq (.reg 2 [qI 2 (.mv (.con (.bool false)))] false (some [2]))
 .ret) .skip))
 (.seq (.reg 3 c34_r3 false (some [1,3]))
 (.seq (.seq (.reg 4 c34_r4 false (some [1,70]))
 (.cond (qt 70) (.seq (.reg 5 [qI 2 (.mv (.con (.bool false)))] false (some [2]))
 .ret) .skip))
 (.seq (.seq (.reg 6 c34_r6 false (some [1,108]))
 (.cond (qt 108) (.seq (.reg 7 [qI 2 (.mv (.con (.bool false)))] false (some [2]))
 .ret) .skip))
 (.seq (.seq (.reg 8 c34_r8 false (some [1,135]))
 (.cond (qt 135) (.seq (.reg 9 [qI 2 (.mv (.con (.bool false)))] false (some [2]))
 .ret) .skip))
 (.seq (.seq (.reg 10 c34_r10 false (some [1,156]))
 (.cond (qt 156) (.seq (.reg 11 [qI 2 (.mv (.con (.bool false)))] false (some [2]))
 .ret) .skip))
 (.seq (.reg 12 [qD 158 7 1,qI 159 (.call (qF 82) [(qt 158)]),qM 157 159,qI 160 (.ext (qt 157) 0),qI 161 (.ext (qt 157) 1),qI 162 (.ext (qt 157) 2),
 qI 163 (.ext (qt 157) 3),qM 4 160,qM 5 161,qM 6 162,qM 7 163] false (some [1,4,5,6,7]))
 (.seq (.reg 13 c34_r13 false (some [2]))
 .ret)))))))))
def c34:EFn:=⟨1,195,[.tmp 2],c34_b,none,true⟩
theorem c34_ok:cFn Tryz.prog Tryz.f34=some c34.strip:=by kernel_rfl
def c35_r4:List EI:=[qM 11 5,qM 12 0,qI 13 (.len false (qt 12)),qI 14 (.bin .lss (qt 11) (qt 13)),qM 15 14,qJ 16 (.mv (qt 5)) 15 true,qJ 17 (.mv (qt 1)) 15 true,
 qJ 18 (.len false (qt 17)) 15 true,qJ 19 (.bin .lss (qt 16) (qt 18)) 15 true,qI 20 (.pick (qt 15) (qt 19) (.con (.bool false)))]
def c35_l0_b:EC:=(.seq (.seq (.reg 4 c35_r4 false (some [0,1,5,20]))
 (.cond (qt 20) .skip (.exit 0)))
 (.seq (.block 1 (.seq (.reg 6 [⟨some 23,.mv (qt 0),none,⟨.no,false⟩⟩,
 ⟨some 24,.mv (qt 5),none,⟨.no,false⟩⟩,
 ⟨some 25,.ixL 5 (qt 23) (qt 24),none,⟨.no,false⟩⟩,
 ⟨some 26,.ld (some 5) (qt 25),none,⟨.still,false⟩⟩,
 ⟨some 27,.mv (qt 1),none,⟨.no,false⟩⟩,qM 28 5,qI 29 (.ixL 5 (qt 27) (qt 28)),
 ⟨some 30,.ld (some 5) (qt 29),none,Q1⟩,qI 31 (.call (qF 80) [(qt 26),(qt 30)]),qI 32 (.un .not (qt 31))] true (some [0,1,5,32]))
 (.cond (qt 32) (.seq (.reg 7 [qI 4 (.mv (.con (.bool false)))] false (some [4]))
 .ret) .skip)))
 (.reg 5 [qM 21 5,qI 22 (.bin .add (qt 21) (qN 1)),qM 5 22] false (some [0,1,5]))))
def c35_l0:EC:= .loop (some [0,1,5]) c35_l0_b
def c35_b:EC:=(.seq (.reg 0 [qI 4 (.mv (.con (.bool false)))] false (some [0,1]))
 (.seq (.seq (.reg 1 [qM 6 0,qI 7 (.len false (qt 6)),qM 8 1,qI 9 (.len false (qt 8)),qI 10 (.bin .neq (qt 7) (qt 9))] false (some [0,1,10]))
 (.cond (qt 10) (.seq (.reg 2 [qI 4 (.mv (.con (.bool false)))] false (some [4]))
 .ret) .skip))
 (.seq (.seq (.reg 3 [qI 5 (.mv (qN 0))] false (some [0,1,5]))
 (.block 0 c35_l0))
 (.seq (.reg 8 [qI 4 (.mv (.con (.bool true)))] false (some [4]))
 .ret))))
def c35:EFn:=⟨2,33,[.tmp 4],c35_b,none,true⟩
theorem c35_l0_w {E:Env} {fin:Kont (PV×St)} {st:List Fw} {ts:Tmps} {S:St}:run E fin st c35_l0 ts S=run E fin (.again c35_l0::st) c35_l0_b (sel (some [0,1,5]) ts) S:=w_loop
theorem c35_l0_a {E:Env} {fin:Kont (PV×St)} {st:List Fw} {ts:Tmps} {S:St}:aft E fin (.again c35_l0::st) .normal ts S=run E fin st c35_l0 (sel (some [0,1,5]) ts) S:=a_again_s
theorem c35_ok:cFn Tryz.prog Tryz.f35=some c35.strip:=by kernel_rfl
def c36_r4:List EI:=[qM 11 5,qM 12 0,qI 13 (.len false (qt 12)),qI 14 (.bin .lss (qt 11) (qt 13)),qM 15 14,qJ 16 (.mv (qt 5)) 15 true,qJ 17 (.mv (qt 1)) 15 true,
 qJ 18 (.len false (qt 17)) 15 true,qJ 19 (.bin .lss (qt 16) (qt 18)) 15 true,qI 20 (.pick (qt 15) (qt 19) (.con (.bool false)))]
def c36_l0_b:EC:=(.seq (.seq (.reg 4 c36_r4 false (some [0,1,5,20]))
 (.cond (qt 20) .skip (.exit 0)))
 (.seq (.block 1 (.seq (.reg 6 [⟨some 23,.mv (qt 0),none,⟨.no,false⟩⟩,
 ⟨some 24,.mv (qt 5),none,⟨.no,false⟩⟩,
 ⟨some 25,.ixL 1 (qt 23) (qt 24),none,⟨.no,false⟩⟩,
 ⟨some 26,.ld none (qt 25),none,⟨.still,false⟩⟩,
 ⟨some 27,.mv (qt 1),none,⟨.no,false⟩⟩,qM 28 5,qI 29 (.ixL 1 (qt 27) (qt 28)),
 ⟨some 30,.ld none (qt 29),none,Q1⟩,qI 31 (.bin .neq (qt 26) (qt 30))] true (some [0,1,5,31]))
 (.cond (qt 31) (.seq (.reg 7 [qI 4 (.mv (.con (.bool false)))] false (some [4]))
 .ret) .skip)))
 (.reg 5 [qM 21 5,qI 22 (.bin .add (qt 21) (qN 1)),qM 5 22] false (some [0,1,5]))))
def c36_l0:EC:= .loop (some [0,1,5]) c36_l0_b
def c36_b:EC:=(.seq (.reg 0 [qI 4 (.mv (.con (.bool false)))] false (some [0,1]))
 (.seq (.seq (.reg 1 [qM 6 0,qI 7 (.len false (qt 6)),qM 8 1,qI 9 (.len false (qt 8)),qI 10 (.bin .neq (qt 7) (qt 9))] false (some [0,1,10]))
 (.cond (qt 10) (.seq (.reg 2 [qI 4 (.mv (.con (.bool false)))] false (some [4]))
 .ret) .skip))
 (.seq (.seq (.reg 3 [qI 5 (.mv (qN 0))] false (some [0,1,5]))
 (.block 0 c36_l0))
 (.seq (.reg 8 [qI 4 (.mv (.con (.bool true)))] false (some [4]))
 .ret))))
def c36:EFn:=⟨2,32,[.tmp 4],c36_b,none,true⟩
theorem c36_l0_w {E:Env} {fin:Kont (PV×St)} {st:List Fw} {ts:Tmps} {S:St}:run E fin st c36_l0 ts S=run E fin (.again c36_l0::st) c36_l0_b (sel (some [0,1,5]) ts) S:=w_loop
theorem c36_l0_a {E:Env} {fin:Kont (PV×St)} {st:List Fw} {ts:Tmps} {S:St}:aft E fin (.again c36_l0::st) .normal ts S=run E fin st c36_l0 (sel (some [0,1,5]) ts) S:=a_again_s
theorem c36_ok:cFn Tryz.prog Tryz.f36=some c36.strip:=by kernel_rfl
def c37_b:EC:=(.seq (.reg 0 [qI 1 (.boxI 26 (qt 0)),qI 2 (.mv (.con (.bool false)))] false (some [1]))
 (.seq (.seq (.reg 1 [qA 3 0 1,qL 4 3] false (some [1,4]))
 (.block 0 (.seq (.seq (.reg 2 [qI 6 (.bin .eql (qt 4) (qN 4)),qM 5 6] false (some [1,4,5]))
 (.cond (qt 5) .skip (.seq (.reg 3 [qI 7 (.bin .eql (qt 4) (qN 5)),qM 5 7] false (some [1,4,5]))
 (.cond (qt 5) .skip (.seq (.reg 4 [qI 8 (.bin .eql (qt 4) (qN 7)),qM 5 8] false (some [1,4,5]))
 (.cond (qt 5) .skip (.seq (.reg 5 [qI 9 (.bin .eql (qt 4) (qN 10)),qM 5 9] false (some [1,4,5]))
 (.cond (qt 5) .skip (.reg 6 [qI 10 (.bin .eql (qt 4) (qN 13)),qM 5 10] false (some [1,4,5]))))))))))
 (.cond (qt 5) (.seq (.reg 7 [qA 11 2 1,qL 12 11,qI 13 (.call (qF 58) [(qt 12)]),qM 2 13] false (some [2]))
 .ret) (.seq (.reg 8 [qI 15 (.bin .eql (qt 4) (qN 3)),qM 14 15] false (some [1,14]))
 (.cond (qt 14) (.seq (.reg 9 [qA 16 2 1,qL 17 16,qI 18 (.len true (qt 17)),qI 19 (.bin .leq (qt 18) (qN 40)),qM 2 19] false (some [2]))
 .ret) .skip))))))
 (.seq (.reg 10 [qA 20 2 1,qL 21 20,qI 22 (.bin .eql (qt 21) (.con (.str ⟨#[]⟩))),qM 2 22] false (some [2]))
 .ret)))
def c37:EFn:=⟨1,23,[.tmp 2],c37_b,none,true⟩
theorem c37_ok:cFn Tryz.prog Tryz.f37=some c37.strip:=by kernel_rfl
def c38_r5:List EI:=[qA 12 1 1,qL 13 12,qI 14 (.bin .eql (qt 13) (qN 0)),qM 15 14,qJ 16 (.fA 1 (qt 1)) 15 false,qJ 17 (.ld none (qt 16)) 15 false,
 qJ 18 (.bin .eql (qt 17) (qN 1)) 15 false,qI 19 (.pick (qt 15) (.con (.bool true)) (qt 18)),qM 2 19]
def c38_r7:List EI:=[qA 22 1 1,qL 23 22,qI 24 (.bin .geq (qt 23) (qN 1)),qM 25 24,qJ 26 (.fA 1 (qt 1)) 25 true,qJ 27 (.ld none (qt 26)) 25 true,
 qJ 28 (.bin .leq (qt 27) (qN 7)) 25 true,qI 29 (.pick (qt 25) (qt 28) (.con (.bool false))),qM 2 29]
def c38_b:EC:=(.seq (.reg 0 [qI 1 (.boxI 26 (qt 0)),qI 2 (.mv (.con (.bool false)))] false (some [1]))
 (.seq (.seq (.reg 1 [qA 3 0 1,qL 4 3] false (some [1,4]))
 (.block 0 (.seq (.reg 2 [qI 6 (.bin .eql (qt 4) (qN 1)),qM 5 6] false (some [1,4,5]))
 (.cond (qt 5) (.seq (.reg 3 [qA 7 1 1,qL 8 7,qI 9 (.bin .geq (qt 8) (qN 0)),qM 2 9] false (some [2]))
 .ret) (.seq (.reg 4 [qI 11 (.bin .eql (qt 4) (qN 2)),qM 10 11] false (some [1,4,10]))
 (.cond (qt 10) (.seq (.reg 5 c38_r5 false (some [2]))
 .ret) (.seq (.reg 6 [qI 21 (.bin .eql (qt 4) (qN 11)),qM 20 21] false (some [1,20]))
 (.cond (qt 20) (.seq (.reg 7 c38_r7 false (some [2]))
 .ret) .skip))))))))
 (.seq (.reg 8 [qA 30 1 1,qL 31 30,qI 32 (.bin .eql (qt 31) (qN 0)),qM 2 32] false (some [2]))
 .ret)))
def c38:EFn:=⟨1,33,[.tmp 2],c38_b,none,true⟩
theorem c38_ok:cFn Tryz.prog Tryz.f38=some c38.strip:=by kernel_rfl
def c39_r9:List EI:=[qA 20 3 1,qL 21 20,qI 22 (.un .not (qt 21)),qM 23 22,qJ 24 (.mv (qt 3)) 23 true,qJ 25 (.bin .eql (qt 24) (qN 0)) 23 true,
 qI 26 (.pick (qt 23) (qt 25) (.con (.bool false))),qM 27 26,qJ 28 (.fA 3 (qt 1)) 27 false,qJ 29 (.ld none (qt 28)) 27 false,qJ 30 (.mv (qt 29)) 27 false,
 qJ 31 (.mv (qt 3)) 30 true,qJ 32 (.bin .geq (qt 31) (qN 1)) 30 true,qJ 33 (.pick (qt 30) (qt 32) (.con (.bool false))) 27 false,qJ 34 (.mv (qt 33)) 27 false,
 qJ 35 (.mv (qt 3)) 34 true,qJ 36 (.bin .leq (qt 35) (qN 3)) 34 true,qJ 37 (.pick (qt 34) (qt 36) (.con (.bool false))) 27 false,qI 38 (.pick (qt 27) (.con (.bool true)) (qt 37)),
 qM 2 38]
def c39_b:EC:=(.seq (.reg 0 [qI 1 (.boxI 26 (qt 0)),qI 2 (.mv (.con (.bool false)))] false (some [1]))
 (.seq (.reg 1 [qA 4 4 1,qL 5 4,qI 6 (.len false (qt 5)),qM 3 6] false (some [1,3]))
 (.seq (.seq (.reg 2 [qA 7 0 1,qL 8 7] false (some [1,3,8]))
 (.block 0 (.seq (.seq (.reg 3 [qI 10 (.bin .eql (qt 8) (qN 5)),qM 9 10] false (some [1,3,8,9]))
 (.cond (qt 9) .skip (.reg 4 [qI 11 (.bin .eql (qt 8) (qN 7)),qM 9 11] false (some [1,3,8,9]))))
 (.cond (qt 9) (.seq (.reg 5 [qM 12 3,qI 13 (.bin .leq (qt 12) (qN 1)),qM 2 13] false (some [2]))
 .ret) (.seq (.reg 6 [qI 15 (.bin .eql (qt 8) (qN 12)),qM 14 15] false (some [1,3,8,14]))
 (.cond (qt 14) (.seq (.reg 7 [qM 16 3,qI 17 (.bin .eql (qt 16) (qN 1)),qM 2 17] false (some [2]))
 .ret) (.seq (.reg 8 [qI 19 (.bin .eql (qt 8) (qN 13)),qM 18 19] false (some [1,3,18]))
 (.cond (qt 18) (.seq (.reg 9 c39_r9 false (some [2]))
 .ret) .skip))))))))
 (.seq (.reg 10 [qM 39 3,qI 40 (.bin .eql (qt 39) (qN 0)),qM 2 40] false (some [2]))
 .ret))))
def c39:EFn:=⟨1,41,[.tmp 2],c39_b,none,true⟩
theorem c39_ok:cFn Tryz.prog Tryz.f39=some c39.strip:=by kernel_rfl
def c40_r19:List EI:=[qM 34 3,qA 35 5 1,qL 36 35,qI 37 (.len false (qt 36)),qI 38 (.bin .eql (qt 34) (qt 37)),qM 39 38,qJ 40 (.mv (qt 3)) 39 true,
 qJ 41 (.bin .leq (qt 40) (qN 6)) 39 true,qI 42 (.pick (qt 39) (qt 41) (.con (.bool false))),qM 43 42,qJ 44 (.fA 5 (qt 1)) 43 true,qJ 45 (.ld none (qt 44)) 43 true,
 qJ 46 (.call (qF 83) [(qt 45)]) 43 true,qI 47 (.pick (qt 43) (qt 46) (.con (.bool false))),qM 2 47]
def c40_b:EC:=(.seq (.reg 0 [qI 1 (.boxI 26 (qt 0)),qI 2 (.mv (.con (.bool false)))] false (some [1]))
 (.seq (.reg 1 [qA 4 6 1,qL 5 4,qI 6 (.len false (qt 5)),qM 3 6] false (some [1,3]))
 (.seq (.seq (.reg 2 [qA 7 0 1,qL 8 7] false (some [1,3,8]))
 (.block 0 (.seq (.seq (.reg 3 [qI 10 (.bin .eql (qt 8) (qN 1)),qM 9 10] false (some [1,3,8,9]))
 (.cond (qt 9) .skip (.seq (.reg 4 [qI 11 (.bin .eql (qt 8) (qN 2)),qM 9 11] false (some [1,3,8,9]))
 (.cond (qt 9) .skip (.seq (.reg 5 [qI 12 (.bin .eql (qt 8) (qN 3)),qM 9 12] false (some [1,3,8,9]))
 (.cond (qt 9) .skip (.reg 6 [qI 13 (.bin .eql (qt 8) (qN 4)),qM 9 13] false (some [1,3,8,9]))))))))
 (.cond (qt 9) (.seq (.reg 7 [qM 14 3,qI 15 (.bin .eql (qt 14) (qN 0)),qM 2 15] false (some [2]))
 .ret) (.seq (.seq (.reg 8 [qI 17 (.bin .eql (qt 8) (qN 7)),qM 16 17] false (some [1,3,8,16]))
 (.cond (qt 16) .skip (.seq (.reg 9 [qI 18 (.bin .eql (qt 8) (qN 10)),qM 16 18] false (some [1,3,8,16]))
 (.cond (qt 16) .skip (.reg 10 [qI 19 (.bin .eql (qt 8) (qN 12)),qM 16 19] false (some [1,3,8,16]))))))
 (.cond (qt 16) (.seq (.reg 11 [qM 20 3,qI 21 (.bin .eql (qt 20) (qN 1)),qM 2 21] false (some [2]))
 .ret) (.seq (.seq (.reg 12 [qI 23 (.bin .eql (qt 8) (qN 5)),qM 22 23] false (some [1,3,8,22]))
 (.cond (qt 22) .skip (.seq (.reg 13 [qI 24 (.bin .eql (qt 8) (qN 8)),qM 22 24] false (some [1,3,8,22]))
 (.cond (qt 22) .skip (.reg 14 [qI 25 (.bin .eql (qt 8) (qN 11)),qM 22 25] false (some [1,3,8,22]))))))
 (.cond (qt 22) (.seq (.reg 15 [qM 26 3,qI 27 (.bin .eql (qt 26) (qN 2)),qM 2 27] false (some [2]))
 .ret) (.seq (.reg 16 [qI 29 (.bin .eql (qt 8) (qN 6)),qM 28 29] false (some [1,3,8,28]))
 (.cond (qt 28) (.seq (.reg 17 [qM 30 3,qI 31 (.bin .eql (qt 30) (qN 3)),qM 2 31] false (some [2]))
 .ret) (.seq (.reg 18 [qI 33 (.bin .eql (qt 8) (qN 9)),qM 32 33] false (some [1,3,8,32]))
 (.cond (qt 32) (.seq (.reg 19 c40_r19 false (some [2]))
 .ret) (.seq (.reg 20 [qI 49 (.bin .eql (qt 8) (qN 13)),qM 48 49] false (some [3,48]))
 (.cond (qt 48) (.seq (.reg 21 [qM 50 3,qI 51 (.bin .leq (qt 50) (qN 4)),qM 2 51] false (some [2]))
 .ret) .skip))))))))))))))
 (.seq (.reg 22 [qI 2 (.mv (.con (.bool false)))] false (some [2]))
 .ret))))
def c40:EFn:=⟨1,52,[.tmp 2],c40_b,none,true⟩
theorem c40_ok:cFn Tryz.prog Tryz.f40=some c40.strip:=by kernel_rfl
def c41_b:EC:=(.seq (.reg 0 [qI 3 (.boxI 58 (qt 1)),qI 4 (.mv (.con (.bool false)))] false (some [0,3]))
 (.seq (.reg 1 [qM 5 0,qI 6 (.fnv 85 [] [(qt 3)]),qI 7 (.call (qF 84) [(qt 5),(qt 6)]),qI 8 (.un .not (qt 7)),qM 4 8] false (some [4]))
 .ret))
def c41:EFn:=⟨2,9,[.tmp 4],c41_b,none,true⟩
theorem c41_ok:cFn Tryz.prog Tryz.f41=some c41.strip:=by kernel_rfl
def c42_r1:List EI:=[qD 3 5 1,qI 4 (.call (qF 65) [(qt 3)]),qM 5 4,qJ 6 (.ld (some 5) (qt 1)) 5 true,qJ 7 (.call (qF 86) [(qt 6),(qN 9)]) 5 true,
 qJ 8 (.un .not (qt 7)) 5 true,qI 9 (.pick (qt 5) (qt 8) (.con (.bool false))),qM 2 9]
def c42_b:EC:=(.seq (.reg 0 [qI 1 (.boxI 34 (qt 0)),qI 2 (.mv (.con (.bool false)))] false (some [1]))
 (.seq (.reg 1 c42_r1 false (some [2]))
 .ret))
def c42:EFn:=⟨1,10,[.tmp 2],c42_b,none,true⟩
theorem c42_ok:cFn Tryz.prog Tryz.f42=some c42.strip:=by kernel_rfl
def c43_b:EC:=(.seq (.reg 0 [qI 3 (.boxI 44 (qt 1)),qI 4 (.mv (.con (.bool false)))] false (some [0,3]))
 (.seq (.reg 1 [qM 5 0,qI 6 (.fnv 88 [] [(qt 3)]),qI 7 (.call (qF 87) [(qt 5),(qt 6)]),qI 8 (.un .not (qt 7)),qM 4 8] false (some [4]))
 .ret))
def c43:EFn:=⟨2,9,[.tmp 4],c43_b,none,true⟩
theorem c43_ok:cFn Tryz.prog Tryz.f43=some c43.strip:=by kernel_rfl
def c44_b:EC:=(.seq (.reg 0 [qI 1 (.boxI 26 (qt 0)),qI 2 (.mv (.con (.str ⟨#[]⟩)))] false (some [1]))
 (.seq (.seq (.reg 1 [qA 3 4 1,qL 4 3,qI 5 (.len false (qt 4)),qI 6 (.bin .eql (qt 5) (qN 0))] false (some [1,6]))
 (.cond (qt 6) (.seq (.reg 2 [qA 7 2 1,qL 8 7,qM 2 8] false (some [2]))
 .ret) .skip))
 (.seq (.reg 3 [⟨some 9,.fA 2 (qt 1),none,⟨.no,false⟩⟩,
 ⟨some 10,.ld none (qt 9),none,⟨.still,false⟩⟩,
 ⟨some 11,.bin .add (qt 10) (.con (.str ⟨#[58,32]⟩)),none,⟨.no,false⟩⟩,qA 12 4 1,
 ⟨some 13,.ld none (qt 12),none,Q1⟩,qI 14 (.ixL 5 (qt 13) (qN 0)),
 ⟨some 15,.ld (some 5) (qt 14),none,Q1⟩,
 ⟨some 16,.call (qF 28) [(qt 15)],none,Q1⟩,qI 17 (.bin .add (qt 11) (qt 16)),qM 2 17] true (some [2]))
 .ret)))
def c44:EFn:=⟨1,18,[.tmp 2],c44_b,none,true⟩
theorem c44_ok:cFn Tryz.prog Tryz.f44=some c44.strip:=by kernel_rfl
def c45_b:EC:=(.seq (.reg 0 [qI 2 (.boxI 26 (qt 0)),qI 4 (.mv (.con (.str ⟨#[]⟩)))] false (some [1,2]))
 (.seq (.seq (.reg 1 [qD 5 7 2,qI 6 (.call (qF 89) [(qt 5)]),qM 7 1,qI 8 (.bin .lss (qt 6) (qt 7))] false (some [2,8]))
 (.cond (qt 8) (.seq (.regP 2 [qD 9 7 2,qI 10 (.call (qF 23) [(qt 9)]),qI 11 (.bin .add (.con (.str ⟨#[40]⟩)) (qt 10)),qI 12 (.bin .add (qt 11) (.con (.str ⟨#[41]⟩))),
 qM 4 12] false (some [4]))
 .ret) .skip))
 (.seq (.regP 3 [qD 13 7 2,qI 14 (.call (qF 23) [(qt 13)]),qM 4 14] false (some [4]))
 .ret)))
def c45:EFn:=⟨2,15,[.tmp 4],c45_b,none,true⟩
theorem c45_ok:cFn Tryz.prog Tryz.f45=some c45.strip:=by kernel_rfl
def c46_b:EC:=(.seq (.reg 0 [qI 1 (.boxI 26 (qt 0)),qI 2 (.mv (.con (.str ⟨#[]⟩)))] false (some [1]))
 (.seq (.reg 1 [qD 4 7 1,qI 5 (.call (qF 89) [(qt 4)]),qM 3 5] false (some [1,3]))
 (.seq (.regP 2 [⟨some 6,.fA 6 (qt 1),none,⟨.no,false⟩⟩,
 ⟨some 7,.ld none (qt 6),none,⟨.still,false⟩⟩,
 ⟨some 8,.ixL 7 (qt 7) (qN 0),none,⟨.no,false⟩⟩,
 ⟨some 9,.ld (some 7) (qt 8),none,⟨.still,false⟩⟩,
 ⟨some 10,.mv (qt 3),none,⟨.no,false⟩⟩,
 ⟨some 11,.mx false (qt 10) (qN 2),none,⟨.no,false⟩⟩,
 ⟨some 12,.call (qF 45) [(qt 9),(qt 11)],none,⟨.still,false⟩⟩,
 ⟨some 13,.bin .add (qt 12) (.con (.str ⟨#[32]⟩)),none,⟨.no,false⟩⟩,
 ⟨some 14,.fA 1 (qt 1),none,⟨.no,false⟩⟩,
 ⟨some 15,.ld none (qt 14),none,⟨.still,false⟩⟩,
 ⟨some 16,.call (qF 10) [(qt 15)],none,⟨.still,false⟩⟩,
 ⟨some 17,.bin .add (qt 13) (qt 16),none,⟨.no,false⟩⟩,
 ⟨some 18,.bin .add (qt 17) (.con (.str ⟨#[32]⟩)),none,⟨.no,false⟩⟩,
 ⟨some 19,.fA 6 (qt 1),none,⟨.no,false⟩⟩,
 ⟨some 20,.ld none (qt 19),none,⟨.still,false⟩⟩,
 ⟨some 21,.ixL 7 (qt 20) (qN 1),none,⟨.no,false⟩⟩,
 ⟨some 22,.ld (some 7) (qt 21),none,⟨.still,false⟩⟩,qM 23 3,qI 24 (.bin .add (qt 23) (qN 1)),qI 25 (.call (qF 45) [(qt 22),(qt 24)]),qI 26 (.bin .add (qt 18) (qt 25)),
 qM 2 26] true (some [2]))
 .ret)))
def c46:EFn:=⟨1,27,[.tmp 2],c46_b,none,true⟩
theorem c46_ok:cFn Tryz.prog Tryz.f46=some c46.strip:=by kernel_rfl
def c47_l0_b:EC:=(.seq (.reg 3 [qI 12 (.bin .lss (qt 11) (qt 10))] false (some [1,5,9,10,11,12]))
 (.seq (.cond (qt 12) .skip (.exit 0))
 (.seq (.block 1 (.seq (.reg 4 [qM 13 11,qI 14 (.ixL 7 (qt 9) (qt 11)),qD 15 7 14,qI 7 (.new 26 qz0),qM 6 13,
 ⟨none,.st 7 (qt 7) (qt 15),none,Q0⟩] false (some [1,5,6,7,9,10,11]))
 (.reg 5 [qM 16 5,qM 17 1,qM 18 6,qD 19 7 7,qI 20 (.call (qt 17) [(qt 18),(qt 19)]),qI 21 (.rows 1 1 [(.str ⟨#[]⟩)] [(0,(qt 20))]),qI 22 (.app 9 1 16 (qt 16) (qt 21)),
 qM 5 22] false (some [1,5,9,10,11]))))
 (.reg 6 [qI 23 (.bin .add (qt 11) (qN 1)),qM 11 23] false (some [1,5,9,10,11])))))
def c47_l0:EC:= .loop (some [1,5,9,10,11]) c47_l0_b
def c47_b:EC:=(.seq (.reg 0 [qI 2 (.boxI 26 (qt 0)),qI 4 (.mv (.con (.str ⟨#[]⟩)))] false (some [1,2]))
 (.seq (.reg 1 [qI 5 (.mv (.con (.sl .null [])))] false (some [1,2,5]))
 (.seq (.seq (.reg 2 [qA 8 6 2,qL 9 8,qI 10 (.len false (qt 9)),qI 11 (.mv (qN 0))] false (some [1,5,9,10,11]))
 (.block 0 c47_l0))
 (.seq (.regP 7 [qM 24 5,qI 25 (.call (qF 90) [(qt 24),(.con (.str ⟨#[44,32]⟩))]),qM 4 25] false (some [4]))
 .ret))))
def c47:EFn:=⟨2,26,[.tmp 4],c47_b,none,true⟩
theorem c47_l0_w {E:Env} {fin:Kont (PV×St)} {st:List Fw} {ts:Tmps} {S:St}:run E fin st c47_l0 ts S=run E fin (.again c47_l0::st) c47_l0_b (sel (some [1,5,9,10,11]) ts) S:=w_loop
theorem c47_l0_a {E:Env} {fin:Kont (PV×St)} {st:List Fw} {ts:Tmps} {S:St}:aft E fin (.again c47_l0::st) .normal ts S=run E fin st c47_l0 (sel (some [1,5,9,10,11]) ts) S:=a_again_s
theorem c47_ok:cFn Tryz.prog Tryz.f47=some c47.strip:=by kernel_rfl
def c48_b:EC:=(.seq (.reg 0 [qI 4 (.boxI 26 (qt 1)),qI 5 (.mv (.con (.str ⟨#[]⟩)))] false (some [0,2,4]))
 (.seq (.regP 1 [⟨some 6,.fA 5 (qt 2),none,⟨.no,false⟩⟩,
 ⟨some 7,.ld none (qt 6),none,⟨.still,false⟩⟩,
 ⟨some 8,.mv (qt 0),none,⟨.no,false⟩⟩,
 ⟨some 9,.ixL 1 (qt 7) (qt 8),none,⟨.no,false⟩⟩,
 ⟨some 10,.ld none (qt 9),none,⟨.still,false⟩⟩,
 ⟨some 11,.bin .add (qt 10) (.con (.str ⟨#[32,61,32]⟩)),none,⟨.no,false⟩⟩,
 ⟨some 12,.ld (some 7) (qt 4),none,Q1⟩,
 ⟨some 13,.call (qF 23) [(qt 12)],none,Q1⟩,qI 14 (.bin .add (qt 11) (qt 13)),qM 5 14] true (some [5]))
 .ret))
def c48:EFn:=⟨3,15,[.tmp 5],c48_b,none,true⟩
theorem c48_ok:cFn Tryz.prog Tryz.f48=some c48.strip:=by kernel_rfl
def c49_b:EC:=(.seq (.reg 0 [qI 1 (.boxI 26 (qt 0)),qI 2 (.mv (.con (.str ⟨#[]⟩)))] false (some [1]))
 (.seq (.reg 1 [qI 3 (.mv (.con (.str ⟨#[]⟩)))] false (some [1,3]))
 (.seq (.seq (.reg 2 [qA 4 3 1,qL 5 4] false (some [1,3,5]))
 (.cond (qt 5) (.reg 3 [qA 6 4 1,qL 7 6,qI 8 (.call (qF 91) [(qt 7)]),qI 9 (.bin .add (.con (.str ⟨#[91]⟩)) (qt 8)),qI 10 (.bin .add (qt 9) (.con (.str ⟨#[93]⟩))),
 qM 3 10] false (some [1,3])) .skip))
 (.seq (.regP 4 [⟨some 11,.fA 2 (qt 1),none,⟨.no,false⟩⟩,
 ⟨some 12,.ld none (qt 11),none,⟨.still,false⟩⟩,
 ⟨some 13,.bin .add (.con (.str ⟨#[99,97,108,108,32]⟩)) (qt 12),none,⟨.no,false⟩⟩,
 ⟨some 14,.mv (qt 3),none,⟨.no,false⟩⟩,
 ⟨some 15,.bin .add (qt 13) (qt 14),none,⟨.no,false⟩⟩,
 ⟨some 16,.bin .add (qt 15) (.con (.str ⟨#[40]⟩)),none,⟨.no,false⟩⟩,
 ⟨some 17,.ld (some 7) (qt 1),none,Q1⟩,
 ⟨some 18,.call (qF 47) [(qt 17),(qF 92)],none,Q1⟩,qI 19 (.bin .add (qt 16) (qt 18)),qI 20 (.bin .add (qt 19) (.con (.str ⟨#[41]⟩))),qM 2 20] true (some [2]))
 .ret))))
def c49:EFn:=⟨1,21,[.tmp 2],c49_b,none,true⟩
theorem c49_ok:cFn Tryz.prog Tryz.f49=some c49.strip:=by kernel_rfl
def c50_b:EC:=(.seq (.reg 0 [qI 1 (.boxI 26 (qt 0)),qI 2 (.mv (.con (.str ⟨#[]⟩)))] false (some [1]))
 (.seq (.seq (.reg 1 [qA 3 0 1,qL 4 3] false (some [1,4]))
 (.block 0 (.seq (.reg 2 [qI 6 (.bin .eql (qt 4) (qN 1)),qM 5 6] false (some [1,4,5]))
 (.cond (qt 5) (.seq (.reg 3 [qA 7 1 1,qL 8 7,qI 9 (.call (qF 93) [(qt 8)]),qM 2 9] false (some [2]))
 .ret) (.seq (.reg 4 [qI 11 (.bin .eql (qt 4) (qN 2)),qM 10 11] false (some [1,4,10]))
 (.cond (qt 10) (.seq (.reg 5 [qA 12 1 1,qL 13 12,qI 14 (.bin .eql (qt 13) (qN 1)),qI 15 (.call (qF 94) [(qt 14)]),qM 2 15] false (some [2]))
 .ret) (.seq (.reg 6 [qI 17 (.bin .eql (qt 4) (qN 3)),qM 16 17] false (some [1,16]))
 (.cond (qt 16) (.seq (.reg 7 [qA 18 2 1,qL 19 18,qI 20 (.call (qF 95) [(qt 19)]),qM 2 20] false (some [2]))
 .ret) .skip))))))))
 (.seq (.reg 8 [qA 21 2 1,qL 22 21,qM 2 22] false (some [2]))
 .ret)))
def c50:EFn:=⟨1,23,[.tmp 2],c50_b,none,true⟩
theorem c50_ok:cFn Tryz.prog Tryz.f50=some c50.strip:=by kernel_rfl
def c58_b:EC:=(.seq (.reg 0 [qI 2 (.mv (.con (.bool false)))] false (some [0]))
 (.seq (.reg 1 [qM 3 0,qI 4 (.call (qF 99) [(qt 3)]),qI 5 (.bin .eql (qt 4) (qN 1)),qM 2 5] false (some [2]))
 .ret))
def c58:EFn:=⟨1,6,[.tmp 2],c58_b,none,true⟩
theorem c58_ok:cFn Tryz.prog Tryz.f58=some c58.strip:=by kernel_rfl
def c59_r5:List EI:=[qM 17 7,qA 18 0 9,qL 19 18,qI 20 (.lkp (.int .i64 0) false (qt 17) (qt 19)),qI 21 (.bin .gtr (qt 20) (qN 0)),qM 22 21,qJ 23 (.mv (qt 2)) 22 false,
 qJ 24 (.fA 0 (qt 9)) 22 false,qJ 25 (.ld none (qt 24)) 22 false,qJ 26 (.call (qt 23) [(qt 25)]) 22 false,qJ 27 (.un .not (qt 26)) 22 false,qI 28 (.pick (qt 22) (.con (.bool true)) (qt 27))]
def c59_l0_b:EC:=(.seq (.reg 3 [qI 14 (.bin .lss (qt 13) (qt 12))] false (some [0,1,2,7,11,12,13,14]))
 (.seq (.cond (qt 14) .skip (.exit 0))
 (.seq (.block 1 (.seq (.reg 4 [qI 15 (.ixL 6 (qt 11) (qt 13)),qD 16 6 15,qI 9 (.new 66 qz1),
 ⟨none,.st 6 (qt 9) (qt 16),none,Q0⟩] false (some [0,1,2,7,9,11,12,13]))
 (.seq (.seq (.reg 5 c59_r5 false (some [0,1,2,7,9,11,12,13,28]))
 (.cond (qt 28) (.seq (.reg 6 [qI 6 (.mv (.con (.bool false)))] false (some [6]))
 .ret) .skip))
 (.reg 7 [qM 29 7,qA 30 0 9,qL 31 30,qI 32 (.lkp (.int .i64 0) false (qt 29) (qt 31)),qI 33 (.bin .add (qt 32) (qN 1)),
 ⟨none,.mup (qt 29) (qt 31) (qt 33),none,Q0⟩] false (some [0,1,2,7,11,12,13])))))
 (.reg 8 [qI 34 (.bin .add (qt 13) (qN 1)),qM 13 34] false (some [0,1,2,7,11,12,13])))))
def c59_l0:EC:= .loop (some [0,1,2,7,11,12,13]) c59_l0_b
def c59_b:EC:=(.seq (.reg 0 [qI 6 (.mv (.con (.bool false)))] false (some [0,1,2]))
 (.seq (.reg 1 [qI 10 (.mkm),qM 7 10] false (some [0,1,2,7]))
 (.seq (.seq (.reg 2 [qM 11 0,qI 12 (.len false (qt 11)),qI 13 (.mv (qN 0))] false (some [0,1,2,7,11,12,13]))
 (.block 0 c59_l0))
 (.seq (.reg 9 [qM 35 0,qI 36 (.len false (qt 35)),qM 37 1,qI 38 (.bin .leq (qt 36) (qt 37)),qM 6 38] false (some [6]))
 .ret))))
def c59:EFn:=⟨3,39,[.tmp 6],c59_b,none,true⟩
theorem c59_l0_w {E:Env} {fin:Kont (PV×St)} {st:List Fw} {ts:Tmps} {S:St}:run E fin st c59_l0 ts S=run E fin (.again c59_l0::st) c59_l0_b (sel (some [0,1,2,7,11,12,13]) ts) S:=w_loop
theorem c59_l0_a {E:Env} {fin:Kont (PV×St)} {st:List Fw} {ts:Tmps} {S:St}:aft E fin (.again c59_l0::st) .normal ts S=run E fin st c59_l0 (sel (some [0,1,2,7,11,12,13]) ts) S:=a_again_s
theorem c59_ok:cFn Tryz.prog Tryz.f59=some c59.strip:=by kernel_rfl
def c60_b:EC:=(.seq (.reg 0 [qI 2 (.mv (.con (.bool false)))] false (some [0]))
 (.seq (.reg 1 [qM 3 0,qI 4 (.call (qF 99) [(qt 3)]),qI 5 (.bin .eql (qt 4) (qN 2)),qM 2 5] false (some [2]))
 .ret))
def c60:EFn:=⟨1,6,[.tmp 2],c60_b,none,true⟩
theorem c60_ok:cFn Tryz.prog Tryz.f60=some c60.strip:=by kernel_rfl
def c61_l0_b:EC:=(.seq (.reg 3 [qI 17 (.bin .lss (qt 16) (qt 15))] false (some [2,3,14,15,16,17]))
 (.seq (.cond (qt 17) .skip (.exit 0))
 (.seq (.block 1 (.seq (.reg 4 [qI 18 (.ixL 5 (qt 14) (qt 16)),qD 19 5 18,qI 5 (.new 34 qz2),
 ⟨none,.st 5 (qt 5) (qt 19),none,Q0⟩] false (some [2,3,5,14,15,16]))
 (.seq (.reg 5 [qM 20 2,qD 21 5 5,qI 22 (.call (qF 102) [(qt 21)]),qI 23 (.bin .add (qt 20) (qt 22)),qM 2 23] false (some [2,3,5,14,15,16]))
 (.reg 6 [qM 24 3,qD 25 5 5,qI 26 (.call (qF 103) [(qt 25)]),qI 27 (.mx false (qt 24) (qt 26)),qM 3 27] false (some [2,3,14,15,16])))))
 (.reg 7 [qI 28 (.bin .add (qt 16) (qN 1)),qM 16 28] false (some [2,3,14,15,16])))))
def c61_l0:EC:= .loop (some [2,3,14,15,16]) c61_l0_b
def c61_b:EC:=(.seq (.reg 0 [qI 1 (.boxI 38 (qt 0)),qI 2 (.mv (qN 0)),qI 3 (.mv (qN 0))] false (some [1]))
 (.seq (.reg 1 [⟨some 6,.fA 8 (qt 1),none,⟨.no,false⟩⟩,
 ⟨some 7,.ld (some 7) (qt 6),none,⟨.still,false⟩⟩,
 ⟨some 8,.call (qF 100) [(qt 7)],none,⟨.still,false⟩⟩,qA 9 8 1,
 ⟨some 10,.ld (some 7) (qt 9),none,Q1⟩,qI 11 (.call (qF 101) [(qt 10)]),qM 2 8,qM 3 11] true (some [1,2,3]))
 (.seq (.seq (.reg 2 [qA 12 0 1,qD 13 8 12,qI 14 (.call (qF 62) [(qt 13)]),qI 15 (.len false (qt 14)),qI 16 (.mv (qN 0))] false (some [2,3,14,15,16]))
 (.block 0 c61_l0))
 (.seq (.reg 8 [qM 29 2,qM 30 3,qM 2 29,qM 3 30] false (some [2,3]))
 .ret))))
def c61:EFn:=⟨1,31,[.tmp 2,.tmp 3],c61_b,none,true⟩
theorem c61_l0_w {E:Env} {fin:Kont (PV×St)} {st:List Fw} {ts:Tmps} {S:St}:run E fin st c61_l0 ts S=run E fin (.again c61_l0::st) c61_l0_b (sel (some [2,3,14,15,16]) ts) S:=w_loop
theorem c61_l0_a {E:Env} {fin:Kont (PV×St)} {st:List Fw} {ts:Tmps} {S:St}:aft E fin (.again c61_l0::st) .normal ts S=run E fin st c61_l0 (sel (some [2,3,14,15,16]) ts) S:=a_again_s
theorem c61_ok:cFn Tryz.prog Tryz.f61=some c61.strip:=by kernel_rfl
def c62_l0_b:EC:=(.seq (.reg 3 [qI 12 (.bin .lss (qt 11) (qt 10))] false (some [1,3,9,10,11,12]))
 (.seq (.cond (qt 12) .skip (.exit 0))
 (.seq (.block 1 (.seq (.reg 4 [qI 13 (.ixL 6 (qt 9) (qt 11)),qD 14 6 13,qI 5 (.new 66 qz1),
 ⟨none,.st 6 (qt 5) (qt 14),none,Q0⟩] false (some [1,3,5,9,10,11]))
 (.reg 5 [qM 15 3,qA 16 1 5,qD 17 5 16,qI 18 (.rows 1 5 qz2 [(0,(qt 17))]),qI 19 (.app 34 5 80 (qt 15) (qt 18)),qM 3 19] false (some [1,3,9,10,11]))))
 (.reg 6 [qI 20 (.bin .add (qt 11) (qN 1)),qM 11 20] false (some [1,3,9,10,11])))))
def c62_l0:EC:= .loop (some [1,3,9,10,11]) c62_l0_b
def c62_l1_b:EC:=(.seq (.reg 8 [qI 25 (.bin .lss (qt 24) (qt 23))] false (some [1,3,22,23,24,25]))
 (.seq (.cond (qt 25) .skip (.exit 2))
 (.seq (.block 3 (.seq (.reg 9 [qI 26 (.ixL 6 (qt 22) (qt 24)),qD 27 6 26,qI 7 (.new 66 qz1),
 ⟨none,.st 6 (qt 7) (qt 27),none,Q0⟩] false (some [1,3,7,22,23,24]))
 (.reg 10 [qM 28 3,qA 29 1 7,qD 30 5 29,qI 31 (.rows 1 5 qz2 [(0,(qt 30))]),qI 32 (.app 34 5 80 (qt 28) (qt 31)),qM 3 32] false (some [1,3,22,23,24]))))
 (.reg 11 [qI 33 (.bin .add (qt 24) (qN 1)),qM 24 33] false (some [1,3,22,23,24])))))
def c62_l1:EC:= .loop (some [1,3,22,23,24]) c62_l1_b
def c62_b:EC:=(.seq (.reg 0 [qI 1 (.boxI 36 (qt 0)),qI 2 (.mv (.con (.sl .null [])))] false (some [1]))
 (.seq (.reg 1 [qI 3 (.mv (.con (.sl .null [])))] false (some [1,3]))
 (.seq (.seq (.reg 2 [qA 8 1 1,qL 9 8,qI 10 (.len false (qt 9)),qI 11 (.mv (qN 0))] false (some [1,3,9,10,11]))
 (.block 0 c62_l0))
 (.seq (.seq (.reg 7 [qA 21 2 1,qL 22 21,qI 23 (.len false (qt 22)),qI 24 (.mv (qN 0))] false (some [1,3,22,23,24]))
 (.block 2 c62_l1))
 (.seq (.reg 12 [qM 34 3,qA 35 3 1,qD 36 5 35,qI 37 (.rows 1 5 qz2 [(0,(qt 36))]),qI 38 (.app 34 5 80 (qt 34) (qt 37)),qM 2 38] false (some [2]))
 .ret)))))
def c62:EFn:=⟨1,39,[.tmp 2],c62_b,none,true⟩
theorem c62_l0_w {E:Env} {fin:Kont (PV×St)} {st:List Fw} {ts:Tmps} {S:St}:run E fin st c62_l0 ts S=run E fin (.again c62_l0::st) c62_l0_b (sel (some [1,3,9,10,11]) ts) S:=w_loop
theorem c62_l0_a {E:Env} {fin:Kont (PV×St)} {st:List Fw} {ts:Tmps} {S:St}:aft E fin (.again c62_l0::st) .normal ts S=run E fin st c62_l0 (sel (some [1,3,9,10,11]) ts) S:=a_again_s
theorem c62_l1_w {E:Env} {fin:Kont (PV×St)} {st:List Fw} {ts:Tmps} {S:St}:run E fin st c62_l1 ts S=run E fin (.again c62_l1::st) c62_l1_b (sel (some [1,3,22,23,24]) ts) S:=w_loop
theorem c62_l1_a {E:Env} {fin:Kont (PV×St)} {st:List Fw} {ts:Tmps} {S:St}:aft E fin (.again c62_l1::st) .normal ts S=run E fin st c62_l1 (sel (some [1,3,22,23,24]) ts) S:=a_again_s
theorem c62_ok:cFn Tryz.prog Tryz.f62=some c62.strip:=by kernel_rfl
def c63_l0_b:EC:=(.seq (.reg 3 [qI 11 (.bin .lss (qt 10) (qt 9))] false (some [1,5,8,9,10,11]))
 (.seq (.cond (qt 11) .skip (.exit 0))
 (.seq (.block 1 (.seq (.reg 4 [qM 12 10,qI 13 (.ixL 6 (qt 8) (qt 10)),qD 14 6 13,qI 7 (.new 66 qz1),qM 6 12,
 ⟨none,.st 6 (qt 7) (qt 14),none,Q0⟩] false (some [1,5,6,7,8,9,10]))
 (.seq (.seq (.reg 5 [qM 15 6,qI 16 (.bin .gtr (qt 15) (qN 0))] false (some [1,5,6,7,8,9,10,16]))
 (.cond (qt 16) (.reg 6 [qI 17 (.call (qF 104) [(qt 5),(.con (.str ⟨#[44,32]⟩))])] false (some [1,5,6,7,8,9,10])) .skip))
 (.reg 7 [qM 18 1,qM 19 6,qD 20 6 7,qI 21 (.call (qt 18) [(qt 19),(qt 20)]),qI 22 (.call (qF 104) [(qt 5),(qt 21)])] false (some [1,5,8,9,10])))))
 (.reg 8 [qI 23 (.bin .add (qt 10) (qN 1)),qM 10 23] false (some [1,5,8,9,10])))))
def c63_l0:EC:= .loop (some [1,5,8,9,10]) c63_l0_b
def c63_b:EC:=(.seq (.reg 0 [qI 4 (.mv (.con (.str ⟨#[]⟩)))] false (some [0,1]))
 (.seq (.reg 1 [qI 5 (.new 90 [.nilp,(.sl .null [])])] false (some [0,1,5]))
 (.seq (.seq (.reg 2 [qM 8 0,qI 9 (.len false (qt 8)),qI 10 (.mv (qN 0))] false (some [1,5,8,9,10]))
 (.block 0 c63_l0))
 (.seq (.reg 9 [qI 24 (.call (qF 105) [(qt 5)]),qM 4 24] false (some [4]))
 .ret))))
def c63:EFn:=⟨2,25,[.tmp 4],c63_b,none,true⟩
theorem c63_l0_w {E:Env} {fin:Kont (PV×St)} {st:List Fw} {ts:Tmps} {S:St}:run E fin st c63_l0 ts S=run E fin (.again c63_l0::st) c63_l0_b (sel (some [1,5,8,9,10]) ts) S:=w_loop
theorem c63_l0_a {E:Env} {fin:Kont (PV×St)} {st:List Fw} {ts:Tmps} {S:St}:aft E fin (.again c63_l0::st) .normal ts S=run E fin st c63_l0 (sel (some [1,5,8,9,10]) ts) S:=a_again_s
theorem c63_ok:cFn Tryz.prog Tryz.f63=some c63.strip:=by kernel_rfl
def c64_b:EC:=(.seq (.reg 0 [qI 4 (.boxI 66 (qt 1)),qI 5 (.mv (.con (.str ⟨#[]⟩)))] false (some [2,4]))
 (.seq (.reg 1 [⟨some 6,.fA 0 (qt 4),none,⟨.no,false⟩⟩,
 ⟨some 7,.ld none (qt 6),none,⟨.still,false⟩⟩,
 ⟨some 8,.ld none (qt 2),none,⟨.still,false⟩⟩,
 ⟨some 9,.bin .add (qt 7) (qt 8),none,⟨.no,false⟩⟩,qA 10 1 4,
 ⟨some 11,.ld (some 5) (qt 10),none,Q1⟩,
 ⟨some 12,.call (qF 28) [(qt 11)],none,Q1⟩,qI 13 (.bin .add (qt 9) (qt 12)),qM 5 13] true (some [5]))
 .ret))
def c64:EFn:=⟨3,14,[.tmp 5],c64_b,none,true⟩
theorem c64_ok:cFn Tryz.prog Tryz.f64=some c64.strip:=by kernel_rfl
def c65_r1:List EI:=[qD 3 5 1,qI 4 (.call (qF 106) [(qt 3)]),qI 5 (.un .not (qt 4)),qM 6 5,qJ 7 (.fA 4 (qt 1)) 6 false,qJ 8 (.ld none (qt 7)) 6 false,
 qJ 9 (.call (qF 84) [(qt 8),(qF 107)]) 6 false,qI 10 (.pick (qt 6) (.con (.bool true)) (qt 9))]
def c65_r11:List EI:=[qA 25 4 1,qL 26 25,qI 27 (.len false (qt 26)),qI 28 (.bin .eql (qt 27) (qN 0)),qM 29 28,qJ 30 (.fA 2 (qt 1)) 29 true,qJ 31 (.ld none (qt 30)) 29 true,
 qJ 32 (.call (qF 60) [(qt 31)]) 29 true,qI 33 (.pick (qt 29) (qt 32) (.con (.bool false))),qM 2 33]
def c65_r13:List EI:=[qA 36 4 1,qL 37 36,qI 38 (.len false (qt 37)),qI 39 (.bin .eql (qt 38) (qN 0)),qM 40 39,qJ 41 (.fA 1 (qt 1)) 40 true,qJ 42 (.ld none (qt 41)) 40 true,
 qJ 43 (.bin .geq (qt 42) (qN 0)) 40 true,qI 44 (.pick (qt 40) (qt 43) (.con (.bool false))),qM 45 44,qJ 46 (.fA 1 (qt 1)) 45 true,qJ 47 (.ld none (qt 46)) 45 true,
 qJ 48 (.bin .leq (qt 47) (qN 1073741824)) 45 true,qI 49 (.pick (qt 45) (qt 48) (.con (.bool false))),qM 2 49]
def c65_r17:List EI:=[qA 58 4 1,qL 59 58,qI 60 (.len false (qt 59)),qA 61 3 1,qL 62 61,qI 63 (.len false (qt 62)),qI 64 (.bin .eql (qt 60) (qt 63)),
 qM 65 64,qJ 66 (.fA 3 (qt 1)) 65 true,qJ 67 (.ld none (qt 66)) 65 true,qJ 68 (.call (qF 83) [(qt 67)]) 65 true,qI 69 (.pick (qt 65) (qt 68) (.con (.bool false))),
 qM 2 69]
def c65_b:EC:=(.seq (.reg 0 [qI 1 (.boxI 34 (qt 0)),qI 2 (.mv (.con (.bool false)))] false (some [1]))
 (.seq (.seq (.reg 1 c65_r1 false (some [1,10]))
 (.cond (qt 10) (.seq (.reg 2 [qI 2 (.mv (.con (.bool false)))] false (some [2]))
 .ret) .skip))
 (.seq (.seq (.reg 3 [qA 11 0 1,qL 12 11] false (some [1,12]))
 (.block 0 (.seq (.seq (.reg 4 [qI 14 (.bin .eql (qt 12) (qN 1)),qM 13 14] false (some [1,12,13]))
 (.cond (qt 13) .skip (.seq (.reg 5 [qI 15 (.bin .eql (qt 12) (qN 2)),qM 13 15] false (some [1,12,13]))
 (.cond (qt 13) .skip (.seq (.reg 6 [qI 16 (.bin .eql (qt 12) (qN 3)),qM 13 16] false (some [1,12,13]))
 (.cond (qt 13) .skip (.seq (.reg 7 [qI 17 (.bin .eql (qt 12) (qN 4)),qM 13 17] false (some [1,12,13]))
 (.cond (qt 13) .skip (.reg 8 [qI 18 (.bin .eql (qt 12) (qN 5)),qM 13 18] false (some [1,12,13]))))))))))
 (.cond (qt 13) (.seq (.reg 9 [qA 19 4 1,qL 20 19,qI 21 (.len false (qt 20)),qI 22 (.bin .eql (qt 21) (qN 0)),qM 2 22] false (some [2]))
 .ret) (.seq (.reg 10 [qI 24 (.bin .eql (qt 12) (qN 6)),qM 23 24] false (some [1,12,23]))
 (.cond (qt 23) (.seq (.reg 11 c65_r11 false (some [2]))
 .ret) (.seq (.reg 12 [qI 35 (.bin .eql (qt 12) (qN 9)),qM 34 35] false (some [1,12,34]))
 (.cond (qt 34) (.seq (.reg 13 c65_r13 false (some [2]))
 .ret) (.seq (.reg 14 [qI 51 (.bin .eql (qt 12) (qN 7)),qM 50 51] false (some [1,12,50]))
 (.cond (qt 50) (.seq (.reg 15 [qA 52 4 1,qL 53 52,qI 54 (.len false (qt 53)),qI 55 (.bin .eql (qt 54) (qN 2)),qM 2 55] false (some [2]))
 .ret) (.seq (.reg 16 [qI 57 (.bin .eql (qt 12) (qN 8)),qM 56 57] false (some [1,56]))
 (.cond (qt 56) (.seq (.reg 17 c65_r17 false (some [2]))
 .ret) .skip))))))))))))
 (.seq (.reg 18 [qI 2 (.mv (.con (.bool false)))] false (some [2]))
 .ret))))
def c65:EFn:=⟨1,70,[.tmp 2],c65_b,none,true⟩
theorem c65_ok:cFn Tryz.prog Tryz.f65=some c65.strip:=by kernel_rfl
def c66_b:EC:=(.seq (.reg 0 [qI 1 (.boxI 34 (qt 0)),qI 2 (.mv (.con (.str ⟨#[]⟩)))] false (some [1]))
 (.seq (.seq (.reg 1 [qA 3 0 1,qL 4 3] false (some [1,4]))
 (.block 0 (.seq (.reg 2 [qI 6 (.bin .eql (qt 4) (qN 1)),qM 5 6] false (some [1,4,5]))
 (.cond (qt 5) (.seq (.reg 3 [qI 2 (.mv (.con (.str ⟨#[73,110,116]⟩)))] false (some [2]))
 .ret) (.seq (.reg 4 [qI 8 (.bin .eql (qt 4) (qN 2)),qM 7 8] false (some [1,4,7]))
 (.cond (qt 7) (.seq (.reg 5 [qI 2 (.mv (.con (.str ⟨#[66,111,111,108]⟩)))] false (some [2]))
 .ret) (.seq (.reg 6 [qI 10 (.bin .eql (qt 4) (qN 3)),qM 9 10] false (some [1,4,9]))
 (.cond (qt 9) (.seq (.reg 7 [qI 2 (.mv (.con (.str ⟨#[83,116,114,105,110,103]⟩)))] false (some [2]))
 .ret) (.seq (.reg 8 [qI 12 (.bin .eql (qt 4) (qN 4)),qM 11 12] false (some [1,4,11]))
 (.cond (qt 11) (.seq (.reg 9 [qI 2 (.mv (.con (.str ⟨#[84,111,112]⟩)))] false (some [2]))
 .ret) (.seq (.reg 10 [qI 14 (.bin .eql (qt 4) (qN 5)),qM 13 14] false (some [1,4,13]))
 (.cond (qt 13) (.seq (.reg 11 [qI 2 (.mv (.con (.str ⟨#[63]⟩)))] false (some [2]))
 .ret) (.seq (.reg 12 [qI 16 (.bin .eql (qt 4) (qN 6)),qM 15 16] false (some [1,4,15]))
 (.cond (qt 15) (.seq (.reg 13 [qA 17 2 1,qL 18 17,qM 2 18] false (some [2]))
 .ret) (.seq (.reg 14 [qI 20 (.bin .eql (qt 4) (qN 9)),qM 19 20] false (some [1,4,19]))
 (.cond (qt 19) (.seq (.reg 15 [qA 21 1 1,qL 22 21,qI 23 (.call (qF 93) [(qt 22)]),qI 24 (.bin .add (.con (.str ⟨#[35]⟩)) (qt 23)),qM 2 24] false (some [2]))
 .ret) (.seq (.reg 16 [qI 26 (.bin .eql (qt 4) (qN 7)),qM 25 26] false (some [1,25]))
 (.cond (qt 25) (.seq (.reg 17 [⟨some 27,.fA 4 (qt 1),none,⟨.no,false⟩⟩,
 ⟨some 28,.ld none (qt 27),none,⟨.still,false⟩⟩,
 ⟨some 29,.ixL 5 (qt 28) (qN 0),none,⟨.no,false⟩⟩,
 ⟨some 30,.ld (some 5) (qt 29),none,⟨.still,false⟩⟩,
 ⟨some 31,.call (qF 108) [(qt 30)],none,⟨.still,false⟩⟩,
 ⟨some 32,.bin .add (qt 31) (.con (.str ⟨#[32,45,62,32]⟩)),none,⟨.no,false⟩⟩,qA 33 4 1,
 ⟨some 34,.ld none (qt 33),none,Q1⟩,qI 35 (.ixL 5 (qt 34) (qN 1)),
 ⟨some 36,.ld (some 5) (qt 35),none,Q1⟩,qI 37 (.call (qF 66) [(qt 36)]),qI 38 (.bin .add (qt 32) (qt 37)),qM 2 38] true (some [2]))
 .ret) .skip))))))))))))))))))
 (.seq (.reg 18 [qA 39 4 1,qL 40 39,qI 41 (.fnv 110 [] [(qt 1)]),qI 42 (.call (qF 109) [(qt 40),(qt 41)]),qI 43 (.bin .add (.con (.str ⟨#[123]⟩)) (qt 42)),
 qI 44 (.bin .add (qt 43) (.con (.str ⟨#[125]⟩))),qM 2 44] false (some [2]))
 .ret)))
def c66:EFn:=⟨1,45,[.tmp 2],c66_b,none,true⟩
theorem c66_ok:cFn Tryz.prog Tryz.f66=some c66.strip:=by kernel_rfl
def c67_r6:List EI:=[qA 18 0 1,qL 19 18,qI 20 (.bin .neq (qt 19) (qN 6)),qM 21 20,qJ 22 (.fA 2 (qt 1)) 21 true,qJ 23 (.ld none (qt 22)) 21 true,
 qJ 24 (.bin .neq (qt 23) (.con (.str ⟨#[]⟩))) 21 true,qI 25 (.pick (qt 21) (qt 24) (.con (.bool false))),qM 26 25,qJ 27 (.fA 0 (qt 1)) 26 false,
 qJ 28 (.ld none (qt 27)) 26 false,qJ 29 (.bin .neq (qt 28) (qN 9)) 26 false,qJ 30 (.mv (qt 29)) 26 false,qJ 31 (.fA 1 (qt 1)) 30 true,qJ 32 (.ld none (qt 31)) 30 true,
 qJ 33 (.bin .neq (qt 32) (qN 0)) 30 true,qJ 34 (.pick (qt 30) (qt 33) (.con (.bool false))) 26 false,qI 35 (.pick (qt 26) (.con (.bool true)) (qt 34)),
 qM 36 35,qJ 37 (.fA 0 (qt 1)) 36 false,qJ 38 (.ld none (qt 37)) 36 false,qJ 39 (.bin .neq (qt 38) (qN 8)) 36 false,qJ 40 (.mv (qt 39)) 36 false,
 qJ 41 (.fA 3 (qt 1)) 40 true,qJ 42 (.ld none (qt 41)) 40 true,qJ 43 (.len false (qt 42)) 40 true,qJ 44 (.bin .gtr (qt 43) (qN 0)) 40 true,qJ 45 (.pick (qt 40) (qt 44) (.con (.bool false))) 36 false,
 qI 46 (.pick (qt 36) (.con (.bool true)) (qt 45))]
def c67_r8:List EI:=[qA 47 0 1,qL 48 47,qI 49 (.bin .geq (qt 48) (qN 1)),qM 50 49,qJ 51 (.fA 0 (qt 1)) 50 true,qJ 52 (.ld none (qt 51)) 50 true,
 qJ 53 (.bin .leq (qt 52) (qN 5)) 50 true,qI 54 (.pick (qt 50) (qt 53) (.con (.bool false)))]
def c67_r11:List EI:=[qA 62 2 1,qL 63 62,qI 64 (.call (qF 72) [(qt 63)]),qM 65 64,qJ 66 (.fA 4 (qt 1)) 65 true,qJ 67 (.ld none (qt 66)) 65 true,
 qJ 68 (.len false (qt 67)) 65 true,qJ 69 (.bin .eql (qt 68) (qN 0)) 65 true,qI 70 (.pick (qt 65) (qt 69) (.con (.bool false))),qM 2 70]
def c67_r13:List EI:=[qA 74 1 1,qL 75 74,qI 76 (.bin .geq (qt 75) (qN 0)),qM 77 76,qJ 78 (.fA 1 (qt 1)) 77 true,qJ 79 (.ld none (qt 78)) 77 true,
 qJ 80 (.bin .leq (qt 79) (qN 1073741824)) 77 true,qI 81 (.pick (qt 77) (qt 80) (.con (.bool false))),qM 82 81,qJ 83 (.fA 4 (qt 1)) 82 true,qJ 84 (.ld none (qt 83)) 82 true,
 qJ 85 (.len false (qt 84)) 82 true,qJ 86 (.bin .eql (qt 85) (qN 0)) 82 true,qI 87 (.pick (qt 82) (qt 86) (.con (.bool false))),qM 2 87]
def c67_r16:List EI:=[qA 95 0 1,qL 96 95,qI 97 (.bin .eql (qt 96) (qN 8)),qM 98 97,qJ 99 (.fA 3 (qt 1)) 98 true,qJ 100 (.ld none (qt 99)) 98 true,
 qJ 101 (.call (qF 81) [(qt 100)]) 98 true,qI 102 (.pick (qt 98) (qt 101) (.con (.bool false))),qM 103 102,qJ 104 (.fA 3 (qt 1)) 103 true,qJ 105 (.ld none (qt 104)) 103 true,
 qJ 106 (.len false (qt 105)) 103 true,qJ 107 (.fA 4 (qt 1)) 103 true,qJ 108 (.ld none (qt 107)) 103 true,qJ 109 (.len false (qt 108)) 103 true,qJ 110 (.bin .eql (qt 106) (qt 109)) 103 true,
 qI 111 (.pick (qt 103) (qt 110) (.con (.bool false))),qM 2 111]
def c67_l0_b:EC:=(.seq (.seq (.reg 2 [qM 4 3,qA 5 4 1,qL 6 5,qI 7 (.len false (qt 6)),qI 8 (.bin .lss (qt 4) (qt 7))] false (some [1,3,8]))
 (.cond (qt 8) .skip (.exit 0)))
 (.seq (.block 1 (.seq (.reg 4 [qA 11 4 1,qL 12 11,qM 13 3,qI 14 (.ixL 5 (qt 12) (qt 13)),qD 15 5 14,qI 16 (.call (qF 67) [(qt 15)]),qI 17 (.un .not (qt 16))] false (some [1,3,17]))
 (.cond (qt 17) (.seq (.reg 5 [qI 2 (.mv (.con (.bool false)))] false (some [2]))
 .ret) .skip)))
 (.reg 3 [qM 9 3,qI 10 (.bin .add (qt 9) (qN 1)),qM 3 10] false (some [1,3]))))
def c67_l0:EC:= .loop (some [1,3]) c67_l0_b
def c67_b:EC:=(.seq (.reg 0 [qI 1 (.boxI 34 (qt 0)),qI 2 (.mv (.con (.bool false)))] false (some [1]))
 (.seq (.seq (.reg 1 [qI 3 (.mv (qN 0))] false (some [1,3]))
 (.block 0 c67_l0))
 (.seq (.seq (.reg 6 c67_r6 false (some [1,46]))
 (.cond (qt 46) (.seq (.reg 7 [qI 2 (.mv (.con (.bool false)))] false (some [2]))
 .ret) .skip))
 (.seq (.seq (.reg 8 c67_r8 false (some [1,54]))
 (.cond (qt 54) (.seq (.reg 9 [qA 55 4 1,qL 56 55,qI 57 (.len false (qt 56)),qI 58 (.bin .eql (qt 57) (qN 0)),qM 2 58] false (some [2]))
 .ret) .skip))
 (.seq (.seq (.reg 10 [qA 59 0 1,qL 60 59,qI 61 (.bin .eql (qt 60) (qN 6))] false (some [1,61]))
 (.cond (qt 61) (.seq (.reg 11 c67_r11 false (some [2]))
 .ret) .skip))
 (.seq (.seq (.reg 12 [qA 71 0 1,qL 72 71,qI 73 (.bin .eql (qt 72) (qN 9))] false (some [1,73]))
 (.cond (qt 73) (.seq (.reg 13 c67_r13 false (some [2]))
 .ret) .skip))
 (.seq (.seq (.reg 14 [qA 88 0 1,qL 89 88,qI 90 (.bin .eql (qt 89) (qN 7))] false (some [1,90]))
 (.cond (qt 90) (.seq (.reg 15 [qA 91 4 1,qL 92 91,qI 93 (.len false (qt 92)),qI 94 (.bin .eql (qt 93) (qN 2)),qM 2 94] false (some [2]))
 .ret) .skip))
 (.seq (.reg 16 c67_r16 false (some [2]))
 .ret))))))))
def c67:EFn:=⟨1,112,[.tmp 2],c67_b,none,true⟩
theorem c67_l0_step {E:Env} {fin:Kont (PV×St)} {st:List Fr} {ts:Tmps} {S:St} {n:Nat}:(lvl E (n+1)).ev c67_l0 ts S (kont E fin st)=(lvl E (n+1)).ev c67_l0_b (sel (some [1,3]) ts) S (kont E fin (.again n c67_l0::st)):=rfl
theorem c67_l0_w {E:Env} {fin:Kont (PV×St)} {st:List Fw} {ts:Tmps} {S:St}:run E fin st c67_l0 ts S=run E fin (.again c67_l0::st) c67_l0_b (sel (some [1,3]) ts) S:=w_loop
theorem c67_l0_a {E:Env} {fin:Kont (PV×St)} {st:List Fw} {ts:Tmps} {S:St}:aft E fin (.again c67_l0::st) .normal ts S=run E fin st c67_l0 (sel (some [1,3]) ts) S:=a_again_s
theorem c67_ok:cFn Tryz.prog Tryz.f67=some c67.strip:=by kernel_rfl
def c69_b:EC:=(.seq (.reg 0 [qI 2 (.mv (.con (.bool false)))] false (some [0]))
 (.seq (.reg 1 [qM 3 0,qI 4 (.call (qF 112) [(qt 3)]),qI 5 (.bin .eql (qt 4) (qN 1)),qM 2 5] false (some [2]))
 .ret))
def c69:EFn:=⟨1,6,[.tmp 2],c69_b,none,true⟩
theorem c69_ok:cFn Tryz.prog Tryz.f69=some c69.strip:=by kernel_rfl
def c70_r4:List EI:=[qM 10 0,qM 11 3,qI 12 (.ixL 5 (qt 10) (qt 11)),qD 13 5 12,qI 14 (.call (qF 67) [(qt 13)]),qI 15 (.un .not (qt 14)),qM 16 15,
 qJ 17 (.mv (qt 0)) 16 false,qJ 18 (.mv (qt 3)) 16 false,qJ 19 (.ixL 5 (qt 17) (qt 18)) 16 false,qJ 20 (.ld (some 5) (qt 19)) 16 false,qJ 21 (.call (qF 113) [(qt 20),(qN 9)]) 16 false,
 qI 22 (.pick (qt 16) (.con (.bool true)) (qt 21))]
def c70_l0_b:EC:=(.seq (.seq (.reg 2 [qM 4 3,qM 5 0,qI 6 (.len false (qt 5)),qI 7 (.bin .lss (qt 4) (qt 6))] false (some [0,3,7]))
 (.cond (qt 7) .skip (.exit 0)))
 (.seq (.block 1 (.seq (.reg 4 c70_r4 false (some [0,3,22]))
 (.cond (qt 22) (.seq (.reg 5 [qI 2 (.mv (.con (.bool false)))] false (some [2]))
 .ret) .skip)))
 (.reg 3 [qM 8 3,qI 9 (.bin .add (qt 8) (qN 1)),qM 3 9] false (some [0,3]))))
def c70_l0:EC:= .loop (some [0,3]) c70_l0_b
def c70_b:EC:=(.seq (.reg 0 [qI 2 (.mv (.con (.bool false)))] false (some [0]))
 (.seq (.seq (.reg 1 [qI 3 (.mv (qN 0))] false (some [0,3]))
 (.block 0 c70_l0))
 (.seq (.reg 6 [qI 2 (.mv (.con (.bool true)))] false (some [2]))
 .ret)))
def c70:EFn:=⟨1,23,[.tmp 2],c70_b,none,true⟩
theorem c70_l0_w {E:Env} {fin:Kont (PV×St)} {st:List Fw} {ts:Tmps} {S:St}:run E fin st c70_l0 ts S=run E fin (.again c70_l0::st) c70_l0_b (sel (some [0,3]) ts) S:=w_loop
theorem c70_l0_a {E:Env} {fin:Kont (PV×St)} {st:List Fw} {ts:Tmps} {S:St}:aft E fin (.again c70_l0::st) .normal ts S=run E fin st c70_l0 (sel (some [0,3]) ts) S:=a_again_s
theorem c70_ok:cFn Tryz.prog Tryz.f70=some c70.strip:=by kernel_rfl
def c71_l0_b:EC:=(.seq (.seq (.reg 3 [qM 6 4,qA 7 1 1,qL 8 7,qI 9 (.len false (qt 8)),qI 10 (.bin .lss (qt 6) (qt 9))] false (some [1,3,4,10]))
 (.cond (qt 10) .skip (.exit 0)))
 (.seq (.block 1 (.reg 5 [qM 13 3,qA 14 1 1,qL 15 14,qM 16 4,qI 17 (.ixL 6 (qt 15) (qt 16)),qA 18 1 17,qD 19 5 18,qI 20 (.rows 1 5 qz2 [(0,(qt 19))]),
 qI 21 (.app 34 5 80 (qt 13) (qt 20)),qM 3 21] false (some [1,3,4])))
 (.reg 4 [qM 11 4,qI 12 (.bin .add (qt 11) (qN 1)),qM 4 12] false (some [1,3,4]))))
def c71_l0:EC:= .loop (some [1,3,4]) c71_l0_b
def c71_l1_b:EC:=(.seq (.seq (.reg 7 [qM 22 5,qA 23 2 1,qL 24 23,qI 25 (.len false (qt 24)),qI 26 (.bin .lss (qt 22) (qt 25))] false (some [1,3,5,26]))
 (.cond (qt 26) .skip (.exit 2)))
 (.seq (.block 3 (.reg 9 [qM 29 3,qA 30 2 1,qL 31 30,qM 32 5,qI 33 (.ixL 6 (qt 31) (qt 32)),qA 34 1 33,qD 35 5 34,qI 36 (.rows 1 5 qz2 [(0,(qt 35))]),
 qI 37 (.app 34 5 80 (qt 29) (qt 36)),qM 3 37] false (some [1,3,5])))
 (.reg 8 [qM 27 5,qI 28 (.bin .add (qt 27) (qN 1)),qM 5 28] false (some [1,3,5]))))
def c71_l1:EC:= .loop (some [1,3,5]) c71_l1_b
def c71_b:EC:=(.seq (.reg 0 [qI 1 (.boxI 36 (qt 0)),qI 2 (.mv (.con (.sl .null [])))] false (some [1]))
 (.seq (.reg 1 [qI 3 (.mv (.con (.sl .null [])))] false (some [1,3]))
 (.seq (.seq (.reg 2 [qI 4 (.mv (qN 0))] false (some [1,3,4]))
 (.block 0 c71_l0))
 (.seq (.seq (.reg 6 [qI 5 (.mv (qN 0))] false (some [1,3,5]))
 (.block 2 c71_l1))
 (.seq (.reg 10 [qM 38 3,qA 39 3 1,qD 40 5 39,qI 41 (.rows 1 5 qz2 [(0,(qt 40))]),qI 42 (.app 34 5 80 (qt 38) (qt 41)),qM 2 42] false (some [2]))
 .ret)))))
def c71:EFn:=⟨1,43,[.tmp 2],c71_b,none,true⟩
theorem c71_l0_w {E:Env} {fin:Kont (PV×St)} {st:List Fw} {ts:Tmps} {S:St}:run E fin st c71_l0 ts S=run E fin (.again c71_l0::st) c71_l0_b (sel (some [1,3,4]) ts) S:=w_loop
theorem c71_l0_a {E:Env} {fin:Kont (PV×St)} {st:List Fw} {ts:Tmps} {S:St}:aft E fin (.again c71_l0::st) .normal ts S=run E fin st c71_l0 (sel (some [1,3,4]) ts) S:=a_again_s
theorem c71_l1_w {E:Env} {fin:Kont (PV×St)} {st:List Fw} {ts:Tmps} {S:St}:run E fin st c71_l1 ts S=run E fin (.again c71_l1::st) c71_l1_b (sel (some [1,3,5]) ts) S:=w_loop
theorem c71_l1_a {E:Env} {fin:Kont (PV×St)} {st:List Fw} {ts:Tmps} {S:St}:aft E fin (.again c71_l1::st) .normal ts S=run E fin st c71_l1 (sel (some [1,3,5]) ts) S:=a_again_s
theorem c71_ok:cFn Tryz.prog Tryz.f71=some c71.strip:=by kernel_rfl
def c72_b:EC:=(.seq (.reg 0 [qI 2 (.mv (.con (.bool false)))] false (some [0]))
 (.seq (.reg 1 [qM 3 0,qI 4 (.call (qF 112) [(qt 3)]),qI 5 (.bin .eql (qt 4) (qN 2)),qM 2 5] false (some [2]))
 .ret))
def c72:EFn:=⟨1,6,[.tmp 2],c72_b,none,true⟩
theorem c72_ok:cFn Tryz.prog Tryz.f72=some c72.strip:=by kernel_rfl
def c73_l0_b:EC:=(.seq (.seq (.reg 2 [qM 6 5,qM 7 0,qI 8 (.len false (qt 7)),qI 9 (.bin .lss (qt 6) (qt 8))] false (some [0,1,5,9]))
 (.cond (qt 9) .skip (.exit 0)))
 (.seq (.block 1 (.seq (.reg 4 [qM 12 0,qM 13 5,qI 14 (.ixL 1 (qt 12) (qt 13)),qL 15 14,qM 16 1,qI 17 (.bin .eql (qt 15) (qt 16))] false (some [0,1,5,17]))
 (.cond (qt 17) (.seq (.reg 5 [qM 18 5,qM 4 18] false (some [4]))
 .ret) .skip)))
 (.reg 3 [qM 10 5,qI 11 (.bin .add (qt 10) (qN 1)),qM 5 11] false (some [0,1,5]))))
def c73_l0:EC:= .loop (some [0,1,5]) c73_l0_b
def c73_b:EC:=(.seq (.reg 0 [qI 4 (.mv (qN 0))] false (some [0,1]))
 (.seq (.seq (.reg 1 [qI 5 (.mv (qN 0))] false (some [0,1,5]))
 (.block 0 c73_l0))
 (.seq (.reg 6 [qI 4 (.mv (qN (-1)))] false (some [4]))
 .ret)))
def c73:EFn:=⟨2,19,[.tmp 4],c73_b,none,true⟩
theorem c73_l0_w {E:Env} {fin:Kont (PV×St)} {st:List Fw} {ts:Tmps} {S:St}:run E fin st c73_l0 ts S=run E fin (.again c73_l0::st) c73_l0_b (sel (some [0,1,5]) ts) S:=w_loop
theorem c73_l0_a {E:Env} {fin:Kont (PV×St)} {st:List Fw} {ts:Tmps} {S:St}:aft E fin (.again c73_l0::st) .normal ts S=run E fin st c73_l0 (sel (some [0,1,5]) ts) S:=a_again_s
theorem c73_ok:cFn Tryz.prog Tryz.f73=some c73.strip:=by kernel_rfl
def c74_l0_b:EC:=(.seq (.seq (.reg 3 [qM 5 4,qM 6 0,qI 7 (.len false (qt 6)),qI 8 (.bin .lss (qt 5) (qt 7))] false (some [0,3,4,8]))
 (.cond (qt 8) .skip (.exit 0)))
 (.seq (.block 1 (.reg 5 [qM 11 3,qM 12 0,qM 13 4,qI 14 (.ixL 6 (qt 12) (qt 13)),qA 15 0 14,qL 16 15,qI 17 (.rows 1 1 [(.str ⟨#[]⟩)] [(0,(qt 16))]),
 qI 18 (.app 9 1 16 (qt 11) (qt 17)),qM 3 18] false (some [0,3,4])))
 (.reg 4 [qM 9 4,qI 10 (.bin .add (qt 9) (qN 1)),qM 4 10] false (some [0,3,4]))))
def c74_l0:EC:= .loop (some [0,3,4]) c74_l0_b
def c74_b:EC:=(.seq (.reg 0 [qI 2 (.mv (.con (.sl .null [])))] false (some [0]))
 (.seq (.reg 1 [qI 3 (.mv (.con (.sl .null [])))] false (some [0,3]))
 (.seq (.seq (.reg 2 [qI 4 (.mv (qN 0))] false (some [0,3,4]))
 (.block 0 c74_l0))
 (.seq (.reg 6 [qM 19 3,qM 2 19] false (some [2]))
 .ret))))
def c74:EFn:=⟨1,20,[.tmp 2],c74_b,none,true⟩
theorem c74_l0_w {E:Env} {fin:Kont (PV×St)} {st:List Fw} {ts:Tmps} {S:St}:run E fin st c74_l0 ts S=run E fin (.again c74_l0::st) c74_l0_b (sel (some [0,3,4]) ts) S:=w_loop
theorem c74_l0_a {E:Env} {fin:Kont (PV×St)} {st:List Fw} {ts:Tmps} {S:St}:aft E fin (.again c74_l0::st) .normal ts S=run E fin st c74_l0 (sel (some [0,3,4]) ts) S:=a_again_s
theorem c74_ok:cFn Tryz.prog Tryz.f74=some c74.strip:=by kernel_rfl
def c75_l0_b:EC:=(.seq (.seq (.reg 3 [qM 6 4,qA 7 4 1,qL 8 7,qI 9 (.len false (qt 8)),qI 10 (.bin .lss (qt 6) (qt 9))] false (some [1,3,4,10]))
 (.cond (qt 10) .skip (.exit 0)))
 (.seq (.block 1 (.reg 5 [qM 13 3,qA 14 4 1,qL 15 14,qM 16 4,qI 17 (.ixL 5 (qt 15) (qt 16)),qD 18 5 17,qI 19 (.call (qF 77) [(qt 18)]),qI 20 (.bin .add (qt 13) (qt 19)),
 qM 3 20] false (some [1,3,4])))
 (.reg 4 [qM 11 4,qI 12 (.bin .add (qt 11) (qN 1)),qM 4 12] false (some [1,3,4]))))
def c75_l0:EC:= .loop (some [1,3,4]) c75_l0_b
def c75_l1_b:EC:=(.seq (.seq (.reg 7 [qM 21 5,qA 22 6 1,qL 23 22,qI 24 (.len false (qt 23)),qI 25 (.bin .lss (qt 21) (qt 24))] false (some [1,3,5,25]))
 (.cond (qt 25) .skip (.exit 2)))
 (.seq (.block 3 (.reg 9 [qM 28 3,qA 29 6 1,qL 30 29,qM 31 5,qI 32 (.ixL 7 (qt 30) (qt 31)),qD 33 7 32,qI 34 (.call (qF 75) [(qt 33)]),qI 35 (.bin .add (qt 28) (qt 34)),
 qM 3 35] false (some [1,3,5])))
 (.reg 8 [qM 26 5,qI 27 (.bin .add (qt 26) (qN 1)),qM 5 27] false (some [1,3,5]))))
def c75_l1:EC:= .loop (some [1,3,5]) c75_l1_b
def c75_b:EC:=(.seq (.reg 0 [qI 1 (.boxI 26 (qt 0)),qI 2 (.mv (qN 0))] false (some [1]))
 (.seq (.reg 1 [qI 3 (.mv (qN 1))] false (some [1,3]))
 (.seq (.seq (.reg 2 [qI 4 (.mv (qN 0))] false (some [1,3,4]))
 (.block 0 c75_l0))
 (.seq (.seq (.reg 6 [qI 5 (.mv (qN 0))] false (some [1,3,5]))
 (.block 2 c75_l1))
 (.seq (.reg 10 [qM 36 3,qM 2 36] false (some [2]))
 .ret)))))
def c75:EFn:=⟨1,37,[.tmp 2],c75_b,none,true⟩
theorem c75_l0_w {E:Env} {fin:Kont (PV×St)} {st:List Fw} {ts:Tmps} {S:St}:run E fin st c75_l0 ts S=run E fin (.again c75_l0::st) c75_l0_b (sel (some [1,3,4]) ts) S:=w_loop
theorem c75_l0_a {E:Env} {fin:Kont (PV×St)} {st:List Fw} {ts:Tmps} {S:St}:aft E fin (.again c75_l0::st) .normal ts S=run E fin st c75_l0 (sel (some [1,3,4]) ts) S:=a_again_s
theorem c75_l1_w {E:Env} {fin:Kont (PV×St)} {st:List Fw} {ts:Tmps} {S:St}:run E fin st c75_l1 ts S=run E fin (.again c75_l1::st) c75_l1_b (sel (some [1,3,5]) ts) S:=w_loop
theorem c75_l1_a {E:Env} {fin:Kont (PV×St)} {st:List Fw} {ts:Tmps} {S:St}:aft E fin (.again c75_l1::st) .normal ts S=run E fin st c75_l1 (sel (some [1,3,5]) ts) S:=a_again_s
theorem c75_ok:cFn Tryz.prog Tryz.f75=some c75.strip:=by kernel_rfl
def c76_l0_b:EC:=(.seq (.seq (.reg 3 [qM 6 4,qA 7 4 1,qL 8 7,qI 9 (.len false (qt 8)),qI 10 (.bin .lss (qt 6) (qt 9))] false (some [1,3,4,10]))
 (.cond (qt 10) .skip (.exit 0)))
 (.seq (.block 1 (.reg 5 [qM 13 3,qA 14 4 1,qL 15 14,qM 16 4,qI 17 (.ixL 5 (qt 15) (qt 16)),qD 18 5 17,qI 19 (.call (qF 78) [(qt 18)]),qI 20 (.mx false (qt 13) (qt 19)),
 qM 3 20] false (some [1,3,4])))
 (.reg 4 [qM 11 4,qI 12 (.bin .add (qt 11) (qN 1)),qM 4 12] false (some [1,3,4]))))
def c76_l0:EC:= .loop (some [1,3,4]) c76_l0_b
def c76_l1_b:EC:=(.seq (.seq (.reg 7 [qM 21 5,qA 22 6 1,qL 23 22,qI 24 (.len false (qt 23)),qI 25 (.bin .lss (qt 21) (qt 24))] false (some [1,3,5,25]))
 (.cond (qt 25) .skip (.exit 2)))
 (.seq (.block 3 (.reg 9 [qM 28 3,qA 29 6 1,qL 30 29,qM 31 5,qI 32 (.ixL 7 (qt 30) (qt 31)),qD 33 7 32,qI 34 (.call (qF 76) [(qt 33)]),qI 35 (.mx false (qt 28) (qt 34)),
 qM 3 35] false (some [1,3,5])))
 (.reg 8 [qM 26 5,qI 27 (.bin .add (qt 26) (qN 1)),qM 5 27] false (some [1,3,5]))))
def c76_l1:EC:= .loop (some [1,3,5]) c76_l1_b
def c76_b:EC:=(.seq (.reg 0 [qI 1 (.boxI 26 (qt 0)),qI 2 (.mv (qN 0))] false (some [1]))
 (.seq (.reg 1 [qI 3 (.mv (qN 0))] false (some [1,3]))
 (.seq (.seq (.reg 2 [qI 4 (.mv (qN 0))] false (some [1,3,4]))
 (.block 0 c76_l0))
 (.seq (.seq (.reg 6 [qI 5 (.mv (qN 0))] false (some [1,3,5]))
 (.block 2 c76_l1))
 (.seq (.reg 10 [qM 36 3,qI 37 (.bin .add (qt 36) (qN 1)),qM 2 37] false (some [2]))
 .ret)))))
def c76:EFn:=⟨1,38,[.tmp 2],c76_b,none,true⟩
theorem c76_l0_w {E:Env} {fin:Kont (PV×St)} {st:List Fw} {ts:Tmps} {S:St}:run E fin st c76_l0 ts S=run E fin (.again c76_l0::st) c76_l0_b (sel (some [1,3,4]) ts) S:=w_loop
theorem c76_l0_a {E:Env} {fin:Kont (PV×St)} {st:List Fw} {ts:Tmps} {S:St}:aft E fin (.again c76_l0::st) .normal ts S=run E fin st c76_l0 (sel (some [1,3,4]) ts) S:=a_again_s
theorem c76_l1_w {E:Env} {fin:Kont (PV×St)} {st:List Fw} {ts:Tmps} {S:St}:run E fin st c76_l1 ts S=run E fin (.again c76_l1::st) c76_l1_b (sel (some [1,3,5]) ts) S:=w_loop
theorem c76_l1_a {E:Env} {fin:Kont (PV×St)} {st:List Fw} {ts:Tmps} {S:St}:aft E fin (.again c76_l1::st) .normal ts S=run E fin st c76_l1 (sel (some [1,3,5]) ts) S:=a_again_s
theorem c76_ok:cFn Tryz.prog Tryz.f76=some c76.strip:=by kernel_rfl
def c77_l0_b:EC:=(.seq (.seq (.reg 3 [qM 5 4,qA 6 4 1,qL 7 6,qI 8 (.len false (qt 7)),qI 9 (.bin .lss (qt 5) (qt 8))] false (some [1,3,4,9]))
 (.cond (qt 9) .skip (.exit 0)))
 (.seq (.block 1 (.reg 5 [qM 12 3,qA 13 4 1,qL 14 13,qM 15 4,qI 16 (.ixL 5 (qt 14) (qt 15)),qD 17 5 16,qI 18 (.call (qF 77) [(qt 17)]),qI 19 (.bin .add (qt 12) (qt 18)),
 qM 3 19] false (some [1,3,4])))
 (.reg 4 [qM 10 4,qI 11 (.bin .add (qt 10) (qN 1)),qM 4 11] false (some [1,3,4]))))
def c77_l0:EC:= .loop (some [1,3,4]) c77_l0_b
def c77_b:EC:=(.seq (.reg 0 [qI 1 (.boxI 34 (qt 0)),qI 2 (.mv (qN 0))] false (some [1]))
 (.seq (.reg 1 [qI 3 (.mv (qN 1))] false (some [1,3]))
 (.seq (.seq (.reg 2 [qI 4 (.mv (qN 0))] false (some [1,3,4]))
 (.block 0 c77_l0))
 (.seq (.reg 6 [qM 20 3,qM 2 20] false (some [2]))
 .ret))))
def c77:EFn:=⟨1,21,[.tmp 2],c77_b,none,true⟩
theorem c77_l0_w {E:Env} {fin:Kont (PV×St)} {st:List Fw} {ts:Tmps} {S:St}:run E fin st c77_l0 ts S=run E fin (.again c77_l0::st) c77_l0_b (sel (some [1,3,4]) ts) S:=w_loop
theorem c77_l0_a {E:Env} {fin:Kont (PV×St)} {st:List Fw} {ts:Tmps} {S:St}:aft E fin (.again c77_l0::st) .normal ts S=run E fin st c77_l0 (sel (some [1,3,4]) ts) S:=a_again_s
theorem c77_ok:cFn Tryz.prog Tryz.f77=some c77.strip:=by kernel_rfl
def c78_l0_b:EC:=(.seq (.seq (.reg 3 [qM 5 4,qA 6 4 1,qL 7 6,qI 8 (.len false (qt 7)),qI 9 (.bin .lss (qt 5) (qt 8))] false (some [1,3,4,9]))
 (.cond (qt 9) .skip (.exit 0)))
 (.seq (.block 1 (.reg 5 [qM 12 3,qA 13 4 1,qL 14 13,qM 15 4,qI 16 (.ixL 5 (qt 14) (qt 15)),qD 17 5 16,qI 18 (.call (qF 78) [(qt 17)]),qI 19 (.mx false (qt 12) (qt 18)),
 qM 3 19] false (some [1,3,4])))
 (.reg 4 [qM 10 4,qI 11 (.bin .add (qt 10) (qN 1)),qM 4 11] false (some [1,3,4]))))
def c78_l0:EC:= .loop (some [1,3,4]) c78_l0_b
def c78_b:EC:=(.seq (.reg 0 [qI 1 (.boxI 34 (qt 0)),qI 2 (.mv (qN 0))] false (some [1]))
 (.seq (.reg 1 [qI 3 (.mv (qN 0))] false (some [1,3]))
 (.seq (.seq (.reg 2 [qI 4 (.mv (qN 0))] false (some [1,3,4]))
 (.block 0 c78_l0))
 (.seq (.reg 6 [qM 20 3,qI 21 (.bin .add (qt 20) (qN 1)),qM 2 21] false (some [2]))
 .ret))))
def c78:EFn:=⟨1,22,[.tmp 2],c78_b,none,true⟩
theorem c78_l0_w {E:Env} {fin:Kont (PV×St)} {st:List Fw} {ts:Tmps} {S:St}:run E fin st c78_l0 ts S=run E fin (.again c78_l0::st) c78_l0_b (sel (some [1,3,4]) ts) S:=w_loop
theorem c78_l0_a {E:Env} {fin:Kont (PV×St)} {st:List Fw} {ts:Tmps} {S:St}:aft E fin (.again c78_l0::st) .normal ts S=run E fin st c78_l0 (sel (some [1,3,4]) ts) S:=a_again_s
theorem c78_ok:cFn Tryz.prog Tryz.f78=some c78.strip:=by kernel_rfl
def c79_r4:List EI:=[qM 11 5,qM 12 0,qI 13 (.len false (qt 12)),qI 14 (.bin .lss (qt 11) (qt 13)),qM 15 14,qJ 16 (.mv (qt 5)) 15 true,qJ 17 (.mv (qt 1)) 15 true,
 qJ 18 (.len false (qt 17)) 15 true,qJ 19 (.bin .lss (qt 16) (qt 18)) 15 true,qI 20 (.pick (qt 15) (qt 19) (.con (.bool false)))]
def c79_r6:List EI:=[⟨some 23,.mv (qt 0),none,⟨.no,false⟩⟩,
 ⟨some 24,.mv (qt 5),none,⟨.no,false⟩⟩,
 ⟨some 25,.ixL 6 (qt 23) (qt 24),none,⟨.no,false⟩⟩,
 ⟨some 26,.fA 0 (qt 25),none,⟨.no,false⟩⟩,
 ⟨some 27,.ld none (qt 26),none,⟨.still,false⟩⟩,
 ⟨some 28,.mv (qt 1),none,⟨.no,false⟩⟩,qM 29 5,qI 30 (.ixL 6 (qt 28) (qt 29)),qA 31 0 30,
 ⟨some 32,.ld none (qt 31),none,Q1⟩,qI 33 (.bin .neq (qt 27) (qt 32)),qM 34 33,
 ⟨some 35,.mv (qt 0),some (34,false),⟨.no,false⟩⟩,
 ⟨some 36,.mv (qt 5),some (34,false),⟨.no,false⟩⟩,
 ⟨some 37,.ixL 6 (qt 35) (qt 36),some (34,false),⟨.no,false⟩⟩,
 ⟨some 38,.fA 1 (qt 37),some (34,false),⟨.no,false⟩⟩,
 ⟨some 39,.ld (some 5) (qt 38),some (34,false),⟨.still,false⟩⟩,
 ⟨some 40,.mv (qt 1),some (34,false),⟨.no,false⟩⟩,qJ 41 (.mv (qt 5)) 34 false,qJ 42 (.ixL 6 (qt 40) (qt 41)) 34 false,qJ 43 (.fA 1 (qt 42)) 34 false,
 ⟨some 44,.ld (some 5) (qt 43),some (34,false),Q1⟩,qJ 45 (.call (qF 80) [(qt 39),(qt 44)]) 34 false,qJ 46 (.un .not (qt 45)) 34 false,qI 47 (.pick (qt 34) (.con (.bool true)) (qt 46))]
def c79_l0_b:EC:=(.seq (.seq (.reg 4 c79_r4 false (some [0,1,5,20]))
 (.cond (qt 20) .skip (.exit 0)))
 (.seq (.block 1 (.seq (.reg 6 c79_r6 true (some [0,1,5,47]))
 (.cond (qt 47) (.seq (.reg 7 [qI 4 (.mv (.con (.bool false)))] false (some [4]))
 .ret) .skip)))
 (.reg 5 [qM 21 5,qI 22 (.bin .add (qt 21) (qN 1)),qM 5 22] false (some [0,1,5]))))
def c79_l0:EC:= .loop (some [0,1,5]) c79_l0_b
def c79_b:EC:=(.seq (.reg 0 [qI 4 (.mv (.con (.bool false)))] false (some [0,1]))
 (.seq (.seq (.reg 1 [qM 6 0,qI 7 (.len false (qt 6)),qM 8 1,qI 9 (.len false (qt 8)),qI 10 (.bin .neq (qt 7) (qt 9))] false (some [0,1,10]))
 (.cond (qt 10) (.seq (.reg 2 [qI 4 (.mv (.con (.bool false)))] false (some [4]))
 .ret) .skip))
 (.seq (.seq (.reg 3 [qI 5 (.mv (qN 0))] false (some [0,1,5]))
 (.block 0 c79_l0))
 (.seq (.reg 8 [qI 4 (.mv (.con (.bool true)))] false (some [4]))
 .ret))))
def c79:EFn:=⟨2,48,[.tmp 4],c79_b,none,true⟩
theorem c79_l0_w {E:Env} {fin:Kont (PV×St)} {st:List Fw} {ts:Tmps} {S:St}:run E fin st c79_l0 ts S=run E fin (.again c79_l0::st) c79_l0_b (sel (some [0,1,5]) ts) S:=w_loop
theorem c79_l0_a {E:Env} {fin:Kont (PV×St)} {st:List Fw} {ts:Tmps} {S:St}:aft E fin (.again c79_l0::st) .normal ts S=run E fin st c79_l0 (sel (some [0,1,5]) ts) S:=a_again_s
theorem c79_ok:cFn Tryz.prog Tryz.f79=some c79.strip:=by kernel_rfl
def c80_r1:List EI:=[qA 6 0 2,qL 7 6,qA 8 0 3,qL 9 8,qI 10 (.bin .neq (qt 7) (qt 9)),qM 11 10,qJ 12 (.fA 1 (qt 2)) 11 false,qJ 13 (.ld none (qt 12)) 11 false,
 qJ 14 (.fA 1 (qt 3)) 11 false,qJ 15 (.ld none (qt 14)) 11 false,qJ 16 (.bin .neq (qt 13) (qt 15)) 11 false,qI 17 (.pick (qt 11) (.con (.bool true)) (qt 16)),
 qM 18 17,qJ 19 (.fA 2 (qt 2)) 18 false,qJ 20 (.ld none (qt 19)) 18 false,qJ 21 (.fA 2 (qt 3)) 18 false,qJ 22 (.ld none (qt 21)) 18 false,qJ 23 (.bin .neq (qt 20) (qt 22)) 18 false,
 qI 24 (.pick (qt 18) (.con (.bool true)) (qt 23)),qM 25 24,qJ 26 (.fA 3 (qt 2)) 25 false,qJ 27 (.ld none (qt 26)) 25 false,qJ 28 (.fA 3 (qt 3)) 25 false,
 qJ 29 (.ld none (qt 28)) 25 false,qJ 30 (.call (qF 36) [(qt 27),(qt 29)]) 25 false,qJ 31 (.un .not (qt 30)) 25 false,qI 32 (.pick (qt 25) (.con (.bool true)) (qt 31)),
 qM 33 32,qJ 34 (.fA 4 (qt 2)) 33 false,qJ 35 (.ld none (qt 34)) 33 false,qJ 36 (.len false (qt 35)) 33 false,qJ 37 (.fA 4 (qt 3)) 33 false,qJ 38 (.ld none (qt 37)) 33 false,
 qJ 39 (.len false (qt 38)) 33 false,qJ 40 (.bin .neq (qt 36) (qt 39)) 33 false,qI 41 (.pick (qt 33) (.con (.bool true)) (qt 40))]
def c80_r4:List EI:=[qM 42 5,qA 43 4 2,qL 44 43,qI 45 (.len false (qt 44)),qI 46 (.bin .lss (qt 42) (qt 45)),qM 47 46,qJ 48 (.mv (qt 5)) 47 true,
 qJ 49 (.fA 4 (qt 3)) 47 true,qJ 50 (.ld none (qt 49)) 47 true,qJ 51 (.len false (qt 50)) 47 true,qJ 52 (.bin .lss (qt 48) (qt 51)) 47 true,qI 53 (.pick (qt 47) (qt 52) (.con (.bool false)))]
def c80_l0_b:EC:=(.seq (.seq (.reg 4 c80_r4 false (some [2,3,5,53]))
 (.cond (qt 53) .skip (.exit 0)))
 (.seq (.block 1 (.seq (.reg 6 [⟨some 56,.fA 4 (qt 2),none,⟨.no,false⟩⟩,
 ⟨some 57,.ld none (qt 56),none,⟨.still,false⟩⟩,
 ⟨some 58,.mv (qt 5),none,⟨.no,false⟩⟩,
 ⟨some 59,.ixL 5 (qt 57) (qt 58),none,⟨.no,false⟩⟩,
 ⟨some 60,.ld (some 5) (qt 59),none,⟨.still,false⟩⟩,
 ⟨some 61,.fA 4 (qt 3),none,⟨.no,false⟩⟩,
 ⟨some 62,.ld none (qt 61),none,⟨.still,false⟩⟩,qM 63 5,qI 64 (.ixL 5 (qt 62) (qt 63)),
 ⟨some 65,.ld (some 5) (qt 64),none,Q1⟩,qI 66 (.call (qF 80) [(qt 60),(qt 65)]),qI 67 (.un .not (qt 66))] true (some [2,3,5,67]))
 (.cond (qt 67) (.seq (.reg 7 [qI 4 (.mv (.con (.bool false)))] false (some [4]))
 .ret) .skip)))
 (.reg 5 [qM 54 5,qI 55 (.bin .add (qt 54) (qN 1)),qM 5 55] false (some [2,3,5]))))
def c80_l0:EC:= .loop (some [2,3,5]) c80_l0_b
def c80_b:EC:=(.seq (.reg 0 [qI 2 (.boxI 34 (qt 0)),qI 3 (.boxI 34 (qt 1)),qI 4 (.mv (.con (.bool false)))] false (some [2,3]))
 (.seq (.seq (.reg 1 c80_r1 false (some [2,3,41]))
 (.cond (qt 41) (.seq (.reg 2 [qI 4 (.mv (.con (.bool false)))] false (some [4]))
 .ret) .skip))
 (.seq (.seq (.reg 3 [qI 5 (.mv (qN 0))] false (some [2,3,5]))
 (.block 0 c80_l0))
 (.seq (.reg 8 [qI 4 (.mv (.con (.bool true)))] false (some [4]))
 .ret))))
def c80:EFn:=⟨2,68,[.tmp 4],c80_b,none,true⟩
theorem c80_l0_w {E:Env} {fin:Kont (PV×St)} {st:List Fw} {ts:Tmps} {S:St}:run E fin st c80_l0 ts S=run E fin (.again c80_l0::st) c80_l0_b (sel (some [2,3,5]) ts) S:=w_loop
theorem c80_l0_a {E:Env} {fin:Kont (PV×St)} {st:List Fw} {ts:Tmps} {S:St}:aft E fin (.again c80_l0::st) .normal ts S=run E fin st c80_l0 (sel (some [2,3,5]) ts) S:=a_again_s
theorem c80_ok:cFn Tryz.prog Tryz.f80=some c80.strip:=by kernel_rfl
def c81_r4:List EI:=[⟨some 10,.mv (qt 0),none,⟨.no,false⟩⟩,qM 11 3,qI 12 (.ixL 1 (qt 10) (qt 11)),qL 13 12,qI 14 (.call (qF 69) [(qt 13)]),
 qI 15 (.un .not (qt 14)),qM 16 15,qJ 17 (.mv (qt 3)) 16 false,qJ 18 (.bin .gtr (qt 17) (qN 0)) 16 false,qJ 19 (.mv (qt 18)) 16 false,
 ⟨some 20,.mv (qt 0),some (19,true),⟨.no,false⟩⟩,
 ⟨some 21,.mv (qt 3),some (19,true),⟨.no,false⟩⟩,
 ⟨some 22,.bin .sub (qt 21) (qN 1),some (19,true),⟨.no,false⟩⟩,
 ⟨some 23,.ixL 1 (qt 20) (qt 22),some (19,true),⟨.no,false⟩⟩,
 ⟨some 24,.ld none (qt 23),some (19,true),⟨.still,false⟩⟩,
 ⟨some 25,.mv (qt 0),some (19,true),⟨.no,false⟩⟩,qJ 26 (.mv (qt 3)) 19 true,qJ 27 (.ixL 1 (qt 25) (qt 26)) 19 true,
 ⟨some 28,.ld none (qt 27),some (19,true),Q1⟩,qJ 29 (.bin .geq (qt 24) (qt 28)) 19 true,qJ 30 (.pick (qt 19) (qt 29) (.con (.bool false))) 16 false,
 qI 31 (.pick (qt 16) (.con (.bool true)) (qt 30))]
def c81_l0_b:EC:=(.seq (.seq (.reg 2 [qM 4 3,qM 5 0,qI 6 (.len false (qt 5)),qI 7 (.bin .lss (qt 4) (qt 6))] false (some [0,3,7]))
 (.cond (qt 7) .skip (.exit 0)))
 (.seq (.block 1 (.seq (.reg 4 c81_r4 true (some [0,3,31]))
 (.cond (qt 31) (.seq (.reg 5 [qI 2 (.mv (.con (.bool false)))] false (some [2]))
 .ret) .skip)))
 (.reg 3 [qM 8 3,qI 9 (.bin .add (qt 8) (qN 1)),qM 3 9] false (some [0,3]))))
def c81_l0:EC:= .loop (some [0,3]) c81_l0_b
def c81_b:EC:=(.seq (.reg 0 [qI 2 (.mv (.con (.bool false)))] false (some [0]))
 (.seq (.seq (.reg 1 [qI 3 (.mv (qN 0))] false (some [0,3]))
 (.block 0 c81_l0))
 (.seq (.reg 6 [qI 2 (.mv (.con (.bool true)))] false (some [2]))
 .ret)))
def c81:EFn:=⟨1,32,[.tmp 2],c81_b,none,true⟩
theorem c81_l0_step {E:Env} {fin:Kont (PV×St)} {st:List Fr} {ts:Tmps} {S:St} {n:Nat}:(lvl E (n+1)).ev c81_l0 ts S (kont E fin st)=(lvl E (n+1)).ev c81_l0_b (sel (some [0,3]) ts) S (kont E fin (.again n c81_l0::st)):=rfl
theorem c81_l0_w {E:Env} {fin:Kont (PV×St)} {st:List Fw} {ts:Tmps} {S:St}:run E fin st c81_l0 ts S=run E fin (.again c81_l0::st) c81_l0_b (sel (some [0,3]) ts) S:=w_loop
theorem c81_l0_a {E:Env} {fin:Kont (PV×St)} {st:List Fw} {ts:Tmps} {S:St}:aft E fin (.again c81_l0::st) .normal ts S=run E fin st c81_l0 (sel (some [0,3]) ts) S:=a_again_s
theorem c81_ok:cFn Tryz.prog Tryz.f81=some c81.strip:=by kernel_rfl
def c82_b:EC:=(.seq (.reg 0 [qI 1 (.boxI 26 (qt 0)),qI 2 (.mv (qN 0)),qI 3 (.mv (qN 0)),qI 4 (.mv (qN 0)),qI 5 (.mv (qN 0))] false (some [1]))
 (.seq (.seq (.reg 1 [qA 6 0 1,qL 7 6] false (some [1,7]))
 (.block 0 (.seq (.reg 2 [qI 9 (.bin .eql (qt 7) (qN 5)),qM 8 9] false (some [1,7,8]))
 (.cond (qt 8) (.seq (.reg 3 [qI 2 (.mv (qN 0)),qI 3 (.mv (qN 1)),qI 4 (.mv (qN 2)),qI 5 (.mv (qN 2))] false (some [2,3,4,5]))
 .ret) (.seq (.reg 4 [qI 11 (.bin .eql (qt 7) (qN 6)),qM 10 11] false (some [1,7,10]))
 (.cond (qt 10) (.seq (.reg 5 [qI 2 (.mv (qN 0)),qI 3 (.mv (qN 0)),qI 4 (.mv (qN 3)),qI 5 (.mv (qN 3))] false (some [2,3,4,5]))
 .ret) (.seq (.reg 6 [qI 13 (.bin .eql (qt 7) (qN 7)),qM 12 13] false (some [1,7,12]))
 (.cond (qt 12) (.seq (.reg 7 [qI 2 (.mv (qN 0)),qI 3 (.mv (qN 1)),qI 4 (.mv (qN 1)),qI 5 (.mv (qN 1))] false (some [2,3,4,5]))
 .ret) (.seq (.seq (.reg 8 [qI 15 (.bin .eql (qt 7) (qN 8)),qM 14 15] false (some [1,7,14]))
 (.cond (qt 14) .skip (.reg 9 [qI 16 (.bin .eql (qt 7) (qN 11)),qM 14 16] false (some [1,7,14]))))
 (.cond (qt 14) (.seq (.reg 10 [qI 2 (.mv (qN 0)),qI 3 (.mv (qN 0)),qI 4 (.mv (qN 2)),qI 5 (.mv (qN 2))] false (some [2,3,4,5]))
 .ret) (.seq (.reg 11 [qI 18 (.bin .eql (qt 7) (qN 9)),qM 17 18] false (some [1,7,17]))
 (.cond (qt 17) (.seq (.reg 12 [⟨some 19,.fA 5 (qt 1),none,⟨.no,false⟩⟩,
 ⟨some 20,.ld none (qt 19),none,⟨.still,false⟩⟩,
 ⟨some 21,.len false (qt 20),none,⟨.no,false⟩⟩,
 ⟨some 22,.fA 5 (qt 1),none,⟨.no,false⟩⟩,
 ⟨some 23,.ld none (qt 22),none,⟨.still,false⟩⟩,
 ⟨some 24,.len false (qt 23),none,⟨.no,false⟩⟩,qI 2 (.mv (qN 0)),qI 3 (.mv (qN 0)),qM 4 21,qM 5 24] true (some [2,3,4,5]))
 .ret) (.seq (.reg 13 [qI 26 (.bin .eql (qt 7) (qN 10)),qM 25 26] false (some [1,7,25]))
 (.cond (qt 25) (.seq (.reg 14 [qI 2 (.mv (qN 0)),qI 3 (.mv (qN 0)),qI 4 (.mv (qN 1)),qI 5 (.mv (qN 1))] false (some [2,3,4,5]))
 .ret) (.seq (.reg 15 [qI 28 (.bin .eql (qt 7) (qN 12)),qM 27 28] false (some [1,7,27]))
 (.cond (qt 27) (.seq (.reg 16 [qI 2 (.mv (qN 1)),qI 3 (.mv (qN 1)),qI 4 (.mv (qN 1)),qI 5 (.mv (qN 1))] false (some [2,3,4,5]))
 .ret) (.seq (.reg 17 [qI 30 (.bin .eql (qt 7) (qN 13)),qM 29 30] false (some [1,29]))
 (.cond (qt 29) (.seq (.seq (.reg 18 [qA 31 3 1,qL 32 31] false (some [32]))
 (.cond (qt 32) (.seq (.reg 19 [qI 2 (.mv (qN 1)),qI 3 (.mv (qN 3)),qI 4 (.mv (qN 0)),qI 5 (.mv (qN 4))] false (some [2,3,4,5]))
 .ret) .skip))
 (.seq (.reg 20 [qI 2 (.mv (qN 0)),qI 3 (.mv (qN 0)),qI 4 (.mv (qN 0)),qI 5 (.mv (qN 4))] false (some [2,3,4,5]))
 .ret)) .skip))))))))))))))))))
 (.seq (.reg 21 [qI 2 (.mv (qN 0)),qI 3 (.mv (qN 0)),qI 4 (.mv (qN 0)),qI 5 (.mv (qN 0))] false (some [2,3,4,5]))
 .ret)))
def c82:EFn:=⟨1,33,[.tmp 2,.tmp 3,.tmp 4,.tmp 5],c82_b,none,true⟩
theorem c82_ok:cFn Tryz.prog Tryz.f82=some c82.strip:=by kernel_rfl
def c83_r4:List EI:=[qM 12 4,qI 13 (.call (qF 58) [(qt 12)]),qI 14 (.un .not (qt 13)),qM 15 14,qJ 16 (.mv (qt 3)) 15 false,qJ 17 (.bin .gtr (qt 16) (qN 0)) 15 false,
 qJ 18 (.mv (qt 17)) 15 false,qJ 19 (.mv (qt 0)) 18 true,qJ 20 (.mv (qt 3)) 18 true,qJ 21 (.bin .sub (qt 20) (qN 1)) 18 true,qJ 22 (.ixL 1 (qt 19) (qt 21)) 18 true,
 qJ 23 (.ld none (qt 22)) 18 true,qJ 24 (.mv (qt 4)) 18 true,qJ 25 (.bin .geq (qt 23) (qt 24)) 18 true,qJ 26 (.pick (qt 18) (qt 25) (.con (.bool false))) 15 false,
 qI 27 (.pick (qt 15) (.con (.bool true)) (qt 26))]
def c83_l0_b:EC:=(.seq (.reg 2 [qI 8 (.bin .lss (qt 7) (qt 6))] false (some [0,5,6,7,8]))
 (.seq (.cond (qt 8) .skip (.exit 0))
 (.seq (.block 1 (.seq (.reg 3 [qM 9 7,qI 10 (.ixL 1 (qt 5) (qt 7)),qL 11 10,qM 3 9,qM 4 11] false (some [0,3,4,5,6,7]))
 (.seq (.reg 4 c83_r4 false (some [0,5,6,7,27]))
 (.cond (qt 27) (.seq (.reg 5 [qI 2 (.mv (.con (.bool false)))] false (some [2]))
 .ret) .skip))))
 (.reg 6 [qI 28 (.bin .add (qt 7) (qN 1)),qM 7 28] false (some [0,5,6,7])))))
def c83_l0:EC:= .loop (some [0,5,6,7]) c83_l0_b
def c83_b:EC:=(.seq (.reg 0 [qI 2 (.mv (.con (.bool false)))] false (some [0]))
 (.seq (.seq (.reg 1 [qM 5 0,qI 6 (.len false (qt 5)),qI 7 (.mv (qN 0))] false (some [0,5,6,7]))
 (.block 0 c83_l0))
 (.seq (.reg 7 [qI 2 (.mv (.con (.bool true)))] false (some [2]))
 .ret)))
def c83:EFn:=⟨1,29,[.tmp 2],c83_b,none,true⟩
theorem c83_l0_w {E:Env} {fin:Kont (PV×St)} {st:List Fw} {ts:Tmps} {S:St}:run E fin st c83_l0 ts S=run E fin (.again c83_l0::st) c83_l0_b (sel (some [0,5,6,7]) ts) S:=w_loop
theorem c83_l0_a {E:Env} {fin:Kont (PV×St)} {st:List Fw} {ts:Tmps} {S:St}:aft E fin (.again c83_l0::st) .normal ts S=run E fin st c83_l0 (sel (some [0,5,6,7]) ts) S:=a_again_s
theorem c83_ok:cFn Tryz.prog Tryz.f83=some c83.strip:=by kernel_rfl
def c84_b:EC:=(.seq (.reg 0 [qI 4 (.mv (.con (.bool false)))] false (some [0,1]))
 (.seq (.reg 1 [qM 5 0,qM 6 1,qI 7 (.call (qF 114) [(qt 5),(qt 6)]),qI 8 (.bin .geq (qt 7) (qN 0)),qM 4 8] false (some [4]))
 .ret))
def c84:EFn:=⟨2,9,[.tmp 4],c84_b,none,true⟩
theorem c84_ok:cFn Tryz.prog Tryz.f84=some c84.strip:=by kernel_rfl
def c85_b:EC:=(.seq (.reg 0 [qI 2 (.boxI 34 (qt 0)),qI 3 (.mv (.con (.bool false)))] false (some [1,2]))
 (.seq (.reg 1 [qL 4 1,qD 5 5 2,qI 6 (.call (qt 4) [(qt 5)]),qI 7 (.un .not (qt 6)),qM 3 7] false (some [3]))
 .ret))
def c85:EFn:=⟨2,8,[.tmp 3],c85_b,none,true⟩
theorem c85_ok:cFn Tryz.prog Tryz.f85=some c85.strip:=by kernel_rfl
def c86_f0_a:EC:=(.reg 2 [qI 5 (.new 34 qz2),
 ⟨none,.st 5 (qt 5) (qt 8),none,Q0⟩] false (some [3,4,5]))
def c86_f0_b:EC:=(.block 1 (.seq (.reg 3 [qA 9 0 5,qL 10 9,qL 11 3,qI 12 (.bin .eql (qt 10) (qt 11))] false (some [4,12]))
 (.cond (qt 12) (.seq (.reg 4 [⟨none,.st 1 (qt 4) (.con (.bool true)),none,Q0⟩] false (some []))
 .ret) .skip)))
def c86_b:EC:=(.seq (.reg 0 [qI 2 (.boxI 34 (qt 0)),qI 3 (.boxI 3 (qt 1)),qI 4 (.new 4 [(.bool false)])] false (some [2,3,4]))
 (.seq (.seq (.reg 1 [qD 6 5 2,qI 7 (.call (qF 115) [(qt 6)])] false (some [3,4,7]))
 (.block 0 (.rangeF (some [3,4]) (qt 7) [8] c86_f0_a c86_f0_b)))
 (.seq (.reg 5 [⟨none,.st 1 (qt 4) (.con (.bool false)),none,Q0⟩] false (some [4]))
 .ret)))
def c86:EFn:=⟨2,13,[.cell 4 none],c86_b,none,true⟩
theorem c86_ok:cFn Tryz.prog Tryz.f86=some c86.strip:=by kernel_rfl
def c87_b:EC:=(.seq (.reg 0 [qI 4 (.mv (.con (.bool false)))] false (some [0,1]))
 (.seq (.reg 1 [qM 5 0,qM 6 1,qI 7 (.call (qF 116) [(qt 5),(qt 6)]),qI 8 (.bin .geq (qt 7) (qN 0)),qM 4 8] false (some [4]))
 .ret))
def c87:EFn:=⟨2,9,[.tmp 4],c87_b,none,true⟩
theorem c87_ok:cFn Tryz.prog Tryz.f87=some c87.strip:=by kernel_rfl
def c88_b:EC:=(.seq (.reg 0 [qI 2 (.boxI 26 (qt 0)),qI 3 (.mv (.con (.bool false)))] false (some [1,2]))
 (.seq (.reg 1 [qL 4 1,qD 5 7 2,qI 6 (.call (qt 4) [(qt 5)]),qI 7 (.un .not (qt 6)),qM 3 7] false (some [3]))
 .ret))
def c88:EFn:=⟨2,8,[.tmp 3],c88_b,none,true⟩
theorem c88_ok:cFn Tryz.prog Tryz.f88=some c88.strip:=by kernel_rfl
def c89_b:EC:=(.seq (.reg 0 [qI 1 (.boxI 26 (qt 0)),qI 2 (.mv (qN 0))] false (some [1]))
 (.seq (.seq (.reg 1 [qA 3 0 1,qL 4 3] false (some [1,4]))
 (.block 0 (.seq (.block 4 (.seq (.block 3 (.seq (.block 2 (.block 1 (.seq (.seq (.seq (.seq (.reg 2 [qI 6 (.bin .eql (qt 4) (qN 5)),qM 5 6] false (some [1,4,5]))
 (.cond (qt 5) .skip (.reg 3 [qI 7 (.bin .eql (qt 4) (qN 6)),qM 5 7] false (some [1,4,5]))))
 (.cond (qt 5) (.exit 1) .skip))
 (.seq (.seq (.reg 4 [qI 9 (.bin .eql (qt 4) (qN 7)),qM 8 9] false (some [1,4,8]))
 (.cond (qt 8) (.exit 2) .skip))
 (.seq (.seq (.reg 5 [qI 11 (.bin .eql (qt 4) (qN 11)),qM 10 11] false (some [1,4,10]))
 (.cond (qt 10) (.exit 3) .skip))
 (.seq (.seq (.reg 6 [qI 13 (.bin .eql (qt 4) (qN 8)),qM 12 13] false (some [4,12]))
 (.cond (qt 12) .skip (.reg 7 [qI 14 (.bin .eql (qt 4) (qN 10)),qM 12 14] false (some [12]))))
 (.cond (qt 12) (.exit 4) .skip)))))
 (.exit 0))))
 (.seq (.seq (.reg 8 [qI 2 (.mv (qN 0))] false (some [2]))
 .ret)
 (.exit 0))))
 (.seq (.seq (.seq (.reg 9 [qA 15 1 1,qL 16 15] false (some [16]))
 (.block 5 (.seq (.seq (.reg 10 [qI 18 (.bin .eql (qt 16) (qN 6)),qM 17 18] false (some [16,17]))
 (.cond (qt 17) .skip (.reg 11 [qI 19 (.bin .eql (qt 16) (qN 7)),qM 17 19] false (some [16,17]))))
 (.cond (qt 17) (.seq (.reg 12 [qI 2 (.mv (qN 1))] false (some [2]))
 .ret) (.seq (.seq (.reg 13 [qI 21 (.bin .eql (qt 16) (qN 3)),qM 20 21] false (some [16,20]))
 (.cond (qt 20) .skip (.reg 14 [qI 22 (.bin .eql (qt 16) (qN 4)),qM 20 22] false (some [20]))))
 (.cond (qt 20) (.seq (.reg 15 [qI 2 (.mv (qN 3))] false (some [2]))
 .ret) .skip))))))
 (.seq (.reg 16 [qI 2 (.mv (qN 2))] false (some [2]))
 .ret))
 (.exit 0))))
 (.seq (.seq (.reg 17 [qI 2 (.mv (qN 4))] false (some [2]))
 .ret)
 (.exit 0)))))
 (.seq (.reg 18 [qI 2 (.mv (qN 5))] false (some [2]))
 .ret)))
def c89:EFn:=⟨1,23,[.tmp 2],c89_b,none,true⟩
theorem c89_ok:cFn Tryz.prog Tryz.f89=some c89.strip:=by kernel_rfl
def c91_b:EC:=(.seq (.reg 0 [qI 2 (.mv (.con (.str ⟨#[]⟩)))] false (some [0]))
 (.seq (.reg 1 [qM 3 0,qI 4 (.call (qF 109) [(qt 3),(qF 118)]),qM 2 4] false (some [2]))
 .ret))
def c91:EFn:=⟨1,5,[.tmp 2],c91_b,none,true⟩
theorem c91_ok:cFn Tryz.prog Tryz.f91=some c91.strip:=by kernel_rfl
def c92_b:EC:=(.seq (.reg 0 [qI 3 (.boxI 26 (qt 1)),qI 4 (.mv (.con (.str ⟨#[]⟩)))] false (some [3]))
 (.seq (.regP 1 [qD 5 7 3,qI 6 (.call (qF 23) [(qt 5)]),qM 4 6] false (some [4]))
 .ret))
def c92:EFn:=⟨2,7,[.tmp 4],c92_b,none,true⟩
theorem c92_ok:cFn Tryz.prog Tryz.f92=some c92.strip:=by kernel_rfl
def c94_b:EC:=(.seq (.reg 0 [qI 2 (.mv (.con (.str ⟨#[]⟩)))] false (some [0]))
 (.seq (.reg 1 [qM 3 0,qI 4 (.call (qF 120) [(qt 3)]),qM 2 4] false (some [2]))
 .ret))
def c94:EFn:=⟨1,5,[.tmp 2],c94_b,none,true⟩
theorem c94_ok:cFn Tryz.prog Tryz.f94=some c94.strip:=by kernel_rfl
def c95_r7:List EI:=[qM 17 5,qI 18 (.bin .eql (qt 17) (.con (.int .u8 34))),qM 19 18,qJ 20 (.mv (qt 5)) 19 false,qJ 21 (.bin .eql (qt 20) (.con (.int .u8 92))) 19 false,
 qI 22 (.pick (qt 19) (.con (.bool true)) (qt 21)),qM 16 22]
def c95_r12:List EI:=[qM 31 5,qI 32 (.bin .lss (qt 31) (.con (.int .u8 32))),qM 33 32,qJ 34 (.mv (qt 5)) 33 false,qJ 35 (.bin .gtr (qt 34) (.con (.int .u8 126))) 33 false,
 qI 36 (.pick (qt 33) (.con (.bool true)) (qt 35)),qM 30 36]
def c95_l0_b:EC:=(.seq (.reg 4 [qI 11 (.bin .lss (qt 10) (qt 9))] false (some [3,8,9,10,11]))
 (.seq (.cond (qt 11) .skip (.exit 0))
 (.seq (.block 1 (.seq (.reg 5 [qI 12 (.ixL 1 (qt 8) (qt 10)),qL 13 12,qM 5 13] false (some [3,5,8,9,10]))
 (.block 2 (.seq (.reg 7 c95_r7 false (some [3,5,8,9,10,16]))
 (.cond (qt 16) (.seq (.reg 8 [qI 23 (.call (qF 121) [(qt 3),(.con (.int .u8 92))])] false (some [3,5,8,9,10]))
 (.reg 9 [qM 24 5,qI 25 (.call (qF 121) [(qt 3),(qt 24)])] false (some [3,8,9,10]))) (.seq (.reg 10 [qM 27 5,qI 28 (.bin .eql (qt 27) (.con (.int .u8 10))),
 qM 26 28] false (some [3,5,8,9,10,26]))
 (.cond (qt 26) (.reg 11 [qI 29 (.call (qF 104) [(qt 3),(.con (.str ⟨#[92,110]⟩))])] false (some [3,8,9,10])) (.seq (.reg 12 c95_r12 false (some [3,5,8,9,10,30]))
 (.cond (qt 30) (.seq (.reg 13 [qI 37 (.call (qF 104) [(qt 3),(.con (.str ⟨#[92,120]⟩))])] false (some [3,5,8,9,10]))
 (.seq (.reg 14 [qM 38 5,qI 39 (.bin .shr (qt 38) (.con (.int .u64 4))),qI 40 (.ixS (.con (.str ⟨#[48,49,50,51,52,53,54,55,56,57,97,98,99,100,101,102]⟩)) (qt 39)),
 qI 41 (.call (qF 121) [(qt 3),(qt 40)])] false (some [3,5,8,9,10]))
 (.reg 15 [qM 42 5,qI 43 (.bin .and (qt 42) (.con (.int .u8 15))),qI 44 (.ixS (.con (.str ⟨#[48,49,50,51,52,53,54,55,56,57,97,98,99,100,101,102]⟩)) (qt 43)),
 qI 45 (.call (qF 121) [(qt 3),(qt 44)])] false (some [3,8,9,10])))) (.reg 6 [qM 14 5,qI 15 (.call (qF 121) [(qt 3),(qt 14)])] false (some [3,8,9,10])))))))))))
 (.reg 16 [qI 46 (.bin .add (qt 10) (qN 1)),qM 10 46] false (some [3,8,9,10])))))
def c95_l0:EC:= .loop (some [3,8,9,10]) c95_l0_b
def c95_b:EC:=(.seq (.reg 0 [qI 2 (.mv (.con (.str ⟨#[]⟩)))] false (some [0]))
 (.seq (.reg 1 [qI 3 (.new 90 [.nilp,(.sl .null [])])] false (some [0,3]))
 (.seq (.reg 2 [qI 6 (.call (qF 121) [(qt 3),(.con (.int .u8 34))])] false (some [0,3]))
 (.seq (.seq (.reg 3 [qM 7 0,qI 8 (.s2b (qt 7)),qI 9 (.len false (qt 8)),qI 10 (.mv (qN 0))] false (some [3,8,9,10]))
 (.block 0 c95_l0))
 (.seq (.reg 17 [qI 47 (.call (qF 121) [(qt 3),(.con (.int .u8 34))])] false (some [3]))
 (.seq (.reg 18 [qI 48 (.call (qF 105) [(qt 3)]),qM 2 48] false (some [2]))
 .ret))))))
def c95:EFn:=⟨1,49,[.tmp 2],c95_b,none,true⟩
theorem c95_l0_step {E:Env} {fin:Kont (PV×St)} {st:List Fr} {ts:Tmps} {S:St} {n:Nat}:(lvl E (n+1)).ev c95_l0 ts S (kont E fin st)=(lvl E (n+1)).ev c95_l0_b (sel (some [3,8,9,10]) ts) S (kont E fin (.again n c95_l0::st)):=rfl
theorem c95_l0_w {E:Env} {fin:Kont (PV×St)} {st:List Fw} {ts:Tmps} {S:St}:run E fin st c95_l0 ts S=run E fin (.again c95_l0::st) c95_l0_b (sel (some [3,8,9,10]) ts) S:=w_loop
theorem c95_l0_a {E:Env} {fin:Kont (PV×St)} {st:List Fw} {ts:Tmps} {S:St}:aft E fin (.again c95_l0::st) .normal ts S=run E fin st c95_l0 (sel (some [3,8,9,10]) ts) S:=a_again_s
theorem c95_ok:cFn Tryz.prog Tryz.f95=some c95.strip:=by kernel_rfl
def c99_b:EC:=(.seq (.reg 0 [qI 2 (.mv (qN 0))] false (some [0]))
 (.seq (.reg 1 [qM 4 0,qI 5 (.call (qF 122) [(qt 4)]),qM 3 5] false (some [0,3]))
 (.seq (.seq (.reg 2 [qM 6 0] false (some [3,6]))
 (.block 0 (.seq (.block 3 (.seq (.block 2 (.block 1 (.seq (.seq (.seq (.seq (.reg 3 [qI 8 (.bin .eql (qt 6) (.con (.str ⟨#[108,101,116]⟩))),qM 7 8] false (some [3,6,7]))
 (.cond (qt 7) .skip (.seq (.reg 4 [qI 9 (.bin .eql (qt 6) (.con (.str ⟨#[105,110]⟩))),qM 7 9] false (some [3,6,7]))
 (.cond (qt 7) .skip (.seq (.reg 5 [qI 10 (.bin .eql (qt 6) (.con (.str ⟨#[105,102]⟩))),qM 7 10] false (some [3,6,7]))
 (.cond (qt 7) .skip (.seq (.reg 6 [qI 11 (.bin .eql (qt 6) (.con (.str ⟨#[116,104,101,110]⟩))),qM 7 11] false (some [3,6,7]))
 (.cond (qt 7) .skip (.reg 7 [qI 12 (.bin .eql (qt 6) (.con (.str ⟨#[101,108,115,101]⟩))),qM 7 12] false (some [3,6,7]))))))))))
 (.cond (qt 7) (.exit 1) .skip))
 (.seq (.seq (.seq (.reg 8 [qI 14 (.bin .eql (qt 6) (.con (.str ⟨#[102,110]⟩))),qM 13 14] false (some [3,6,13]))
 (.cond (qt 13) .skip (.seq (.reg 9 [qI 15 (.bin .eql (qt 6) (.con (.str ⟨#[99,97,108,108]⟩))),qM 13 15] false (some [3,6,13]))
 (.cond (qt 13) .skip (.seq (.reg 10 [qI 16 (.bin .eql (qt 6) (.con (.str ⟨#[100,101,102]⟩))),qM 13 16] false (some [3,6,13]))
 (.cond (qt 13) .skip (.seq (.reg 11 [qI 17 (.bin .eql (qt 6) (.con (.str ⟨#[116,114,117,101]⟩))),qM 13 17] false (some [3,6,13]))
 (.cond (qt 13) .skip (.reg 12 [qI 18 (.bin .eql (qt 6) (.con (.str ⟨#[102,97,108,115,101]⟩))),qM 13 18] false (some [3,6,13]))))))))))
 (.cond (qt 13) (.exit 2) .skip))
 (.seq (.seq (.reg 13 [qI 20 (.bin .eql (qt 6) (.con (.str ⟨#[73,110,116]⟩))),qM 19 20] false (some [3,6,19]))
 (.cond (qt 19) .skip (.seq (.reg 14 [qI 21 (.bin .eql (qt 6) (.con (.str ⟨#[66,111,111,108]⟩))),qM 19 21] false (some [3,6,19]))
 (.cond (qt 19) .skip (.seq (.reg 15 [qI 22 (.bin .eql (qt 6) (.con (.str ⟨#[83,116,114,105,110,103]⟩))),qM 19 22] false (some [3,6,19]))
 (.cond (qt 19) .skip (.reg 16 [qI 23 (.bin .eql (qt 6) (.con (.str ⟨#[84,111,112]⟩))),qM 19 23] false (some [3,19]))))))))
 (.cond (qt 19) (.exit 3) .skip))))
 (.exit 0))))
 (.seq (.seq (.reg 17 [qI 2 (.mv (qN 3))] false (some [2]))
 .ret)
 (.exit 0))))
 (.seq (.seq (.reg 18 [qI 2 (.mv (qN 4))] false (some [2]))
 .ret)
 (.exit 0)))))
 (.seq (.reg 19 [qM 24 3,qM 2 24] false (some [2]))
 .ret))))
def c99:EFn:=⟨1,25,[.tmp 2],c99_b,none,true⟩
theorem c99_ok:cFn Tryz.prog Tryz.f99=some c99.strip:=by kernel_rfl
def c100_l0_b:EC:=(.seq (.reg 6 [qI 16 (.bin .lss (qt 15) (qt 14))] false (some [3,13,14,15,16]))
 (.seq (.cond (qt 16) .skip (.exit 2))
 (.seq (.block 3 (.seq (.reg 7 [qI 17 (.ixL 5 (qt 13) (qt 15)),qD 18 5 17,qI 6 (.new 34 qz2),
 ⟨none,.st 5 (qt 6) (qt 18),none,Q0⟩] false (some [3,6,13,14,15]))
 (.reg 8 [⟨some 19,.ld none (qt 3),none,⟨.still,false⟩⟩,
 ⟨some 20,.ld (some 5) (qt 6),none,⟨.lds [(none,(qt 3))],true⟩⟩,
 ⟨some 21,.call (qF 102) [(qt 20)],none,⟨.lds [(none,(qt 3))],true⟩⟩,qI 22 (.bin .add (qt 19) (qt 21)),
 ⟨none,.st 1 (qt 3) (qt 22),none,Q0⟩] true (some [3,13,14,15]))))
 (.reg 9 [qI 23 (.bin .add (qt 15) (qN 1)),qM 15 23] false (some [3,13,14,15])))))
def c100_l0:EC:= .loop (some [3,13,14,15]) c100_l0_b
def c100_f0_a:EC:=(.reg 3 [qI 4 (.new 26 qz0),
 ⟨none,.st 7 (qt 4) (qt 9),none,Q0⟩] false (some [3,4]))
def c100_f0_b:EC:=(.block 1 (.seq (.reg 4 [qL 10 3,qI 11 (.bin .add (qt 10) (qN 1)),
 ⟨none,.st 1 (qt 3) (qt 11),none,Q0⟩] false (some [3,4]))
 (.seq (.reg 5 [qA 12 4 4,qL 13 12,qI 14 (.len false (qt 13)),qI 15 (.mv (qN 0))] false (some [3,13,14,15]))
 (.block 2 c100_l0))))
def c100_b:EC:=(.seq (.reg 0 [qI 1 (.boxI 26 (qt 0)),qI 2 (.mv (qN 0))] false (some [1,2]))
 (.seq (.reg 1 [qI 3 (.new 3 [(.int .i64 0)]),
 ⟨none,.st 1 (qt 3) (qN 0),none,Q0⟩] false (some [1,2,3]))
 (.seq (.seq (.reg 2 [qD 7 7 1,qI 8 (.call (qF 123) [(qt 7)])] false (some [2,3,8]))
 (.block 0 (.rangeF (some [2,3]) (qt 8) [9] c100_f0_a c100_f0_b)))
 (.seq (.reg 10 [qL 24 3,qM 2 24] false (some [2]))
 .ret))))
def c100:EFn:=⟨1,25,[.tmp 2],c100_b,none,true⟩
theorem c100_l0_w {E:Env} {fin:Kont (PV×St)} {st:List Fw} {ts:Tmps} {S:St}:run E fin st c100_l0 ts S=run E fin (.again c100_l0::st) c100_l0_b (sel (some [3,13,14,15]) ts) S:=w_loop
theorem c100_l0_a {E:Env} {fin:Kont (PV×St)} {st:List Fw} {ts:Tmps} {S:St}:aft E fin (.again c100_l0::st) .normal ts S=run E fin st c100_l0 (sel (some [3,13,14,15]) ts) S:=a_again_s
theorem c100_ok:cFn Tryz.prog Tryz.f100=some c100.strip:=by kernel_rfl
def c101_l0_b:EC:=(.seq (.reg 3 [qI 12 (.bin .lss (qt 11) (qt 10))] false (some [1,3,9,10,11,12]))
 (.seq (.cond (qt 12) .skip (.exit 0))
 (.seq (.block 1 (.seq (.reg 4 [qI 13 (.ixL 5 (qt 9) (qt 11)),qD 14 5 13,qI 5 (.new 34 qz2),
 ⟨none,.st 5 (qt 5) (qt 14),none,Q0⟩] false (some [1,3,5,9,10,11]))
 (.reg 5 [qM 15 3,qD 16 5 5,qI 17 (.call (qF 103) [(qt 16)]),qI 18 (.mx false (qt 15) (qt 17)),qM 3 18] false (some [1,3,9,10,11]))))
 (.reg 6 [qI 19 (.bin .add (qt 11) (qN 1)),qM 11 19] false (some [1,3,9,10,11])))))
def c101_l0:EC:= .loop (some [1,3,9,10,11]) c101_l0_b
def c101_l1_b:EC:=(.seq (.reg 8 [qI 24 (.bin .lss (qt 23) (qt 22))] false (some [3,21,22,23,24]))
 (.seq (.cond (qt 24) .skip (.exit 2))
 (.seq (.block 3 (.seq (.reg 9 [qI 25 (.ixL 7 (qt 21) (qt 23)),qD 26 7 25,qI 7 (.new 26 qz0),
 ⟨none,.st 7 (qt 7) (qt 26),none,Q0⟩] false (some [3,7,21,22,23]))
 (.reg 10 [qM 27 3,qD 28 7 7,qI 29 (.call (qF 101) [(qt 28)]),qI 30 (.mx false (qt 27) (qt 29)),qM 3 30] false (some [3,21,22,23]))))
 (.reg 11 [qI 31 (.bin .add (qt 23) (qN 1)),qM 23 31] false (some [3,21,22,23])))))
def c101_l1:EC:= .loop (some [3,21,22,23]) c101_l1_b
def c101_b:EC:=(.seq (.reg 0 [qI 1 (.boxI 26 (qt 0)),qI 2 (.mv (qN 0))] false (some [1]))
 (.seq (.reg 1 [qI 3 (.mv (qN 0))] false (some [1,3]))
 (.seq (.seq (.reg 2 [qA 8 4 1,qL 9 8,qI 10 (.len false (qt 9)),qI 11 (.mv (qN 0))] false (some [1,3,9,10,11]))
 (.block 0 c101_l0))
 (.seq (.seq (.reg 7 [qA 20 6 1,qL 21 20,qI 22 (.len false (qt 21)),qI 23 (.mv (qN 0))] false (some [3,21,22,23]))
 (.block 2 c101_l1))
 (.seq (.reg 12 [qM 32 3,qI 33 (.bin .add (qt 32) (qN 1)),qM 2 33] false (some [2]))
 .ret)))))
def c101:EFn:=⟨1,34,[.tmp 2],c101_b,none,true⟩
theorem c101_l0_w {E:Env} {fin:Kont (PV×St)} {st:List Fw} {ts:Tmps} {S:St}:run E fin st c101_l0 ts S=run E fin (.again c101_l0::st) c101_l0_b (sel (some [1,3,9,10,11]) ts) S:=w_loop
theorem c101_l0_a {E:Env} {fin:Kont (PV×St)} {st:List Fw} {ts:Tmps} {S:St}:aft E fin (.again c101_l0::st) .normal ts S=run E fin st c101_l0 (sel (some [1,3,9,10,11]) ts) S:=a_again_s
theorem c101_l1_w {E:Env} {fin:Kont (PV×St)} {st:List Fw} {ts:Tmps} {S:St}:run E fin st c101_l1 ts S=run E fin (.again c101_l1::st) c101_l1_b (sel (some [3,21,22,23]) ts) S:=w_loop
theorem c101_l1_a {E:Env} {fin:Kont (PV×St)} {st:List Fw} {ts:Tmps} {S:St}:aft E fin (.again c101_l1::st) .normal ts S=run E fin st c101_l1 (sel (some [3,21,22,23]) ts) S:=a_again_s
theorem c101_ok:cFn Tryz.prog Tryz.f101=some c101.strip:=by kernel_rfl
def c102_f0_a:EC:= .skip
def c102_f0_b:EC:=(.block 1 (.reg 3 [qL 7 3,qI 8 (.bin .add (qt 7) (qN 1)),
 ⟨none,.st 1 (qt 3) (qt 8),none,Q0⟩] false (some [])))
def c102_b:EC:=(.seq (.reg 0 [qI 1 (.boxI 34 (qt 0)),qI 2 (.mv (qN 0))] false (some [1,2]))
 (.seq (.reg 1 [qI 3 (.new 3 [(.int .i64 0)]),
 ⟨none,.st 1 (qt 3) (qN 0),none,Q0⟩] false (some [1,2,3]))
 (.seq (.seq (.reg 2 [qD 4 5 1,qI 5 (.call (qF 115) [(qt 4)])] false (some [2,3,5]))
 (.block 0 (.rangeF (some [2,3]) (qt 5) [6] c102_f0_a c102_f0_b)))
 (.seq (.reg 4 [qL 9 3,qM 2 9] false (some [2]))
 .ret))))
def c102:EFn:=⟨1,10,[.tmp 2],c102_b,none,true⟩
theorem c102_ok:cFn Tryz.prog Tryz.f102=some c102.strip:=by kernel_rfl
def c103_l0_b:EC:=(.seq (.reg 3 [qI 10 (.bin .lss (qt 9) (qt 8))] false (some [3,7,8,9,10]))
 (.seq (.cond (qt 10) .skip (.exit 0))
 (.seq (.block 1 (.seq (.reg 4 [qI 11 (.ixL 5 (qt 7) (qt 9)),qD 12 5 11,qI 5 (.new 34 qz2),
 ⟨none,.st 5 (qt 5) (qt 12),none,Q0⟩] false (some [3,5,7,8,9]))
 (.reg 5 [qM 13 3,qD 14 5 5,qI 15 (.call (qF 103) [(qt 14)]),qI 16 (.mx false (qt 13) (qt 15)),qM 3 16] false (some [3,7,8,9]))))
 (.reg 6 [qI 17 (.bin .add (qt 9) (qN 1)),qM 9 17] false (some [3,7,8,9])))))
def c103_l0:EC:= .loop (some [3,7,8,9]) c103_l0_b
def c103_b:EC:=(.seq (.reg 0 [qI 1 (.boxI 34 (qt 0)),qI 2 (.mv (qN 0))] false (some [1]))
 (.seq (.reg 1 [qI 3 (.mv (qN 0))] false (some [1,3]))
 (.seq (.seq (.reg 2 [qA 6 4 1,qL 7 6,qI 8 (.len false (qt 7)),qI 9 (.mv (qN 0))] false (some [3,7,8,9]))
 (.block 0 c103_l0))
 (.seq (.reg 7 [qM 18 3,qI 19 (.bin .add (qt 18) (qN 1)),qM 2 19] false (some [2]))
 .ret))))
def c103:EFn:=⟨1,20,[.tmp 2],c103_b,none,true⟩
theorem c103_l0_w {E:Env} {fin:Kont (PV×St)} {st:List Fw} {ts:Tmps} {S:St}:run E fin st c103_l0 ts S=run E fin (.again c103_l0::st) c103_l0_b (sel (some [3,7,8,9]) ts) S:=w_loop
theorem c103_l0_a {E:Env} {fin:Kont (PV×St)} {st:List Fw} {ts:Tmps} {S:St}:aft E fin (.again c103_l0::st) .normal ts S=run E fin st c103_l0 (sel (some [3,7,8,9]) ts) S:=a_again_s
theorem c103_ok:cFn Tryz.prog Tryz.f103=some c103.strip:=by kernel_rfl
def c104_b:EC:=(.seq (.reg 0 [qI 4 (.mv (qN 0)),qI 5 (.mv (.con .nilifc))] false (some [0,1]))
 (.seq (.reg 1 [qM 6 0,qI 7 (.call (qF 124) [(qt 6)])] false (some [0,1]))
 (.seq (.reg 2 [qM 8 0,qM 9 0,qI 10 (.nck (qt 9)),qA 11 1 10,qL 12 11,qM 13 1,qI 14 (.apS 5 (qt 12) (qt 13)),qI 15 (.nck (qt 8)),qA 16 1 15,
 ⟨none,.st 1 (qt 16) (qt 14),none,Q0⟩] false (some [1]))
 (.seq (.reg 3 [qM 17 1,qI 18 (.len true (qt 17)),qM 4 18,qI 5 (.mv (.con .nilifc))] false (some [4,5]))
 .ret))))
def c104:EFn:=⟨2,19,[.tmp 4,.tmp 5],c104_b,none,true⟩
theorem c104_ok:cFn Tryz.prog Tryz.f104=some c104.strip:=by kernel_rfl
def c105_b:EC:=(.seq (.reg 0 [qI 2 (.mv (.con (.str ⟨#[]⟩)))] false (some [0]))
 (.seq (.reg 1 [⟨some 3,.mv (qt 0),none,⟨.no,false⟩⟩,
 ⟨some 4,.nck (qt 3),none,⟨.no,false⟩⟩,
 ⟨some 5,.fA 1 (qt 4),none,⟨.no,false⟩⟩,
 ⟨some 6,.ld none (qt 5),none,⟨.still,false⟩⟩,
 ⟨some 7,.usd (qt 6),none,⟨.no,false⟩⟩,qM 8 0,qI 9 (.nck (qt 8)),qA 10 1 9,
 ⟨some 11,.ld none (qt 10),none,Q1⟩,qI 12 (.len false (qt 11)),qI 13 (.ust 5 (qt 7) (qt 12)),qM 2 13] true (some [2]))
 .ret))
def c105:EFn:=⟨1,14,[.tmp 2],c105_b,none,true⟩
theorem c105_ok:cFn Tryz.prog Tryz.f105=some c105.strip:=by kernel_rfl
def c106_r1:List EI:=[qA 3 0 1,qL 4 3,qI 5 (.bin .eql (qt 4) (qN 6)),qM 6 5,qJ 7 (.fA 2 (qt 1)) 6 false,qJ 8 (.ld none (qt 7)) 6 false,qJ 9 (.bin .eql (qt 8) (.con (.str ⟨#[]⟩))) 6 false,
 qI 10 (.pick (qt 6) (.con (.bool true)) (qt 9)),qM 11 10,qJ 12 (.fA 0 (qt 1)) 11 true,qJ 13 (.ld none (qt 12)) 11 true,qJ 14 (.bin .eql (qt 13) (qN 9)) 11 true,
 qJ 15 (.mv (qt 14)) 11 true,qJ 16 (.fA 1 (qt 1)) 15 false,qJ 17 (.ld none (qt 16)) 15 false,qJ 18 (.bin .eql (qt 17) (qN 0)) 15 false,qJ 19 (.pick (qt 15) (.con (.bool true)) (qt 18)) 11 true,
 qI 20 (.pick (qt 11) (qt 19) (.con (.bool false))),qM 21 20,qJ 22 (.fA 0 (qt 1)) 21 true,qJ 23 (.ld none (qt 22)) 21 true,qJ 24 (.bin .eql (qt 23) (qN 8)) 21 true,
 qJ 25 (.mv (qt 24)) 21 true,qJ 26 (.fA 3 (qt 1)) 25 false,qJ 27 (.ld none (qt 26)) 25 false,qJ 28 (.len false (qt 27)) 25 false,qJ 29 (.bin .eql (qt 28) (qN 0)) 25 false,
 qJ 30 (.pick (qt 25) (.con (.bool true)) (qt 29)) 21 true,qI 31 (.pick (qt 21) (qt 30) (.con (.bool false))),qM 2 31]
def c106_b:EC:=(.seq (.reg 0 [qI 1 (.boxI 34 (qt 0)),qI 2 (.mv (.con (.bool false)))] false (some [1]))
 (.seq (.reg 1 c106_r1 false (some [2]))
 .ret))
def c106:EFn:=⟨1,32,[.tmp 2],c106_b,none,true⟩
theorem c106_ok:cFn Tryz.prog Tryz.f106=some c106.strip:=by kernel_rfl
def c107_b:EC:=(.seq (.reg 0 [qI 1 (.boxI 34 (qt 0)),qI 2 (.mv (.con (.bool false)))] false (some [1]))
 (.seq (.reg 1 [qD 3 5 1,qI 4 (.call (qF 65) [(qt 3)]),qI 5 (.un .not (qt 4)),qM 2 5] false (some [2]))
 .ret))
def c107:EFn:=⟨1,6,[.tmp 2],c107_b,none,true⟩
theorem c107_ok:cFn Tryz.prog Tryz.f107=some c107.strip:=by kernel_rfl
def c108_b:EC:=(.seq (.reg 0 [qI 1 (.boxI 34 (qt 0)),qI 2 (.mv (.con (.str ⟨#[]⟩)))] false (some [1]))
 (.seq (.seq (.reg 1 [qA 3 0 1,qL 4 3,qI 5 (.bin .eql (qt 4) (qN 7))] false (some [1,5]))
 (.cond (qt 5) (.seq (.reg 2 [qD 6 5 1,qI 7 (.call (qF 66) [(qt 6)]),qI 8 (.bin .add (.con (.str ⟨#[40]⟩)) (qt 7)),qI 9 (.bin .add (qt 8) (.con (.str ⟨#[41]⟩))),
 qM 2 9] false (some [2]))
 .ret) .skip))
 (.seq (.reg 3 [qD 10 5 1,qI 11 (.call (qF 66) [(qt 10)]),qM 2 11] false (some [2]))
 .ret)))
def c108:EFn:=⟨1,12,[.tmp 2],c108_b,none,true⟩
theorem c108_ok:cFn Tryz.prog Tryz.f108=some c108.strip:=by kernel_rfl
end Go.PE
