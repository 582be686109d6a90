/-
  The functions of this seat, as the evaluator's code (printed by a program out of the translation), and that each is what the compiler makes of it. No conditions.
-/
import Derived.Test.YteifnopejdiikaaDoorPQ
import Derived.Test.YteifnopejdiikaaDoorProg
import Derived.KernelRfl
namespace Go.PE
open Go Go.Proofs
set_option linter.unusedVariables false
set_option maxRecDepth 100000
def c3_r1:List EI:=[qM 11 0,qI 12 (.call (qF 5) [(qt 11)]),qI 13 (.un .not (qt 12)),qM 14 13,qJ 15 (.mv (qt 0)) 14 false,qJ 16 (.len false (qt 15)) 14 false,
 qJ 17 (.bin .eql (qt 16) (qN 0)) 14 false,qI 18 (.pick (qt 14) (.con (.bool true)) (qt 17))]
def c3_r16:List EI:=[qM 66 6,qI 67 (.len false (qt 66)),qI 68 (.bin .gtr (qt 67) (qN 0)),qM 69 68,qJ 70 (.mv (qt 6)) 69 true,qJ 71 (.mv (qt 7)) 69 true,
 qJ 72 (.call (qF 10) [(qt 70),(qt 71)]) 69 true,qI 73 (.pick (qt 69) (qt 72) (.con (.bool false))),qM 74 73,qJ 75 (.mv (qt 6)) 74 true,qJ 76 (.mv (qt 8)) 74 true,
 qJ 77 (.call (qF 10) [(qt 75),(qt 76)]) 74 true,qI 78 (.pick (qt 74) (qt 77) (.con (.bool false))),qM 79 78,qJ 80 (.mv (qt 6)) 79 true,qJ 81 (.call (qF 7) [(qt 80)]) 79 true,
 qJ 82 (.mv (qt 6)) 79 true,qJ 83 (.call (qF 10) [(qt 81),(qt 82)]) 79 true,qI 84 (.pick (qt 79) (qt 83) (.con (.bool false))),qM 85 84,qJ 86 (.call (qF 6) []) 85 true,
 qI 87 (.pick (qt 85) (qt 86) (.con (.bool false))),qM 4 87]
def c3_l0_b:EC:=(.seq (.seq (.reg 8 [qM 37 9,qM 38 0,qI 39 (.len false (qt 38)),qI 40 (.bin .lss (qt 37) (qt 39))] false (some [0,6,7,8,9,40]))
 (.cond (qt 40) .skip (.exit 0)))
 (.seq (.block 1 (.reg 10 [qM 43 8,qM 44 0,qM 45 9,qI 46 (.ixL 3 (qt 44) (qt 45)),qD 47 3 46,qI 48 (.call (qF 8) [(qt 43),(qt 47)]),qM 8 48] false (some [0,6,7,8,9])))
 (.reg 9 [qM 41 9,qI 42 (.bin .add (qt 41) (qN 1)),qM 9 42] false (some [0,6,7,8,9]))))
def c3_l0:EC:= .loop (some [0,6,7,8,9]) c3_l0_b
def c3_l1_b:EC:=(.seq (.seq (.reg 12 [qM 49 10,qM 50 6,qI 51 (.len false (qt 50)),qI 52 (.bin .lss (qt 49) (qt 51))] false (some [6,7,8,10,52]))
 (.cond (qt 52) .skip (.exit 2)))
 (.seq (.block 3 (.seq (.reg 14 [⟨some 55,.mv (qt 6),none,⟨.no,false⟩⟩,
 ⟨some 56,.mv (qt 10),none,⟨.no,false⟩⟩,
 ⟨some 57,.bin .sub (qt 56) (qN 1),none,⟨.no,false⟩⟩,
 ⟨some 58,.ixL 3 (qt 55) (qt 57),none,⟨.no,false⟩⟩,
 ⟨some 59,.ld (some 3) (qt 58),none,⟨.obs,false⟩⟩,
 ⟨some 60,.mv (qt 6),none,⟨.no,false⟩⟩,qM 61 10,qI 62 (.ixL 3 (qt 60) (qt 61)),
 ⟨some 63,.ld (some 3) (qt 62),none,⟨.obs,true⟩⟩,qI 64 (.call (qF 9) [(qt 59),(qt 63)]),qI 65 (.un .not (qt 64))] true (some [6,7,8,10,65]))
 (.cond (qt 65) (.seq (.reg 15 [qI 4 (.mv (.con (.bool false)))] false (some [4]))
 .ret) .skip)))
 (.reg 13 [qM 53 10,qI 54 (.bin .add (qt 53) (qN 1)),qM 10 54] false (some [6,7,8,10]))))
def c3_l1:EC:= .loop (some [6,7,8,10]) c3_l1_b
def c3_b:EC:=(.seq (.reg 0 [qI 4 (.mv (.con (.bool false)))] false (some [0,1]))
 (.seq (.seq (.reg 1 c3_r1 false (some [0,1,18]))
 (.cond (qt 18) (.seq (.reg 2 [qI 19 (.call (qF 6) []),qM 4 19] false (some [4]))
 .ret) .skip))
 (.seq (.reg 3 [qM 20 1,qI 21 (.cvI .i64 (qt 20)),qM 22 0,qI 23 (.len false (qt 22)),qI 24 (.bin .rem (qt 21) (qt 23)),qM 5 24] false (some [0,5]))
 (.seq (.reg 4 [qM 25 0,qI 26 (.call (qF 7) [(qt 25)]),qM 6 26] false (some [0,5,6]))
 (.seq (.reg 5 [⟨some 27,.rows 0 3 qz0 [],none,⟨.no,false⟩⟩,
 ⟨some 28,.mv (qt 0),none,⟨.no,false⟩⟩,
 ⟨some 29,.mv (qt 5),none,⟨.no,false⟩⟩,
 ⟨some 30,.slL 3 (qt 28) (some (qt 29)) none none,none,⟨.no,false⟩⟩,
 ⟨some 31,.app 31 3 32 (qt 27) (qt 30),none,⟨.no,false⟩⟩,
 ⟨some 32,.mv (qt 0),none,⟨.no,false⟩⟩,qM 33 5,qI 34 (.slL 3 (qt 32) none (some (qt 33)) none),qI 35 (.app 31 3 32 (qt 31) (qt 34)),qI 36 (.call (qF 7) [(qt 35)]),
 qM 7 36] true (some [0,6,7]))
 (.seq (.reg 6 [qI 8 (.mv (.con (.sl .null [])))] false (some [0,6,7,8]))
 (.seq (.seq (.reg 7 [qI 9 (.mv (qN 0))] false (some [0,6,7,8,9]))
 (.block 0 c3_l0))
 (.seq (.seq (.reg 11 [qI 10 (.mv (qN 1))] false (some [6,7,8,10]))
 (.block 2 c3_l1))
 (.seq (.reg 16 c3_r16 false (some [4]))
 .ret)))))))))
def c3:EFn:=⟨2,88,[.tmp 4],c3_b,none,true⟩
theorem c3_l0_w {E:Env} {fin:Kont (PV×St)} {st:List Fw} {ts:Tmps} {S:St}:run E fin st c3_l0 ts S=run E fin (.again c3_l0::st) c3_l0_b (sel (some [0,6,7,8,9]) ts) S:=w_loop
theorem c3_l0_a {E:Env} {fin:Kont (PV×St)} {st:List Fw} {ts:Tmps} {S:St}:aft E fin (.again c3_l0::st) .normal ts S=run E fin st c3_l0 (sel (some [0,6,7,8,9]) ts) S:=a_again_s
theorem c3_l1_w {E:Env} {fin:Kont (PV×St)} {st:List Fw} {ts:Tmps} {S:St}:run E fin st c3_l1 ts S=run E fin (.again c3_l1::st) c3_l1_b (sel (some [6,7,8,10]) ts) S:=w_loop
theorem c3_l1_a {E:Env} {fin:Kont (PV×St)} {st:List Fw} {ts:Tmps} {S:St}:aft E fin (.again c3_l1::st) .normal ts S=run E fin st c3_l1 (sel (some [6,7,8,10]) ts) S:=a_again_s
theorem c3_ok:cFn Tryd.prog Tryd.f3=some c3.strip:=by kernel_rfl
def c4_r1:List EI:=[qM 8 0,qI 9 (.call (qF 5) [(qt 8)]),qI 10 (.un .not (qt 9)),qM 11 10,qJ 12 (.ld (some 3) (qt 3)) 11 false,qJ 13 (.rows 1 3 qz0 [(0,(qt 12))]) 11 false,
 qJ 14 (.call (qF 5) [(qt 13)]) 11 false,qJ 15 (.un .not (qt 14)) 11 false,qI 16 (.pick (qt 11) (.con (.bool true)) (qt 15))]
def c4_r10:List EI:=[⟨some 41,.mv (qt 6),none,⟨.no,false⟩⟩,
 ⟨some 42,.eqI false (qt 41) (.con .nilifc),none,⟨.no,false⟩⟩,qM 43 7,qI 44 (.bin .lss (qt 43) (qN 0)),qI 45 (.eqB true (qt 42) (qt 44)),qM 46 45,
 qJ 47 (.mv (qt 7)) 46 false,qJ 48 (.bin .geq (qt 47) (qN 0)) 46 false,qJ 49 (.mv (qt 48)) 46 false,
 ⟨some 50,.mv (qt 6),some (49,true),⟨.no,false⟩⟩,
 ⟨some 51,.call (qF 14) [(qt 50)],some (49,true),⟨.obs,false⟩⟩,
 ⟨some 52,.mv (qt 0),some (49,true),⟨.no,false⟩⟩,qJ 53 (.mv (qt 7)) 49 true,qJ 54 (.ixL 3 (qt 52) (qt 53)) 49 true,qJ 55 (.fA 2 (qt 54)) 49 true,
 ⟨some 56,.ld none (qt 55),some (49,true),Q1⟩,qJ 57 (.bin .neq (qt 51) (qt 56)) 49 true,qJ 58 (.mv (qt 57)) 49 true,
 ⟨some 59,.mv (qt 6),some (58,false),⟨.no,false⟩⟩,
 ⟨some 60,.call (qF 15) [(qt 59)],some (58,false),⟨.obs,false⟩⟩,
 ⟨some 61,.mv (qt 0),some (58,false),⟨.no,false⟩⟩,qJ 62 (.mv (qt 7)) 58 false,qJ 63 (.ixL 3 (qt 61) (qt 62)) 58 false,qJ 64 (.fA 0 (qt 63)) 58 false,
 qJ 65 (.fA 1 (qt 64)) 58 false,
 ⟨some 66,.ld none (qt 65),some (58,false),Q1⟩,qJ 67 (.bin .neq (qt 60) (qt 66)) 58 false,qJ 68 (.pick (qt 58) (.con (.bool true)) (qt 67)) 49 true,
 qJ 69 (.mv (qt 68)) 49 true,
 ⟨some 70,.mv (qt 6),some (69,false),⟨.no,false⟩⟩,
 ⟨some 71,.call (qF 16) [(qt 70)],some (69,false),⟨.obs,false⟩⟩,
 ⟨some 72,.mv (qt 0),some (69,false),⟨.no,false⟩⟩,qJ 73 (.mv (qt 7)) 69 false,qJ 74 (.ixL 3 (qt 72) (qt 73)) 69 false,qJ 75 (.fA 0 (qt 74)) 69 false,
 qJ 76 (.fA 0 (qt 75)) 69 false,
 ⟨some 77,.ld none (qt 76),some (69,false),Q1⟩,qJ 78 (.bin .neq (qt 71) (qt 77)) 69 false,qJ 79 (.pick (qt 69) (.con (.bool true)) (qt 78)) 49 true,
 qJ 80 (.pick (qt 49) (qt 79) (.con (.bool false))) 46 false,qI 81 (.pick (qt 46) (.con (.bool true)) (qt 80))]
def c4_r12:List EI:=[⟨some 82,.mv (qt 0),none,⟨.no,false⟩⟩,
 ⟨some 83,.call (qF 7) [(qt 82)],none,⟨.no,false⟩⟩,qM 84 0,qI 85 (.call (qF 17) [(qt 84)]),qI 86 (.call (qF 10) [(qt 83),(qt 85)]),qM 87 86,
 ⟨some 88,.mv (qt 0),some (87,true),⟨.no,false⟩⟩,
 ⟨some 89,.ld (some 3) (qt 3),some (87,true),⟨.lds [(some 3,(qt 3))],false⟩⟩,
 ⟨some 90,.call (qF 8) [(qt 88),(qt 89)],some (87,true),⟨.lds [(some 3,(qt 3))],false⟩⟩,
 ⟨some 91,.mv (qt 0),some (87,true),⟨.no,false⟩⟩,
 ⟨some 92,.ld (some 3) (qt 3),some (87,true),Q1⟩,qJ 93 (.call (qF 18) [(qt 91),(qt 92)]) 87 true,qJ 94 (.call (qF 10) [(qt 90),(qt 93)]) 87 true,
 qI 95 (.pick (qt 87) (qt 94) (.con (.bool false))),qM 96 95,
 ⟨some 97,.mv (qt 0),some (96,true),⟨.no,false⟩⟩,
 ⟨some 98,.call (qF 19) [(qt 97)],some (96,true),⟨.no,false⟩⟩,qJ 99 (.mv (qt 0)) 96 true,qJ 100 (.call (qF 20) [(qt 99)]) 96 true,qJ 101 (.bin .eql (qt 98) (qt 100)) 96 true,
 qI 102 (.pick (qt 96) (qt 101) (.con (.bool false))),qM 103 102,qJ 104 (.call (qF 6) []) 103 true,qI 105 (.pick (qt 103) (qt 104) (.con (.bool false))),
 qM 4 105]
def c4_l0_b:EC:=(.seq (.seq (.reg 4 [qM 18 5,qM 19 0,qI 20 (.len false (qt 19)),qI 21 (.bin .lss (qt 18) (qt 20))] false (some [0,3,5,21]))
 (.cond (qt 21) .skip (.exit 0)))
 (.seq (.block 1 (.seq (.reg 6 [⟨some 24,.mv (qt 0),none,⟨.no,false⟩⟩,
 ⟨some 25,.mv (qt 5),none,⟨.no,false⟩⟩,
 ⟨some 26,.ixL 3 (qt 24) (qt 25),none,⟨.no,false⟩⟩,
 ⟨some 27,.ld (some 3) (qt 26),none,⟨.obs,false⟩⟩,
 ⟨some 28,.ld (some 3) (qt 3),none,⟨.obs,false⟩⟩,
 ⟨some 29,.call (qF 9) [(qt 27),(qt 28)],none,⟨.obs,false⟩⟩,
 ⟨some 30,.mv (qt 0),none,⟨.no,false⟩⟩,
 ⟨some 31,.mv (qt 5),none,⟨.no,false⟩⟩,
 ⟨some 32,.ixL 3 (qt 30) (qt 31),none,⟨.no,false⟩⟩,
 ⟨some 33,.ld (some 3) (qt 32),none,⟨.still,false⟩⟩,
 ⟨some 34,.ld (some 3) (qt 3),none,Q1⟩,qI 35 (.call (qF 11) [(qt 33),(qt 34)]),qI 36 (.eqB true (qt 29) (qt 35))] true (some [0,3,5,36]))
 (.cond (qt 36) (.seq (.reg 7 [qI 4 (.mv (.con (.bool false)))] false (some [4]))
 .ret) .skip)))
 (.reg 5 [qM 22 5,qI 23 (.bin .add (qt 22) (qN 1)),qM 5 23] false (some [0,3,5]))))
def c4_l0:EC:= .loop (some [0,3,5]) c4_l0_b
def c4_b:EC:=(.seq (.reg 0 [qI 3 (.boxI 31 (qt 1)),qI 4 (.mv (.con (.bool false)))] false (some [0,3]))
 (.seq (.seq (.reg 1 c4_r1 false (some [0,3,16]))
 (.cond (qt 16) (.seq (.reg 2 [qI 17 (.call (qF 6) []),qM 4 17] false (some [4]))
 .ret) .skip))
 (.seq (.seq (.reg 3 [qI 5 (.mv (qN 0))] false (some [0,3,5]))
 (.block 0 c4_l0))
 (.seq (.reg 8 [qM 37 0,qI 38 (.call (qF 12) [(qt 37)]),qM 6 38] false (some [0,3,6]))
 (.seq (.reg 9 [qM 39 0,qI 40 (.call (qF 13) [(qt 39)]),qM 7 40] false (some [0,3,6,7]))
 (.seq (.seq (.reg 10 c4_r10 true (some [0,3,81]))
 (.cond (qt 81) (.seq (.reg 11 [qI 4 (.mv (.con (.bool false)))] false (some [4]))
 .ret) .skip))
 (.seq (.reg 12 c4_r12 true (some [4]))
 .ret)))))))
def c4:EFn:=⟨2,106,[.tmp 4],c4_b,none,true⟩
theorem c4_l0_w {E:Env} {fin:Kont (PV×St)} {st:List Fw} {ts:Tmps} {S:St}:run E fin st c4_l0 ts S=run E fin (.again c4_l0::st) c4_l0_b (sel (some [0,3,5]) ts) S:=w_loop
theorem c4_l0_a {E:Env} {fin:Kont (PV×St)} {st:List Fw} {ts:Tmps} {S:St}:aft E fin (.again c4_l0::st) .normal ts S=run E fin st c4_l0 (sel (some [0,3,5]) ts) S:=a_again_s
theorem c4_ok:cFn Tryd.prog Tryd.f4=some c4.strip:=by kernel_rfl
def c5_r2:List EI:=[qM 4 3,qM 5 0,qI 6 (.len false (qt 5)),qI 7 (.bin .lss (qt 4) (qt 6)),qM 8 7,qJ 9 (.mv (qt 3)) 8 true,qJ 10 (.bin .lss (qt 9) (qN 70)) 8 true,
 qI 11 (.pick (qt 8) (qt 10) (.con (.bool false)))]
def c5_l0_b:EC:=(.seq (.seq (.reg 2 c5_r2 false (some [0,3,11]))
 (.cond (qt 11) .skip (.exit 0)))
 (.seq (.block 1 (.seq (.reg 4 [qM 14 0,qM 15 3,qI 16 (.ixL 3 (qt 14) (qt 15)),qA 17 0 16,qA 18 0 17,qL 19 18,qI 20 (.len true (qt 19)),qI 21 (.bin .gtr (qt 20) (qN 100))] false (some [0,3,21]))
 (.cond (qt 21) (.seq (.reg 5 [qI 2 (.mv (.con (.bool false)))] false (some [2]))
 .ret) .skip)))
 (.reg 3 [qM 12 3,qI 13 (.bin .add (qt 12) (qN 1)),qM 3 13] false (some [0,3]))))
def c5_l0:EC:= .loop (some [0,3]) c5_l0_b
def c5_b:EC:=(.seq (.reg 0 [qI 2 (.mv (.con (.bool false)))] false (some [0]))
 (.seq (.seq (.reg 1 [qI 3 (.mv (qN 0))] false (some [0,3]))
 (.block 0 c5_l0))
 (.seq (.reg 6 [qM 22 0,qI 23 (.len false (qt 22)),qI 24 (.bin .leq (qt 23) (qN 60)),qM 2 24] false (some [2]))
 .ret)))
def c5:EFn:=⟨1,25,[.tmp 2],c5_b,none,true⟩
theorem c5_l0_w {E:Env} {fin:Kont (PV×St)} {st:List Fw} {ts:Tmps} {S:St}:run E fin st c5_l0 ts S=run E fin (.again c5_l0::st) c5_l0_b (sel (some [0,3]) ts) S:=w_loop
theorem c5_l0_a {E:Env} {fin:Kont (PV×St)} {st:List Fw} {ts:Tmps} {S:St}:aft E fin (.again c5_l0::st) .normal ts S=run E fin st c5_l0 (sel (some [0,3]) ts) S:=a_again_s
theorem c5_ok:cFn Tryd.prog Tryd.f5=some c5.strip:=by kernel_rfl
def c6_r3:List EI:=[qM 13 3,qI 14 (.len false (qt 13)),qI 15 (.bin .eql (qt 14) (qN 2)),qM 16 15,
 ⟨some 17,.mv (qt 3),some (16,true),⟨.no,false⟩⟩,
 ⟨some 18,.ixL 3 (qt 17) (qN 0),some (16,true),⟨.no,false⟩⟩,
 ⟨some 19,.ld (some 3) (qt 18),some (16,true),⟨.lds [(some 3,(qt 2))],false⟩⟩,
 ⟨some 20,.ld (some 3) (qt 2),some (16,true),⟨.obs,true⟩⟩,qJ 21 (.eqG false 3 [(0,1),(1,0),(2,0)] (qt 19) (qt 20)) 16 true,qI 22 (.pick (qt 16) (qt 21) (.con (.bool false))),
 qM 23 22,
 ⟨some 24,.ld (some 3) (qt 2),some (23,true),⟨.lds [(some 3,(qt 1))],false⟩⟩,
 ⟨some 25,.ld (some 3) (qt 1),some (23,true),⟨.lds [(some 3,(qt 2))],true⟩⟩,qJ 26 (.call (qF 9) [(qt 24),(qt 25)]) 23 true,qI 27 (.pick (qt 23) (qt 26) (.con (.bool false))),
 qM 28 27,qJ 29 (.mv (qt 3)) 28 true,qJ 30 (.slL 3 (qt 29) (some (qN 1)) none none) 28 true,qJ 31 (.call (qF 19) [(qt 30)]) 28 true,qJ 32 (.bin .eql (qt 31) (.con (.str ⟨#[102,58,51,58,49,51,10]⟩))) 28 true,
 qI 33 (.pick (qt 28) (qt 32) (.con (.bool false))),qM 34 33,qJ 35 (.mv (qt 3)) 34 true,qJ 36 (.call (qF 12) [(qt 35)]) 34 true,qJ 37 (.call (qF 14) [(qt 36)]) 34 true,
 qJ 38 (.bin .eql (qt 37) (qN 19)) 34 true,qI 39 (.pick (qt 34) (qt 38) (.con (.bool false))),qM 0 39]
def c6_b:EC:=(.seq (.reg 0 [qI 0 (.mv (.con (.bool false)))] false (some []))
 (.seq (.reg 1 [qI 4 (.build [(.str ⟨#[]⟩),(.int .i64 0)] [(0,1,(.con (.str ⟨#[102]⟩))),(1,1,(qN 3))]),qI 5 (.build qz0 [(0,2,(qt 4)),(2,1,(qN 13))]),
 qI 6 (.build [(.str ⟨#[]⟩),(.int .i64 0)] [(0,1,(.con (.str ⟨#[102]⟩))),(1,1,(qN 1))]),qI 7 (.build qz0 [(0,2,(qt 6)),(2,1,(qN 19))]),qI 1 (.new 31 qz0),
 qI 2 (.new 31 qz0),
 ⟨none,.st 3 (qt 1) (qt 5),none,Q0⟩,
 ⟨none,.st 3 (qt 2) (qt 7),none,Q0⟩] false (some [1,2]))
 (.seq (.reg 2 [qD 8 3 1,qD 9 3 2,qD 10 3 1,qI 11 (.rows 3 3 qz0 [(0,(qt 8)),(1,(qt 9)),(2,(qt 10))]),qI 12 (.call (qF 7) [(qt 11)]),qM 3 12] false (some [1,2,3]))
 (.seq (.reg 3 c6_r3 true (some [0]))
 .ret))))
def c6:EFn:=⟨0,40,[.tmp 0],c6_b,none,true⟩
theorem c6_ok:cFn Tryd.prog Tryd.f6=some c6.strip:=by kernel_rfl
def c7_l0_b:EC:=(.seq (.reg 3 [qI 12 (.bin .lss (qt 11) (qt 10))] false (some [3,9,10,11,12]))
 (.seq (.cond (qt 12) .skip (.exit 0))
 (.seq (.block 1 (.seq (.reg 4 [qI 13 (.ixL 3 (qt 9) (qt 11)),qD 14 3 13,qI 5 (.new 31 qz0),
 ⟨none,.st 3 (qt 5) (qt 14),none,Q0⟩] false (some [3,5,9,10,11]))
 (.reg 5 [qM 15 3,qD 16 3 5,qI 17 (.rows 1 3 qz0 [(0,(qt 16))]),qI 18 (.appM 45 3 32 (qt 15) (qt 17)),qM 3 18] false (some [3,9,10,11]))))
 (.reg 6 [qI 19 (.bin .add (qt 11) (qN 1)),qM 11 19] false (some [3,9,10,11])))))
def c7_l0:EC:= .loop (some [3,9,10,11]) c7_l0_b
def c7_l1_b:EC:=(.seq (.reg 11 [qI 27 (.bin .lss (qt 26) (qt 25))] false (some [6,24,25,26,27]))
 (.seq (.cond (qt 27) .skip (.exit 2))
 (.seq (.block 3 (.seq (.reg 12 [qM 28 26,qI 29 (.ixL 3 (qt 24) (qt 26)),qD 30 3 29,qI 8 (.new 45 qz0),qM 7 28,
 ⟨none,.st 3 (qt 8) (qt 30),none,Q0⟩] false (some [6,7,8,24,25,26]))
 (.seq (.reg 13 [qM 31 7,qI 32 (.bin .lss (qt 31) (qN 20))] false (some [6,8,24,25,26,32]))
 (.cond (qt 32) (.reg 14 [qM 33 6,qD 34 3 8,qI 35 (.rows 1 3 qz0 [(0,(qt 34))]),qI 36 (.app 31 3 32 (qt 33) (qt 35)),qM 6 36] false (some [6,24,25,26])) .skip))))
 (.reg 15 [qI 37 (.bin .add (qt 26) (qN 1)),qM 26 37] false (some [6,24,25,26])))))
def c7_l1:EC:= .loop (some [6,24,25,26]) c7_l1_b
def c7_b:EC:=(.seq (.reg 0 [qI 2 (.mv (.con (.sl .null [])))] false (some [0]))
 (.seq (.reg 1 [qI 3 (.mv (.con (.sl .null [])))] false (some [0,3]))
 (.seq (.seq (.reg 2 [qM 9 0,qI 10 (.len false (qt 9)),qI 11 (.mv (qN 0))] false (some [3,9,10,11]))
 (.block 0 c7_l0))
 (.seq (.reg 7 [qM 20 3,qI 21 (.call (qF 21) [(qt 20),(qF 22)])] false (some [3]))
 (.seq (.reg 8 [qM 22 3,qI 23 (.call (qF 23) [(qt 22)]),qM 3 23] false (some [3]))
 (.seq (.reg 9 [qI 6 (.mv (.con (.sl .null [])))] false (some [3,6]))
 (.seq (.seq (.reg 10 [qM 24 3,qI 25 (.len false (qt 24)),qI 26 (.mv (qN 0))] false (some [6,24,25,26]))
 (.block 2 c7_l1))
 (.seq (.reg 16 [qM 38 6,qM 2 38] false (some [2]))
 .ret))))))))
def c7:EFn:=⟨1,39,[.tmp 2],c7_b,none,true⟩
theorem c7_l0_w {E:Env} {fin:Kont (PV×St)} {st:List Fw} {ts:Tmps} {S:St}:run E fin st c7_l0 ts S=run E fin (.again c7_l0::st) c7_l0_b (sel (some [3,9,10,11]) ts) S:=w_loop
theorem c7_l0_a {E:Env} {fin:Kont (PV×St)} {st:List Fw} {ts:Tmps} {S:St}:aft E fin (.again c7_l0::st) .normal ts S=run E fin st c7_l0 (sel (some [3,9,10,11]) ts) S:=a_again_s
theorem c7_l1_w {E:Env} {fin:Kont (PV×St)} {st:List Fw} {ts:Tmps} {S:St}:run E fin st c7_l1 ts S=run E fin (.again c7_l1::st) c7_l1_b (sel (some [6,24,25,26]) ts) S:=w_loop
theorem c7_l1_a {E:Env} {fin:Kont (PV×St)} {st:List Fw} {ts:Tmps} {S:St}:aft E fin (.again c7_l1::st) .normal ts S=run E fin st c7_l1 (sel (some [6,24,25,26]) ts) S:=a_again_s
theorem c7_ok:cFn Tryd.prog Tryd.f7=some c7.strip:=by kernel_rfl
def c8_b:EC:=(.seq (.reg 0 [qI 3 (.boxI 31 (qt 1)),qI 4 (.mv (.con (.sl .null [])))] false (some [0,3]))
 (.seq (.reg 1 [⟨some 5,.mv (qt 0),none,⟨.no,false⟩⟩,
 ⟨some 6,.call (qF 24) [(qt 5)],none,⟨.lds [(some 3,(qt 3))],false⟩⟩,
 ⟨some 7,.ld (some 3) (qt 3),none,Q1⟩,qI 8 (.rows 1 3 qz0 [(0,(qt 7))]),qI 9 (.app 31 3 32 (qt 6) (qt 8)),qI 10 (.call (qF 7) [(qt 9)]),qM 4 10] true (some [4]))
 .ret))
def c8:EFn:=⟨2,11,[.tmp 4],c8_b,none,true⟩
theorem c8_ok:cFn Tryd.prog Tryd.f8=some c8.strip:=by kernel_rfl
def c9_b:EC:=(.seq (.reg 0 [qI 2 (.boxI 31 (qt 0)),qI 3 (.boxI 31 (qt 1)),qI 4 (.mv (.con (.bool false)))] false (some [2,3]))
 (.seq (.reg 1 [qD 5 3 2,qD 6 3 3,qI 7 (.call (qF 22) [(qt 5),(qt 6)]),qI 8 (.bin .lss (qt 7) (qN 0)),qM 4 8] false (some [4]))
 .ret))
def c9:EFn:=⟨2,9,[.tmp 4],c9_b,none,true⟩
theorem c9_ok:cFn Tryd.prog Tryd.f9=some c9.strip:=by kernel_rfl
def c10_r4:List EI:=[qM 11 5,qM 12 0,qI 13 (.len false (qt 12)),qI 14 (.bin .lss (qt 11) (qt 13)),qM 15 14,qJ 16 (.mv (qt 5)) 15 true,qJ 17 (.mv (qt 1)) 15 true,
 qJ 18 (.len false (qt 17)) 15 true,qJ 19 (.bin .lss (qt 16) (qt 18)) 15 true,qI 20 (.pick (qt 15) (qt 19) (.con (.bool false)))]
def c10_l0_b:EC:=(.seq (.seq (.reg 4 c10_r4 false (some [0,1,5,20]))
 (.cond (qt 20) .skip (.exit 0)))
 (.seq (.block 1 (.seq (.reg 6 [⟨some 23,.mv (qt 0),none,⟨.no,false⟩⟩,
 ⟨some 24,.mv (qt 5),none,⟨.no,false⟩⟩,
 ⟨some 25,.ixL 3 (qt 23) (qt 24),none,⟨.no,false⟩⟩,
 ⟨some 26,.ld (some 3) (qt 25),none,⟨.obs,false⟩⟩,
 ⟨some 27,.mv (qt 1),none,⟨.no,false⟩⟩,qM 28 5,qI 29 (.ixL 3 (qt 27) (qt 28)),
 ⟨some 30,.ld (some 3) (qt 29),none,⟨.obs,true⟩⟩,qI 31 (.eqG true 3 [(0,1),(1,0),(2,0)] (qt 26) (qt 30))] true (some [0,1,5,31]))
 (.cond (qt 31) (.seq (.reg 7 [qI 4 (.mv (.con (.bool false)))] false (some [4]))
 .ret) .skip)))
 (.reg 5 [qM 21 5,qI 22 (.bin .add (qt 21) (qN 1)),qM 5 22] false (some [0,1,5]))))
def c10_l0:EC:= .loop (some [0,1,5]) c10_l0_b
def c10_b:EC:=(.seq (.reg 0 [qI 4 (.mv (.con (.bool false)))] false (some [0,1]))
 (.seq (.seq (.reg 1 [qM 6 0,qI 7 (.len false (qt 6)),qM 8 1,qI 9 (.len false (qt 8)),qI 10 (.bin .neq (qt 7) (qt 9))] false (some [0,1,10]))
 (.cond (qt 10) (.seq (.reg 2 [qI 4 (.mv (.con (.bool false)))] false (some [4]))
 .ret) .skip))
 (.seq (.seq (.reg 3 [qI 5 (.mv (qN 0))] false (some [0,1,5]))
 (.block 0 c10_l0))
 (.seq (.reg 8 [qI 4 (.mv (.con (.bool true)))] false (some [4]))
 .ret))))
def c10:EFn:=⟨2,32,[.tmp 4],c10_b,none,true⟩
theorem c10_l0_w {E:Env} {fin:Kont (PV×St)} {st:List Fw} {ts:Tmps} {S:St}:run E fin st c10_l0 ts S=run E fin (.again c10_l0::st) c10_l0_b (sel (some [0,1,5]) ts) S:=w_loop
theorem c10_l0_a {E:Env} {fin:Kont (PV×St)} {st:List Fw} {ts:Tmps} {S:St}:aft E fin (.again c10_l0::st) .normal ts S=run E fin st c10_l0 (sel (some [0,1,5]) ts) S:=a_again_s
theorem c10_ok:cFn Tryd.prog Tryd.f10=some c10.strip:=by kernel_rfl
def c11_b:EC:=(.seq (.reg 0 [qI 2 (.boxI 31 (qt 0)),qI 3 (.boxI 31 (qt 1)),qI 4 (.mv (.con (.bool false)))] false (some [2,3]))
 (.seq (.seq (.reg 1 [qA 5 0 2,qA 6 0 5,qL 7 6,qA 8 0 3,qA 9 0 8,qL 10 9,qI 11 (.bin .neq (qt 7) (qt 10))] false (some [2,3,11]))
 (.cond (qt 11) (.seq (.reg 2 [qA 12 0 2,qA 13 0 12,qL 14 13,qA 15 0 3,qA 16 0 15,qL 17 16,qI 18 (.bin .lss (qt 14) (qt 17)),qM 4 18] false (some [4]))
 .ret) .skip))
 (.seq (.seq (.reg 3 [qA 19 0 2,qA 20 1 19,qL 21 20,qA 22 0 3,qA 23 1 22,qL 24 23,qI 25 (.bin .neq (qt 21) (qt 24))] false (some [2,3,25]))
 (.cond (qt 25) (.seq (.reg 4 [qA 26 0 2,qA 27 1 26,qL 28 27,qA 29 0 3,qA 30 1 29,qL 31 30,qI 32 (.bin .lss (qt 28) (qt 31)),qM 4 32] false (some [4]))
 .ret) .skip))
 (.seq (.reg 5 [qA 33 2 2,qL 34 33,qA 35 2 3,qL 36 35,qI 37 (.bin .lss (qt 34) (qt 36)),qM 4 37] false (some [4]))
 .ret))))
def c11:EFn:=⟨2,38,[.tmp 4],c11_b,none,true⟩
theorem c11_ok:cFn Tryd.prog Tryd.f11=some c11.strip:=by kernel_rfl
def c12_l0_b:EC:=(.seq (.reg 2 [qI 8 (.bin .lss (qt 7) (qt 6))] false (some [5,6,7,8]))
 (.seq (.cond (qt 8) .skip (.exit 0))
 (.seq (.block 1 (.seq (.reg 3 [qI 9 (.ixL 3 (qt 5) (qt 7)),qD 10 3 9,qI 4 (.new 31 qz0),
 ⟨none,.st 3 (qt 4) (qt 10),none,Q0⟩] false (some [4,5,6,7]))
 (.seq (.reg 4 [qA 11 2 4,qL 12 11,qI 13 (.bin .neq (qt 12) (qN 0))] false (some [4,5,6,7,13]))
 (.cond (qt 13) (.seq (.reg 5 [⟨some 14,.fA 0 (qt 4),none,⟨.no,false⟩⟩,
 ⟨some 15,.fA 0 (qt 14),none,⟨.no,false⟩⟩,
 ⟨some 16,.ld none (qt 15),none,⟨.still,false⟩⟩,
 ⟨some 17,.fA 2 (qt 4),none,⟨.no,false⟩⟩,
 ⟨some 18,.ld none (qt 17),none,⟨.obs,false⟩⟩,qA 19 0 4,qA 20 1 19,
 ⟨some 21,.ld none (qt 20),none,⟨.obs,true⟩⟩,
 ⟨some 22,.call (qF 26) [(qt 18),(qt 21)],none,⟨.obs,true⟩⟩,qI 23 (.call (qF 25) [(qt 16),(qt 22)]),qM 2 23] true (some [2]))
 .ret) .skip))))
 (.reg 6 [qI 24 (.bin .add (qt 7) (qN 1)),qM 7 24] false (some [5,6,7])))))
def c12_l0:EC:= .loop (some [5,6,7]) c12_l0_b
def c12_b:EC:=(.seq (.reg 0 [qI 2 (.mv (.con .nilifc))] false (some [0]))
 (.seq (.seq (.reg 1 [qM 5 0,qI 6 (.len false (qt 5)),qI 7 (.mv (qN 0))] false (some [5,6,7]))
 (.block 0 c12_l0))
 (.seq (.reg 7 [qI 2 (.mv (.con .nilifc))] false (some [2]))
 .ret)))
def c12:EFn:=⟨1,25,[.tmp 2],c12_b,none,true⟩
theorem c12_l0_w {E:Env} {fin:Kont (PV×St)} {st:List Fw} {ts:Tmps} {S:St}:run E fin st c12_l0 ts S=run E fin (.again c12_l0::st) c12_l0_b (sel (some [5,6,7]) ts) S:=w_loop
theorem c12_l0_a {E:Env} {fin:Kont (PV×St)} {st:List Fw} {ts:Tmps} {S:St}:aft E fin (.again c12_l0::st) .normal ts S=run E fin st c12_l0 (sel (some [5,6,7]) ts) S:=a_again_s
theorem c12_ok:cFn Tryd.prog Tryd.f12=some c12.strip:=by kernel_rfl
def c13_l0_b:EC:=(.seq (.seq (.reg 2 [qM 4 3,qM 5 0,qI 6 (.len false (qt 5)),qI 7 (.bin .lss (qt 4) (qt 6))] false (some [0,3,7]))
 (.cond (qt 7) .skip (.exit 0)))
 (.seq (.block 1 (.seq (.reg 4 [qM 10 0,qM 11 3,qI 12 (.ixL 3 (qt 10) (qt 11)),qA 13 2 12,qL 14 13,qI 15 (.bin .neq (qt 14) (qN 0))] false (some [0,3,15]))
 (.cond (qt 15) (.seq (.reg 5 [qM 16 3,qM 2 16] false (some [2]))
 .ret) .skip)))
 (.reg 3 [qM 8 3,qI 9 (.bin .add (qt 8) (qN 1)),qM 3 9] false (some [0,3]))))
def c13_l0:EC:= .loop (some [0,3]) c13_l0_b
def c13_b:EC:=(.seq (.reg 0 [qI 2 (.mv (qN 0))] false (some [0]))
 (.seq (.seq (.reg 1 [qI 3 (.mv (qN 0))] false (some [0,3]))
 (.block 0 c13_l0))
 (.seq (.reg 6 [qI 2 (.mv (qN (-1)))] false (some [2]))
 .ret)))
def c13:EFn:=⟨1,17,[.tmp 2],c13_b,none,true⟩
theorem c13_l0_w {E:Env} {fin:Kont (PV×St)} {st:List Fw} {ts:Tmps} {S:St}:run E fin st c13_l0 ts S=run E fin (.again c13_l0::st) c13_l0_b (sel (some [0,3]) ts) S:=w_loop
theorem c13_l0_a {E:Env} {fin:Kont (PV×St)} {st:List Fw} {ts:Tmps} {S:St}:aft E fin (.again c13_l0::st) .normal ts S=run E fin st c13_l0 (sel (some [0,3]) ts) S:=a_again_s
theorem c13_ok:cFn Tryd.prog Tryd.f13=some c13.strip:=by kernel_rfl
def c17_r6:List EI:=[⟨some 12,.mv (qt 5),none,⟨.no,false⟩⟩,qM 13 3,qI 14 (.len false (qt 13)),qI 15 (.bin .lss (qt 12) (qt 14)),qM 16 15,
 ⟨some 17,.mv (qt 3),some (16,true),⟨.no,false⟩⟩,
 ⟨some 18,.mv (qt 5),some (16,true),⟨.no,false⟩⟩,
 ⟨some 19,.ixL 3 (qt 17) (qt 18),some (16,true),⟨.no,false⟩⟩,
 ⟨some 20,.ld (some 3) (qt 19),some (16,true),⟨.obs,false⟩⟩,
 ⟨some 21,.mv (qt 0),some (16,true),⟨.no,false⟩⟩,qJ 22 (.mv (qt 4)) 16 true,qJ 23 (.ixL 3 (qt 21) (qt 22)) 16 true,
 ⟨some 24,.ld (some 3) (qt 23),some (16,true),⟨.obs,true⟩⟩,qJ 25 (.call (qF 11) [(qt 20),(qt 24)]) 16 true,qI 26 (.pick (qt 16) (qt 25) (.con (.bool false)))]
def c17_r8:List EI:=[⟨some 29,.mv (qt 5),none,⟨.no,false⟩⟩,qM 30 3,qI 31 (.len false (qt 30)),qI 32 (.bin .lss (qt 29) (qt 31)),qM 33 32,
 ⟨some 34,.mv (qt 3),some (33,true),⟨.no,false⟩⟩,
 ⟨some 35,.mv (qt 5),some (33,true),⟨.no,false⟩⟩,
 ⟨some 36,.ixL 3 (qt 34) (qt 35),some (33,true),⟨.no,false⟩⟩,
 ⟨some 37,.ld (some 3) (qt 36),some (33,true),⟨.obs,false⟩⟩,
 ⟨some 38,.mv (qt 0),some (33,true),⟨.no,false⟩⟩,qJ 39 (.mv (qt 4)) 33 true,qJ 40 (.ixL 3 (qt 38) (qt 39)) 33 true,
 ⟨some 41,.ld (some 3) (qt 40),some (33,true),⟨.obs,true⟩⟩,qJ 42 (.eqG false 3 [(0,1),(1,0),(2,0)] (qt 37) (qt 41)) 33 true,qI 43 (.pick (qt 33) (qt 42) (.con (.bool false)))]
def c17_l0_b:EC:=(.seq (.seq (.reg 6 c17_r6 true (some [0,3,4,5,26]))
 (.cond (qt 26) .skip (.exit 2)))
 (.block 3 (.reg 7 [qM 27 5,qI 28 (.bin .add (qt 27) (qN 1)),qM 5 28] false (some [0,3,4,5]))))
def c17_l0:EC:= .loop (some [0,3,4,5]) c17_l0_b
def c17_l1_b:EC:=(.seq (.seq (.reg 3 [qM 6 4,qM 7 0,qI 8 (.len false (qt 7)),qI 9 (.bin .lss (qt 6) (qt 8))] false (some [0,3,4,9]))
 (.cond (qt 9) .skip (.exit 0)))
 (.seq (.block 1 (.seq (.reg 5 [qI 5 (.mv (qN 0))] false (some [0,3,4,5]))
 (.seq (.block 2 c17_l0)
 (.seq (.seq (.reg 8 c17_r8 true (some [0,3,4,5,43]))
 (.cond (qt 43) (.exit 1) .skip))
 (.reg 9 [⟨some 44,.rows 0 3 qz0 [],none,⟨.no,false⟩⟩,
 ⟨some 45,.mv (qt 3),none,⟨.no,false⟩⟩,
 ⟨some 46,.mv (qt 5),none,⟨.no,false⟩⟩,
 ⟨some 47,.slL 3 (qt 45) none (some (qt 46)) none,none,⟨.no,false⟩⟩,
 ⟨some 48,.app 31 3 32 (qt 44) (qt 47),none,⟨.obs,false⟩⟩,
 ⟨some 49,.mv (qt 0),none,⟨.no,false⟩⟩,
 ⟨some 50,.mv (qt 4),none,⟨.no,false⟩⟩,
 ⟨some 51,.ixL 3 (qt 49) (qt 50),none,⟨.no,false⟩⟩,
 ⟨some 52,.ld (some 3) (qt 51),none,⟨.still,false⟩⟩,
 ⟨some 53,.rows 1 3 qz0 [(0,(qt 52))],none,⟨.no,false⟩⟩,
 ⟨some 54,.app 31 3 32 (qt 48) (qt 53),none,⟨.no,false⟩⟩,
 ⟨some 55,.mv (qt 3),none,⟨.no,false⟩⟩,qM 56 5,qI 57 (.slL 3 (qt 55) (some (qt 56)) none none),qI 58 (.app 31 3 32 (qt 54) (qt 57)),qM 3 58] true (some [0,3,4]))))))
 (.reg 4 [qM 10 4,qI 11 (.bin .add (qt 10) (qN 1)),qM 4 11] false (some [0,3,4]))))
def c17_l1:EC:= .loop (some [0,3,4]) c17_l1_b
def c17_b:EC:=(.seq (.reg 0 [qI 2 (.mv (.con (.sl .null [])))] false (some [0]))
 (.seq (.reg 1 [qI 3 (.mv (.con (.sl .null [])))] false (some [0,3]))
 (.seq (.seq (.reg 2 [qI 4 (.mv (qN 0))] false (some [0,3,4]))
 (.block 0 c17_l1))
 (.seq (.seq (.reg 10 [qM 59 3,qI 60 (.len false (qt 59)),qI 61 (.bin .gtr (qt 60) (qN 20))] false (some [3,61]))
 (.cond (qt 61) (.reg 11 [qM 62 3,qI 63 (.slL 3 (qt 62) none (some (qN 20)) none),qM 3 63] false (some [3])) .skip))
 (.seq (.reg 12 [qM 64 3,qM 2 64] false (some [2]))
 .ret)))))
def c17:EFn:=⟨1,65,[.tmp 2],c17_b,none,true⟩
theorem c17_l0_w {E:Env} {fin:Kont (PV×St)} {st:List Fw} {ts:Tmps} {S:St}:run E fin st c17_l0 ts S=run E fin (.again c17_l0::st) c17_l0_b (sel (some [0,3,4,5]) ts) S:=w_loop
theorem c17_l0_a {E:Env} {fin:Kont (PV×St)} {st:List Fw} {ts:Tmps} {S:St}:aft E fin (.again c17_l0::st) .normal ts S=run E fin st c17_l0 (sel (some [0,3,4,5]) ts) S:=a_again_s
theorem c17_l1_w {E:Env} {fin:Kont (PV×St)} {st:List Fw} {ts:Tmps} {S:St}:run E fin st c17_l1 ts S=run E fin (.again c17_l1::st) c17_l1_b (sel (some [0,3,4]) ts) S:=w_loop
theorem c17_l1_a {E:Env} {fin:Kont (PV×St)} {st:List Fw} {ts:Tmps} {S:St}:aft E fin (.again c17_l1::st) .normal ts S=run E fin st c17_l1 (sel (some [0,3,4]) ts) S:=a_again_s
theorem c17_ok:cFn Tryd.prog Tryd.f17=some c17.strip:=by kernel_rfl
def c18_b:EC:=(.seq (.reg 0 [qI 3 (.boxI 31 (qt 1)),qI 4 (.mv (.con (.sl .null [])))] false (some [0,3]))
 (.seq (.reg 1 [⟨some 5,.rows 0 3 qz0 [],none,⟨.no,false⟩⟩,
 ⟨some 6,.mv (qt 0),none,⟨.no,false⟩⟩,
 ⟨some 7,.app 31 3 32 (qt 5) (qt 6),none,⟨.lds [(some 3,(qt 3))],false⟩⟩,
 ⟨some 8,.ld (some 3) (qt 3),none,Q1⟩,qI 9 (.rows 1 3 qz0 [(0,(qt 8))]),qI 10 (.app 31 3 32 (qt 7) (qt 9)),qI 11 (.call (qF 17) [(qt 10)]),qM 4 11] true (some [4]))
 .ret))
def c18:EFn:=⟨2,12,[.tmp 4],c18_b,none,true⟩
theorem c18_ok:cFn Tryd.prog Tryd.f18=some c18.strip:=by kernel_rfl
def c19_l0_b:EC:=(.seq (.reg 3 [qI 9 (.bin .lss (qt 8) (qt 7))] false (some [3,6,7,8,9]))
 (.seq (.cond (qt 9) .skip (.exit 0))
 (.seq (.block 1 (.seq (.reg 4 [qI 10 (.ixL 3 (qt 6) (qt 8)),qD 11 3 10,qI 5 (.new 31 qz0),
 ⟨none,.st 3 (qt 5) (qt 11),none,Q0⟩] false (some [3,5,6,7,8]))
 (.reg 5 [⟨some 12,.fA 0 (qt 5),none,⟨.no,false⟩⟩,
 ⟨some 13,.fA 0 (qt 12),none,⟨.no,false⟩⟩,
 ⟨some 14,.ld none (qt 13),none,⟨.still,false⟩⟩,
 ⟨some 15,.bin .add (qt 14) (.con (.str ⟨#[58]⟩)),none,⟨.no,false⟩⟩,
 ⟨some 16,.fA 0 (qt 5),none,⟨.no,false⟩⟩,
 ⟨some 17,.fA 1 (qt 16),none,⟨.no,false⟩⟩,
 ⟨some 18,.ld none (qt 17),none,⟨.obs,false⟩⟩,
 ⟨some 19,.call (qF 29) [(qt 18)],none,⟨.obs,false⟩⟩,
 ⟨some 20,.bin .add (qt 15) (qt 19),none,⟨.no,false⟩⟩,
 ⟨some 21,.bin .add (qt 20) (.con (.str ⟨#[58]⟩)),none,⟨.no,false⟩⟩,qA 22 2 5,
 ⟨some 23,.ld none (qt 22),none,Q1⟩,
 ⟨some 24,.call (qF 29) [(qt 23)],none,⟨.obs,true⟩⟩,qI 25 (.bin .add (qt 21) (qt 24)),qI 26 (.bin .add (qt 25) (.con (.str ⟨#[10]⟩))),qI 27 (.call (qF 28) [(qt 3),(qt 26)])] true (some [3,6,7,8]))))
 (.reg 6 [qI 28 (.bin .add (qt 8) (qN 1)),qM 8 28] false (some [3,6,7,8])))))
def c19_l0:EC:= .loop (some [3,6,7,8]) c19_l0_b
def c19_b:EC:=(.seq (.reg 0 [qI 2 (.mv (.con (.str ⟨#[]⟩)))] false (some [0]))
 (.seq (.reg 1 [qI 3 (.new 64 [.nilp,(.sl .null [])])] false (some [0,3]))
 (.seq (.seq (.reg 2 [qM 6 0,qI 7 (.len false (qt 6)),qI 8 (.mv (qN 0))] false (some [3,6,7,8]))
 (.block 0 c19_l0))
 (.seq (.reg 7 [qI 29 (.call (qF 30) [(qt 3)]),qM 2 29] false (some [2]))
 .ret))))
def c19:EFn:=⟨1,30,[.tmp 2],c19_b,none,true⟩
theorem c19_l0_w {E:Env} {fin:Kont (PV×St)} {st:List Fw} {ts:Tmps} {S:St}:run E fin st c19_l0 ts S=run E fin (.again c19_l0::st) c19_l0_b (sel (some [3,6,7,8]) ts) S:=w_loop
theorem c19_l0_a {E:Env} {fin:Kont (PV×St)} {st:List Fw} {ts:Tmps} {S:St}:aft E fin (.again c19_l0::st) .normal ts S=run E fin st c19_l0 (sel (some [3,6,7,8]) ts) S:=a_again_s
theorem c19_ok:cFn Tryd.prog Tryd.f19=some c19.strip:=by kernel_rfl
def c20_l0_b:EC:=(.seq (.seq (.reg 3 [qM 5 4,qM 6 0,qI 7 (.len false (qt 6)),qI 8 (.bin .lss (qt 5) (qt 7))] false (some [0,3,4,8]))
 (.cond (qt 8) .skip (.exit 0)))
 (.seq (.block 1 (.reg 5 [⟨some 11,.mv (qt 3),none,⟨.no,false⟩⟩,
 ⟨some 12,.mv (qt 0),none,⟨.no,false⟩⟩,
 ⟨some 13,.mv (qt 4),none,⟨.no,false⟩⟩,
 ⟨some 14,.ixL 3 (qt 12) (qt 13),none,⟨.no,false⟩⟩,
 ⟨some 15,.fA 0 (qt 14),none,⟨.no,false⟩⟩,
 ⟨some 16,.fA 0 (qt 15),none,⟨.no,false⟩⟩,
 ⟨some 17,.ld none (qt 16),none,⟨.still,false⟩⟩,
 ⟨some 18,.bin .add (qt 11) (qt 17),none,⟨.no,false⟩⟩,
 ⟨some 19,.bin .add (qt 18) (.con (.str ⟨#[58]⟩)),none,⟨.no,false⟩⟩,
 ⟨some 20,.mv (qt 0),none,⟨.no,false⟩⟩,
 ⟨some 21,.mv (qt 4),none,⟨.no,false⟩⟩,
 ⟨some 22,.ixL 3 (qt 20) (qt 21),none,⟨.no,false⟩⟩,
 ⟨some 23,.fA 0 (qt 22),none,⟨.no,false⟩⟩,
 ⟨some 24,.fA 1 (qt 23),none,⟨.no,false⟩⟩,
 ⟨some 25,.ld none (qt 24),none,⟨.obs,false⟩⟩,
 ⟨some 26,.call (qF 31) [(qt 25)],none,⟨.obs,false⟩⟩,
 ⟨some 27,.bin .add (qt 19) (qt 26),none,⟨.no,false⟩⟩,
 ⟨some 28,.bin .add (qt 27) (.con (.str ⟨#[58]⟩)),none,⟨.no,false⟩⟩,
 ⟨some 29,.mv (qt 0),none,⟨.no,false⟩⟩,qM 30 4,qI 31 (.ixL 3 (qt 29) (qt 30)),qA 32 2 31,
 ⟨some 33,.ld none (qt 32),none,Q1⟩,
 ⟨some 34,.call (qF 31) [(qt 33)],none,⟨.obs,true⟩⟩,qI 35 (.bin .add (qt 28) (qt 34)),qI 36 (.bin .add (qt 35) (.con (.str ⟨#[10]⟩))),qM 3 36] true (some [0,3,4])))
 (.reg 4 [qM 9 4,qI 10 (.bin .add (qt 9) (qN 1)),qM 4 10] false (some [0,3,4]))))
def c20_l0:EC:= .loop (some [0,3,4]) c20_l0_b
def c20_b:EC:=(.seq (.reg 0 [qI 2 (.mv (.con (.str ⟨#[]⟩)))] false (some [0]))
 (.seq (.reg 1 [qI 3 (.mv (.con (.str ⟨#[]⟩)))] false (some [0,3]))
 (.seq (.seq (.reg 2 [qI 4 (.mv (qN 0))] false (some [0,3,4]))
 (.block 0 c20_l0))
 (.seq (.reg 6 [qM 37 3,qM 2 37] false (some [2]))
 .ret))))
def c20:EFn:=⟨1,38,[.tmp 2],c20_b,none,true⟩
theorem c20_l0_w {E:Env} {fin:Kont (PV×St)} {st:List Fw} {ts:Tmps} {S:St}:run E fin st c20_l0 ts S=run E fin (.again c20_l0::st) c20_l0_b (sel (some [0,3,4]) ts) S:=w_loop
theorem c20_l0_a {E:Env} {fin:Kont (PV×St)} {st:List Fw} {ts:Tmps} {S:St}:aft E fin (.again c20_l0::st) .normal ts S=run E fin st c20_l0 (sel (some [0,3,4]) ts) S:=a_again_s
theorem c20_ok:cFn Tryd.prog Tryd.f20=some c20.strip:=by kernel_rfl
def c22_b:EC:=(.seq (.reg 0 [qI 2 (.boxI 45 (qt 0)),qI 3 (.boxI 45 (qt 1)),qI 4 (.mv (qN 0))] false (some [2,3]))
 (.seq (.reg 1 [⟨some 5,.fA 0 (qt 2),none,⟨.no,false⟩⟩,
 ⟨some 6,.fA 0 (qt 5),none,⟨.no,false⟩⟩,
 ⟨some 7,.ld none (qt 6),none,⟨.obs,false⟩⟩,
 ⟨some 8,.fA 0 (qt 3),none,⟨.no,false⟩⟩,
 ⟨some 9,.fA 0 (qt 8),none,⟨.no,false⟩⟩,
 ⟨some 10,.ld none (qt 9),none,⟨.obs,false⟩⟩,
 ⟨some 11,.call (qF 35) [(qt 7),(qt 10)],none,⟨.obs,false⟩⟩,
 ⟨some 12,.fA 0 (qt 2),none,⟨.no,false⟩⟩,
 ⟨some 13,.fA 1 (qt 12),none,⟨.no,false⟩⟩,
 ⟨some 14,.ld none (qt 13),none,⟨.still,false⟩⟩,
 ⟨some 15,.fA 0 (qt 3),none,⟨.no,false⟩⟩,
 ⟨some 16,.fA 1 (qt 15),none,⟨.no,false⟩⟩,
 ⟨some 17,.ld none (qt 16),none,⟨.still,false⟩⟩,
 ⟨some 18,.call (qF 36) [(qt 14),(qt 17)],none,⟨.obs,false⟩⟩,
 ⟨some 19,.fA 2 (qt 2),none,⟨.no,false⟩⟩,
 ⟨some 20,.ld none (qt 19),none,⟨.still,false⟩⟩,qA 21 2 3,
 ⟨some 22,.ld none (qt 21),none,Q1⟩,qI 23 (.call (qF 37) [(qt 20),(qt 22)]),qI 24 (.rows 3 1 [(.int .i64 0)] [(0,(qt 11)),(1,(qt 18)),(2,(qt 23))]),
 qI 25 (.call (qF 34) [(qt 24)]),qM 4 25] true (some [4]))
 .ret))
def c22:EFn:=⟨2,26,[.tmp 4],c22_b,none,true⟩
theorem c22_ok:cFn Tryd.prog Tryd.f22=some c22.strip:=by kernel_rfl
def c23_l0_b:EC:=(.seq (.seq (.reg 9 [qM 29 5,qM 30 4,qI 31 (.len false (qt 30)),qI 32 (.bin .lss (qt 29) (qt 31))] false (some [0,3,4,5,32]))
 (.cond (qt 32) .skip (.exit 2)))
 (.seq (.block 3 (.seq (.reg 11 [⟨some 35,.mv (qt 4),none,⟨.no,false⟩⟩,
 ⟨some 36,.mv (qt 5),none,⟨.no,false⟩⟩,
 ⟨some 37,.ixL 3 (qt 35) (qt 36),none,⟨.no,false⟩⟩,
 ⟨some 38,.ld (some 3) (qt 37),none,⟨.obs,false⟩⟩,
 ⟨some 39,.mv (qt 4),none,⟨.no,false⟩⟩,qM 40 5,qI 41 (.bin .sub (qt 40) (qN 1)),qI 42 (.ixL 3 (qt 39) (qt 41)),
 ⟨some 43,.ld (some 3) (qt 42),none,⟨.obs,true⟩⟩,qI 44 (.eqG true 3 [(0,1),(1,0),(2,0)] (qt 38) (qt 43))] true (some [0,3,4,5,44]))
 (.cond (qt 44) (.seq (.reg 12 [qM 45 0,qM 46 3,qM 47 4,qM 48 5,qI 49 (.ixL 3 (qt 47) (qt 48)),qD 50 3 49,qI 51 (.ixL 3 (qt 45) (qt 46)),
 ⟨none,.st 3 (qt 51) (qt 50),none,Q0⟩] false (some [0,3,4,5]))
 (.reg 13 [qM 52 3,qI 53 (.bin .add (qt 52) (qN 1)),qM 3 53] false (some [0,3,4,5]))) .skip)))
 (.reg 10 [qM 33 5,qI 34 (.bin .add (qt 33) (qN 1)),qM 5 34] false (some [0,3,4,5]))))
def c23_l0:EC:= .loop (some [0,3,4,5]) c23_l0_b
def c23_l1_b:EC:=(.seq (.seq (.reg 4 [qM 10 3,qM 11 0,qI 12 (.len false (qt 11)),qI 13 (.bin .lss (qt 10) (qt 12))] false (some [0,3,13]))
 (.cond (qt 13) .skip (.exit 0)))
 (.seq (.block 1 (.seq (.reg 6 [⟨some 16,.mv (qt 0),none,⟨.no,false⟩⟩,
 ⟨some 17,.mv (qt 3),none,⟨.no,false⟩⟩,
 ⟨some 18,.ixL 3 (qt 16) (qt 17),none,⟨.no,false⟩⟩,
 ⟨some 19,.ld (some 3) (qt 18),none,⟨.obs,false⟩⟩,
 ⟨some 20,.mv (qt 0),none,⟨.no,false⟩⟩,qM 21 3,qI 22 (.bin .sub (qt 21) (qN 1)),qI 23 (.ixL 3 (qt 20) (qt 22)),
 ⟨some 24,.ld (some 3) (qt 23),none,⟨.obs,true⟩⟩,qI 25 (.eqG false 3 [(0,1),(1,0),(2,0)] (qt 19) (qt 24))] true (some [0,3,25]))
 (.cond (qt 25) (.seq (.reg 7 [qM 26 0,qM 27 3,qI 28 (.slL 3 (qt 26) (some (qt 27)) none none),qM 4 28] false (some [0,3,4]))
 (.seq (.seq (.reg 8 [qI 5 (.mv (qN 1))] false (some [0,3,4,5]))
 (.block 2 c23_l0))
 (.seq (.reg 14 [qM 54 0,qM 55 3,qI 56 (.slL 3 (qt 54) (some (qt 55)) none none),
 ⟨none,.clr 3 qz0 (qt 56),none,Q0⟩] false (some [0,3]))
 (.seq (.reg 15 [qM 57 0,qM 58 3,qI 59 (.slL 3 (qt 57) none (some (qt 58)) none),qM 2 59] false (some [2]))
 .ret)))) .skip)))
 (.reg 5 [qM 14 3,qI 15 (.bin .add (qt 14) (qN 1)),qM 3 15] false (some [0,3]))))
def c23_l1:EC:= .loop (some [0,3]) c23_l1_b
def c23_b:EC:=(.seq (.reg 0 [qI 2 (.mv (.con (.sl .null [])))] false (some [0]))
 (.seq (.seq (.reg 1 [qM 6 0,qI 7 (.len false (qt 6)),qI 8 (.bin .lss (qt 7) (qN 2))] false (some [0,8]))
 (.cond (qt 8) (.seq (.reg 2 [qM 9 0,qM 2 9] false (some [2]))
 .ret) .skip))
 (.seq (.seq (.reg 3 [qI 3 (.mv (qN 1))] false (some [0,3]))
 (.block 0 c23_l1))
 (.seq (.reg 16 [qM 60 0,qM 2 60] false (some [2]))
 .ret))))
def c23:EFn:=⟨1,61,[.tmp 2],c23_b,none,true⟩
theorem c23_l0_w {E:Env} {fin:Kont (PV×St)} {st:List Fw} {ts:Tmps} {S:St}:run E fin st c23_l0 ts S=run E fin (.again c23_l0::st) c23_l0_b (sel (some [0,3,4,5]) ts) S:=w_loop
theorem c23_l0_a {E:Env} {fin:Kont (PV×St)} {st:List Fw} {ts:Tmps} {S:St}:aft E fin (.again c23_l0::st) .normal ts S=run E fin st c23_l0 (sel (some [0,3,4,5]) ts) S:=a_again_s
theorem c23_l1_w {E:Env} {fin:Kont (PV×St)} {st:List Fw} {ts:Tmps} {S:St}:run E fin st c23_l1 ts S=run E fin (.again c23_l1::st) c23_l1_b (sel (some [0,3]) ts) S:=w_loop
theorem c23_l1_a {E:Env} {fin:Kont (PV×St)} {st:List Fw} {ts:Tmps} {S:St}:aft E fin (.again c23_l1::st) .normal ts S=run E fin st c23_l1 (sel (some [0,3]) ts) S:=a_again_s
theorem c23_ok:cFn Tryd.prog Tryd.f23=some c23.strip:=by kernel_rfl
def c25_b:EC:=(.seq (.reg 0 [qI 4 (.mv (.con .nilifc))] false (some [0,1]))
 (.seq (.seq (.reg 1 [qM 5 1,qI 6 (.eqI false (qt 5) (.con .nilifc))] false (some [0,1,6]))
 (.cond (qt 6) (.seq (.reg 2 [qI 4 (.mv (.con .nilifc))] false (some [4]))
 .ret) .skip))
 (.seq (.reg 3 [qM 7 0,qM 8 1,qI 9 (.build [(.str ⟨#[]⟩),.nilifc] [(0,1,(qt 7)),(1,1,(qt 8))]),qI 10 (.boxI 60 (qt 9)),qI 11 (.ifc 57 (qt 10)),
 qM 4 11] false (some [4]))
 .ret)))
def c25:EFn:=⟨2,12,[.tmp 4],c25_b,none,true⟩
theorem c25_ok:cFn Tryd.prog Tryd.f25=some c25.strip:=by kernel_rfl
def c26_b:EC:=(.seq (.reg 0 [qI 4 (.mv (.con .nilifc))] false (some [0,1]))
 (.seq (.seq (.reg 1 [qM 5 0,qI 6 (.bin .eql (qt 5) (qN 0))] false (some [0,1,6]))
 (.cond (qt 6) (.seq (.reg 2 [qI 4 (.mv (.con .nilifc))] false (some [4]))
 .ret) .skip))
 (.seq (.reg 3 [qM 7 0,qM 8 1,qI 9 (.build [(.int .i64 0),(.int .i64 0)] [(0,1,(qt 7)),(1,1,(qt 8))]),qI 10 (.boxI 56 (qt 9)),qI 11 (.ifc 52 (qt 10)),
 qM 4 11] false (some [4]))
 .ret)))
def c26:EFn:=⟨2,12,[.tmp 4],c26_b,none,true⟩
theorem c26_ok:cFn Tryd.prog Tryd.f26=some c26.strip:=by kernel_rfl
def c28_b:EC:=(.seq (.reg 0 [qI 4 (.mv (qN 0)),qI 5 (.mv (.con .nilifc))] false (some [0,1]))
 (.seq (.reg 1 [qM 6 0,qI 7 (.call (qF 42) [(qt 6)])] false (some [0,1]))
 (.seq (.reg 2 [qM 8 0,qM 9 0,qI 10 (.nck (qt 9)),qA 11 1 10,qL 12 11,qM 13 1,qI 14 (.apS 5 (qt 12) (qt 13)),qI 15 (.nck (qt 8)),qA 16 1 15,
 ⟨none,.st 1 (qt 16) (qt 14),none,Q0⟩] false (some [1]))
 (.seq (.reg 3 [qM 17 1,qI 18 (.len true (qt 17)),qM 4 18,qI 5 (.mv (.con .nilifc))] false (some [4,5]))
 .ret))))
def c28:EFn:=⟨2,19,[.tmp 4,.tmp 5],c28_b,none,true⟩
theorem c28_ok:cFn Tryd.prog Tryd.f28=some c28.strip:=by kernel_rfl
def c30_b:EC:=(.seq (.reg 0 [qI 2 (.mv (.con (.str ⟨#[]⟩)))] false (some [0]))
 (.seq (.reg 1 [⟨some 3,.mv (qt 0),none,⟨.no,false⟩⟩,
 ⟨some 4,.nck (qt 3),none,⟨.no,false⟩⟩,
 ⟨some 5,.fA 1 (qt 4),none,⟨.no,false⟩⟩,
 ⟨some 6,.ld none (qt 5),none,⟨.obs,false⟩⟩,
 ⟨some 7,.usd (qt 6),none,⟨.no,false⟩⟩,qM 8 0,qI 9 (.nck (qt 8)),qA 10 1 9,
 ⟨some 11,.ld none (qt 10),none,⟨.obs,true⟩⟩,qI 12 (.len false (qt 11)),qI 13 (.ust 5 (qt 7) (qt 12)),qM 2 13] true (some [2]))
 .ret))
def c30:EFn:=⟨1,14,[.tmp 2],c30_b,none,true⟩
theorem c30_ok:cFn Tryd.prog Tryd.f30=some c30.strip:=by kernel_rfl
def c31_b:EC:=(.seq (.reg 0 [qI 2 (.mv (.con (.str ⟨#[]⟩)))] false (some [0]))
 (.seq (.seq (.reg 1 [qM 3 0,qI 4 (.bin .geq (qt 3) (qN 0))] false (some [0,4]))
 (.cond (qt 4) (.seq (.reg 2 [qM 5 0,qI 6 (.call (qF 44) [(qt 5)]),qM 2 6] false (some [2]))
 .ret) .skip))
 (.seq (.seq (.reg 3 [qM 7 0,qI 8 (.bin .gtr (qt 7) (qN (-10)))] false (some [0,8]))
 (.cond (qt 8) (.seq (.reg 4 [qM 9 0,qI 10 (.un .neg (qt 9)),qI 11 (.call (qF 44) [(qt 10)]),qI 12 (.bin .add (.con (.str ⟨#[45]⟩)) (qt 11)),qM 2 12] false (some [2]))
 .ret) .skip))
 (.seq (.reg 5 [qM 13 0,qI 14 (.bin .quo (qt 13) (qN 10)),qI 15 (.un .neg (qt 14)),qI 16 (.call (qF 44) [(qt 15)]),qI 17 (.bin .add (.con (.str ⟨#[45]⟩)) (qt 16)),
 qM 18 0,qI 19 (.bin .rem (qt 18) (qN 10)),qI 20 (.un .neg (qt 19)),qI 21 (.call (qF 44) [(qt 20)]),qI 22 (.bin .add (qt 17) (qt 21)),qM 2 22] false (some [2]))
 .ret))))
def c31:EFn:=⟨1,23,[.tmp 2],c31_b,none,true⟩
theorem c31_ok:cFn Tryd.prog Tryd.f31=some c31.strip:=by kernel_rfl
def c34_l0_b:EC:=(.seq (.reg 3 [qI 9 (.bin .lss (qt 8) (qt 7))] false (some [3,6,7,8,9]))
 (.seq (.cond (qt 9) .skip (.exit 0))
 (.seq (.block 1 (.seq (.reg 4 [qI 10 (.ixL 1 (qt 6) (qt 8)),qL 11 10,qM 5 11] false (some [3,5,6,7,8]))
 (.seq (.reg 5 [qM 12 5,qM 13 3,qI 14 (.bin .neq (qt 12) (qt 13))] false (some [3,5,6,7,8,14]))
 (.cond (qt 14) (.seq (.reg 6 [qM 15 5,qM 2 15] false (some [2]))
 .ret) .skip))))
 (.reg 7 [qI 16 (.bin .add (qt 8) (qN 1)),qM 8 16] false (some [3,6,7,8])))))
def c34_l0:EC:= .loop (some [3,6,7,8]) c34_l0_b
def c34_b:EC:=(.seq (.reg 0 [qI 2 (.mv (qN 0))] false (some [0]))
 (.seq (.reg 1 [qI 3 (.mv (qN 0))] false (some [0,3]))
 (.seq (.seq (.reg 2 [qM 6 0,qI 7 (.len false (qt 6)),qI 8 (.mv (qN 0))] false (some [3,6,7,8]))
 (.block 0 c34_l0))
 (.seq (.reg 8 [qM 17 3,qM 2 17] false (some [2]))
 .ret))))
def c34:EFn:=⟨1,18,[.tmp 2],c34_b,none,true⟩
theorem c34_l0_w {E:Env} {fin:Kont (PV×St)} {st:List Fw} {ts:Tmps} {S:St}:run E fin st c34_l0 ts S=run E fin (.again c34_l0::st) c34_l0_b (sel (some [3,6,7,8]) ts) S:=w_loop
theorem c34_l0_a {E:Env} {fin:Kont (PV×St)} {st:List Fw} {ts:Tmps} {S:St}:aft E fin (.again c34_l0::st) .normal ts S=run E fin st c34_l0 (sel (some [3,6,7,8]) ts) S:=a_again_s
theorem c34_ok:cFn Tryd.prog Tryd.f34=some c34.strip:=by kernel_rfl
def c36_b:EC:=(.seq (.reg 0 [qI 4 (.mv (qN 0))] false (some [0,1]))
 (.seq (.reg 1 [qM 7 0,qI 8 (.call (qF 56) [(qt 7)]),qM 5 8] false (some [0,1,5]))
 (.seq (.reg 2 [qM 9 1,qI 10 (.call (qF 56) [(qt 9)]),qM 6 10] false (some [0,1,5,6]))
 (.seq (.seq (.reg 3 [qM 11 5] false (some [0,1,6,11]))
 (.cond (qt 11) (.seq (.seq (.reg 4 [qM 12 6] false (some [12]))
 (.cond (qt 12) (.seq (.reg 5 [qI 4 (.mv (qN 0))] false (some [4]))
 .ret) .skip))
 (.seq (.reg 6 [qI 4 (.mv (qN (-1)))] false (some [4]))
 .ret)) .skip))
 (.seq (.seq (.reg 7 [qM 13 6] false (some [0,1,13]))
 (.cond (qt 13) (.seq (.reg 8 [qI 4 (.mv (qN 1))] false (some [4]))
 .ret) .skip))
 (.seq (.seq (.reg 9 [qM 14 0,qM 15 1,qI 16 (.bin .lss (qt 14) (qt 15))] false (some [0,1,16]))
 (.cond (qt 16) (.seq (.reg 10 [qI 4 (.mv (qN (-1)))] false (some [4]))
 .ret) .skip))
 (.seq (.seq (.reg 11 [qM 17 0,qM 18 1,qI 19 (.bin .gtr (qt 17) (qt 18))] false (some [19]))
 (.cond (qt 19) (.seq (.reg 12 [qI 4 (.mv (qN 1))] false (some [4]))
 .ret) .skip))
 (.seq (.reg 13 [qI 4 (.mv (qN 0))] false (some [4]))
 .ret))))))))
def c36:EFn:=⟨2,20,[.tmp 4],c36_b,none,true⟩
theorem c36_ok:cFn Tryd.prog Tryd.f36=some c36.strip:=by kernel_rfl
def c37_b:EC:=(.seq (.reg 0 [qI 4 (.mv (qN 0))] false (some [0,1]))
 (.seq (.reg 1 [qM 7 0,qI 8 (.call (qF 57) [(qt 7)]),qM 5 8] false (some [0,1,5]))
 (.seq (.reg 2 [qM 9 1,qI 10 (.call (qF 57) [(qt 9)]),qM 6 10] false (some [0,1,5,6]))
 (.seq (.seq (.reg 3 [qM 11 5] false (some [0,1,6,11]))
 (.cond (qt 11) (.seq (.seq (.reg 4 [qM 12 6] false (some [12]))
 (.cond (qt 12) (.seq (.reg 5 [qI 4 (.mv (qN 0))] false (some [4]))
 .ret) .skip))
 (.seq (.reg 6 [qI 4 (.mv (qN (-1)))] false (some [4]))
 .ret)) .skip))
 (.seq (.seq (.reg 7 [qM 13 6] false (some [0,1,13]))
 (.cond (qt 13) (.seq (.reg 8 [qI 4 (.mv (qN 1))] false (some [4]))
 .ret) .skip))
 (.seq (.seq (.reg 9 [qM 14 0,qM 15 1,qI 16 (.bin .lss (qt 14) (qt 15))] false (some [0,1,16]))
 (.cond (qt 16) (.seq (.reg 10 [qI 4 (.mv (qN (-1)))] false (some [4]))
 .ret) .skip))
 (.seq (.seq (.reg 11 [qM 17 0,qM 18 1,qI 19 (.bin .gtr (qt 17) (qt 18))] false (some [19]))
 (.cond (qt 19) (.seq (.reg 12 [qI 4 (.mv (qN 1))] false (some [4]))
 .ret) .skip))
 (.seq (.reg 13 [qI 4 (.mv (qN 0))] false (some [4]))
 .ret))))))))
def c37:EFn:=⟨2,20,[.tmp 4],c37_b,none,true⟩
theorem c37_ok:cFn Tryd.prog Tryd.f37=some c37.strip:=by kernel_rfl
def c44_b:EC:=(.seq (.reg 0 [qI 2 (.mv (.con (.str ⟨#[]⟩)))] false (some [0]))
 (.seq (.seq (.reg 1 [qM 3 0,qI 4 (.bin .lss (qt 3) (qN 10))] false (some [0,4]))
 (.cond (qt 4) (.seq (.reg 2 [qM 5 0,qI 6 (.bin .add (qN 48) (qt 5)),qI 7 (.cvI .u8 (qt 6)),qI 8 (.rows 1 1 [(.int .u8 0)] [(0,(qt 7))]),qI 9 (.b2s (qt 8)),
 qM 2 9] false (some [2]))
 .ret) .skip))
 (.seq (.reg 3 [⟨some 10,.mv (qt 0),none,⟨.no,false⟩⟩,
 ⟨some 11,.bin .quo (qt 10) (qN 10),none,⟨.no,false⟩⟩,
 ⟨some 12,.call (qF 44) [(qt 11)],none,⟨.still,false⟩⟩,qM 13 0,qI 14 (.bin .rem (qt 13) (qN 10)),qI 15 (.bin .add (qN 48) (qt 14)),qI 16 (.cvI .u8 (qt 15)),
 qI 17 (.rows 1 1 [(.int .u8 0)] [(0,(qt 16))]),
 ⟨some 18,.b2s (qt 17),none,Q1⟩,qI 19 (.bin .add (qt 12) (qt 18)),qM 2 19] true (some [2]))
 .ret)))
def c44:EFn:=⟨1,20,[.tmp 2],c44_b,none,true⟩
theorem c44_ok:cFn Tryd.prog Tryd.f44=some c44.strip:=by kernel_rfl
def c56_b:EC:=(.seq (.reg 0 [qI 2 (.mv (.con (.bool false)))] false (some [0]))
 (.seq (.reg 1 [qM 3 0,qM 4 0,qI 5 (.bin .neq (qt 3) (qt 4)),qM 2 5] false (some [2]))
 .ret))
def c56:EFn:=⟨1,6,[.tmp 2],c56_b,none,true⟩
theorem c56_ok:cFn Tryd.prog Tryd.f56=some c56.strip:=by kernel_rfl
def c57_b:EC:=(.seq (.reg 0 [qI 2 (.mv (.con (.bool false)))] false (some [0]))
 (.seq (.reg 1 [qM 3 0,qM 4 0,qI 5 (.bin .neq (qt 3) (qt 4)),qM 2 5] false (some [2]))
 .ret))
def c57:EFn:=⟨1,6,[.tmp 2],c57_b,none,true⟩
theorem c57_ok:cFn Tryd.prog Tryd.f57=some c57.strip:=by kernel_rfl
end Go.PE
