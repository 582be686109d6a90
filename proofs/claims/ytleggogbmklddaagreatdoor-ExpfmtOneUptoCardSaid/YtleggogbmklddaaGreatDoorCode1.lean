/-
  The functions of this seat, as the evaluator's code (printed by a program out of the translation), and that each is what the compiler makes of it. No conditions.
-/
import Derived.Test.YtleggogbmklddaaGreatDoorPQ
import Derived.Test.YtleggogbmklddaaGreatDoorProg
import Derived.KernelRfl
namespace Go.PE
open Go Go.Proofs
set_option linter.unusedVariables false
set_option maxRecDepth 100000
def c109_l0_b:EC:=(.seq (.reg 3 [qI 11 (.bin .lss (qt 10) (qt 9))] false (some [1,5,8,9,10,11]))
 (.seq (.cond (qt 11) .skip (.exit 0))
 (.seq (.block 1 (.seq (.reg 4 [qM 12 10,qI 13 (.ixL 5 (qt 8) (qt 10)),qD 14 5 13,qI 7 (.new 34 qz2),qM 6 12,
 ⟨none,.st 5 (qt 7) (qt 14),none,Q0⟩] false (some [1,5,6,7,8,9,10]))
 (.seq (.seq (.reg 5 [qM 15 6,qI 16 (.bin .gtr (qt 15) (qN 0))] false (some [1,5,6,7,8,9,10,16]))
 (.cond (qt 16) (.reg 6 [qI 17 (.call (qF 104) [(qt 5),(.con (.str ⟨#[44,32]⟩))])] false (some [1,5,6,7,8,9,10])) .skip))
 (.reg 7 [qM 18 1,qM 19 6,qD 20 5 7,qI 21 (.call (qt 18) [(qt 19),(qt 20)]),qI 22 (.call (qF 104) [(qt 5),(qt 21)])] false (some [1,5,8,9,10])))))
 (.reg 8 [qI 23 (.bin .add (qt 10) (qN 1)),qM 10 23] false (some [1,5,8,9,10])))))
def c109_l0:EC:= .loop (some [1,5,8,9,10]) c109_l0_b
def c109_b:EC:=(.seq (.reg 0 [qI 4 (.mv (.con (.str ⟨#[]⟩)))] false (some [0,1]))
 (.seq (.reg 1 [qI 5 (.new 90 [.nilp,(.sl .null [])])] false (some [0,1,5]))
 (.seq (.seq (.reg 2 [qM 8 0,qI 9 (.len false (qt 8)),qI 10 (.mv (qN 0))] false (some [1,5,8,9,10]))
 (.block 0 c109_l0))
 (.seq (.reg 9 [qI 24 (.call (qF 105) [(qt 5)]),qM 4 24] false (some [4]))
 .ret))))
def c109:EFn:=⟨2,25,[.tmp 4],c109_b,none,true⟩
theorem c109_l0_w {E:Env} {fin:Kont (PV×St)} {st:List Fw} {ts:Tmps} {S:St}:run E fin st c109_l0 ts S=run E fin (.again c109_l0::st) c109_l0_b (sel (some [1,5,8,9,10]) ts) S:=w_loop
theorem c109_l0_a {E:Env} {fin:Kont (PV×St)} {st:List Fw} {ts:Tmps} {S:St}:aft E fin (.again c109_l0::st) .normal ts S=run E fin st c109_l0 (sel (some [1,5,8,9,10]) ts) S:=a_again_s
theorem c109_ok:cFn Tryz.prog Tryz.f109=some c109.strip:=by kernel_rfl
def c110_b:EC:=(.seq (.reg 0 [qI 4 (.boxI 34 (qt 1)),qI 5 (.mv (.con (.str ⟨#[]⟩)))] false (some [0,2,4]))
 (.seq (.reg 1 [⟨some 6,.fA 3 (qt 2),none,⟨.no,false⟩⟩,
 ⟨some 7,.ld none (qt 6),none,⟨.still,false⟩⟩,
 ⟨some 8,.mv (qt 0),none,⟨.no,false⟩⟩,
 ⟨some 9,.ixL 1 (qt 7) (qt 8),none,⟨.no,false⟩⟩,
 ⟨some 10,.ld none (qt 9),none,⟨.still,false⟩⟩,
 ⟨some 11,.bin .add (qt 10) (.con (.str ⟨#[58,32]⟩)),none,⟨.no,false⟩⟩,
 ⟨some 12,.ld (some 5) (qt 4),none,Q1⟩,
 ⟨some 13,.call (qF 66) [(qt 12)],none,Q1⟩,qI 14 (.bin .add (qt 11) (qt 13)),qM 5 14] true (some [5]))
 .ret))
def c110:EFn:=⟨3,15,[.tmp 5],c110_b,none,true⟩
theorem c110_ok:cFn Tryz.prog Tryz.f110=some c110.strip:=by kernel_rfl
def c112_r4:List EI:=[qM 11 0,qI 12 (.len true (qt 11)),qI 13 (.bin .lss (qt 12) (qN 1)),qM 14 13,qJ 15 (.mv (qt 0)) 14 false,qJ 16 (.len true (qt 15)) 14 false,
 qJ 17 (.bin .gtr (qt 16) (qN 8)) 14 false,qI 18 (.pick (qt 14) (.con (.bool true)) (qt 17))]
def c112_r14:List EI:=[qM 31 0,qM 32 5,qI 33 (.ixS (qt 31) (qt 32)),qI 34 (.call (qF 128) [(qt 33)]),qI 35 (.un .not (qt 34)),qM 36 35,qJ 37 (.mv (qt 0)) 36 true,
 qJ 38 (.mv (qt 5)) 36 true,qJ 39 (.ixS (qt 37) (qt 38)) 36 true,qJ 40 (.call (qF 126) [(qt 39)]) 36 true,qJ 41 (.un .not (qt 40)) 36 true,qI 42 (.pick (qt 36) (qt 41) (.con (.bool false))),
 qM 43 42,qJ 44 (.mv (qt 0)) 43 true,qJ 45 (.mv (qt 5)) 43 true,qJ 46 (.ixS (qt 44) (qt 45)) 43 true,qJ 47 (.call (qF 127) [(qt 46)]) 43 true,qJ 48 (.un .not (qt 47)) 43 true,
 qJ 49 (.mv (qt 48)) 43 true,qJ 50 (.mv (qt 4)) 49 false,qJ 51 (.bin .eql (qt 50) (qN 1)) 49 false,qJ 52 (.pick (qt 49) (.con (.bool true)) (qt 51)) 43 true,
 qI 53 (.pick (qt 43) (qt 52) (.con (.bool false)))]
def c112_l0_b:EC:=(.seq (.seq (.reg 12 [qM 25 5,qM 26 0,qI 27 (.len true (qt 26)),qI 28 (.bin .lss (qt 25) (qt 27))] false (some [0,4,5,28]))
 (.cond (qt 28) .skip (.exit 0)))
 (.seq (.block 1 (.seq (.reg 14 c112_r14 false (some [0,4,5,53]))
 (.cond (qt 53) (.seq (.reg 15 [qI 2 (.mv (qN 0))] false (some [2]))
 .ret) .skip)))
 (.reg 13 [qM 29 5,qI 30 (.bin .add (qt 29) (qN 1)),qM 5 30] false (some [0,4,5]))))
def c112_l0:EC:= .loop (some [0,4,5]) c112_l0_b
def c112_b:EC:=(.seq (.reg 0 [qI 2 (.mv (qN 0))] false (some [0]))
 (.seq (.seq (.reg 1 [qM 6 0,qI 7 (.call (qF 125) [(qt 6)]),qM 3 7] false (some [0,3]))
 (.seq (.reg 2 [qM 8 3,qI 9 (.bin .neq (qt 8) (qN 0))] false (some [0,3,9]))
 (.cond (qt 9) (.seq (.reg 3 [qM 10 3,qM 2 10] false (some [2]))
 .ret) .skip)))
 (.seq (.seq (.reg 4 c112_r4 false (some [0,18]))
 (.cond (qt 18) (.seq (.reg 5 [qI 2 (.mv (qN 0))] false (some [2]))
 .ret) .skip))
 (.seq (.reg 6 [qI 4 (.mv (qN 0))] false (some [0,4]))
 (.seq (.seq (.reg 7 [qM 19 0,qI 20 (.ixS (qt 19) (qN 0)),qI 21 (.call (qF 126) [(qt 20)])] false (some [0,4,21]))
 (.cond (qt 21) (.reg 8 [qI 4 (.mv (qN 1))] false (some [0,4])) .skip))
 (.seq (.seq (.reg 9 [qM 22 0,qI 23 (.ixS (qt 22) (qN 0)),qI 24 (.call (qF 127) [(qt 23)])] false (some [0,4,24]))
 (.cond (qt 24) (.reg 10 [qI 4 (.mv (qN 2))] false (some [0,4])) .skip))
 (.seq (.seq (.reg 11 [qI 5 (.mv (qN 1))] false (some [0,4,5]))
 (.block 0 c112_l0))
 (.seq (.reg 16 [qM 54 4,qM 2 54] false (some [2]))
 .ret))))))))
def c112:EFn:=⟨1,55,[.tmp 2],c112_b,none,true⟩
theorem c112_l0_step {E:Env} {fin:Kont (PV×St)} {st:List Fr} {ts:Tmps} {S:St} {n:Nat}:(lvl E (n+1)).ev c112_l0 ts S (kont E fin st)=(lvl E (n+1)).ev c112_l0_b (sel (some [0,4,5]) ts) S (kont E fin (.again n c112_l0::st)):=rfl
theorem c112_l0_w {E:Env} {fin:Kont (PV×St)} {st:List Fw} {ts:Tmps} {S:St}:run E fin st c112_l0 ts S=run E fin (.again c112_l0::st) c112_l0_b (sel (some [0,4,5]) ts) S:=w_loop
theorem c112_l0_a {E:Env} {fin:Kont (PV×St)} {st:List Fw} {ts:Tmps} {S:St}:aft E fin (.again c112_l0::st) .normal ts S=run E fin st c112_l0 (sel (some [0,4,5]) ts) S:=a_again_s
theorem c112_ok:cFn Tryz.prog Tryz.f112=some c112.strip:=by kernel_rfl
def c113_l0_b:EC:=(.seq (.seq (.reg 4 [qM 10 5,qA 11 4 2,qL 12 11,qI 13 (.len false (qt 12)),qI 14 (.bin .lss (qt 10) (qt 13))] false (some [1,2,5,14]))
 (.cond (qt 14) .skip (.exit 0)))
 (.seq (.block 1 (.seq (.reg 6 [qA 17 4 2,qL 18 17,qM 19 5,qI 20 (.ixL 5 (qt 18) (qt 19)),qD 21 5 20,qM 22 1,qI 23 (.call (qF 113) [(qt 21),(qt 22)])] false (some [1,2,5,23]))
 (.cond (qt 23) (.seq (.reg 7 [qI 4 (.mv (.con (.bool true)))] false (some [4]))
 .ret) .skip)))
 (.reg 5 [qM 15 5,qI 16 (.bin .add (qt 15) (qN 1)),qM 5 16] false (some [1,2,5]))))
def c113_l0:EC:= .loop (some [1,2,5]) c113_l0_b
def c113_b:EC:=(.seq (.reg 0 [qI 2 (.boxI 34 (qt 0)),qI 4 (.mv (.con (.bool false)))] false (some [1,2]))
 (.seq (.seq (.reg 1 [qA 6 0 2,qL 7 6,qM 8 1,qI 9 (.bin .eql (qt 7) (qt 8))] false (some [1,2,9]))
 (.cond (qt 9) (.seq (.reg 2 [qI 4 (.mv (.con (.bool true)))] false (some [4]))
 .ret) .skip))
 (.seq (.seq (.reg 3 [qI 5 (.mv (qN 0))] false (some [1,2,5]))
 (.block 0 c113_l0))
 (.seq (.reg 8 [qI 4 (.mv (.con (.bool false)))] false (some [4]))
 .ret))))
def c113:EFn:=⟨2,24,[.tmp 4],c113_b,none,true⟩
theorem c113_l0_w {E:Env} {fin:Kont (PV×St)} {st:List Fw} {ts:Tmps} {S:St}:run E fin st c113_l0 ts S=run E fin (.again c113_l0::st) c113_l0_b (sel (some [1,2,5]) ts) S:=w_loop
theorem c113_l0_a {E:Env} {fin:Kont (PV×St)} {st:List Fw} {ts:Tmps} {S:St}:aft E fin (.again c113_l0::st) .normal ts S=run E fin st c113_l0 (sel (some [1,2,5]) ts) S:=a_again_s
theorem c113_ok:cFn Tryz.prog Tryz.f113=some c113.strip:=by kernel_rfl
def c114_l0_b:EC:=(.seq (.reg 2 [qI 9 (.bin .lss (qt 8) (qt 7))] false (some [0,1,7,8,9]))
 (.seq (.cond (qt 9) .skip (.exit 0))
 (.seq (.block 1 (.seq (.reg 3 [qM 10 8,qM 5 10] false (some [0,1,5,7,8]))
 (.seq (.reg 4 [qM 11 1,qM 12 0,qM 13 5,qI 14 (.ixL 5 (qt 12) (qt 13)),qD 15 5 14,qI 16 (.call (qt 11) [(qt 15)])] false (some [0,1,5,7,8,16]))
 (.cond (qt 16) (.seq (.reg 5 [qM 17 5,qM 4 17] false (some [4]))
 .ret) .skip))))
 (.reg 6 [qI 18 (.bin .add (qt 8) (qN 1)),qM 8 18] false (some [0,1,7,8])))))
def c114_l0:EC:= .loop (some [0,1,7,8]) c114_l0_b
def c114_b:EC:=(.seq (.reg 0 [qI 4 (.mv (qN 0))] false (some [0,1]))
 (.seq (.seq (.reg 1 [qM 6 0,qI 7 (.len false (qt 6)),qI 8 (.mv (qN 0))] false (some [0,1,7,8]))
 (.block 0 c114_l0))
 (.seq (.reg 7 [qI 4 (.mv (qN (-1)))] false (some [4]))
 .ret)))
def c114:EFn:=⟨2,19,[.tmp 4],c114_b,none,true⟩
theorem c114_l0_w {E:Env} {fin:Kont (PV×St)} {st:List Fw} {ts:Tmps} {S:St}:run E fin st c114_l0 ts S=run E fin (.again c114_l0::st) c114_l0_b (sel (some [0,1,7,8]) ts) S:=w_loop
theorem c114_l0_a {E:Env} {fin:Kont (PV×St)} {st:List Fw} {ts:Tmps} {S:St}:aft E fin (.again c114_l0::st) .normal ts S=run E fin st c114_l0 (sel (some [0,1,7,8]) ts) S:=a_again_s
theorem c114_ok:cFn Tryz.prog Tryz.f114=some c114.strip:=by kernel_rfl
def c115_b:EC:=(.seq (.reg 0 [qI 1 (.boxI 34 (qt 0)),qI 2 (.mv (.con .nilfn))] false (some [1]))
 (.seq (.reg 1 [qI 3 (.fnv 129 [] [(qt 1)]),qM 2 3] false (some [2]))
 .ret))
def c115:EFn:=⟨1,4,[.tmp 2],c115_b,none,true⟩
theorem c115_ok:cFn Tryz.prog Tryz.f115=some c115.strip:=by kernel_rfl
def c116_l0_b:EC:=(.seq (.reg 2 [qI 9 (.bin .lss (qt 8) (qt 7))] false (some [0,1,7,8,9]))
 (.seq (.cond (qt 9) .skip (.exit 0))
 (.seq (.block 1 (.seq (.reg 3 [qM 10 8,qM 5 10] false (some [0,1,5,7,8]))
 (.seq (.reg 4 [qM 11 1,qM 12 0,qM 13 5,qI 14 (.ixL 7 (qt 12) (qt 13)),qD 15 7 14,qI 16 (.call (qt 11) [(qt 15)])] false (some [0,1,5,7,8,16]))
 (.cond (qt 16) (.seq (.reg 5 [qM 17 5,qM 4 17] false (some [4]))
 .ret) .skip))))
 (.reg 6 [qI 18 (.bin .add (qt 8) (qN 1)),qM 8 18] false (some [0,1,7,8])))))
def c116_l0:EC:= .loop (some [0,1,7,8]) c116_l0_b
def c116_b:EC:=(.seq (.reg 0 [qI 4 (.mv (qN 0))] false (some [0,1]))
 (.seq (.seq (.reg 1 [qM 6 0,qI 7 (.len false (qt 6)),qI 8 (.mv (qN 0))] false (some [0,1,7,8]))
 (.block 0 c116_l0))
 (.seq (.reg 7 [qI 4 (.mv (qN (-1)))] false (some [4]))
 .ret)))
def c116:EFn:=⟨2,19,[.tmp 4],c116_b,none,true⟩
theorem c116_l0_w {E:Env} {fin:Kont (PV×St)} {st:List Fw} {ts:Tmps} {S:St}:run E fin st c116_l0 ts S=run E fin (.again c116_l0::st) c116_l0_b (sel (some [0,1,7,8]) ts) S:=w_loop
theorem c116_l0_a {E:Env} {fin:Kont (PV×St)} {st:List Fw} {ts:Tmps} {S:St}:aft E fin (.again c116_l0::st) .normal ts S=run E fin st c116_l0 (sel (some [0,1,7,8]) ts) S:=a_again_s
theorem c116_ok:cFn Tryz.prog Tryz.f116=some c116.strip:=by kernel_rfl
def c118_b:EC:=(.seq (.reg 0 [qI 3 (.boxI 34 (qt 1)),qI 4 (.mv (.con (.str ⟨#[]⟩)))] false (some [3]))
 (.seq (.reg 1 [qD 5 5 3,qI 6 (.call (qF 28) [(qt 5)]),qM 4 6] false (some [4]))
 .ret))
def c118:EFn:=⟨2,7,[.tmp 4],c118_b,none,true⟩
theorem c118_ok:cFn Tryz.prog Tryz.f118=some c118.strip:=by kernel_rfl
def c120_b:EC:=(.seq (.reg 0 [qI 2 (.mv (.con (.str ⟨#[]⟩)))] false (some [0]))
 (.seq (.seq (.reg 1 [qM 3 0] false (some [3]))
 (.cond (qt 3) (.seq (.reg 2 [qI 2 (.mv (.con (.str ⟨#[116,114,117,101]⟩)))] false (some [2]))
 .ret) .skip))
 (.seq (.reg 3 [qI 2 (.mv (.con (.str ⟨#[102,97,108,115,101]⟩)))] false (some [2]))
 .ret)))
def c120:EFn:=⟨1,4,[.tmp 2],c120_b,none,true⟩
theorem c120_ok:cFn Tryz.prog Tryz.f120=some c120.strip:=by kernel_rfl
def c121_b:EC:=(.seq (.reg 0 [qI 4 (.mv (.con .nilifc))] false (some [0,1]))
 (.seq (.reg 1 [qM 5 0,qI 6 (.call (qF 124) [(qt 5)])] false (some [0,1]))
 (.seq (.reg 2 [qM 7 0,qM 8 0,qI 9 (.nck (qt 8)),qA 10 1 9,qL 11 10,qM 12 1,qI 13 (.rows 1 1 [(.int .u8 0)] [(0,(qt 12))]),qI 14 (.app 5 1 1 (qt 11) (qt 13)),
 qI 15 (.nck (qt 7)),qA 16 1 15,
 ⟨none,.st 1 (qt 16) (qt 14),none,Q0⟩] false (some []))
 (.seq (.reg 3 [qI 4 (.mv (.con .nilifc))] false (some [4]))
 .ret))))
def c121:EFn:=⟨2,17,[.tmp 4],c121_b,none,true⟩
theorem c121_ok:cFn Tryz.prog Tryz.f121=some c121.strip:=by kernel_rfl
def c122_r8:List EI:=[qM 16 4,qI 17 (.bin .eql (qt 16) (qN 0)),qM 18 17,qJ 19 (.mv (qt 5)) 18 true,qJ 20 (.call (qF 133) [(qt 19)]) 18 true,qI 21 (.pick (qt 18) (qt 20) (.con (.bool false))),
 qM 15 21]
def c122_r10:List EI:=[qM 23 4,qI 24 (.bin .eql (qt 23) (qN 0)),qM 25 24,qJ 26 (.mv (qt 5)) 25 true,qJ 27 (.call (qF 134) [(qt 26)]) 25 true,
 qI 28 (.pick (qt 25) (qt 27) (.con (.bool false))),qM 22 28]
def c122_r12:List EI:=[qM 30 4,qI 31 (.bin .gtr (qt 30) (qN 0)),qM 32 31,qJ 33 (.mv (qt 3)) 32 true,qJ 34 (.bin .neq (qt 33) (qN 0)) 32 true,
 qI 35 (.pick (qt 32) (qt 34) (.con (.bool false))),qM 36 35,qJ 37 (.mv (qt 5)) 36 true,qJ 38 (.call (qF 133) [(qt 37)]) 36 true,qJ 39 (.mv (qt 38)) 36 true,
 qJ 40 (.mv (qt 5)) 39 false,qJ 41 (.call (qF 135) [(qt 40)]) 39 false,qJ 42 (.pick (qt 39) (.con (.bool true)) (qt 41)) 36 true,qI 43 (.pick (qt 36) (qt 42) (.con (.bool false))),
 qM 29 43]
def c122_r13:List EI:=[qM 45 4,qI 46 (.bin .gtr (qt 45) (qN 0)),qM 47 46,qJ 48 (.mv (qt 3)) 47 true,qJ 49 (.bin .eql (qt 48) (qN 2)) 47 true,
 qI 50 (.pick (qt 47) (qt 49) (.con (.bool false))),qM 51 50,qJ 52 (.mv (qt 5)) 51 true,qJ 53 (.call (qF 134) [(qt 52)]) 51 true,qI 54 (.pick (qt 51) (qt 53) (.con (.bool false))),
 qM 44 54]
def c122_l0_b:EC:=(.seq (.reg 5 [qI 11 (.nxt (qt 10)),qI 12 (.ext (qt 11) 0)] false (some [3,10,11,12]))
 (.seq (.cond (qt 12) .skip (.exit 0))
 (.block 1 (.seq (.reg 6 [qI 13 (.ext (qt 11) 1),qI 14 (.ext (qt 11) 2),qM 4 13,qM 5 14] false (some [3,4,5,10]))
 (.block 2 (.seq (.reg 8 c122_r8 false (some [3,4,5,10,15]))
 (.cond (qt 15) (.reg 9 [qI 3 (.mv (qN 1))] false (some [3,10])) (.seq (.reg 10 c122_r10 false (some [3,4,5,10,22]))
 (.cond (qt 22) (.reg 11 [qI 3 (.mv (qN 2))] false (some [3,10])) (.seq (.reg 12 c122_r12 false (some [3,4,5,10,29]))
 (.cond (qt 29) .skip (.seq (.reg 13 c122_r13 false (some [3,10,44]))
 (.cond (qt 44) .skip (.seq (.reg 7 [qI 2 (.mv (qN 0))] false (some [2]))
 .ret))))))))))))))
def c122_l0:EC:= .loop (some [3,10]) c122_l0_b
def c122_b:EC:=(.seq (.reg 0 [qI 2 (.mv (qN 0))] false (some [0]))
 (.seq (.seq (.reg 1 [qM 6 0,qI 7 (.len true (qt 6)),qI 8 (.bin .gtr (qt 7) (qN 8))] false (some [0,8]))
 (.cond (qt 8) (.seq (.reg 2 [qI 2 (.mv (qN 0))] false (some [2]))
 .ret) .skip))
 (.seq (.reg 3 [qI 3 (.mv (qN 0))] false (some [0,3]))
 (.seq (.seq (.reg 4 [qM 9 0,qI 10 (.rng (qt 9))] false (some [3,10]))
 (.block 0 c122_l0))
 (.seq (.reg 14 [qM 55 3,qM 2 55] false (some [2]))
 .ret)))))
def c122:EFn:=⟨1,56,[.tmp 2],c122_b,none,true⟩
theorem c122_l0_w {E:Env} {fin:Kont (PV×St)} {st:List Fw} {ts:Tmps} {S:St}:run E fin st c122_l0 ts S=run E fin (.again c122_l0::st) c122_l0_b (sel (some [3,10]) ts) S:=w_loop
theorem c122_l0_a {E:Env} {fin:Kont (PV×St)} {st:List Fw} {ts:Tmps} {S:St}:aft E fin (.again c122_l0::st) .normal ts S=run E fin st c122_l0 (sel (some [3,10]) ts) S:=a_again_s
theorem c122_ok:cFn Tryz.prog Tryz.f122=some c122.strip:=by kernel_rfl
def c123_b:EC:=(.seq (.reg 0 [qI 1 (.boxI 26 (qt 0)),qI 2 (.mv (.con .nilfn))] false (some [1]))
 (.seq (.reg 1 [qI 3 (.fnv 136 [] [(qt 1)]),qM 2 3] false (some [2]))
 .ret))
def c123:EFn:=⟨1,4,[.tmp 2],c123_b,none,true⟩
theorem c123_ok:cFn Tryz.prog Tryz.f123=some c123.strip:=by kernel_rfl
def c125_l0_b:EC:=(.seq (.seq (.reg 3 [qM 8 4,qM 9 3,qI 10 (.len false (qt 9)),qI 11 (.bin .lss (qt 8) (qt 10))] false (some [0,3,4,11]))
 (.cond (qt 11) .skip (.exit 0)))
 (.seq (.block 1 (.seq (.reg 5 [qM 14 3,qM 15 4,qI 16 (.ixL 1 (qt 14) (qt 15)),qL 17 16,qM 18 0,qI 19 (.bin .eql (qt 17) (qt 18))] false (some [0,3,4,19]))
 (.cond (qt 19) (.seq (.reg 6 [qI 2 (.mv (qN 3))] false (some [2]))
 .ret) .skip)))
 (.reg 4 [qM 12 4,qI 13 (.bin .add (qt 12) (qN 1)),qM 4 13] false (some [0,3,4]))))
def c125_l0:EC:= .loop (some [0,3,4]) c125_l0_b
def c125_l1_b:EC:=(.seq (.seq (.reg 9 [qM 21 6,qM 22 5,qI 23 (.len false (qt 22)),qI 24 (.bin .lss (qt 21) (qt 23))] false (some [0,5,6,24]))
 (.cond (qt 24) .skip (.exit 2)))
 (.seq (.block 3 (.seq (.reg 11 [qM 27 5,qM 28 6,qI 29 (.ixL 1 (qt 27) (qt 28)),qL 30 29,qM 31 0,qI 32 (.bin .eql (qt 30) (qt 31))] false (some [0,5,6,32]))
 (.cond (qt 32) (.seq (.reg 12 [qI 2 (.mv (qN 4))] false (some [2]))
 .ret) .skip)))
 (.reg 10 [qM 25 6,qI 26 (.bin .add (qt 25) (qN 1)),qM 6 26] false (some [0,5,6]))))
def c125_l1:EC:= .loop (some [0,5,6]) c125_l1_b
def c125_b:EC:=(.seq (.reg 0 [qI 2 (.mv (qN 0))] false (some [0]))
 (.seq (.reg 1 [qI 7 (.rows 10 1 [(.str ⟨#[]⟩)] [(0,(.con (.str ⟨#[108,101,116]⟩))),(1,(.con (.str ⟨#[105,110]⟩))),(2,(.con (.str ⟨#[105,102]⟩))),(3,(.con (.str ⟨#[116,104,101,110]⟩))),(4,(.con (.str ⟨#[101,108,115,101]⟩))),(5,(.con (.str ⟨#[102,110]⟩))),(6,(.con (.str ⟨#[99,97,108,108]⟩))),(7,(.con (.str ⟨#[100,101,102]⟩))),(8,(.con (.str ⟨#[116,114,117,101]⟩))),(9,(.con (.str ⟨#[102,97,108,115,101]⟩)))]),
 qM 3 7] false (some [0,3]))
 (.seq (.seq (.reg 2 [qI 4 (.mv (qN 0))] false (some [0,3,4]))
 (.block 0 c125_l0))
 (.seq (.reg 7 [qI 20 (.rows 4 1 [(.str ⟨#[]⟩)] [(0,(.con (.str ⟨#[73,110,116]⟩))),(1,(.con (.str ⟨#[66,111,111,108]⟩))),(2,(.con (.str ⟨#[83,116,114,105,110,103]⟩))),(3,(.con (.str ⟨#[84,111,112]⟩)))]),
 qM 5 20] false (some [0,5]))
 (.seq (.seq (.reg 8 [qI 6 (.mv (qN 0))] false (some [0,5,6]))
 (.block 2 c125_l1))
 (.seq (.reg 13 [qI 2 (.mv (qN 0))] false (some [2]))
 .ret))))))
def c125:EFn:=⟨1,33,[.tmp 2],c125_b,none,true⟩
theorem c125_l0_step {E:Env} {fin:Kont (PV×St)} {st:List Fr} {ts:Tmps} {S:St} {n:Nat}:(lvl E (n+1)).ev c125_l0 ts S (kont E fin st)=(lvl E (n+1)).ev c125_l0_b (sel (some [0,3,4]) ts) S (kont E fin (.again n c125_l0::st)):=rfl
theorem c125_l0_w {E:Env} {fin:Kont (PV×St)} {st:List Fw} {ts:Tmps} {S:St}:run E fin st c125_l0 ts S=run E fin (.again c125_l0::st) c125_l0_b (sel (some [0,3,4]) ts) S:=w_loop
theorem c125_l0_a {E:Env} {fin:Kont (PV×St)} {st:List Fw} {ts:Tmps} {S:St}:aft E fin (.again c125_l0::st) .normal ts S=run E fin st c125_l0 (sel (some [0,3,4]) ts) S:=a_again_s
theorem c125_l1_step {E:Env} {fin:Kont (PV×St)} {st:List Fr} {ts:Tmps} {S:St} {n:Nat}:(lvl E (n+1)).ev c125_l1 ts S (kont E fin st)=(lvl E (n+1)).ev c125_l1_b (sel (some [0,5,6]) ts) S (kont E fin (.again n c125_l1::st)):=rfl
theorem c125_l1_w {E:Env} {fin:Kont (PV×St)} {st:List Fw} {ts:Tmps} {S:St}:run E fin st c125_l1 ts S=run E fin (.again c125_l1::st) c125_l1_b (sel (some [0,5,6]) ts) S:=w_loop
theorem c125_l1_a {E:Env} {fin:Kont (PV×St)} {st:List Fw} {ts:Tmps} {S:St}:aft E fin (.again c125_l1::st) .normal ts S=run E fin st c125_l1 (sel (some [0,5,6]) ts) S:=a_again_s
theorem c125_ok:cFn Tryz.prog Tryz.f125=some c125.strip:=by kernel_rfl
def c126_r1:List EI:=[qM 3 0,qI 4 (.bin .geq (qt 3) (.con (.int .u8 97))),qM 5 4,qJ 6 (.mv (qt 0)) 5 true,qJ 7 (.bin .leq (qt 6) (.con (.int .u8 122))) 5 true,
 qI 8 (.pick (qt 5) (qt 7) (.con (.bool false))),qM 2 8]
def c126_b:EC:=(.seq (.reg 0 [qI 2 (.mv (.con (.bool false)))] false (some [0]))
 (.seq (.reg 1 c126_r1 false (some [2]))
 .ret))
def c126:EFn:=⟨1,9,[.tmp 2],c126_b,none,true⟩
theorem c126_ok:cFn Tryz.prog Tryz.f126=some c126.strip:=by kernel_rfl
def c127_r1:List EI:=[qM 3 0,qI 4 (.bin .geq (qt 3) (.con (.int .u8 65))),qM 5 4,qJ 6 (.mv (qt 0)) 5 true,qJ 7 (.bin .leq (qt 6) (.con (.int .u8 90))) 5 true,
 qI 8 (.pick (qt 5) (qt 7) (.con (.bool false))),qM 2 8]
def c127_b:EC:=(.seq (.reg 0 [qI 2 (.mv (.con (.bool false)))] false (some [0]))
 (.seq (.reg 1 c127_r1 false (some [2]))
 .ret))
def c127:EFn:=⟨1,9,[.tmp 2],c127_b,none,true⟩
theorem c127_ok:cFn Tryz.prog Tryz.f127=some c127.strip:=by kernel_rfl
def c128_r1:List EI:=[qM 3 0,qI 4 (.bin .geq (qt 3) (.con (.int .u8 48))),qM 5 4,qJ 6 (.mv (qt 0)) 5 true,qJ 7 (.bin .leq (qt 6) (.con (.int .u8 57))) 5 true,
 qI 8 (.pick (qt 5) (qt 7) (.con (.bool false))),qM 2 8]
def c128_b:EC:=(.seq (.reg 0 [qI 2 (.mv (.con (.bool false)))] false (some [0]))
 (.seq (.reg 1 c128_r1 false (some [2]))
 .ret))
def c128:EFn:=⟨1,9,[.tmp 2],c128_b,none,true⟩
theorem c128_ok:cFn Tryz.prog Tryz.f128=some c128.strip:=by kernel_rfl
def c129_b:EC:=(.reg 0 [qD 3 5 1,qM 4 0,qI 5 (.call (qF 130) [(qt 3),(qt 4)])] false (some []))
def c129:EFn:=⟨2,6,[],c129_b,none,false⟩
theorem c129_ok:cFn Tryz.prog Tryz.f129=some c129.strip:=by kernel_rfl
def c130_l0_b:EC:=(.seq (.reg 4 [qI 15 (.bin .lss (qt 14) (qt 13))] false (some [1,12,13,14,15]))
 (.seq (.cond (qt 15) .skip (.exit 0))
 (.seq (.block 1 (.seq (.reg 5 [qI 16 (.ixL 5 (qt 12) (qt 14)),qD 17 5 16,qI 6 (.new 34 qz2),
 ⟨none,.st 5 (qt 6) (qt 17),none,Q0⟩] false (some [1,6,12,13,14]))
 (.seq (.reg 6 [qD 18 5 6,qM 19 1,qI 20 (.call (qF 130) [(qt 18),(qt 19)]),qI 21 (.un .not (qt 20))] false (some [1,12,13,14,21]))
 (.cond (qt 21) (.seq (.reg 7 [qI 4 (.mv (.con (.bool false)))] false (some [4]))
 .ret) .skip))))
 (.reg 8 [qI 22 (.bin .add (qt 14) (qN 1)),qM 14 22] false (some [1,12,13,14])))))
def c130_l0:EC:= .loop (some [1,12,13,14]) c130_l0_b
def c130_b:EC:=(.seq (.reg 0 [qI 2 (.boxI 34 (qt 0)),qI 4 (.mv (.con (.bool false)))] false (some [1,2]))
 (.seq (.seq (.reg 1 [qM 7 1,qD 8 5 2,qI 9 (.call (qt 7) [(qt 8)]),qI 10 (.un .not (qt 9))] false (some [1,2,10]))
 (.cond (qt 10) (.seq (.reg 2 [qI 4 (.mv (.con (.bool false)))] false (some [4]))
 .ret) .skip))
 (.seq (.seq (.reg 3 [qA 11 4 2,qL 12 11,qI 13 (.len false (qt 12)),qI 14 (.mv (qN 0))] false (some [1,12,13,14]))
 (.block 0 c130_l0))
 (.seq (.reg 9 [qI 4 (.mv (.con (.bool true)))] false (some [4]))
 .ret))))
def c130:EFn:=⟨2,23,[.tmp 4],c130_b,none,true⟩
theorem c130_l0_w {E:Env} {fin:Kont (PV×St)} {st:List Fw} {ts:Tmps} {S:St}:run E fin st c130_l0 ts S=run E fin (.again c130_l0::st) c130_l0_b (sel (some [1,12,13,14]) ts) S:=w_loop
theorem c130_l0_a {E:Env} {fin:Kont (PV×St)} {st:List Fw} {ts:Tmps} {S:St}:aft E fin (.again c130_l0::st) .normal ts S=run E fin st c130_l0 (sel (some [1,12,13,14]) ts) S:=a_again_s
theorem c130_ok:cFn Tryz.prog Tryz.f130=some c130.strip:=by kernel_rfl
def c133_r1:List EI:=[qM 3 0,qI 4 (.bin .geq (qt 3) (.con (.int .i32 97))),qM 5 4,qJ 6 (.mv (qt 0)) 5 true,qJ 7 (.bin .leq (qt 6) (.con (.int .i32 122))) 5 true,
 qI 8 (.pick (qt 5) (qt 7) (.con (.bool false))),qM 2 8]
def c133_b:EC:=(.seq (.reg 0 [qI 2 (.mv (.con (.bool false)))] false (some [0]))
 (.seq (.reg 1 c133_r1 false (some [2]))
 .ret))
def c133:EFn:=⟨1,9,[.tmp 2],c133_b,none,true⟩
theorem c133_ok:cFn Tryz.prog Tryz.f133=some c133.strip:=by kernel_rfl
def c134_r1:List EI:=[qM 3 0,qI 4 (.bin .geq (qt 3) (.con (.int .i32 65))),qM 5 4,qJ 6 (.mv (qt 0)) 5 true,qJ 7 (.bin .leq (qt 6) (.con (.int .i32 90))) 5 true,
 qI 8 (.pick (qt 5) (qt 7) (.con (.bool false))),qM 2 8]
def c134_b:EC:=(.seq (.reg 0 [qI 2 (.mv (.con (.bool false)))] false (some [0]))
 (.seq (.reg 1 c134_r1 false (some [2]))
 .ret))
def c134:EFn:=⟨1,9,[.tmp 2],c134_b,none,true⟩
theorem c134_ok:cFn Tryz.prog Tryz.f134=some c134.strip:=by kernel_rfl
def c135_r1:List EI:=[qM 3 0,qI 4 (.bin .geq (qt 3) (.con (.int .i32 48))),qM 5 4,qJ 6 (.mv (qt 0)) 5 true,qJ 7 (.bin .leq (qt 6) (.con (.int .i32 57))) 5 true,
 qI 8 (.pick (qt 5) (qt 7) (.con (.bool false))),qM 2 8]
def c135_b:EC:=(.seq (.reg 0 [qI 2 (.mv (.con (.bool false)))] false (some [0]))
 (.seq (.reg 1 c135_r1 false (some [2]))
 .ret))
def c135:EFn:=⟨1,9,[.tmp 2],c135_b,none,true⟩
theorem c135_ok:cFn Tryz.prog Tryz.f135=some c135.strip:=by kernel_rfl
def c136_b:EC:=(.reg 0 [qD 3 7 1,qM 4 0,qI 5 (.call (qF 137) [(qt 3),(qt 4)])] false (some []))
def c136:EFn:=⟨2,6,[],c136_b,none,false⟩
theorem c136_ok:cFn Tryz.prog Tryz.f136=some c136.strip:=by kernel_rfl
def c137_l0_b:EC:=(.seq (.reg 4 [qI 15 (.bin .lss (qt 14) (qt 13))] false (some [1,12,13,14,15]))
 (.seq (.cond (qt 15) .skip (.exit 0))
 (.seq (.block 1 (.seq (.reg 5 [qI 16 (.ixL 7 (qt 12) (qt 14)),qD 17 7 16,qI 6 (.new 26 qz0),
 ⟨none,.st 7 (qt 6) (qt 17),none,Q0⟩] false (some [1,6,12,13,14]))
 (.seq (.reg 6 [qD 18 7 6,qM 19 1,qI 20 (.call (qF 137) [(qt 18),(qt 19)]),qI 21 (.un .not (qt 20))] false (some [1,12,13,14,21]))
 (.cond (qt 21) (.seq (.reg 7 [qI 4 (.mv (.con (.bool false)))] false (some [4]))
 .ret) .skip))))
 (.reg 8 [qI 22 (.bin .add (qt 14) (qN 1)),qM 14 22] false (some [1,12,13,14])))))
def c137_l0:EC:= .loop (some [1,12,13,14]) c137_l0_b
def c137_b:EC:=(.seq (.reg 0 [qI 2 (.boxI 26 (qt 0)),qI 4 (.mv (.con (.bool false)))] false (some [1,2]))
 (.seq (.seq (.reg 1 [qM 7 1,qD 8 7 2,qI 9 (.call (qt 7) [(qt 8)]),qI 10 (.un .not (qt 9))] false (some [1,2,10]))
 (.cond (qt 10) (.seq (.reg 2 [qI 4 (.mv (.con (.bool false)))] false (some [4]))
 .ret) .skip))
 (.seq (.seq (.reg 3 [qA 11 6 2,qL 12 11,qI 13 (.len false (qt 12)),qI 14 (.mv (qN 0))] false (some [1,12,13,14]))
 (.block 0 c137_l0))
 (.seq (.reg 9 [qI 4 (.mv (.con (.bool true)))] false (some [4]))
 .ret))))
def c137:EFn:=⟨2,23,[.tmp 4],c137_b,none,true⟩
theorem c137_l0_w {E:Env} {fin:Kont (PV×St)} {st:List Fw} {ts:Tmps} {S:St}:run E fin st c137_l0 ts S=run E fin (.again c137_l0::st) c137_l0_b (sel (some [1,12,13,14]) ts) S:=w_loop
theorem c137_l0_a {E:Env} {fin:Kont (PV×St)} {st:List Fw} {ts:Tmps} {S:St}:aft E fin (.again c137_l0::st) .normal ts S=run E fin st c137_l0 (sel (some [1,12,13,14]) ts) S:=a_again_s
theorem c137_ok:cFn Tryz.prog Tryz.f137=some c137.strip:=by kernel_rfl
end Go.PE
