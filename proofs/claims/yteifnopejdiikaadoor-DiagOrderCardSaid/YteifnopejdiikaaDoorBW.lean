/-
  The stepping set: what a walk through evaluated code rewrites with. No conditions.
-/
import Derived.Attr
import Derived.Test.YteifnopejdiikaaDoorPG
import Derived.Test.YteifnopejdiikaaDoorTypes
namespace Go.PE
open Go Go.RowKit Go.Proofs
attribute[go_sem_proc] reduceIte Nat.reduceEqDiff Nat.reduceAdd Nat.reduceSub Nat.reduceMul Nat.reduceLeDiff Nat.reduceLT Int.reduceNeg Int.reduceEq Int.reduceLT Int.reduceLE Int.reduceNe Int.reduceToNat Int.reduceAdd Int.reduceMul Int.reduceSub Int.reduceBEq
attribute[go_sem] EOpd.isCon frameOf evOps_nil evOps_cons evOps_consg stepO_some stepO_q guardO_yes guardO_tf guardO_ft guardO_un stepR_some stepC_true stepC_false kont_seq_n kont_seq_e kont_seq_r kont_block_n kont_block_e kont_block_r kont_loop_n kont_loop_e kont_loop_r kont_nil_n kont_nil_r lev_skip lev_reg lev_seq lev_cond lev_block lev_exit lev_ret endF_n endF_r stepE_some evOp EOpd.val wantedE PE.put PE.look derefP St.cells rowOf binP idxP boundP optVal vals PV.okc PV.cells sel resVs resV oneOrTup close_same sealW Option.bind_some Option.map_some Option.bind_none Option.map_none List.map_cons List.map_nil Bool.false_and Bool.not_false Bool.not_true Bool.true_and Bool.false_eq_true if_false if_true List.drop_succ_cons List.drop_zero List.getElem?_cons_zero List.getElem?_cons_succ List.length_cons List.length_nil ite_self ne_eq not_true_eq_false not_false_eq_true and_true true_and decide_eq_true_eq Bool.or_eq_true St.beq_refl Nat.le_refl List.take_succ_cons List.take_zero List.append_nil List.nil_append List.cons_append eq_self List.length_map List.getElem?_map Int.natCast_nonneg Int.toNat_natCast Nat.zero_le Nat.zero_add Nat.add_zero List.getElem?_drop List.length_drop List.drop_drop Int.zero_add decide_true decide_false beq_self_eq_true fillP setRow List.set_cons_zero List.set_cons_succ Bool.or_false Bool.false_or Bool.or_true Bool.true_or Bool.and_true Bool.and_false Bool.not_not List.length_set gt_iff_lt ge_iff_le Option.some.injEq Prod.mk.injEq app_get app_get0 app_set app_set0 List.length_append List.append_assoc sealL sealLL rStr_sll rInt_sll rByte_sll rStr_ok rInt_ok rByte_ok close_junk1 askD Int.cast_ofNat_Int Int.natCast_pos Nat.zero_lt_succ Nat.lt_irrefl Nat.lt_add_one or_self or_false false_or and_false false_and or_true true_or and_self headOk_nil headOk_cons repRow chunk Nat.mul_one Nat.one_mul List.isEmpty_cons List.isEmpty_nil List.map_append strEq_refl eqCells eqAtom bne_self_eq_false Bool.bne_false Bool.false_bne Bool.bne_true rw_some cw_true cw_false stepO_l stepO_o stepO_os w_regP pw_some a_nil_p a_seq_p a_again_p a_block_p a_seq_n a_seq_e a_seq_r a_block_n a_block_e a_block_r a_again_e a_again_r a_nil_n a_nil_r w_skip w_reg w_seq w_cond w_block w_exit w_ret close_none none_obs none_own
end Go.PE
namespace Go.PE
open Go Go.RowKit Go.Proofs
set_option linter.unusedVariables false
set_option linter.unusedSimpArgs false
set_option maxRecDepth 100000
section
variable {ot:TypeId} {oz:EP}
end
end Go.PE
namespace Go.PE
open Go Go.RowKit Go.Proofs
attribute[go_sem] Int.lt_irrefl cast_1 wrap_m1 wrap_0 wrap_1 wrap_2 wrap_3 wrap_4 wrap_5 wrap_6 wrap_7 wrap_8 wrap_9 wrap_10 wrap_11 setRow_succ rLabel_eq rLabel_sll rLabel_ok rDiag_len rDiag_take rDiag_s0_2 rDiag_g0 rDiag_g1 rDiag_g2 rDiag_set rDiag_sl rDiag_sll rDiag_ok rStr_eq rInt_eq rByte_eq
end Go.PE
namespace Go.PE
open Go Go.RowKit Go.Proofs
set_option linter.unusedVariables false
set_option linter.unusedSimpArgs false
set_option maxRecDepth 100000
section
variable {ot:TypeId} {oz:EP}
end
end Go.PE
