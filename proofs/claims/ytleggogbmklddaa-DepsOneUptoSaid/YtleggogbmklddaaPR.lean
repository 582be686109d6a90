/-
  The stepping set: the rows of this seat's data types. No conditions.
-/
import Derived.Test.YtleggogbmklddaaPA
import Derived.Test.YtleggogbmklddaaTypes
namespace Go.PE
open Go Go.RowKit Go.Proofs
attribute [go_sem] Int.lt_irrefl cast_1 wrap_m1 wrap_0 wrap_1 wrap_2 wrap_3 wrap_4 wrap_5 wrap_6 wrap_7 wrap_8 wrap_9 wrap_10 wrap_11 setRow_succ rTy_mk rExp_mk rTy_len rTy_take rTy_g0 rTy_g1 rTy_g2 rTy_g3 rTy_g4 rTy_set rTy_sl rTy_sll rTy_ok rBind_len rBind_take rBind_g0 rBind_s1_5 rBind_g1 rBind_g2 rBind_g3 rBind_g4 rBind_g5 rBind_set rBind_sl rBind_sll rBind_ok rExp_len rExp_take rExp_g0 rExp_g1 rExp_g2 rExp_g3 rExp_g4 rExp_g5 rExp_g6 rExp_set rExp_sl rExp_sll rExp_ok rSig_len rSig_take rSig_g0 rSig_g1 rSig_g2 rSig_s3_5 rSig_g3 rSig_g4 rSig_g5 rSig_g6 rSig_g7 rSig_set rSig_sl rSig_sll rSig_ok rDef_len rDef_take rDef_s0_8 rDef_g0 rDef_g1 rDef_g2 rDef_s3_5 rDef_g3 rDef_g4 rDef_g5 rDef_g6 rDef_g7 rDef_s8_7 rDef_g8 rDef_g9 rDef_g10 rDef_g11 rDef_g12 rDef_g13 rDef_g14 rDef_set rDef_sl rDef_sll rDef_ok rStr_eq rInt_eq rByte_eq
end Go.PE
