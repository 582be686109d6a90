/-
  The stepping set: the rows of this seat's data types. No conditions.
-/
import Derived.Test.YtedgebnmllinlaaDoorPB
import Derived.Test.YtedgebnmllinlaaDoorTypes
namespace Go.PE
open Go Go.RowKit Go.Proofs
attribute [go_sem] rTy_mk rBind_eq rLabel_eq rVal_mk rObs_eq rOut_eq rTy_len rTy_take rTy_g0 rTy_g1 rTy_g2 rTy_g3 rTy_g4 rTy_set rTy_sl rTy_sll rTy_ok rBind_sll rBind_ok rLabel_sll rLabel_ok rVal_len rVal_take rVal_g0 rVal_g1 rVal_g2 rVal_g3 rVal_g4 rVal_g5 rVal_g6 rVal_s5 rVal_g7 rVal_g8 rVal_g9 rVal_set rVal_sl rVal_sll rVal_ok rObs_sll rObs_ok rOut_sll rOut_ok rStr_eq rInt_eq rByte_eq
end Go.PE
