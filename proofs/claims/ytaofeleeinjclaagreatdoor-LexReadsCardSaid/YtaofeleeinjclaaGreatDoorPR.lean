/-
  The stepping set: the rows of this seat's data types. No conditions.
-/
import Derived.Test.YtaofeleeinjclaaGreatDoorPB
import Derived.Test.YtaofeleeinjclaaGreatDoorTypes
namespace Go.PE
open Go Go.RowKit Go.Proofs
attribute [go_sem] cast_1 wrap_m1 wrap_0 wrap_1 wrap_2 wrap_3 wrap_4 wrap_5 wrap_6 wrap_7 wrap_8 wrap_9 wrap_10 wrap_11 setRow_succ rToken_eq rToken_sll rToken_ok rStr_eq rInt_eq rByte_eq
end Go.PE
