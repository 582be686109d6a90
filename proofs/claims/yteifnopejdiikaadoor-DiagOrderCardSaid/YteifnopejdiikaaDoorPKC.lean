/-
  strings.Compare, as a function that is known. Conditions: each law's own.
-/
import Derived.Test.YteifnopejdiikaaDoorPE18
import Derived.Test.YteifnopejdiikaaDoorShelf
namespace Go.PE
open Go Go.RowKit Go.Proofs
set_option linter.unusedVariables false
set_option linter.unusedSimpArgs false
def scF:List PV→St→Option (PV×St)
 |[.str a,.str b],S=>some (.int .i64 (Lib.compareBytes a.data.toList b.data.toList),S)
 |_,_=>none
theorem enter_sc:Enter Tryd.prog 35:=⟨_,Tryd.func35,by kernel_rfl,by kernel_rfl⟩
theorem scF_spec (G:Glob) (args:List PV) (S:St) (r:PV) (S':St) (h:scF args S=some (r,S')):CallSpec Tryd.prog G 35 args S r S':=by
 intro C w vs hW hR
 unfold scF at h
 split at h
 ·rename_i a b
  injection h with h;injection h with e1 e2;subst e1 e2
  match vs,hR with
  |[],hR=>have:=hR.1;simp at this
  |[_],hR=>have:=hR.1;simp at this
  |_::_::_::_,hR=>have:=hR.1;simp at this
  |[v,u],hR=>
  have rp:=hR.2 0 _ v rfl rfl
  have rq:=hR.2 1 _ u rfl rfl
  cases rp;cases rq
  refine (Tryd.strings_Compare a b w).mono ?_
  rintro e w' ⟨rfl,rfl⟩
  exact ⟨C,_,rfl,.int _ _,hW,.refl C _⟩
 ·cases h
end Go.PE
