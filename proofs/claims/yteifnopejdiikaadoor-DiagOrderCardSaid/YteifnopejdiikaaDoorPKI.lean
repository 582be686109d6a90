/-
  strconv.Itoa, as a function that is known. Conditions: each law's own.
-/
import Derived.Test.YteifnopejdiikaaDoorPE18
import Derived.Test.YteifnopejdiikaaDoorShelf
import Derived.Lib.LaidTab
import Derived.Lib.QuietBelow
namespace Go.PE
open Go Go.RowKit Go.Proofs Go.Sort
set_option linter.unusedVariables false
def powCells:Array Value:=(Lib.pow10Tab.map fun z=>Value.int .u64 z).toArray
theorem gPow : Tryd.prog.globalNamed "internal/strconv.uint64pow10" = some 2 := by kernel_rfl
def PowIs (G:Glob):Prop:= ∃ t z,G.blk 2=some (.cells powCells t z)
theorem digF_dec: ∀ (f n:Nat),n<10 ^ f→0<f→digF f n=Lib.decDigits n
 |f+1,n,h,_=>by
  rw[Lib.decDigits,digF]
  by_cases hn:n<10
  ·rw[if_pos hn,dif_pos hn]
  ·rw[if_neg hn,dif_neg hn]
   rw[digF_dec f (n / 10) (by rw[Nat.pow_succ] at h;omega) (by
    cases f with
    |zero=>simp at h;omega
    |succ f=>omega)]
theorem numS_itoa {n:Int} (h0: -9223372036854775808≤n) (h1:n≤9223372036854775807):numS n=⟨(Lib.itoa n).toArray⟩:=by
 unfold numS numL Lib.itoa
 rw[digF_dec 20 n.natAbs (by omega) (by omega),digF_dec 20 n.toNat (by omega) (by omega)]
def itF:List PV→St→Option (PV×St)
 |[.int .i64 n],S=>if -9223372036854775808≤n∧n≤9223372036854775807 then some (.str (numS n),S) else none
 |_,_=>none
theorem enter_it:Enter Tryd.prog 29:=⟨_,Tryd.func29,by kernel_rfl,by kernel_rfl⟩
theorem itF_spec (G:Glob) (hG:PowIs G) (args:List PV) (S:St) (r:PV) (S':St) (h:itF args S=some (r,S')):CallSpec Tryd.prog G 29 args S r S':=by
 intro C w vs hW hR
 unfold itF at h
 split at h
 ·rename_i n
  split at h
  ·rename_i hn
   injection h with h;injection h with e1 e2;subst e1 e2
   match vs,hR with
   |[],hR=>have:=hR.1;simp at this
   |_::_::_,hR=>have:=hR.1;simp at this
   |[v],hR=>
   have rp:=hR.2 0 _ v rfl rfl
   cases rp
   obtain ⟨t,z,hb⟩:=hG
   obtain ⟨h1,_,_⟩:=hW.blk _ _ hb
   have htab : Lib.TabIs Tryd.prog w "internal/strconv.uint64pow10" .u64 Lib.pow10Tab := by
    unfold Lib.TabIs World.var?
    rw[gPow]
    simp only[Option.bind_some,h1]
    rfl
   refine (Tryd.strconv_Itoa n hn.1 hn.2 w htab).mono ?_
   rintro e w' ⟨rfl,k,os,rfl⟩
   have hb:Below w.heap.size w (grow (w.drewN k) os):=⟨rfl,rfl,rfl,by simp[grow,World.drewN],fun k hk=>by simp[grow,World.drewN,Array.getElem?_append,hk]⟩
   exact ⟨C,_,rfl,by rw[←numS_itoa hn.1 hn.2];exact .str _,hW.of_below hb,.of_below hb C⟩
  ·cases h
 ·cases h
end Go.PE
