/-
  DERIVED: THE SHELF's CONTRACTS AT THIS DUMP, IN PLAIN WORDS (tools/lay-plain.mjs out of 'TryzShelf.lean', which tools/lay-shelf.mjs wrote): THE SAME DECLARATIONS UNDER THE SAME NAMES: 'import', 'namespace', 'open', 'def', 'theorem' AND NOTHING ELSE: no command of the shelf's: FOR A HAND-IN. Each laying: the table of numbers ('.._ren') and one theorem, a field a fact of the dump's own or the kernel's comparison; each contract: ONE APPLICATION.
-/
import Derived.Lib.LaidTab
import Derived.Lib.QuietBelow
import Derived.Shelf.LaysM
import Derived.Shelf.Small.Wraps
import Derived.Shelf.Strconv.Itoa0
import Derived.Shelf.Strconv.Itoa1
import Derived.Shelf.Strconv.Itoa2
import Derived.Shelf.Strconv.Itoa3
import Derived.Shelf.Strings.Builder1
import Derived.Shelf.Strings.Builder2
import Derived.Shelf.Strings.BuilderF
import Derived.Shelf.Strings.OnBuilder
import Derived.Test.YtleggogbmklddaaGreatDoorPE18
import Derived.Test.YtleggogbmklddaaGreatDoorPE20
import Derived.Test.YtleggogbmklddaaGreatDoorProg
namespace Go.Proofs
open Go.Shelf
def Tryz.lays156_ren:Go.Shelf.Ren:=⟨fun|156=>90|165=>117|166=>104|169=>105|240=>124|241=>131|276=>138|277=>139|n=>n,fun|31=>23|9=>9|3=>3|4=>4|0=>0|20=>20|72=>90|76=>93|70=>88|37=>83|75=>92|127=>109|164=>115|5=>5|80=>95|n=>n,fun|n=>n⟩
theorem Tryz.lays156:Go.Proofs.Lays.n156 Tryz.prog Tryz.lays156_ren:={
 mixed:=by kernel_rfl
 f156:=Tryz.func90.trans (congrArg some (by kernel_rfl))
 f165:=Tryz.func117.trans (congrArg some (by kernel_rfl))
 f166:=Tryz.func104.trans (congrArg some (by kernel_rfl))
 f169:=Tryz.func105.trans (congrArg some (by kernel_rfl))
 f240:=Tryz.func124.trans (congrArg some (by kernel_rfl))
 f241:=Tryz.func131.trans (congrArg some (by kernel_rfl))
 f276:=Tryz.func138.trans (congrArg some (by kernel_rfl))
 f277:=Tryz.func139.trans (congrArg some (by kernel_rfl))
 t0:=Tryz.underlying0
 a0:=Tryz.isAgg0
 z0:=Tryz.sizeOf0
 v0:=Tryz.zeroValue0
 t3:=Tryz.underlying3
 a3:=Tryz.isAgg3
 z3:=Tryz.sizeOf3
 v3:=Tryz.zeroValue3
 t4:=Tryz.underlying4
 a4:=Tryz.isAgg4
 z4:=Tryz.sizeOf4
 v4:=Tryz.zeroValue4
 t9:=Tryz.underlying9
 a9:=Tryz.isAgg9
 z9:=Tryz.sizeOf9
 v9:=Tryz.zeroValue9
 t20:=Tryz.underlying20
 a20:=Tryz.isAgg20
 z20:=Tryz.sizeOf20
 v20:=Tryz.zeroValue20
 t31:=Tryz.underlying23
 a31:=Tryz.isAgg23
 z31:=Tryz.sizeOf23
 v31:=Tryz.zeroValue23
 t37:=Tryz.underlying83
 a37:=Tryz.isAgg83
 z37:=Tryz.sizeOf83
 v37:=Tryz.zeroValue83
 t70:=Tryz.underlying88
 a70:=Tryz.isAgg88
 z70:=Tryz.sizeOf88
 v70:=Tryz.zeroValue88
 t72:=Tryz.underlying90
 a72:=Tryz.isAgg90
 z72:=Tryz.sizeOf90
 v72:=Tryz.zeroValue90
 t75:=Tryz.underlying92
 a75:=Tryz.isAgg92
 z75:=Tryz.sizeOf92
 v75:=Tryz.zeroValue92
 t76:=Tryz.underlying93
 a76:=Tryz.isAgg93
 z76:=Tryz.sizeOf93
 v76:=Tryz.zeroValue93
 t127:=Tryz.underlying109
 a127:=Tryz.isAgg109
 z127:=Tryz.sizeOf109
 v127:=Tryz.zeroValue109
 t164:=Tryz.underlying115
 a164:=Tryz.isAgg115
 z164:=Tryz.sizeOf115
 v164:=Tryz.zeroValue115}
theorem Tryz.Builder_Extra_156:Builder.Extra Tryz.prog Tryz.lays156_ren:={
 sizeBuilder:=by kernel_rfl
 liesBuilder:=by kernel_rfl
 t5:=Tryz.underlying5
 a5:=Tryz.isAgg5
 z5:=Tryz.sizeOf5
 v5:=Tryz.zeroValue5
 infoByte:=by kernel_rfl
 cellsByte:=by kernel_rfl
 sizeByte:=by kernel_rfl
 neB5:=by decide}
open Go.RowKit in
theorem Tryz.strings_Join_none (a:Option Addr) (c:Nat) (sep:ByteArray) (w:World):
  Calls Tryz.prog 90 #[.slice a 0 c,.string sep] w fun e w'=>e= .returned (.string ⟨#[]⟩)∧w'=w:=Any.strings_Join_none Tryz.lays156 Tryz.Builder_Extra_156 a c sep w
open Go.RowKit in
theorem Tryz.strings_Join (bk o c:Nat) (xs:List ByteArray) (sep:ByteArray) (w:World) (hcells: ∀ (j:Nat) x,xs[j]?=some x→w.cell? ⟨bk,o+j,none⟩=some (.string x)) (hbk:bk<w.heap.size) (hN:xs.length≤140737488355328) (hcap:xs.length≤c) (hlen:(Lib.join (xs.map (·.data.toList)) sep.data.toList).length≤140737488355328):
  Calls Tryz.prog 90 #[.slice (some ⟨bk,o,none⟩) xs.length c,.string sep] w fun e w'=>e= .returned (.string ⟨(Lib.join (xs.map (·.data.toList)) sep.data.toList).toArray⟩)∧Below w.heap.size w w':=Any.strings_Join Tryz.lays156 Tryz.Builder_Extra_156 bk o c xs sep w hcells hbk hN hcap hlen
def Tryz.laysM171_ren:Go.Shelf.Ren:=⟨fun|171=>93|243=>119|246=>132|283=>140|284=>141|285=>142|286=>143|129=>145|317=>144|318=>146|319=>147|320=>148|337=>149|338=>150|n=>n,fun|3=>3|9=>9|2=>2|4=>4|171=>118|0=>0|53=>119|37=>83|5=>5|173=>122|212=>125|51=>126|20=>20|213=>127|46=>105|232=>131|233=>132|n=>n,fun|17=>1|18=>2|19=>3|n=>n⟩
theorem Tryz.laysM171:Go.Proofs.LaysM.n171 Tryz.prog Tryz.laysM171_ren:={
 mixed:=by kernel_rfl
 f129:=Tryz.func145.trans (congrArg some (by kernel_rfl))
 f171:=Tryz.func93.trans (congrArg some (by kernel_rfl))
 f243:=Tryz.func119.trans (congrArg some (by kernel_rfl))
 f246:=Tryz.func132.trans (congrArg some (by kernel_rfl))
 f283:=Tryz.func140.trans (congrArg some (by kernel_rfl))
 f284:=Tryz.func141.trans (congrArg some (by kernel_rfl))
 f285:=Tryz.func142.trans (congrArg some (by kernel_rfl))
 f286:=Tryz.func143.trans (congrArg some (by kernel_rfl))
 f317:=Tryz.func144.trans (congrArg some (by kernel_rfl))
 f318:=Tryz.func146.trans (congrArg some (by kernel_rfl))
 f319:=Tryz.func147.trans (congrArg some (by kernel_rfl))
 f320:=Tryz.func148.trans (congrArg some (by kernel_rfl))
 f337:=Tryz.func149.trans (congrArg some (by kernel_rfl))
 f338:=Tryz.func150.trans (congrArg some (by kernel_rfl))
 t0:=Tryz.underlying0
 a0:=Tryz.isAgg0
 z0:=Tryz.sizeOf0
 v0:=Tryz.zeroValue0
 t2:=Tryz.underlying2
 a2:=Tryz.isAgg2
 z2:=Tryz.sizeOf2
 v2:=Tryz.zeroValue2
 t3:=Tryz.underlying3
 a3:=Tryz.isAgg3
 z3:=Tryz.sizeOf3
 v3:=Tryz.zeroValue3
 t4:=Tryz.underlying4
 a4:=Tryz.isAgg4
 z4:=Tryz.sizeOf4
 v4:=Tryz.zeroValue4
 t5:=Tryz.underlying5
 a5:=Tryz.isAgg5
 z5:=Tryz.sizeOf5
 v5:=Tryz.zeroValue5
 t9:=Tryz.underlying9
 a9:=Tryz.isAgg9
 z9:=Tryz.sizeOf9
 v9:=Tryz.zeroValue9
 t20:=Tryz.underlying20
 a20:=Tryz.isAgg20
 z20:=Tryz.sizeOf20
 v20:=Tryz.zeroValue20
 t37:=Tryz.underlying83
 a37:=Tryz.isAgg83
 z37:=Tryz.sizeOf83
 v37:=Tryz.zeroValue83
 t46:=Tryz.underlying105
 a46:=Tryz.isAgg105
 z46:=Tryz.sizeOf105
 v46:=Tryz.zeroValue105
 t51:=Tryz.underlying126
 a51:=Tryz.isAgg126
 z51:=Tryz.sizeOf126
 v51:=Tryz.zeroValue126
 t53:=Tryz.underlying119
 a53:=Tryz.isAgg119
 z53:=Tryz.sizeOf119
 v53:=Tryz.zeroValue119
 t171:=Tryz.underlying118
 a171:=Tryz.isAgg118
 z171:=Tryz.sizeOf118
 v171:=Tryz.zeroValue118
 t173:=Tryz.underlying122
 a173:=Tryz.isAgg122
 z173:=Tryz.sizeOf122
 v173:=Tryz.zeroValue122
 t212:=Tryz.underlying125
 a212:=Tryz.isAgg125
 z212:=Tryz.sizeOf125
 v212:=Tryz.zeroValue125
 t213:=Tryz.underlying127
 a213:=Tryz.isAgg127
 z213:=Tryz.sizeOf127
 t232:=Tryz.underlying131
 a232:=Tryz.isAgg131
 z232:=Tryz.sizeOf131
 v232:=Tryz.zeroValue131
 t233:=Tryz.underlying132
 a233:=Tryz.isAgg132
 z233:=Tryz.sizeOf132
 v233:=Tryz.zeroValue132
 g17:=by kernel_rfl
 g18:=by kernel_rfl
 g19:=by kernel_rfl
 i0:=by kernel_rfl
 i2:=by kernel_rfl
 i3:=by kernel_rfl
 i4:=by kernel_rfl
 i5:=by kernel_rfl
 i9:=by kernel_rfl
 i20:=by kernel_rfl
 i37:=by kernel_rfl
 i46:=by kernel_rfl
 i51:=by kernel_rfl
 i53:=by kernel_rfl
 i171:=by kernel_rfl
 i173:=by kernel_rfl
 i212:=by kernel_rfl
 i232:=by kernel_rfl
 i233:=by kernel_rfl
 m17:=by kernel_rfl
 m18:=by kernel_rfl
 m19:=by kernel_rfl}
open Go.RowKit Go.Sort Go.Lib in
theorem Tryz.strconv_Itoa (n : Int) (h0 : -9223372036854775808 ≤ n) (h1 : n ≤ 9223372036854775807) (w : World) (htab : Lib.TabIs Tryz.prog w "internal/strconv.uint64pow10" .u64 Lib.pow10Tab) :
  Calls Tryz.prog 93 #[.int .i64 n] w fun e w'=>e= .returned (.string ⟨(Lib.itoa n).toArray⟩)∧ ∃ k os,w'=grow (w.drewN k) os:=Any.strconv_Itoa Tryz.laysM171 n h0 h1 w htab
end Go.Proofs
namespace Go.PE
open Go Go.RowKit Go.Proofs Go.Sort
set_option linter.unusedVariables false
def powCells:Array Value:=(Lib.pow10Tab.map fun z=>Value.int .u64 z).toArray
theorem gPow : Tryz.prog.globalNamed "internal/strconv.uint64pow10" = some 1 := by kernel_rfl
def PowIs (G:Glob):Prop:= ∃ t z,G.blk 1=some (.cells powCells t z)
theorem digF_dec: ∀ (f n:Nat),n<10 ^ f→0<f→digF f n=Lib.decDigits n
 |f+1,n,h,_=>by
  rw[Lib.decDigits,digF]
  by_cases hn:n<10
  ·rw[if_pos hn,dif_pos hn]
  ·rw[if_neg hn,dif_neg hn]
   rw[digF_dec f (n / 10) (by rw[Nat.pow_succ] at h;omega) (by
    cases f with
    |zero=>simp at h;omega
    |succ f=>omega)]
theorem numS_itoa {n:Int} (h0: -9223372036854775808≤n) (h1:n≤9223372036854775807):numS n=⟨(Lib.itoa n).toArray⟩:=by
 unfold numS numL Lib.itoa
 rw[digF_dec 20 n.natAbs (by omega) (by omega),digF_dec 20 n.toNat (by omega) (by omega)]
def itF:List PV→St→Option (PV×St)
 |[.int .i64 n],S=>if -9223372036854775808≤n∧n≤9223372036854775807 then some (.str (numS n),S) else none
 |_,_=>none
theorem enter_it:Enter Tryz.prog 93:=⟨_,Tryz.func93,by kernel_rfl,by kernel_rfl⟩
theorem itF_spec (G:Glob) (hG:PowIs G) (args:List PV) (S:St) (r:PV) (S':St) (h:itF args S=some (r,S')):CallSpec Tryz.prog G 93 args S r S':=by
 intro C w vs hW hR
 unfold itF at h
 split at h
 ·rename_i n
  split at h
  ·rename_i hn
   injection h with h;injection h with e1 e2;subst e1 e2
   match vs,hR with
   |[],hR=>have:=hR.1;simp at this
   |_::_::_,hR=>have:=hR.1;simp at this
   |[v],hR=>
   have rp:=hR.2 0 _ v rfl rfl
   cases rp
   obtain ⟨t,z,hb⟩:=hG
   obtain ⟨h1,_,_⟩:=hW.blk _ _ hb
   have htab : Lib.TabIs Tryz.prog w "internal/strconv.uint64pow10" .u64 Lib.pow10Tab := by
    unfold Lib.TabIs World.var?
    rw[gPow]
    simp only[Option.bind_some,h1]
    rfl
   refine (Tryz.strconv_Itoa n hn.1 hn.2 w htab).mono ?_
   rintro e w' ⟨rfl,k,os,rfl⟩
   have hb:Below w.heap.size w (grow (w.drewN k) os):=⟨rfl,rfl,rfl,by simp[grow,World.drewN],fun k hk=>by simp[grow,World.drewN,Array.getElem?_append,hk]⟩
   exact ⟨C,_,rfl,by rw[←numS_itoa hn.1 hn.2];exact .str _,hW.of_below hb,.of_below hb C⟩
  ·cases h
 ·cases h
end Go.PE
namespace Go.PE
open Go Go.RowKit Go.Proofs
set_option linter.unusedVariables false
set_option linter.unusedSimpArgs false
def rowStrs:List (List PV)→Option (List ByteArray)
 |[]=>some []
 |[.str s]::l=>(rowStrs l).map (s:: ·)
 |_=>none
def joinS (sep:ByteArray) (ss:List ByteArray):ByteArray:=⟨(Lib.join (ss.map (·.data.toList)) sep.data.toList).toArray⟩
def jnF:List PV→St→Option (PV×St)
 |[.sl g xs,.str sep],S=>match rowStrs xs with
  |some ss=>if ss.length≤140737488355328∧(joinS sep ss).size≤140737488355328 then some (.str (joinS sep ss),S) else none
  |none=>none
 |_,_=>none
theorem rowStrs_eq: ∀ {xs:List (List PV)} {ss:List ByteArray},rowStrs xs=some ss→xs=ss.map fun s=>[.str s]
 |[],ss,h=>by simp[rowStrs] at h;subst h;rfl
 |[.str s]::l,ss,h=>by
  simp only[rowStrs,Option.map_eq_some_iff] at h
  obtain ⟨r,hr,rfl⟩:=h
  rw[List.map_cons,←rowStrs_eq hr]
 |[]::l,ss,h=>by simp[rowStrs] at h
 |(p::q::r)::l,ss,h=>by cases p<;>simp[rowStrs] at h
 |[.bool _]::l,ss,h|[.int _ _]::l,ss,h|[.nilp]::l,ss,h|[.nilfn]::l,ss,h|[.nilifc]::l,ss,h|[.nilm]::l,ss,h|[.un]::l,ss,h
 |[.ref _ _]::l,ss,h|[.yld _]::l,ss,h|[.mp _]::l,ss,h|[.msl _ _ _ _]::l,ss,h|[.at_ _]::l,ss,h|[.sl _ _]::l,ss,h|[.row _ _]::l,ss,h|[.fn _ _ _]::l,ss,h|[.ifc _ _]::l,ss,h|[.agg _]::l,ss,h|[.tup _]::l,ss,h=>by simp[rowStrs] at h
theorem rowStrs_map: ∀ ss:List ByteArray,rowStrs (ss.map fun s=>[.str s])=some ss
 |[]=>rfl
 |s::ss=>by rw[List.map_cons,rowStrs,rowStrs_map ss];rfl
theorem enter_jn:Enter Tryz.prog 90:=⟨_,Tryz.func90,by kernel_rfl,by kernel_rfl⟩
theorem jnF_spec (G:Glob) (args:List PV) (S:St) (r:PV) (S':St) (h:jnF args S=some (r,S')):CallSpec Tryz.prog G 90 args S r S':=by
 intro C w vs hW hR
 unfold jnF at h
 split at h
 rotate_left
 ·cases h
 rename_i g xs sep
 split at h
 rotate_left
 ·cases h
 rename_i ss hss
 split at h
 rotate_left
 ·cases h
 rename_i hk
 injection h with h;injection h with e1 e2;subst e1 e2
 match vs,hR with
 |[],hR=>have:=hR.1;simp at this
 |[_],hR=>have:=hR.1;simp at this
 |_::_::_::_,hR=>have:=hR.1;simp at this
 |[v,u],hR=>
 have rp:=hR.2 0 _ v rfl rfl
 have rq:=hR.2 1 _ u rfl rfl
 cases rq
 obtain rfl:=rowStrs_eq hss
 by_cases hn:ss=[]
 ·subst hn
  cases rp with|sl g xs a n cap sz hnn hcap hsz hnull hexact hrow ha hc hh hown=>
  simp at hnn;subst hnn
  refine (Tryz.strings_Join_none a cap sep w).mono ?_
  rintro e w' ⟨rfl,rfl⟩
  exact ⟨C,_,rfl,.str _,hW,.refl C _⟩
 ·have hne:(ss.map fun s=>[PV.str s])≠[]:=by intro e;exact hn (List.map_eq_nil_iff.1 e)
  have hd:headOk 1 (ss.map fun s=>[PV.str s])=true:=by cases ss<;>rfl
  have rp':=rp
  obtain ⟨b,off,cap,rfl,hb,_,_,us,hul,huc,hur⟩:=row_cells rp (by omega) hd hne
  have hcap:ss.length≤cap:=by
   cases rp' with|sl g xs a n cap sz hnn hcap hsz hnull hexact hrow ha hc hh hown=>simpa using hcap
  simp only[List.length_map,Nat.mul_one] at hul
  have hcells: ∀ (j:Nat) x,ss[j]?=some x→w.cell? ⟨b,off+j,none⟩=some (.string x):=fun j x hj=>by
   have hj':j<us.length:=by rw[hul];exact getElem?_lt hj
   have hu:=List.getElem?_eq_getElem hj'
   have hx:(ss.map fun s=>[PV.str s])[j]?=some [.str x]:=by rw[List.getElem?_map,hj];rfl
   have hr:=(hur j _ 0 _ us[j] hx rfl (by simp)).2
   have hc:=(huc j _ hu).1
   generalize us[j]=z at*
   cases hr
   exact hc
  simp only[List.length_map]
  refine (Tryz.strings_Join b off cap ss sep w hcells hb hk.1 hcap (by have:=hk.2;simpa [joinS,ByteArray.size] using this)).mono ?_
  rintro e w' ⟨rfl,hb⟩
  exact ⟨C,_,rfl,.str _,hW.of_below hb,.of_below hb C⟩
theorem jnF_mv (B:St) (args:List PV) (S:St) (r:PV) (S':St) (h:jnF args S=some (r,S')):jnF (mBL B args) (mS B S)=some (mB B r,mS B S'):=by
 unfold jnF at h
 split at h
 rotate_left
 ·cases h
 rename_i g xs sep
 split at h
 rotate_left
 ·cases h
 rename_i ss hss
 split at h
 rotate_left
 ·cases h
 rename_i hk
 injection h with h;injection h with e1 e2;subst e1 e2
 obtain rfl:=rowStrs_eq hss
 have e: ∀ l:List ByteArray,mBLL B (l.map fun s=>[PV.str s])=l.map fun s=>[PV.str s]:=fun l=>by
  induction l with
  |nil=>rfl
  |cons a l ih=>
   show mBL B [.str a]::mBLL B (l.map fun s=>[PV.str s])=_
   rw[ih];rfl
 show jnF [.sl (mvG B.own.length g) (mBLL B (ss.map fun s=>[PV.str s])),.str sep] (mS B S)=some (PV.str (joinS sep ss),mS B S)
 rw[e]
 unfold jnF
 simp only[hss,hk,and_self,if_true]
end Go.PE
