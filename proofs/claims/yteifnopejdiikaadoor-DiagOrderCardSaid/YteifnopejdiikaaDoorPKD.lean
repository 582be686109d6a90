/-
  slices.SortFunc over diagnoses, as a function that is known: the row that is handed in is sorted. Conditions: each law's own.
-/
import Derived.Test.YteifnopejdiikaaDoorPE18
import Derived.Test.YteifnopejdiikaaDoorPE20
import Derived.Test.YteifnopejdiikaaDoorTypes
import Derived.Test.YteifnopejdiikaaDoorShelf
import Derived.Test.YteifnopejdiikaaDoorSHD
import Derived.Test.YteifnopejdiikaaDoorDG1
import Derived.Shelf.SlSortCmp.NoneTotal
import Derived.Shelf.SlicesG.Cmp
import Derived.WalkKit
import Derived.Lib.Hide
import Derived.Deep.RegionHeld3
namespace Go.PE
open Go Go.RowKit Go.Proofs
set_option linter.unusedVariables false
set_option linter.unusedSimpArgs false
set_option maxRecDepth 100000
def ahD (a b:GDiag):Bool:=if strEq a.At.Def b.At.Def then (if a.At.Node==b.At.Node then decide (a.Code<b.Code) else decide (a.At.Node<b.At.Node)) else strLt a.At.Def b.At.Def
theorem strLt_dec (a b:ByteArray):strLt a b=decide (a.data.toList<b.data.toList):=by
 have key: ∀ (x y:List UInt8),Op.bytesLess x y=decide (x<y):=by
  intro x
  induction x with
  |nil=>intro y;cases y<;>simp[Op.bytesLess]
  |cons a x ih=>
   intro y
   cases y with
   |nil=>simp[Op.bytesLess]
   |cons b y=>
    rw[Op.bytesLess,ih]
    apply Bool.eq_iff_iff.2
    simp[List.cons_lt_cons_iff]
 exact key _ _
theorem ahD_ord:Ord ahD where
 irr a:=by simp[ahD,strEq]
 tr a b c h1 h2:=by
  unfold ahD at*
  simp only[strLt_dec,strEq,beq_iff_eq] at*
  by_cases e1:a.At.Def.data.toList=b.At.Def.data.toList
  ·by_cases e2:b.At.Def.data.toList=c.At.Def.data.toList
   ·have e3:=e1.trans e2
    rw[if_pos e1] at h1;rw[if_pos e2] at h2;rw[if_pos e3]
    by_cases n1:a.At.Node=b.At.Node<;>by_cases n2:b.At.Node=c.At.Node<;>simp_all<;>(try split)<;>(try simp)<;>omega
   ·rw[if_neg e2] at h2
    rw[e1,if_neg e2];exact h2
  ·rw[if_neg e1] at h1
   by_cases e2:b.At.Def.data.toList=c.At.Def.data.toList
   ·rw[←e2,if_neg e1];exact h1
   ·rw[if_neg e2] at h2
    simp only[decide_eq_true_eq] at h1 h2
    have h3:=List.lt_trans h1 h2
    have e3:a.At.Def.data.toList≠c.At.Def.data.toList:=fun e=>by rw[e] at h3;exact absurd h3 (List.lt_irrefl _)
    rw[if_neg e3];exact decide_eq_true h3
 tot a b h1 h2:=by
  unfold ahD at*
  simp only[strLt_dec,strEq,beq_iff_eq] at*
  by_cases e1:a.At.Def.data.toList=b.At.Def.data.toList
  ·rw[if_pos e1] at h1;rw[if_pos e1.symm] at h2
   have e4:a.At.Def=b.At.Def:=by
    have:=Array.toList_inj.1 e1
    cases ha:a.At.Def;cases hb:b.At.Def;rw[ha,hb] at this;simp at this;rw[this]
   by_cases n1:a.At.Node=b.At.Node
   ·simp_all
    have:a.Code=b.Code:=by omega
    cases a with|mk la ca=>cases b with|mk lb cb=>cases la;cases lb;simp_all
   ·have n2: ¬ b.At.Node=a.At.Node:=fun e=>n1 e.symm
    rw[if_neg n1] at h1;rw[if_neg n2] at h2
    simp at h1 h2;omega
  ·rw[if_neg e1] at h1;rw[if_neg (fun e=>e1 e.symm)] at h2
   simp only[decide_eq_false_iff_not,List.not_lt] at h1 h2
   exact absurd (List.le_antisymm h2 h1) e1
def cfD (a b:GDiag):Int:=if Lib.compareBytes a.At.Def.data.toList b.At.Def.data.toList≠0 then Lib.compareBytes a.At.Def.data.toList b.At.Def.data.toList else if Lib.compareInt a.At.Node b.At.Node≠0 then Lib.compareInt a.At.Node b.At.Node else Lib.compareInt a.Code b.Code
theorem cmpB (x:List UInt8): ∀ y,(Lib.compareBytes x y<0↔x<y)∧(Lib.compareBytes x y=0↔x=y):=by
 induction x with
 |nil=>intro y;cases y<;>simp[Lib.compareBytes]
 |cons a x ih=>
  intro y
  cases y with
  |nil=>simp[Lib.compareBytes]
  |cons b y=>
   have:=ih y
   unfold Lib.compareBytes
   simp only[List.cons_lt_cons_iff,List.cons.injEq]
   by_cases h:a=b
   ·subst h;simp[this.1,this.2]
   ·by_cases h2:a<b
    ·simp[h,h2]
    ·have h3:b<a:=by
      rw[UInt8.lt_iff_toNat_lt] at*
      have:a.toNat≠b.toNat:=fun e=>h (UInt8.toNat_inj.1 e)
      omega
     simp[h,h2,h3]
theorem cfD_lt (a b:GDiag):Go.Proofs.ltOf cfD a b=ahD a b:=by
 unfold Go.Proofs.ltOf cfD ahD
 obtain ⟨h1,h2⟩:=cmpB a.At.Def.data.toList b.At.Def.data.toList
 rw[strLt_dec]
 generalize Lib.compareBytes a.At.Def.data.toList b.At.Def.data.toList=c at*
 by_cases hc:c=0
 ·have e:=h2.1 hc
  simp only[strEq,e,hc,beq_self_eq_true,if_true,ne_eq,not_true_eq_false,if_false]
  unfold Lib.compareInt
  by_cases n1:a.At.Node=b.At.Node
  ·simp[n1]
   by_cases n2:a.Code<b.Code
   ·simp[n2]
   ·by_cases n3:b.Code<a.Code<;>simp[n2,n3]
  ·by_cases n2:a.At.Node<b.At.Node
   ·simp[n1,n2]
   ·have:b.At.Node<a.At.Node:=by omega
    simp[n1,n2,this]
 ·have e: ¬ a.At.Def.data.toList=b.At.Def.data.toList:=fun e=>hc (h2.2 e)
  simp only[strEq,beq_iff_eq,e,hc,if_true,if_false,ne_eq,not_false_eq_true,h1]
theorem swoD:Go.Sort.SWO (Go.Proofs.ltOf cfD) where
 irrefl x:=by rw[cfD_lt];exact ahD_ord.irr x
 trans x y z h1 h2:=by rw[cfD_lt] at*;exact ahD_ord.tr _ _ _ h1 h2
 ntrans x y z h1 h2:=by rw[cfD_lt] at*;exact ahD_ord.le_tr (a:=z) (b:=y) (c:=x) h2 h1
def encD (a:GDiag):List Value:=[.string a.At.Def,.int .i64 a.At.Node,.int .i64 a.Code]
theorem grow3 (W:World) (o1 o2 o3:Obj):(((W.alloc o1).alloc o2).alloc o3).drew=Go.Sort.grow (W.drewN 1) #[o1,o2,o3]:=by
 rw[Go.Sort.alloc_eq_grow,Go.Sort.alloc_eq_grow,Go.Sort.alloc_eq_grow,Go.Sort.grow_grow,Go.Sort.grow_grow];rfl
def orI (x y z:Int):Int:=if x≠0 then x else if y≠0 then y else z
set_option maxHeartbeats 2000000 in
theorem Or_int (W:World) (blk:Nat) (x y z:Int) (h0:W.cell? ⟨blk,0,none⟩=some (.int .i64 x)) (h1:W.cell? ⟨blk,1,none⟩=some (.int .i64 y)) (h2:W.cell? ⟨blk,2,none⟩=some (.int .i64 z)):
  Calls Tryd.prog 34 #[.slice (some ⟨blk,0,none⟩) 3 3] W fun e w'=>e= .returned (.int .i64 (orI x y z))∧w'=W:=by
 go_enter Tryd.func34,Tryd.ntmps34
 go_wp2
 go_loop [8] (fun i=> ∃ k:Nat,i= .int .i64 k∧k≤3∧(0<k→x=0)∧(1<k→y=0)∧(2<k→z=0)) (fun i=>3 - (Go.RowKit.intOf i).toNat)
 case atStart=>exact ⟨0,rfl,by omega,fun h=>absurd h (by omega),fun h=>absurd h (by omega),fun h=>absurd h (by omega)⟩
 case round=>
  obtain ⟨k,rfl,hk,e0,e1,e2⟩:=hrel
  have hk':k=0∨k=1∨k=2∨k=3:=by omega
  rcases hk' with rfl|rfl|rfl|rfl
  ·by_cases hx:x=0
   ·have hb:((x:Int) !=0)=false:=by simpa using hx
    go_wp2
    go_round
    case rel=>exact ⟨1,rfl,by omega,fun _=>hx,fun h=>absurd h (by omega),fun h=>absurd h (by omega)⟩
    case measure=>simp[Go.RowKit.intOf]
   ·have hb:((x:Int) !=0)=true:=by simpa using hx
    have hr:orI x y z=x:=by unfold orI;rw[if_pos hx]
    have HR:=Lib.hid hr
    clear hr e0 e1 e2
    go_wp2
    go_ret
    exact ⟨by rw[HR.out];try rfl,rfl⟩
  ·have hx:=e0 (by omega)
   by_cases hy:y=0
   ·have hb:((y:Int) !=0)=false:=by simpa using hy
    go_wp2
    go_round
    case rel=>exact ⟨2,rfl,by omega,fun _=>hx,fun _=>hy,fun h=>absurd h (by omega)⟩
    case measure=>simp[Go.RowKit.intOf]
   ·have hb:((y:Int) !=0)=true:=by simpa using hy
    have hr:orI x y z=y:=by unfold orI;rw[if_neg (by simpa using hx),if_pos hy]
    have HR:=Lib.hid hr
    clear hr e0 e1 e2 hx
    go_wp2
    go_ret
    exact ⟨by rw[HR.out];try rfl,rfl⟩
  ·have hx:=e0 (by omega)
   have hy:=e1 (by omega)
   by_cases hz:z=0
   ·have hb:((z:Int) !=0)=false:=by simpa using hz
    go_wp2
    go_round
    case rel=>exact ⟨3,rfl,by omega,fun _=>hx,fun _=>hy,fun _=>hz⟩
    case measure=>simp[Go.RowKit.intOf]
   ·have hb:((z:Int) !=0)=true:=by simpa using hz
    have hr:orI x y z=z:=by unfold orI;rw[if_neg (by simpa using hx),if_neg (by simpa using hy)]
    have HR:=Lib.hid hr
    clear hr e0 e1 e2 hx hy
    go_wp2
    go_ret
    exact ⟨by rw[HR.out];try rfl,rfl⟩
  ·have hr:orI x y z=0:=by unfold orI;rw[e0 (by omega),e1 (by omega),e2 (by omega)];rfl
   have HR:=Lib.hid hr
   clear hr e0 e1 e2
   go_wp2
   go_ret
   exact ⟨by rw[HR.out];try rfl,rfl⟩
set_option maxHeartbeats 2000000 in
theorem closureD (x y:GDiag) (W:World):Calls Tryd.prog 22 #[.agg (encD x).toArray,.agg (encD y).toArray] W fun e w'=>e= .returned (.int .i64 (cfD x y))∧ ∃ q os',w'=Go.Sort.grow (W.drewN q) os':=by
 have c1:=fun W'=>Tryd.strings_Compare x.At.Def y.At.Def W'
 have c2:=fun W'=>Tryd.cmp_Compare_int x.At.Node y.At.Node W'
 have c3:=fun W'=>AnyG.cmp_Compare_int Tryd.cmpE x.Code y.Code W'
 change ∀ W',Calls Tryd.prog 37 _ _ _ at c3
 have ec:cfD x y=orI (Lib.compareBytes x.At.Def.data.toList y.At.Def.data.toList) (Lib.compareInt x.At.Node y.At.Node) (Lib.compareInt x.Code y.Code):=rfl
 rw[ec];clear ec
 generalize Lib.compareBytes x.At.Def.data.toList y.At.Def.data.toList=r1 at*
 generalize Lib.compareInt x.At.Node y.At.Node=r2 at*
 generalize Lib.compareInt x.Code y.Code=r3 at*
 show Calls _ _ #[.agg #[.string x.At.Def,.int .i64 x.At.Node,.int .i64 x.Code],.agg #[.string y.At.Def,.int .i64 y.At.Node,.int .i64 y.Code]] _ _
 go_enter Tryd.func22,Tryd.ntmps22
 go_wp2_with fail
 generalize hb:W.heap.size=B at*
 generalize hw:(W.alloc (Obj.cells #[Value.string x.At.Def,Value.int IntKind.i64 x.At.Node,Value.int IntKind.i64 x.Code] 45)).alloc (Obj.cells #[Value.string y.At.Def,Value.int IntKind.i64 y.At.Node,Value.int IntKind.i64 y.Code] 45)=W1 at*
 have k1:W1.cell? ⟨B,0,none⟩=some (.string x.At.Def):=by subst hw hb;simp
 have k2:W1.cell? ⟨B,1,none⟩=some (.int .i64 x.At.Node):=by subst hw hb;simp
 have k3:W1.cell? ⟨B,2,none⟩=some (.int .i64 x.Code):=by subst hw hb;simp
 have k4:W1.cell? ⟨B+1,0,none⟩=some (.string y.At.Def):=by subst hw hb;simp
 have k5:W1.cell? ⟨B+1,1,none⟩=some (.int .i64 y.At.Node):=by subst hw hb;simp
 have k6:W1.cell? ⟨B+1,2,none⟩=some (.int .i64 y.Code):=by subst hw hb;simp
 have HW:=Lib.hid hw
 have HB:=Lib.hid hb
 clear hw hb
 go_region_held3 (fun w'=>w'.cell? ⟨B,0,none⟩=some (.string x.At.Def)∧w'.cell? ⟨B,1,none⟩=some (.int .i64 x.At.Node)∧w'.cell? ⟨B,2,none⟩=some (.int .i64 x.Code)∧w'.cell? ⟨B+1,0,none⟩=some (.string y.At.Def)∧w'.cell? ⟨B+1,1,none⟩=some (.int .i64 y.At.Node)∧w'.cell? ⟨B+1,2,none⟩=some (.int .i64 y.Code)) (first|exact ⟨k1,k2,k3,k4,k5,k6⟩|go_keep)
  (first|(go_at_call 35;refine (c1 _).mono ?_;rintro e w' ⟨rfl,rfl⟩)|(go_at_call 36;refine (c2 _).mono ?_;rintro e w' ⟨rfl,rfl⟩)|(go_at_call 37;refine (c3 _).mono ?_;rintro e w' ⟨rfl,rfl⟩)|(go_at_call 34;refine (Or_int _ _ r1 r2 r3 (by simp) (by simp) (by simp)).mono ?_;rintro e w' ⟨rfl,rfl⟩))
 go_wp2
 go_ret
 exact ⟨rfl,1,_,by rw[←HW.out];exact grow3 W _ _ _⟩
theorem cmpLaysD (blk off size:Nat) (w:World):CmpLays Tryd.prog 22 #[] encD 3 cfD blk off size w:=fun _ _ _ _ x y=>by
 have:=closureD x y
 exact this _
theorem fmap_get {α:Type} (enc:α→List Value) (k:Nat) (hk: ∀ x,(enc x).length=k): ∀ (l:List α) (t:Nat),(l.flatMap enc)[t]?=(l[t / k]?).bind fun x=>(enc x)[t % k]?
 |[],t=>by simp
 |x::l,t=>by
  by_cases k0:k=0
  ·subst k0
   have e: ∀ l:List α,l.flatMap enc=[]:=fun l=>by
    induction l with
    |nil=>rfl
    |cons y l ih=>rw[List.flatMap_cons,ih,List.eq_nil_of_length_eq_zero (hk y)];rfl
   have e2:enc x=[]:=List.eq_nil_of_length_eq_zero (hk x)
   rw[e]
   cases h:(x::l)[t / 0]? with
   |none=>simp
   |some y=>have:=List.eq_nil_of_length_eq_zero (hk y);simp[this]
  ·rw[List.flatMap_cons,List.getElem?_append,hk]
   split
   ·rename_i h
    rw[Nat.div_eq_of_lt h,Nat.mod_eq_of_lt h];simp
   ·rename_i h
    rw[fmap_get enc k hk l (t - k)]
    obtain ⟨u,rfl⟩: ∃ u,t=u+k:=⟨t - k,by omega⟩
    rw[Nat.add_sub_cancel,Nat.add_div_right _ (by omega),Nat.add_mod_right];simp
theorem flatK_list {α:Type} [Inhabited α] (enc:α→List Value) (k:Nat) (hk: ∀ x,(enc x).length=k) (l:List α):Go.Sort.flatK enc k l.toArray=(l.flatMap enc).toArray:=by
 have hl:(l.flatMap enc).length=l.length*k:=by
  induction l with
  |nil=>simp
  |cons x l ih=>rw[List.flatMap_cons,List.length_append,ih,hk,List.length_cons,Nat.succ_mul];omega
 refine Go.Sort.ext_get! (by simp[hl]) fun t ht=> ?_
 have ht':t<l.length*k:=by simpa using ht
 rw[Go.Sort.get_flatK _ _ _ t (by simpa using ht')]
 have k0:0<k:=Nat.pos_of_ne_zero fun e=>by subst e;simp at ht'
 have hd:t / k<l.length:=(Nat.div_lt_iff_lt_mul k0).2 ht'
 have hg:=fmap_get enc k hk l t
 rw[List.getElem?_eq_getElem hd] at hg
 simp only[Option.bind_some] at hg
 have hm:t % k<(enc l[t / k]).length:=by rw[hk];exact Nat.mod_lt _ k0
 rw[List.getElem?_eq_getElem hm] at hg
 have e1:l.toArray[t / k]! =l[t / k]:=by rw[getElem!_pos _ _ (by simpa using hd)];simp
 have hq:t<(l.flatMap enc).toArray.size:=by rw[List.size_toArray,hl];exact ht'
 rw[e1,getElem!_pos (enc l[t / k]) (t % k) hm,getElem!_pos (l.flatMap enc).toArray t hq]
 have:=List.getElem?_eq_some_iff.1 hg
 obtain ⟨h1,h2⟩:=this
 simp[h2]
def toV:PV→Value
 | .str s=> .string s
 | .int k n=> .int k n
 |_=> .nilIface
theorem encD_toV (l:List GDiag):(l.flatMap rDiag).map toV=l.flatMap encD:=by
 induction l with
 |nil=>rfl
 |cons x l ih=>rw[List.flatMap_cons,List.map_append,ih,List.flatMap_cons];rfl
theorem rep_toV {C:Ctx} {w:World} {l:List GDiag} {i:Nat} {p:PV} {v:Value} (h:(l.flatMap rDiag)[i]?=some p) (hr:Rep C w p v):v=toV p:=by
 have hm:=List.mem_of_getElem? h
 rw[List.mem_flatMap] at hm
 obtain ⟨x,_,hx⟩:=hm
 simp only[rDiag,List.mem_cons,List.not_mem_nil,or_false] at hx
 rcases hx with rfl|rfl|rfl<;>cases hr<;>rfl
theorem putCells_id (off:Nat) (us:List Value) (arr:Array Value):off+us.length≤arr.size→(Sort.putCells id off us.toArray arr).toList=setRowV arr.toList off us:=by
 intro h
 apply List.ext_getElem?
 intro k
 rw[setRowV_eq _ _ off (by simpa using h)]
 simp only[Sort.putCells,Array.getElem?_toList,Array.getElem?_mapIdx]
 simp only[List.append_assoc,List.getElem?_append,List.length_take,Array.length_toList,List.getElem?_take,List.getElem?_drop,Array.getElem?_toList,List.size_toArray]
 by_cases h1:k<off
 ·rw[if_pos (by omega),if_pos h1]
  have:k<arr.size:=by omega
  rw[Array.getElem?_eq_getElem this]
  simp only[Option.map_some];rw[if_neg (by omega)]
 ·rw[if_neg (by omega)]
  by_cases h2:k<off+us.length
  ·have:k<arr.size:=by omega
   rw[Array.getElem?_eq_getElem this,if_pos (by omega)]
   have e:k - min off arr.size=k - off:=by omega
   simp only[Option.map_some];rw[if_pos (by omega),e]
   have h3:k - off<us.length:=by omega
   rw[List.getElem?_eq_getElem h3,getElem!_pos _ _ (by simpa using h3)];simp
  ·rw[if_neg (by omega)]
   cases h3:arr[k]? with
   |none=>
    have:arr.size≤k:=by rw[Array.getElem?_eq_none_iff] at h3;exact h3
    simp only[Option.map_none]
    rw[Array.getElem?_eq_none (by omega)]
   |some y=>
    simp only[Option.map_some]
    rw[if_neg (by omega)]
    have e:off+us.length+(k - min off arr.size - us.length)=k:=by omega
    rw[e,h3]
theorem dflat_len (l:List GDiag):(l.flatMap rDiag).length=l.length*3:=by
 induction l with
 |nil=>rfl
 |cons x l ih=>rw[List.flatMap_cons,List.length_append,ih,rDiag_len,List.length_cons];omega
theorem flatE_len (l:List GDiag):(l.flatMap encD).length=l.length*3:=by rw[←encD_toV,List.length_map,dflat_len]
theorem holds_D {G:Glob} {C:Ctx} {S:St} {w:World} (hW:WRel G C S w) {l b off:Nat} {ct:TypeId} {cs:List PV} {ds:List GDiag} (hob:S.obs[l]?=some (.row ct cs)) (hm':C.m l=some b∨C.d l=true) (hle:off+ds.length*3≤cs.length) (hss:(cs.drop off).take (ds.length*3)=ds.flatMap rDiag):
  b<w.heap.size∧Sort.HoldsK encD 3 w b off ds.toArray:=by
 obtain ⟨hm,hblt,arr,h1,h20,h2,h3,h4⟩:=hW.live hob (by simp) hm'
 refine ⟨hblt, ?_⟩
 unfold Sort.HoldsK
 rw[flatK_list encD 3 (fun _=>rfl)]
 intro j hj
 have hj':j<ds.length*3:=by rw[List.size_toArray,flatE_len] at hj;exact hj
 have hp:j<(ds.flatMap rDiag).length:=by rw[dflat_len];exact hj'
 have hg:=List.getElem?_eq_getElem hp
 have hg0:cs[off+j]?=(ds.flatMap rDiag)[j]?:=by rw[←hss,List.getElem?_take,if_pos hj',List.getElem?_drop]
 have hg2:=hg0.trans hg
 have hi:off+j<arr.size:=by omega
 have hr:=h4 (off+j) _ arr[off+j] hg2 (Array.getElem?_eq_getElem hi)
 have hv:=rep_toV (List.getElem?_eq_getElem hp) hr
 refine ⟨?_,by simp[World.frozen?,h1]⟩
 rw[cell?_of h1 (Array.getElem?_eq_getElem hi),hv,getElem!_pos _ j hj]
 simp only[List.getElem_toArray,id,←encD_toV,List.getElem_map]
theorem turn_D {G:Glob} {C:Ctx} {S:St} {w:World} (hW:WRel G C S w) {l b off:Nat} {ct:TypeId} {cs:List PV} (d:List GDiag) (hob:S.obs[l]?=some (.row ct cs)) (hm':C.m l=some b∨C.d l=true) (hle:off+d.length*3≤cs.length) (k:Nat) (os:Array Obj):
  WRel G C {S with obs:=S.obs.set l (.row ct (setRow cs off (d.flatMap rDiag)))} (Go.Proofs.sortWorldK encD 3 w b off k d.toArray os)∧Step C w C (Go.Proofs.sortWorldK encD 3 w b off k d.toArray os):=by
 have hsw:Go.Proofs.sortWorldK encD 3 w b off k d.toArray os=Sort.grow (Sort.ahead (Sort.putRow id w b off (d.flatMap encD).toArray) k) os:=by
  unfold Go.Proofs.sortWorldK Sort.putRowK
  rw[flatK_list encD 3 (fun _=>rfl)];rfl
 rw[hsw]
 have hul:(d.flatMap encD).length=d.length*3:=flatE_len d
 generalize hus:d.flatMap encD=us at*
 have hpl0:(d.flatMap rDiag).length=us.length:=by rw[dflat_len,hul]
 have hrep: ∀ (w:World),RepC C w (d.flatMap rDiag) us:=fun w=>⟨hpl0.symm,fun i p hp=>by
   have hm:=List.mem_of_getElem? hp
   rw[List.mem_flatMap] at hm
   obtain ⟨x,_,hx⟩:=hm
   simp only[rDiag,List.mem_cons,List.not_mem_nil,or_false] at hx
   rcases hx with rfl|rfl|rfl<;>rfl,fun i p v hp hv=>by
   rw[←hus,←encD_toV,List.getElem?_map,hp] at hv
   simp only[Option.map_some,Option.some.injEq] at hv
   subst hv
   have hm:=List.mem_of_getElem? hp
   rw[List.mem_flatMap] at hm
   obtain ⟨x,_,hx⟩:=hm
   simp only[rDiag,List.mem_cons,List.not_mem_nil,or_false] at hx
   rcases hx with rfl|rfl|rfl
   ·exact .str _
   ·exact .int _ _
   ·exact .int _ _⟩
 generalize d.flatMap rDiag=ps at*
 obtain ⟨hm,hblt,arr,h1,h20,h2,h3,h4⟩:=hW.live hob (by simp) hm'
 have hh:(Sort.putRow id w b off us.toArray).heap[b]?=some (.cells (Sort.putCells id off us.toArray arr) ct (0,0)):=by
  simp[Sort.putRow,Sort.mapBlock,Array.getElem?_modify,h1,Sort.onCells]
 have h5: ∀ k,k≠b→(Sort.putRow id w b off us.toArray).heap[k]?=w.heap[k]?:=fun k hk=>by
  simp only[Sort.putRow,Sort.mapBlock,Array.getElem?_modify]
  rw[if_neg (fun e=>hk e.symm)]
 have hsize:(Sort.putRow id w b off us.toArray).heap.size=w.heap.size:=Sort.size_putRow _ _ _ _ _
 have hs:Step C w C (Sort.putRow id w b off us.toArray):=step_turn hW hm rfl rfl rfl hsize h5
 have hpl:=putCells_id off us arr (by omega)
 have hbel:Below (Sort.putRow id w b off us.toArray).heap.size (Sort.putRow id w b off us.toArray) (Sort.grow (Sort.ahead (Sort.putRow id w b off us.toArray) k) os):=
  ⟨rfl,rfl,rfl,by simp[Sort.grow,Sort.ahead],fun q hq=>by
   simp only[Sort.grow,Sort.ahead]
   rw[Array.getElem?_append,if_pos hq]⟩
 have hW1:WRel G C {S with obs:=S.obs.set l (.row ct (setRow cs off ps))} (Sort.putRow id w b off us.toArray):=by
  refine wrel_turn hW hm hs hsize h5 (by simp) ?_
  have hrc:RepC C w cs (arr.toList.take cs.length):=⟨by simp;omega,h3,fun i p v hp hv=>by
   rw[List.getElem?_take] at hv;split at hv
   ·exact h4 i p v hp (by simpa using hv)
   ·cases hv⟩
  have hrr:=(RepC.setRow off hrc (hrep w)).step hs
  have htk: ∀ (us vs:List Value) (off:Nat),off+us.length≤cs.length→(setRowV (vs.take cs.length) off us)=(setRowV vs off us).take cs.length:=by
   intro us
   induction us with
   |nil=>intro vs off _;rfl
   |cons u us ih=>
    intro vs off h
    simp only[List.length_cons] at h
    simp only[setRowV]
    rw[←ih _ (off+1) (by omega)]
    congr 1
    rw[List.take_set]
  rw[htk _ _ _ (by omega)] at hrr
  have hsl:(setRowV arr.toList off us).length=arr.size:=by
   rw[setRowV_eq _ _ _ (by simp;omega)];simp;omega
  refine ⟨_,hh,by rw[←Array.length_toList,hpl,hsl];exact h20,by rw[←Array.length_toList,hpl,hsl,setRow_length];exact h2,hrr.2.1,fun i p v hp hv=>hrr.2.2 i p v hp ?_⟩
  rw[List.getElem?_take,if_pos (by have:=getElem?_lt hp;rwa[setRow_length] at this)]
  rw[←Array.getElem?_toList,hpl] at hv
  exact hv
 exact ⟨hW1.of_below hbel,hs.trans (.of_below hbel C)⟩
def dgsOf:List PV→Option (List GDiag)
 |[]=>some []
 | .str s:: .int .i64 n:: .int .i64 c::r=>(dgsOf r).map (⟨⟨s,n⟩,c⟩:: ·)
 |_=>none
theorem dgsOf_eq: ∀ (n:Nat) (cs:List PV) (ds:List GDiag),cs.length≤n→dgsOf cs=some ds→cs=ds.flatMap rDiag:=by
 intro n
 induction n with
 |zero=>
  intro cs ds hl h
  obtain rfl:cs=[]:=List.eq_nil_of_length_eq_zero (by omega)
  simp only[dgsOf,Option.some.injEq] at h;subst h;rfl
 |succ n ih=>
  intro cs ds hl h
  unfold dgsOf at h
  split at h
  ·simp only[Option.some.injEq] at h;subst h;rfl
  ·simp only[Option.map_eq_some_iff] at h
   obtain ⟨t,ht,rfl⟩:=h
   simp only[List.length_cons] at hl
   rw[ih _ t (by omega) ht];rfl
  ·cases h
theorem dgsOf_map: ∀ ds:List GDiag,dgsOf (ds.flatMap rDiag)=some ds
 |[]=>rfl
 |d::ds=>by
  rw[List.flatMap_cons]
  show dgsOf (.str d.At.Def:: .int .i64 d.At.Node:: .int .i64 d.Code::ds.flatMap rDiag)=_
  rw[dgsOf,dgsOf_map ds];rfl
def sfF:List PV→St→Option (PV×St)
 |[.sl _ [],.fn f [] []],S=>if f=22 then some (.un,S) else none
 |[.msl l o n sz,.fn f [] []],S=>if f=22∧sz=3∧0<n∧n<4611686018427387904 then
   match S.obs[l]? with
   |some (.row t cs)=>if o+n*3≤cs.length then match dgsOf ((cs.drop o).take (n*3)) with
     |some ds=>some (.un,{S with obs:=S.obs.set l (.row t (setRow cs o ((srtO ahD ds).flatMap rDiag)))})
     |none=>none
    else none
   |_=>none
  else none
 |_,_=>none
theorem enter_sf:Enter Tryd.prog 21:=⟨_,Tryd.func21,by kernel_rfl,by kernel_rfl⟩
theorem sorted_is {d d':Array GDiag} (hp:Sort.PermIn 0 d.size d d') (hs:Sort.SortedIn (Go.Proofs.ltOf cfD) 0 d.size d'):d'.toList=srtO ahD d.toList:=by
 obtain ⟨h1,_,h3⟩:=hp
 have e1:d.extract 0 d.size=d:=by simp
 have e2:d'.extract 0 d.size=d':=by rw[←h1];simp
 rw[e1,e2] at h3
 refine sorted_one ahD_ord ?_ (srtO_sorted ahD_ord _) (h3.trans (srtO_perm _).symm)
 rw[List.pairwise_iff_getElem]
 intro i j hi hj hij
 have:=hs i j (Nat.zero_le _) hij (by rw[←h1];simpa using hj)
 rw[cfD_lt,getElem!_pos _ i (by simpa using hi),getElem!_pos _ j (by simpa using hj)] at this
 simpa [LeO] using this
theorem srtO_len (l:List GDiag):(srtO ahD l).length=l.length:=(srtO_perm l).length_eq
theorem sfF_spec (G:Glob) (args:List PV) (S:St) (r:PV) (S':St) (h:sfF args S=some (r,S')):CallSpec Tryd.prog G 21 args S r S':=by
 intro C w vs hW hR
 unfold sfF at h
 split at h
 ·split at h
  ·injection h with h;injection h with e1 e2;subst e1 e2
   match vs,hR with
   |[],hR=>have:=hR.1;simp at this
   |[_],hR=>have:=hR.1;simp at this
   |_::_::_::_,hR=>have:=hR.1;simp at this
   |[v,u],hR=>
   have rp:=hR.2 0 _ v rfl rfl
   cases rp with|sl _ _ a n cap sz hn=>
   simp only[List.length_nil] at hn
   subst hn
   have hcon:=AnyF.slices_SortFunc_none Tryd.sortD a cap u w
   change Calls Tryd.prog 21 _ _ _ at hcon
   refine hcon.mono ?_
   rintro e w' ⟨rfl,rfl⟩
   exact ⟨C,_,rfl,.un C _,hW,.refl C _⟩
  ·cases h
 ·rename_i l o n sz f
  split at h
  ·rename_i hc
   obtain ⟨rfl,rfl,hn0,hlt⟩:=hc
   split at h
   ·rename_i ct cs hob
    split at h
    ·rename_i hle
     split at h
     ·rename_i ds hds
      injection h with h;injection h with e1 e2;subst e1 e2
      match vs,hR with
      |[],hR=>have:=hR.1;simp at this
      |[_],hR=>have:=hR.1;simp at this
      |_::_::_::_,hR=>have:=hR.1;simp at this
      |[v,u],hR=>
      have rp:=hR.2 0 _ v rfl rfl
      have rq:=hR.2 1 _ u rfl rfl
      cases rp with|msl _ _ _ _ b off cap hn hoff hm=>
      cases rq with|fn _ _ _ first' caps' hf0 g1 g2 hf hcp=>
      have e1:first'= #[]:=Array.eq_empty_of_size_eq_zero (by simpa using g1)
      have e2:caps'= #[]:=Array.eq_empty_of_size_eq_zero (by simpa using g2)
      subst e1 e2
      obtain rfl:=hoff (by omega)
      have hm':C.m l=some b∨C.d l=true:=by rcases hm with ⟨h,_⟩|h;exact .inl h;exact .inr h
      have hcs:=dgsOf_eq _ _ _ (Nat.le_refl _) hds
      have hdl:ds.length=n:=by
       have:=congrArg List.length hcs
       rw[dflat_len] at this
       simp at this;omega
      subst hdl
      obtain ⟨hblt,hH⟩:=holds_D hW hob hm' hle hcs
      have eg: ∀ args w,(callFunc 22 args).run Tryd.prog w= .ok (.enter 22 args) w:=enters_of Tryd.func22 (by kernel_rfl) rfl
      have hcon:=AnyQ.slices_SortFunc Tryd.sortD 3 Tryd.isAgg45 Tryd.sizeOf45 encD (fun _=>rfl) (fun x v hv=>by simp[encD] at hv;rcases hv with rfl|rfl|rfl<;>rfl) cfD swoD 22 #[] b off cap ds.toArray w eg (cmpLaysD b off ds.toArray.size w) hH hblt (by simpa using hlt)
      change Calls Tryd.prog 21 _ _ _ at hcon
      simp only[List.size_toArray] at hcon
      refine hcon.mono ?_
      rintro e w' ⟨rfl,d',k,os,hp,hs,rfl⟩
      have e3:=sorted_is (d:=ds.toArray) (d':=d') (by simpa using hp) (by simpa using hs)
      simp only[] at e3
      have e4:d'=(srtO ahD ds).toArray:=by rw[←e3]
      rw[e4]
      obtain ⟨h1,h2⟩:=turn_D hW (srtO ahD ds) hob hm' (by rw[srtO_len];exact hle) k os
      exact ⟨C,_,rfl,.un C _,h1,h2⟩
     ·cases h
    ·cases h
   ·cases h
  ·cases h
 ·cases h
theorem rD_mv (B:St): ∀ l:List GDiag,mBL B (l.flatMap rDiag)=l.flatMap rDiag
 |[]=>rfl
 |d::l=>by
  rw[List.flatMap_cons]
  show (.str d.At.Def:: .int .i64 d.At.Node:: .int .i64 d.Code::mBL B (l.flatMap rDiag))=_
  rw[rD_mv B l];rfl
theorem sfF_mv (B:St) (args:List PV) (S:St) (r:PV) (S':St) (h:sfF args S=some (r,S')):sfF (mBL B args) (mS B S)=some (mB B r,mS B S'):=by
 unfold sfF at h
 split at h
 ·rename_i g f
  split at h
  ·rename_i hf
   injection h with h;injection h with h1 h2;subst h1 h2
   subst hf;rfl
  ·cases h
 ·rename_i l o n sz f
  show sfF [.msl (B.obs.length+l) o n sz,.fn f [] []] (mS B S)=_
  unfold sfF
  simp only
  split at h
  ·rename_i hc
   rw[if_pos hc]
   simp only[mS_ob]
   split at h
   ·rename_i t cs hob
    rw[hob]
    simp only[Option.map_some,mBO,mvO]
    split at h
    ·rename_i hle
     have hl:(mvL B.obs.length B.own.length cs).length=cs.length:=mBL_len (B:=B) cs
     rw[if_pos (by rw[hl];exact hle)]
     split at h
     ·rename_i ds hds
      have e:((mvL B.obs.length B.own.length cs).drop o).take (n*3)=ds.flatMap rDiag:=by
       show ((mBL B cs).drop o).take (n*3)=_
       rw[mBL_drop,mBL_take,dgsOf_eq _ _ _ (Nat.le_refl _) hds,rD_mv]
      rw[e,dgsOf_map]
      injection h with h;injection h with h1 h2;subst h1 h2
      simp only[mS_obs_set,mBO,mvO]
      have e2:setRow (mBL B cs) o ((srtO ahD ds).flatMap rDiag)=mBL B (setRow cs o ((srtO ahD ds).flatMap rDiag)):=by
       conv=>lhs;rw[←rD_mv B (srtO ahD ds)]
       rw[setRow_mv]
      show some (_,_)=_
      rw[show mvL B.obs.length B.own.length cs=mBL B cs from rfl,e2]
      rfl
     ·cases h
    ·cases h
   ·cases h
  ·cases h
 ·cases h
end Go.PE
