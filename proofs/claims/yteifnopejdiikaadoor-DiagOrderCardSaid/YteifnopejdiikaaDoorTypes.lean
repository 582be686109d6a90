/-
  The data types of this seat's laws as Lean types: rows of cells, and how what is handed in is read as them. (Printed by a program.) Conditions: each law's own.
-/
import Derived.Test.YteifnopejdiikaaDoorPF
import Derived.Test.YteifnopejdiikaaDoorProg
namespace Go.PE
open Go Go.RowKit Go.Proofs
set_option linter.unusedVariables false
set_option linter.unusedSimpArgs false
set_option maxRecDepth 100000
structure GLabel where
 Def:ByteArray
 Node:Int
 deriving DecidableEq,Inhabited
def rLabel (v:GLabel):List PV:=[.str v.Def,.int .i64 v.Node]
theorem rLabel_eq (v:GLabel):rLabel v=[.str v.Def,.int .i64 v.Node]:=rfl
theorem rLabel_len (v:GLabel):(rLabel v).length=2:=by simp[rLabel]
theorem rLabel_plain (v:GLabel):PlainL (rLabel v):=by
 unfold rLabel
 (try simp only[List.cons_append,List.nil_append])
 exact plain_cons (plain_str _) (plain_cons (plain_int _ _) (plain_nil))
theorem rLabel_sll (n:Nat) (d:Nat→Nat→Option PV) (l:List GLabel):sealLL n d (l.map rLabel)=some (l.map rLabel):=plainLL_map (fun x _=>rLabel_plain x) n d
theorem rLabel_ok (l:List GLabel):headOk 2 (l.map rLabel)=true:=headOk_map rLabel_len l
structure OkLabel (v:GLabel):Prop where
 Def:Short v.Def.size
 Node:In64 v.Node
theorem sz3:Tryd.prog.cellsOf 3=1:=by kernel_rfl
theorem sz9:Tryd.prog.cellsOf 9=1:=by kernel_rfl
theorem sz28:Tryd.prog.cellsOf 28=2:=by kernel_rfl
theorem rLabel_fits {cs:List PV} (h:Fit Tryd.prog 28 cs): ∃ x,cs=rLabel x∧OkLabel x:=by
 obtain ⟨hlen,hf⟩:=fit_struct Tryd.underlying28 h
 have f0:Fit Tryd.prog 9 (List.take (Tryd.prog.cellsOf 9) (List.drop 0 cs)):=hf 0 _ rfl
 rw[sz9] at f0
 obtain ⟨x0,e0,k0⟩:=fit_str Tryd.underlying9 f0
 have f1:Fit Tryd.prog 3 (List.take (Tryd.prog.cellsOf 3) (List.drop 1 cs)):=hf 1 _ rfl
 rw[sz3] at f1
 obtain ⟨x1,e1,k1⟩:=fit_int64 Tryd.underlying3 f1
 have z:cs.drop 2=[]:=List.drop_eq_nil_of_le (by rw[hlen,sz28];exact Nat.le_refl _)
 have hc:=cut1 cs 0 1 1 rfl
 rw[e0,cut1 cs 1 1 2 rfl,e1,z,List.drop_zero] at hc
 exact ⟨⟨x0,x1⟩,hc.trans (by first|rfl|simp[rLabel]),⟨k0,k1⟩⟩
structure GDiag where
 At:GLabel
 Code:Int
 deriving DecidableEq,Inhabited
def rDiag (v:GDiag):List PV:=[.str v.At.Def,.int .i64 v.At.Node,.int .i64 v.Code]
theorem rDiag_len (v:GDiag):(rDiag v).length=3:=by simp[rDiag,rLabel]
theorem rDiag_take (v:GDiag):(rDiag v).take 3=rDiag v:=by rw[List.take_of_length_le];rw[rDiag_len];exact Nat.le_refl _
theorem rDiag_s0_2 (v:GDiag):(rDiag v).take 2=rLabel v.At:=by simp[rDiag,rLabel]
theorem rDiag_g0 (v:GDiag):(rDiag v)[0]?=some (.str v.At.Def):=by simp[rDiag,rLabel]
theorem rDiag_g1 (v:GDiag):(rDiag v)[1]?=some (.int .i64 v.At.Node):=by simp[rDiag,rLabel]
theorem rDiag_g2 (v:GDiag):(rDiag v)[2]?=some (.int .i64 v.Code):=by simp[rDiag,rLabel]
theorem rDiag_set {cs:List PV} (v:GDiag) (h:cs.length=3):setRow cs 0 (rDiag v)=rDiag v:=setRow_all (by rw[h,rDiag_len])
theorem rDiag_plain (v:GDiag):PlainL (rDiag v):=by
 unfold rDiag
 (try simp only[List.cons_append,List.nil_append])
 exact plain_cons (plain_str _) (plain_cons (plain_int _ _) (plain_cons (plain_int _ _) (plain_nil)))
theorem rDiag_sl (n:Nat) (d:Nat→Nat→Option PV) (v:GDiag):sealL n d (rDiag v)=some (rDiag v):=rDiag_plain v n d
theorem rDiag_sll (n:Nat) (d:Nat→Nat→Option PV) (l:List GDiag):sealLL n d (l.map rDiag)=some (l.map rDiag):=plainLL_map (fun x _=>rDiag_plain x) n d
theorem rDiag_ok (l:List GDiag):headOk 3 (l.map rDiag)=true:=headOk_map rDiag_len l
structure OkDiag (v:GDiag):Prop where
 At:OkLabel v.At
 Code:In64 v.Code
theorem sz29:Tryd.prog.cellsOf 29=1:=by kernel_rfl
theorem sz31:Tryd.prog.cellsOf 31=3:=by kernel_rfl
theorem rDiag_fits {cs:List PV} (h:Fit Tryd.prog 31 cs): ∃ x,cs=rDiag x∧OkDiag x:=by
 obtain ⟨hlen,hf⟩:=fit_struct Tryd.underlying31 h
 have f0:Fit Tryd.prog 28 (List.take (Tryd.prog.cellsOf 28) (List.drop 0 cs)):=hf 0 _ rfl
 rw[sz28] at f0
 obtain ⟨x0,e0,k0⟩:=rLabel_fits f0
 have f1:Fit Tryd.prog 29 (List.take (Tryd.prog.cellsOf 29) (List.drop 2 cs)):=hf 1 _ rfl
 rw[sz29] at f1
 obtain ⟨x1,e1,k1⟩:=fit_int64 Tryd.underlying29 f1
 have z:cs.drop 3=[]:=List.drop_eq_nil_of_le (by rw[hlen,sz31];exact Nat.le_refl _)
 have hc:=cut1 cs 0 2 2 rfl
 rw[e0,cut1 cs 2 1 3 rfl,e1,z,List.drop_zero] at hc
 exact ⟨⟨x0,x1⟩,hc.trans (by first|rfl|simp[rDiag,rLabel]),⟨k0,k1⟩⟩
def dataTypes:List TypeId:=[3,9,22,28,29,31]
theorem dataTypes_ok:plainTypes Tryd.prog dataTypes=true:=by kernel_rfl
end Go.PE
