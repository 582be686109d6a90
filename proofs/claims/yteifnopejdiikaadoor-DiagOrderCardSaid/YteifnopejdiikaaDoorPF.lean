/-
  Cells as a type asks, taken apart. Conditions: each law's own.
-/
import Derived.Test.YteifnopejdiikaaDoorPD
import Derived.Test.YteifnopejdiikaaDoorPE18
namespace Go.PE
open Go Go.RowKit
set_option linter.unusedVariables false
set_option linter.unusedSimpArgs false
def In64 (n:Int):Prop:= -9223372036854775808≤n∧n≤9223372036854775807
abbrev Short (n:Nat):Prop:=n≤maxLen
def rStr (s:ByteArray):List PV:=[.str s]
def rInt (n:Int):List PV:=[.int .i64 n]
def rByte (b:UInt8):List PV:=[.int .u8 (b.toNat:Int)]
theorem rStr_eq (s:ByteArray):rStr s=[.str s]:=rfl
theorem rInt_eq (n:Int):rInt n=[.int .i64 n]:=rfl
theorem rByte_eq (b:UInt8):rByte b=[.int .u8 (b.toNat:Int)]:=rfl
theorem rStr_plain (s:ByteArray):PlainL (rStr s):=plain_cons (plain_str s) plain_nil
theorem rInt_plain (n:Int):PlainL (rInt n):=plain_cons (plain_int _ n) plain_nil
theorem rByte_plain (b:UInt8):PlainL (rByte b):=plain_cons (plain_int _ _) plain_nil
theorem headOk_nil (k:Nat):headOk k []=true:=rfl
theorem headOk_cons (k:Nat) (r:List PV) (l:List (List PV)):headOk k (r::l)=(r.length==k):=rfl
theorem setRow_spec: ∀ (ps cs:List PV) (o:Nat),o+ps.length≤cs.length→setRow cs o ps=cs.take o++ps++cs.drop (o+ps.length)
 |[],cs,o,h=>by simp[setRow]
 |p::ps,cs,o,h=>by
  simp only[List.length_cons] at h
  rw[setRow,setRow_spec ps _ (o+1) (by simp;omega)]
  have h1:(cs.set o p).take (o+1)=cs.take o++[p]:=by
   have hm:min o cs.length=o:=by omega
   rw[List.set_eq_take_append_cons_drop,if_pos (by omega),List.take_append]
   simp[hm]
   exact List.take_of_length_le (by simp;omega)
  have h2:(cs.set o p).drop (o+1+ps.length)=cs.drop (o+(ps.length+1)):=by
   rw[List.drop_set_of_lt (by omega)]
   congr 1;omega
  rw[h1,h2]
  simp
theorem setRow_all {cs ps:List PV} (h:cs.length=ps.length):setRow cs 0 ps=ps:=by
 rw[setRow_spec ps cs 0 (by omega)]
 simp[h,List.drop_eq_nil_of_le]
theorem app_get {α:Type} (l m:List α) (k:Nat):(l++m)[l.length+k]?=m[k]?:=by
 rw[List.getElem?_append_right (by omega)];congr 1;omega
theorem app_get0 {α:Type} (l m:List α):(l++m)[l.length]?=m[0]?:=app_get l m 0
theorem app_set {α:Type} (l m:List α) (k:Nat) (x:α):(l++m).set (l.length+k) x=l++m.set k x:=by
 rw[List.set_append_right _ _ (by omega)];congr 2;omega
theorem app_set0 {α:Type} (l m:List α) (x:α):(l++m).set l.length x=l++m.set 0 x:=app_set l m 0 x
theorem rStr_sll (n:Nat) (d:Nat→Nat→Option PV) (l:List ByteArray):sealLL n d (l.map rStr)=some (l.map rStr):=plainLL_map (fun x _=>rStr_plain x) n d
theorem rInt_sll (n:Nat) (d:Nat→Nat→Option PV) (l:List Int):sealLL n d (l.map rInt)=some (l.map rInt):=plainLL_map (fun x _=>rInt_plain x) n d
theorem rByte_sll (n:Nat) (d:Nat→Nat→Option PV) (l:List UInt8):sealLL n d (l.map rByte)=some (l.map rByte):=plainLL_map (fun x _=>rByte_plain x) n d
theorem rStr_ok (l:List ByteArray):headOk 1 (l.map rStr)=true:=headOk_map (f:=rStr) (fun _=>rfl) l
theorem rInt_ok (l:List Int):headOk 1 (l.map rInt)=true:=headOk_map (f:=rInt) (fun _=>rfl) l
theorem rByte_ok (l:List UInt8):headOk 1 (l.map rByte)=true:=headOk_map (f:=rByte) (fun _=>rfl) l
section
variable {P:Program} {t e:TypeId} {cs:List PV}
theorem fit_int {k:IntKind} (hu:P.underlying t=some (.int k)) (h:Fit P t cs): ∃ n,cs=[.int k n]∧(Lit.int k n).wf=true:=by
 cases h<;>simp_all
theorem fit_int64 (hu:P.underlying t=some (.int .i64)) (h:Fit P t cs): ∃ n,cs=[.int .i64 n]∧In64 n:=by
 obtain ⟨n,h1,h2⟩:=fit_int hu h
 exact ⟨n,h1,bounds_i64 h2⟩
theorem fit_str (hu:P.underlying t=some .string) (h:Fit P t cs): ∃ s,cs=[.str s]∧Short s.size:=by
 cases h<;>simp_all
theorem fit_sl (hu:P.underlying t=some (.slice e)) (h:Fit P t cs): ∃ xs,cs=[.sl .ro xs]∧Short xs.length∧ ∀ (j:Nat) r,xs[j]?=some r→Fit P e r:=by
 cases h with
 |sl t e' xs h hl hr=>rw[hu] at h;injection h with h;injection h with h;subst h;exact ⟨xs,rfl,hl,hr⟩
 |_=>simp_all
theorem fit_struct {fs:Array Field} (hu:P.underlying t=some (.struct fs)) (h:Fit P t cs):cs.length=P.cellsOf t∧ ∀ (i:Nat) (f:Field),fs[i]?=some f→Fit P f.type ((cs.drop f.offset).take (P.cellsOf f.type)):=by
 cases h with
 |struct t fs' cs h hl hf=>rw[hu] at h;injection h with h;injection h with h;subst h;exact ⟨hl,hf⟩
 |_=>simp_all
theorem rows_of {α:Type} {row:α→List PV} {ok:α→Prop}: ∀ {xs:List (List PV)},(∀ (j:Nat) r,xs[j]?=some r→ ∃ a,r=row a∧ok a)→ ∃ l:List α,xs=l.map row∧ ∀ a∈l,ok a
 |[],_=>⟨[],rfl,by simp⟩
 |r::xs,h=>by
  obtain ⟨a,rfl,ha⟩:=h 0 r rfl
  obtain ⟨l,rfl,hl⟩:=rows_of (xs:=xs) fun j r hj=>h (j+1) r (by simpa using hj)
  exact ⟨a::l,rfl,fun b hb=>(List.mem_cons.1 hb).elim (fun e=>e▸ha) (hl b)⟩
theorem fit_list {α:Type} {row:α→List PV} {ok:α→Prop} (hu:P.underlying t=some (.slice e)) (hd: ∀ r,Fit P e r→ ∃ a,r=row a∧ok a) (h:Fit P t cs): ∃ l:List α,cs=[.sl .ro (l.map row)]∧Short l.length∧ ∀ a∈l,ok a:=by
 obtain ⟨xs,rfl,h1,h2⟩:=fit_sl hu h
 obtain ⟨l,rfl,h3⟩:=rows_of fun j r hj=>hd r (h2 j r hj)
 exact ⟨l,rfl,by simpa using h1,h3⟩
theorem cut1 (cs:List PV) (o s o':Nat) (h:o'=o+s):cs.drop o=(cs.drop o).take s++cs.drop o':=by
 subst h
 rw[←List.drop_drop]
 exact (List.take_append_drop s _).symm
end
end Go.PE
