/-
  A plain reading of Go code: values without addresses, and an evaluator of compiled code over them. Definitions alone. No conditions.
-/
import Derived.Tactics
import Derived.Orders
import Derived.Below
namespace Go.PE
set_option linter.unusedVariables false
inductive Tag where
 |ro|exact|null|own (k:Nat) (e:TypeId)
 deriving DecidableEq
inductive PV where
 |bool (b:Bool)
 |int (k:IntKind) (n:Int)
 |str (s:ByteArray)
 |nilp
 |ref (l o:Nat)
 |at_ (cs:List PV)
 |sl (g:Tag) (xs:List (List PV))
 |row (g:Tag) (xs:List (List PV))
 |fn (f:FuncId) (first caps:List PV)
 |nilfn
 |ifc (t:TypeId) (v:PV)
 |nilifc
 |agg (cs:List PV)
 |tup (vs:List PV)
 |yld (l:Nat)
 |mp (l:Nat)
 |nilm
 |msl (l o n sz:Nat)
abbrev PV.un:PV:= .tup []
instance:Inhabited PV:=⟨.un⟩
def PV.okc:PV→Bool
 | .tup _=>false
 |_=>true
def PV.cells:PV→List PV
 | .agg cs=>cs
 |v=>[v]
mutual
def PV.beq:PV→PV→Bool
 | .bool a,.bool b=>a==b
 | .int k a,.int l b=>k==l&&a==b
 | .str a,.str b=>a.data.toList==b.data.toList
 | .nilp,.nilp=>true
 | .ref l o,.ref l' o'=>l==l'&&o==o'
 | .at_ a,.at_ b=>beqL a b
 | .sl g a,.sl h b=>g==h&&beqLL a b
 | .row g a,.row h b=>g==h&&beqLL a b
 | .fn f a b,.fn f' a' b'=>f==f'&&beqL a a'&&beqL b b'
 | .nilfn,.nilfn=>true
 | .ifc t v,.ifc t' v'=>t==t'&&v.beq v'
 | .nilifc,.nilifc=>true
 | .agg a,.agg b=>beqL a b
 | .tup a,.tup b=>beqL a b
 | .yld l,.yld l'=>l==l'
 | .mp l,.mp l'=>l==l'
 | .nilm,.nilm=>true
 | .msl l o n sz,.msl l' o' n' sz'=>l==l'&&o==o'&&n==n'&&sz==sz'
 |_,_=>false
def beqL:List PV→List PV→Bool
 |[],[]=>true
 |a::l,b::m=>a.beq b&&beqL l m
 |_,_=>false
def beqLL:List (List PV)→List (List PV)→Bool
 |[],[]=>true
 |a::l,b::m=>beqL a b&&beqLL l m
 |_,_=>false
end
mutual
theorem beq_sound: ∀ {a b:PV},a.beq b=true→a=b
 | .bool _,b,h=>by cases b<;>simp_all [PV.beq]
 | .int _ _,b,h=>by cases b<;>simp_all [PV.beq]
 | .str ⟨a⟩,b,h=>by
  cases b<;>simp[PV.beq] at h
  rename_i s;obtain ⟨s⟩:=s;simp_all
 | .nilp,b,h=>by cases b<;>simp_all [PV.beq]
 | .ref _ _,b,h=>by cases b<;>simp_all [PV.beq]
 | .at_ x,b,h=>by cases b<;>simp[PV.beq] at h;rw[beqL_sound h]
 | .sl g x,b,h=>by cases b<;>simp[PV.beq] at h;rw[h.1,beqLL_sound h.2]
 | .row g x,b,h=>by cases b<;>simp[PV.beq] at h;rw[h.1,beqLL_sound h.2]
 | .fn f x y,b,h=>by cases b<;>simp[PV.beq] at h;rw[h.1.1,beqL_sound h.1.2,beqL_sound h.2]
 | .nilfn,b,h=>by cases b<;>simp_all [PV.beq]
 | .ifc t x,b,h=>by cases b<;>simp[PV.beq] at h;rw[h.1,beq_sound h.2]
 | .nilifc,b,h=>by cases b<;>simp_all [PV.beq]
 | .agg x,b,h=>by cases b<;>simp[PV.beq] at h;rw[beqL_sound h]
 | .tup x,b,h=>by cases b<;>simp[PV.beq] at h;rw[beqL_sound h]
 | .yld _,b,h=>by cases b<;>simp_all [PV.beq]
 | .mp _,b,h=>by cases b<;>simp_all [PV.beq]
 | .nilm,b,h=>by cases b<;>simp_all [PV.beq]
 | .msl _ _ _ _,b,h=>by cases b<;>simp_all [PV.beq]
theorem beqL_sound: ∀ {a b:List PV},beqL a b=true→a=b
 |[],[],_=>rfl
 |[],_::_,h=>by simp[beqL] at h
 |_::_,[],h=>by simp[beqL] at h
 |x::l,y::m,h=>by simp[beqL] at h;rw[beq_sound h.1,beqL_sound h.2]
theorem beqLL_sound: ∀ {a b:List (List PV)},beqLL a b=true→a=b
 |[],[],_=>rfl
 |[],_::_,h=>by simp[beqLL] at h
 |_::_,[],h=>by simp[beqLL] at h
 |x::l,y::m,h=>by simp[beqLL] at h;rw[beqL_sound h.1,beqLL_sound h.2]
end
mutual
theorem beq_refl: ∀ a:PV,a.beq a=true
 | .bool _=>by simp[PV.beq]
 | .int _ _=>by simp[PV.beq]
 | .str _=>by simp[PV.beq]
 | .nilp=>by simp[PV.beq]
 | .ref _ _=>by simp[PV.beq]
 | .at_ x=>by simp[PV.beq,beqL_refl x]
 | .sl _ x=>by simp[PV.beq,beqLL_refl x]
 | .row _ x=>by simp[PV.beq,beqLL_refl x]
 | .fn _ x y=>by simp[PV.beq,beqL_refl x,beqL_refl y]
 | .nilfn=>by simp[PV.beq]
 | .ifc _ x=>by simp[PV.beq,beq_refl x]
 | .nilifc=>by simp[PV.beq]
 | .agg x=>by simp[PV.beq,beqL_refl x]
 | .tup x=>by simp[PV.beq,beqL_refl x]
 | .yld _=>by simp[PV.beq]
 | .mp _=>by simp[PV.beq]
 | .nilm=>by simp[PV.beq]
 | .msl _ _ _ _=>by simp[PV.beq]
theorem beqL_refl: ∀ a:List PV,beqL a a=true
 |[]=>by simp[beqL]
 |x::l=>by simp[beqL,beq_refl x,beqL_refl l]
theorem beqLL_refl: ∀ a:List (List PV),beqLL a a=true
 |[]=>by simp[beqLL]
 |x::l=>by simp[beqLL,beqL_refl x,beqLL_refl l]
end
instance:DecidableEq PV:=fun a b=>if h:a.beq b=true then isTrue (beq_sound h) else isFalse fun e=>h (e▸beq_refl a)
inductive EOpd where
 |tmp (t:Nat)
 |con (v:PV)
 |glob (g:Nat)
 deriving DecidableEq
inductive EOp where
 |mv (x:EOpd)
 |pick (c a b:EOpd)
 |new (t:TypeId) (zero:List PV)
 |box (t:TypeId) (x:EOpd)
 |boxI (t:TypeId) (x:EOpd)
 |build (zero:List PV) (parts:List (Nat×Nat×EOpd))
 |rows (n sz:Nat) (zero:List PV) (parts:List (Nat×EOpd))
 |mks (e:TypeId) (sz bytes:Nat) (zero:List PV) (n c:EOpd)
 |ld (n:Option Nat) (a:EOpd)
 |st (n:Nat) (a x:EOpd)
 |nck (x:EOpd)
 |bin (op:BinOp) (x y:EOpd)
 |eqB (neg:Bool) (x y:EOpd)
 |eqP (neg:Bool) (x y:EOpd)
 |eqI (neg:Bool) (x y:EOpd)
 |eqL (neg:Bool) (x y:EOpd)
 |eqG (neg:Bool) (n:Nat) (offs:List (Nat×Nat)) (x y:EOpd)
 |un (op:UnOp) (x:EOpd)
 |cvI (k:IntKind) (x:EOpd)
 |cvS (x:EOpd)
 |s2b (x:EOpd)
 |b2s (x:EOpd)
 |ifc (t:TypeId) (x:EOpd)
 |fnv (f:FuncId) (first caps:List EOpd)
 |slS (x:EOpd) (lo hi:Option EOpd)
 |slL (sz:Nat) (x:EOpd) (lo hi mx:Option EOpd)
 |fA (off:Nat) (x:EOpd)
 |fld (off:Nat) (n:Option Nat) (x:EOpd)
 |ixL (sz:Nat) (x i:EOpd)
 |ixP (len sz:Nat) (x i:EOpd)
 |ixS (x i:EOpd)
 |ixG (len sz:Nat) (n:Option Nat) (x i:EOpd)
 |rng (x:EOpd)
 |nxt (x:EOpd)
 |ext (x:EOpd) (i:Nat)
 |len (s:Bool) (x:EOpd)
 |app (e:TypeId) (sz bytes:Nat) (x y:EOpd)
 |apS (e:TypeId) (x y:EOpd)
 |usd (x:EOpd)
 |ust (e:TypeId) (x n:EOpd)
 |mx (mn:Bool) (x y:EOpd)
 |rcv
 |call (f:EOpd) (args:List EOpd)
 |callM (f:EOpd) (args:List EOpd)
 |mksM (t:TypeId) (sz bytes:Nat) (zero:List PV) (n c:EOpd)
 |appM (e:TypeId) (sz bytes:Nat) (x y:EOpd)
 |cpy (sz:Nat) (x y:EOpd)
 |clr (sz:Nat) (zero:List PV) (x:EOpd)
 |tas (t:TypeId) (ok:Bool) (zero:PV) (x:EOpd)
 |mkm
 |lkp (zero:PV) (ok:Bool) (m k:EOpd)
 |mup (m k x:EOpd)
 |men (zero:PV) (m k:EOpd)
 |mst (m s x:EOpd)
 |mdl (m k:EOpd)
 |mln (m:EOpd)
 |pnc (x:EOpd)
 deriving DecidableEq
inductive EK where
 |no|still|lds (l:List (Option Nat×EOpd))|obs
 deriving DecidableEq
structure EQ where
 k:EK
 pn:Bool
 deriving DecidableEq
structure EI where
 dst:Option Nat
 op:EOp
 guard:Option (Nat×Bool)
 q:EQ
 deriving DecidableEq
inductive EC where
 |skip
 |reg (id:Nat) (ops:List EI) (draw:Bool) (keep:Option (List Nat))
 |seq (a b:EC)
 |cond (c:EOpd) (a b:EC)
 |block (id:Nat) (c:EC)
 |loop (keep:Option (List Nat)) (c:EC)
 |exit (id:Nat)
 |ret
 |regP (id:Nat) (ops:List EI) (draw:Bool) (keep:Option (List Nat))
 |rangeF (keep:Option (List Nat)) (g:EOpd) (ps:List Nat) (asg bd:EC)
 deriving DecidableEq
inductive ERes where
 |tmp (t:Nat)
 |cell (a:Nat) (n:Option Nat)
structure EFn where
 np:Nat
 ntmps:Nat
 res:List ERes
 body:EC
 dfr:Option (List EI×List EI×EOpd):=none
 rc:Bool:=false
inductive EX where
 |normal|exit (id:Nat)|ret|pan (v:PV)
abbrev Tmps:=List (Nat×Option PV)
structure ELoop where
 ps:List Nat
 asg:EC
 bd:EC
 ts:List (Nat×Option PV)
 st:Nat
 pend:Option (Option Nat)
 deriving DecidableEq
inductive Ob where
 |cells (t:TypeId) (cs:List PV)
 |iter (s:ByteArray) (pos:Nat)
 |loop (r:ELoop)
 |map (es:List (ByteArray×PV×Nat)) (clock:Nat)
 |row (t:TypeId) (cs:List PV)
 |dead
def beqM:List (ByteArray×PV×Nat)→List (ByteArray×PV×Nat)→Bool
 |[],[]=>true
 |(k,v,n)::l,(k',v',n')::m=>k.data.toList==k'.data.toList&&v.beq v'&&n==n'&&beqM l m
 |_,_=>false
def Ob.beq:Ob→Ob→Bool
 | .cells t a,.cells u b=>t==u&&beqL a b
 | .iter s p,.iter t q=>s.data.toList==t.data.toList&&p==q
 | .loop r,.loop r'=>decide (r=r')
 | .map es c,.map es' c'=>beqM es es'&&c==c'
 | .row t a,.row u b=>t==u&&beqL a b
 | .dead,.dead=>true
 |_,_=>false
def beqO:List Ob→List Ob→Bool
 |[],[]=>true
 |a::l,b::m=>a.beq b&&beqO l m
 |_,_=>false
structure St where
 obs:List Ob
 own:List Nat
def St.beq (a b:St):Bool:=beqO a.obs b.obs&&a.own==b.own
def look:Tmps→Nat→Option PV
 |[],_=>none
 |(k,v)::l,d=>if d=k then v else look l d
def sel (ks:Option (List Nat)) (ts:Tmps):Tmps:=
 match ks with
 |none=>ts
 |some ks=>ks.map fun k=>(k,look ts k)
abbrev CallFn:=FuncId→List PV→St→Option (PV×St)
structure Glob where
 tab:Nat→Option (List PV)
 blk:Nat→Option Obj
 prog:Program:=default
abbrev yid:Nat:=1000000
def EOpd.isCon:EOpd→Bool
 | .con _=>true
 |_=>false
def EOpd.val (G:Glob) (ts:Tmps):EOpd→Option PV
 | .tmp t=>look ts t
 | .con v=>some v
 | .glob g=>(G.tab g).map .at_
def vals (G:Glob) (ts:Tmps):List EOpd→Option (List PV)
 |[]=>some []
 |x::l=>(x.val G ts).bind fun v=>(vals G ts l).map (v:: ·)
def setRow (cs:List PV) (off:Nat):List PV→List PV
 |[]=>cs
 |v::l=>setRow (cs.set off v) (off+1) l
def fillP (G:Glob) (ts:Tmps) (cells:List PV):List (Nat×Nat×EOpd)→Option (List PV)
 |[]=>some cells
 |(off,size,x)::rest=>(x.val G ts).bind fun v=>
  if !v.okc||v.cells.length≠size||off+v.cells.length>cells.length then none else fillP G ts (setRow cells off v.cells) rest
def rowOf (cells:List PV) (n:Option Nat):Option PV:=
 match n with
 |none=>cells[0]?
 |some n=>if n≤cells.length then some (.agg (cells.take n)) else none
def St.cells (S:St) (l:Nat):Option (List PV):=
 match S.obs[l]? with
 |some (.cells _ cs)=>some cs
 |some (.row _ cs)=>some cs
 |_=>none
def derefP (S:St):PV→Option (List PV)
 | .at_ cs=>some cs
 | .ref l o=>(S.cells l).map (·.drop o)
 |_=>none
def chunk (sz:Nat):Nat→List PV→List (List PV)
 |0,_=>[]
 |n+1,cs=>cs.take sz::chunk sz n (cs.drop sz)
def repRow (zero:List PV):Nat→List PV
 |0=>[]
 |n+1=>zero++repRow zero n
def boundP (x:Option PV) (dflt top:Nat):Option Nat:=
 match x with
 |none=>some dflt
 |some (.int _ i)=>if 0≤i∧i≤(top:Int) then some i.toNat else none
 |some _=>none
def optVal (G:Glob) (ts:Tmps):Option EOpd→Option (Option PV)
 |none=>some none
 |some x=>(x.val G ts).map some
def strEq (a b:ByteArray):Bool:=a.data.toList==b.data.toList
def strLt (a b:ByteArray):Bool:=Op.bytesLess a.data.toList b.data.toList
def binP (op:BinOp):PV→PV→Option PV
 | .int k a,.int k' b=>
  match op with
  | .shl=>if b<0 then none else some (.int k (k.wrap (a*2 ^ (min b.toNat k.bits))))
  | .shr=>if b<0 then none else some (.int k (a.fdiv (2 ^ (min b.toNat k.bits))))
  | .add=>if k=k' then some (.int k (k.wrap (a+b))) else none
  | .sub=>if k=k' then some (.int k (k.wrap (a - b))) else none
  | .mul=>if k=k' then some (.int k (k.wrap (a*b))) else none
  | .quo=>if k=k'∧b≠0 then some (.int k (k.wrap (a.tdiv b))) else none
  | .rem=>if k=k'∧b≠0 then some (.int k (a.tmod b)) else none
  | .and=>if k=k' then some (.int k (k.wrap (BitVec.ofInt k.bits a&&&BitVec.ofInt k.bits b).toNat)) else none
  | .or=>if k=k' then some (.int k (k.wrap (BitVec.ofInt k.bits a|||BitVec.ofInt k.bits b).toNat)) else none
  | .xor=>if k=k' then some (.int k (k.wrap (BitVec.ofInt k.bits a ^^^ BitVec.ofInt k.bits b).toNat)) else none
  | .andNot=>if k=k' then some (.int k (k.wrap (BitVec.ofInt k.bits a&&& ~~~BitVec.ofInt k.bits b).toNat)) else none
  | .eql=>if k=k' then some (.bool (a==b)) else none
  | .neq=>if k=k' then some (.bool (a !=b)) else none
  | .lss=>if k=k' then some (.bool (a<b)) else none
  | .leq=>if k=k' then some (.bool (a≤b)) else none
  | .gtr=>if k=k' then some (.bool (a>b)) else none
  | .geq=>if k=k' then some (.bool (a≥b)) else none
 | .str a,.str b=>
  match op with
  | .add=>if ((a.size+b.size:Nat):Int)>9223372036854775807 then none else some (.str (a++b))
  | .eql=>some (.bool (strEq a b))
  | .neq=>some (.bool !(strEq a b))
  | .lss=>some (.bool (strLt a b))
  | .leq=>some (.bool (strLt a b||strEq a b))
  | .gtr=>some (.bool !(strLt a b||strEq a b))
  | .geq=>some (.bool !(strLt a b))
  |_=>none
 |_,_=>none
def eqAtom:Nat→PV→PV→Option Bool
 |0,.int k a,.int k' b=>if k=k' then some (a==b) else none
 |1,.str a,.str b=>some (strEq a b)
 |2,.bool a,.bool b=>some (a==b)
 |_,_,_=>none
def eqCells (a b:List PV):List (Nat×Nat)→Option Bool
 |[]=>some true
 |(o,k)::l=>match a[o]?,b[o]? with
  |some x,some y=>match eqAtom k x y with
   |some true=>eqCells a b l
   |some false=>some false
   |none=>none
  |_,_=>none
def bytesOf:List (List PV)→Option (List UInt8)
 |[]=>some []
 |[.int .u8 n]::l=>if 0≤n∧n<256 then (bytesOf l).map (UInt8.ofNat n.toNat:: ·) else none
 |_::_=>none
def rowsOfBytes (l:List UInt8):List (List PV):=l.map fun b=>[.int .u8 (b.toNat:Int)]
def headOk (sz:Nat):List (List PV)→Bool
 |[]=>true
 |r::_=>r.length==sz
def appP (S:St) (e:TypeId) (sz bytes:Nat) (g:Tag) (xs ys:List (List PV)):Option (PV×St):=
 if ys.isEmpty then some (.sl g xs,S)
 else if (xs.length+ys.length)*bytes≤140737488355328∧xs.length+ys.length≤9223372036854775807∧0<sz∧headOk sz xs=true∧headOk sz ys=true then
  match g with
  | .ro=>none
  | .own k e'=>if e'=e∧S.own[k]?=some (xs.length*sz) then some (.sl (.own k e) (xs++ys),{S with own:=S.own.set k ((xs.length+ys.length)*sz)}) else none
  |_=>some (.sl (.own S.own.length e) (xs++ys),{S with own:=S.own++[(xs.length+ys.length)*sz]})
 else none
def appM (S:St) (e:TypeId) (sz bytes:Nat) (x:PV) (ys:List (List PV)):Option (PV×St):=
 if ys.isEmpty then
  match x with
  | .sl g []=>some (.sl g [],S)
  | .msl l o n s=>some (.msl l o n s,S)
  |_=>none
 else if 0<sz∧headOk sz ys=true then
  match x with
  | .sl g []=>if (g= .null∨g= .exact)∧ys.length*bytes≤140737488355328∧ys.length≤9223372036854775807 then some (.msl S.obs.length 0 ys.length sz,{S with obs:=S.obs++[.row e ys.flatten]}) else none
  | .msl l o n s=>match S.obs[l]? with
   |some (.row e' cs)=>if (e'=e∧s=sz∧o=0)∧cs.length=n*sz∧0<n∧(n+ys.length)*bytes≤140737488355328∧n+ys.length≤9223372036854775807 then
     some (.msl S.obs.length 0 (n+ys.length) sz,{S with obs:=S.obs.set l .dead++[.row e (cs++ys.flatten)]}) else none
   |_=>none
  |_=>none
 else none
def idxP:PV→Nat→Option Nat
 | .int _ i,n=>if 0≤i∧i<(n:Int) then some i.toNat else none
 |_,_=>none
def findM (s:ByteArray):List (ByteArray×PV×Nat)→Option (PV×Nat)
 |[]=>none
 |(k,v,n)::l=>if strEq s k then some (v,n) else findM s l
def setM (s:ByteArray) (x:PV):List (ByteArray×PV×Nat)→List (ByteArray×PV×Nat)
 |[]=>[]
 |(k,v,n)::l=>if strEq s k then (k,x,n)::l else (k,v,n)::setM s x l
def setB (m:Int) (x:PV):List (ByteArray×PV×Nat)→Option (List (ByteArray×PV×Nat))
 |[]=>none
 |(k,v,n)::l=>if (n:Int)=m then some ((k,x,n)::l) else (setB m x l).map ((k,v,n):: ·)
def delM (s:ByteArray):List (ByteArray×PV×Nat)→List (ByteArray×PV×Nat)
 |[]=>[]
 |(k,v,n)::l=>if strEq s k then l else (k,v,n)::delM s l
def evOp (G:Glob) (call:CallFn) (ts:Tmps) (S:St):EOp→Option (PV×St)
 | .mv x=>(x.val G ts).map (·,S)
 | .pick c a b=>match c.val G ts with
  |some (.bool t)=>((if t then a else b).val G ts).map (·,S)
  |_=>none
 | .new t zero=>some (.ref S.obs.length 0,{S with obs:=S.obs++[.cells t zero]})
 | .box t x=>(x.val G ts).bind fun v=>if !v.okc then none else some (.ref S.obs.length 0,{S with obs:=S.obs++[.cells t v.cells]})
 | .boxI _ x=>(x.val G ts).bind fun v=>if !v.okc then none else some (.at_ v.cells,S)
 | .build zero parts=>(fillP G ts zero parts).map (.agg ·,S)
 | .rows n sz zero parts=>(fillP G ts (repRow zero n) (parts.map fun (i,x)=>(i*sz,sz,x))).bind fun cs=>
   if cs.length=n*sz then some (.sl .exact (chunk sz n cs),S) else none
 | .mks _ sz bytes zero x y=>match x.val G ts,y.val G ts with
  |some (.int _ a),some (.int _ b)=>if 0≤a∧a=b∧a*bytes≤140737488355328∧a≤9223372036854775807 then some (.sl .exact (chunk sz a.toNat (repRow zero a.toNat)),S) else none
  |_,_=>none
 | .ld n a=>(a.val G ts).bind fun p=>(derefP S p).bind fun cs=>(rowOf cs n).map (·,S)
 | .st n a x=>match a.val G ts,x.val G ts with
  |some (.ref l o),some v=>match S.obs[l]? with
   |some (.cells t cs)=>if v.okc=true∧v.cells.length=n∧o+n≤cs.length then some (.un,{S with obs:=S.obs.set l (.cells t (setRow cs o v.cells))}) else none
   |some (.row t cs)=>if v.okc=true∧v.cells.length=n∧o+n≤cs.length then some (.un,{S with obs:=S.obs.set l (.row t (setRow cs o v.cells))}) else none
   |_=>none
  |_,_=>none
 | .nck x=>match x.val G ts with
  |some (.ref l o)=>some (.ref l o,S)
  |some (.at_ cs)=>some (.at_ cs,S)
  |_=>none
 | .bin op x y=>match x.val G ts,y.val G ts with
  |some a,some b=>(binP op a b).map (·,S)
  |_,_=>none
 | .eqB neg x y=>match x.val G ts,y.val G ts with
  |some (.bool a),some (.bool b)=>some (.bool (neg !=(a==b)),S)
  |_,_=>none
 | .eqP neg x y=>match x.val G ts,y.val G ts with
  |some .nilp,some .nilp=>some (.bool (neg !=true),S)
  |some .nilp,some (.at_ _)|some (.at_ _),some .nilp|some .nilp,some (.ref _ _)|some (.ref _ _),some .nilp=>some (.bool (neg !=false),S)
  |_,_=>none
 | .eqI neg x y=>match x.val G ts,y.val G ts with
  |some .nilifc,some (.ifc _ _)|some (.ifc _ _),some .nilifc=>some (.bool (neg !=false),S)
  |some .nilifc,some .nilifc=>if x.isCon=true∨y.isCon=true then some (.bool (neg !=true),S) else none
  |_,_=>none
 | .eqL neg x y=>match x.val G ts,y.val G ts with
  |some (.sl .null _),some (.sl .null _)=>some (.bool (neg !=true),S)
  |some (.sl .null _),some (.sl _ (_::_))|some (.sl _ (_::_)),some (.sl .null _)=>some (.bool (neg !=false),S)
  |some (.sl .null _),some (.msl _ _ _ _)|some (.msl _ _ _ _),some (.sl .null _)=>some (.bool (neg !=false),S)
  |_,_=>none
 | .eqG neg n offs x y=>match x.val G ts,y.val G ts with
  |some (.agg a),some (.agg b)=>if a.length=n∧b.length=n then (eqCells a b offs).map fun t=>(.bool (neg !=t),S) else none
  |_,_=>none
 | .un op x=>match op,x.val G ts with
  | .neg,some (.int k n)=>some (.int k (k.wrap (0 - n)),S)
  | .not,some (.bool b)=>some (.bool !b,S)
  |_,_=>none
 | .cvI k x=>match x.val G ts with
  |some (.int _ n)=>some (.int k (k.wrap n),S)
  |_=>none
 | .cvS x=>match x.val G ts with
  |some (.str s)=>some (.str s,S)
  |_=>none
 | .s2b x=>match x.val G ts with
  |some (.str s)=>some (.sl .ro (rowsOfBytes s.data.toList),S)
  |_=>none
 | .b2s x=>match x.val G ts with
  |some (.sl _ xs)=>(bytesOf xs).map fun l=>(.str ⟨l.toArray⟩,S)
  |_=>none
 | .ifc t x=>(x.val G ts).map (.ifc t ·,S)
 | .fnv f first caps=>match vals G ts first,vals G ts caps with
  |some a,some b=>some (.fn f a b,S)
  |_,_=>none
 | .slS x lo hi=>match x.val G ts,optVal G ts lo,optVal G ts hi with
  |some (.str s),some lo,some hi=>(boundP hi s.size s.size).bind fun h=>(boundP lo 0 h).bind fun l=>some (.str (s.extract l h),S)
  |_,_,_=>none
 | .slL sz x lo hi mx=>match x.val G ts,optVal G ts lo,optVal G ts hi,optVal G ts mx with
  |some (.sl g xs),some lo,some hi,some mx=>if (mx.isSome&&hi.isNone)|| !headOk sz xs then none else (boundP mx xs.length xs.length).bind fun m=>(boundP hi (min m xs.length) m).bind fun h=>(boundP lo 0 h).bind fun l=>
    some (.sl (if mx.isSome∧m=h then .exact else if xs.isEmpty then g else .ro) ((xs.take h).drop l),S)
  |some (.msl k o n s),some lo,some hi,some none=>if s≠sz then none else (boundP hi n n).bind fun h=>(boundP lo 0 h).bind fun l=>some (.msl k (o+l*sz) (h - l) sz,S)
  |_,_,_,_=>none
 | .fA off x=>match x.val G ts with
  |some (.ref l o)=>some (.ref l (o+off),S)
  |some (.at_ cs)=>if off≤cs.length then some (.at_ (cs.drop off),S) else none
  |_=>none
 | .fld off n x=>match x.val G ts with
  |some (.agg cs)=>(rowOf (cs.drop off) n).map (·,S)
  |_=>none
 | .ixL sz x i=>match x.val G ts,i.val G ts with
  |some (.sl _ xs),some iv=>(idxP iv xs.length).bind fun j=>(xs[j]?).bind fun r=>if r.length=sz then some (.at_ r,S) else none
  |some (.msl l o n s),some iv=>if s≠sz then none else (idxP iv n).map fun j=>(.ref l (o+j*sz),S)
  |_,_=>none
 | .ixP len sz x i=>match x.val G ts,i.val G ts with
  |some (.ref l o),some iv=>(idxP iv len).map fun j=>(.ref l (o+j*sz),S)
  |some (.at_ cs),some iv=>(idxP iv len).bind fun j=>if j*sz≤cs.length then some (.at_ (cs.drop (j*sz)),S) else none
  |_,_=>none
 | .ixS x i=>match x.val G ts,i.val G ts with
  |some (.str s),some iv=>(idxP iv s.size).bind fun j=>(s.data.toList[j]?).map fun b=>(.int .u8 (b.toNat:Int),S)
  |_,_=>none
 | .ixG len sz n x i=>match x.val G ts,i.val G ts with
  |some (.agg cs),some iv=>(idxP iv len).bind fun j=>(rowOf (cs.drop (j*sz)) n).map (·,S)
  |_,_=>none
 | .rng x=>match x.val G ts with
  |some (.str s)=>some (.ref S.obs.length 0,{S with obs:=S.obs++[.iter s 0]})
  |_=>none
 | .nxt x=>match x.val G ts with
  |some (.ref l 0)=>match S.obs[l]? with
   |some (.iter s pos)=>if pos<s.size then
     some (.tup [.bool true,.int .i64 pos,.int .i32 (Utf8.decode s pos).1],{S with obs:=S.obs.set l (.iter s (pos+(Utf8.decode s pos).2))})
    else some (.tup [.bool false],S)
   |_=>none
  |_=>none
 | .ext x i=>match x.val G ts with
  |some (.tup vs)=>(vs[i]?).map (·,S)
  |_=>none
 | .len st x=>match x.val G ts with
  |some (.str s)=>if st then some (.int .i64 s.size,S) else none
  |some (.sl _ xs)=>if st then none else some (.int .i64 xs.length,S)
  |some (.msl _ _ n _)=>if st then none else some (.int .i64 n,S)
  |_=>none
 | .app e sz bytes x y=>match x.val G ts,y.val G ts with
  |some (.sl g xs),some (.sl _ ys)=>appP S e sz bytes g xs ys
  |_,_=>none
 | .apS e x y=>match x.val G ts,y.val G ts with
  |some (.sl g xs),some (.str s)=>appP S e 1 1 g xs (rowsOfBytes s.data.toList)
  |_,_=>none
 | .usd x=>match x.val G ts with
  |some (.sl .null xs)=>some (.row .null xs,S)
  |some (.sl (.own k e) xs)=>some (.row (.own k e) xs,S)
  |_=>none
 | .ust e x n=>match x.val G ts,n.val G ts with
  |some (.row .null []),some (.int .i64 0)=>some (.str ⟨#[]⟩,S)
  |some (.row (.own k e') xs),some (.int .i64 n)=>
   if e'=e∧n=(xs.length:Int)∧xs.length≤9223372036854775807∧S.own[k]?=some xs.length then
    (bytesOf xs).map fun l=>(.str ⟨l.toArray⟩,{S with own:=S.own.set k (xs.length+1)})
   else none
  |_,_=>none
 | .mx mn x y=>match x.val G ts,y.val G ts with
  |some (.int k a),some (.int _ b)=>some (.int k (if mn then (if b<a then b else a) else (if b>a then b else a)),S)
  |_,_=>none
 | .call f args=>match f.val G ts,vals G ts args with
  |some (.fn f first caps),some vs=>call f (first++vs++caps) S
  |some (.yld l),some vs=>call yid (.yld l::vs) S
  |_,_=>none
 | .callM f args=>match f.val G ts,vals G ts args with
  |some (.fn f first caps),some vs=>call (yid+1+f) (first++vs++caps) S
  |_,_=>none
 | .mksM t sz bytes zero x y=>match x.val G ts,y.val G ts with
  |some (.int _ a),some (.int _ b)=>if 0≤a∧a=b∧a*bytes≤140737488355328∧a≤9223372036854775807 then some (.msl S.obs.length 0 a.toNat sz,{S with obs:=S.obs++[.row t (repRow zero a.toNat)]}) else none
  |_,_=>none
 | .appM e sz bytes x y=>match x.val G ts,y.val G ts with
  |some p,some (.sl _ ys)=>appM S e sz bytes p ys
  |_,_=>none
 | .cpy _ _ _=>none
 | .clr sz z x=>match x.val G ts with
  |some (.msl l o n s)=>match S.obs[l]? with
   |some (.row t cs)=>if s=sz∧0<n∧o+n*sz≤cs.length then some (.un,{S with obs:=S.obs.set l (.row t (setRow cs o (repRow z n)))}) else none
   |_=>none
  |_=>none
 | .tas t ok zero x=>match x.val G ts with
  |some (.ifc u v)=>if u=t then some (if ok then .tup [v,.bool true] else v,S) else if ok then some (.tup [zero,.bool false],S) else none
  |some .nilifc=>if ok then some (.tup [zero,.bool false],S) else none
  |_=>none
 | .mkm=>some (.mp S.obs.length,{S with obs:=S.obs++[.map [] 0]})
 | .lkp zero ok m k=>match m.val G ts,k.val G ts with
  |some (.mp l),some (.str s)=>match S.obs[l]? with
   |some (.map es _)=>match findM s es with
    |some (v,_)=>some (if ok then .tup [v,.bool true] else v,S)
    |none=>some (if ok then .tup [zero,.bool false] else zero,S)
   |_=>none
  |_,_=>none
 | .mup m k x=>match m.val G ts,k.val G ts,x.val G ts with
  |some (.mp l),some (.str s),some v=>match S.obs[l]? with
   |some (.map es c)=>match findM s es with
    |some _=>some (.un,{S with obs:=S.obs.set l (.map (setM s v es) c)})
    |none=>some (.un,{S with obs:=S.obs.set l (.map (es++[(s,v,c)]) (c+1))})
   |_=>none
  |_,_,_=>none
 | .men zero m k=>match m.val G ts,k.val G ts with
  |some (.mp l),some (.str s)=>match S.obs[l]? with
   |some (.map es c)=>match findM s es with
    |some (v,n)=>some (.tup [v,.int .i64 n],S)
    |none=>some (.tup [zero,.int .i64 c],{S with obs:=S.obs.set l (.map (es++[(s,zero,c)]) (c+1))})
   |_=>none
  |_,_=>none
 | .mst m s x=>match m.val G ts,s.val G ts,x.val G ts with
  |some (.mp l),some (.int .i64 n),some v=>match S.obs[l]? with
   |some (.map es c)=>(setB n v es).map fun es'=>(.un,{S with obs:=S.obs.set l (.map es' c)})
   |_=>none
  |_,_,_=>none
 | .mdl m k=>match m.val G ts,k.val G ts with
  |some (.mp l),some (.str s)=>match S.obs[l]? with
   |some (.map es c)=>some (.un,{S with obs:=S.obs.set l (.map (delM s es) c)})
   |_=>none
  |_,_=>none
 | .mln _=>none
 | .pnc _=>none
 | .rcv=>none
def put (ts:Tmps) (dst:Option Nat) (v:Option PV):Tmps:=
 match dst with
 |some d=>(d,v)::ts
 |none=>ts
def wantedE (g:Option (Nat×Bool)) (ts:Tmps):Option Bool:=
 match g with
 |none=>some true
 |some (d,want)=>match look ts d with
  |some (.bool b)=>some (b==want)
  |some (.tup [])=>some false
  |_=>none
def rdE (G:Glob) (ts:Tmps) (S:St) (n:Option Nat) (a:EOpd):Option PV:=(a.val G ts).bind fun p=>(derefP S p).bind fun cs=>rowOf cs n
def EQ.ok (G:Glob) (ts:Tmps) (q:EQ) (S S':St):Bool:=
 match q.k with
 | .no=>true
 | .still=>S'.beq S
 | .obs=>beqO S'.obs S.obs
 | .lds l=>S'.beq S||l.all fun (n,a)=>match rdE G ts S n a,rdE G ts S' n a with
  |some v,some v'=>v.beq v'
  |_,_=>false
def evOps (G:Glob) (call:CallFn):List EI→Tmps→St→Option (Tmps×St)
 |[],ts,S=>some (ts,S)
 |i::r,ts,S=>
  match wantedE i.guard ts with
  |some true=>
   match evOp G call ts S i.op with
   |some (v,S')=>if !(i.q.ok G ts S S') then none else evOps G call r (put ts i.dst (some v)) S'
   |none=>none
  |some false=>evOps G call r (put ts i.dst (some .un)) S
  |none=>none
def panOp (G:Glob) (pan:CallFn) (ts:Tmps) (S:St):EOp→Option (PV×St)
 | .call f args=>match f.val G ts,vals G ts args with
  |some (.fn f first caps),some vs=>pan f (first++vs++caps) S
  |_,_=>none
 | .pnc x=>match x.val G ts with
  |some (.ifc t v)=>some (.ifc t v,S)
  |_=>none
 |_=>none
def evPan (G:Glob) (call pan:CallFn):List EI→Tmps→St→Option (PV×St)
 |[],_,_=>none
 |i::r,ts,S=>
  match wantedE i.guard ts with
  |some true=>
   match evOp G call ts S i.op with
   |some (v,S')=>if !(i.q.ok G ts S S') then none else evPan G call pan r (put ts i.dst (some v)) S'
   |none=>if i.q.pn then panOp G pan ts S i.op else none
  |some false=>evPan G call pan r (put ts i.dst (some .un)) S
  |none=>none
def dropT (ops:List EI) (ts:Tmps):Tmps:=ts.filter fun p=> !(ops.any fun e=>e.dst==some p.1)
abbrev Kont (α:Type):=EX→Tmps→St→Option α
def pendX:Option (Option Nat)→EX
 |none=> .normal
 |some none=> .ret
 |some (some id)=> .exit id
def ev {α:Type} (G:Glob) (call pan:CallFn) (loop:EC→Tmps→St→Kont α→Option α):EC→Tmps→St→Kont α→Option α
 | .skip,ts,S,K=>K .normal ts S
 | .reg _ ops _ ks,ts,S,K=>match evOps G call ops ts S with
  |some (ts',S')=>K .normal (sel ks ts') S'
  |none=>none
 | .seq a b,ts,S,K=>ev G call pan loop a ts S fun x ts S=>match x with
  | .normal=>ev G call pan loop b ts S K
  |x=>K x ts S
 | .cond c a b,ts,S,K=>match c.val G ts with
  |some (.bool t)=>if t then ev G call pan loop a ts S K else ev G call pan loop b ts S K
  |_=>none
 | .block id c,ts,S,K=>ev G call pan loop c ts S fun x ts S=>match x with
  | .exit id'=>if id'=id then K .normal ts S else K (.exit id') ts S
  |x=>K x ts S
 | .loop ks c,ts,S,K=>ev G call pan loop c (sel ks ts) S fun x ts S=>match x with
  | .normal=>loop (.loop ks c) ts S K
  |x=>K x ts S
 | .exit id,ts,S,K=>K (.exit id) ts S
 | .ret,ts,S,K=>K .ret ts S
 | .regP _ ops _ ks,ts,S,K=>match evOps G call ops ts S with
  |some (ts',S')=>K .normal (sel ks ts') S'
  |none=>match evPan G call pan ops ts S with
   |some (v,S')=>K (.pan v) (dropT ops ts) S'
   |none=>none
 | .rangeF ks g ps asg bd,ts,S,K=>match g.val G ts with
  |some (.fn f first caps)=>
   match call f (first++[.yld S.obs.length]++caps) {S with obs:=S.obs++[.loop ⟨ps,asg,bd,sel ks ts,0,none⟩]} with
   |some (_,S2)=>match S2.obs[S.obs.length]? with
    |some (.loop r)=>if r.st=1 then none else K (pendX r.pend) (sel ks ts) {S2 with obs:=S2.obs.set S.obs.length (.loop {r with st:=3})}
    |_=>none
   |none=>none
  |_=>none
def resV (ts:Tmps) (S:St):ERes→Option PV
 | .tmp t=>look ts t
 | .cell a n=>(look ts a).bind fun p=>(derefP S p).bind fun cs=>rowOf cs n
def resVs (ts:Tmps) (S:St):List ERes→Option (List PV)
 |[]=>some []
 |r::l=>(resV ts S r).bind fun v=>(resVs ts S l).map (v:: ·)
def oneOrTup:List PV→PV
 |[v]=>v
 |l=> .tup l
mutual
def sealW (n0:Nat) (dr:Nat→Nat→Option PV):PV→Option PV
 | .ref l o=>if l<n0 then some (.ref l o) else dr l o
 | .yld l=>if l<n0 then some (.yld l) else if dr l 0=some (.ref l 0) then some (.yld l) else none
 | .mp l=>if l<n0 then some (.mp l) else if dr l 0=some (.ref l 0) then some (.mp l) else none
 | .nilm=>some .nilm
 | .msl l o n sz=>if l<n0 then some (.msl l o n sz) else match dr l o with
  |some (.ref l' o')=>if l'=l∧o'=o then some (.msl l o n sz) else none
  |some (.at_ cs)=>if n*sz≤cs.length then some (.sl .ro (chunk sz n cs)) else none
  |_=>none
 | .at_ cs=>(sealL n0 dr cs).map .at_
 | .sl _ xs=>(sealLL n0 dr xs).map (.sl .ro)
 | .row _ xs=>(sealLL n0 dr xs).map (.row .ro)
 | .fn f a b=>(sealL n0 dr a).bind fun a=>(sealL n0 dr b).map (.fn f a)
 | .ifc t v=>(sealW n0 dr v).map (.ifc t)
 | .agg cs=>(sealL n0 dr cs).map .agg
 | .tup cs=>(sealL n0 dr cs).map .tup
 | .bool b=>some (.bool b)
 | .int k n=>some (.int k n)
 | .str s=>some (.str s)
 | .nilp=>some .nilp
 | .nilfn=>some .nilfn
 | .nilifc=>some .nilifc
def sealL (n0:Nat) (dr:Nat→Nat→Option PV):List PV→Option (List PV)
 |[]=>some []
 |a::l=>(sealW n0 dr a).bind fun a=>(sealL n0 dr l).map (a:: ·)
def sealLL (n0:Nat) (dr:Nat→Nat→Option PV):List (List PV)→Option (List (List PV))
 |[]=>some []
 |a::l=>(sealL n0 dr a).bind fun a=>(sealLL n0 dr l).map (a:: ·)
end
def drD (n0:Nat) (S:St):Nat→Nat→Nat→Option PV
 |0,_,_=>none
 |d+1,l,o=>match S.cells l with
  |some cs=>if o≤cs.length then (sealL n0 (drD n0 S d) (cs.drop o)).map .at_ else none
  |none=>none
def close (S0 S:St) (v:PV):PV×St:=
 if beqO (S.obs.take S0.obs.length) S0.obs&&S.own.take S0.own.length==S0.own then
  match sealW S0.obs.length (drD S0.obs.length S 40) v with
  |some v'=>(v',S0)
  |none=>(v,S)
 else (v,S)
def askD (l:List PV):Option (List PV):=sealL 0 (fun l o=>some (.ref l o)) l
def frameOf:Nat→List PV→Tmps
 |_,[]=>[]
 |i,v::l=>(i,some v)::frameOf (i+1) l
structure Env where
 G:Glob
 tab:FuncId→Option EFn
 known:FuncId→Option (List PV→St→Option (PV×St))
def finish (fn:EFn) (S0:St):Kont (PV×St)
 | .exit _,_,_=>none
 | .pan _,_,_=>none
 |_,ts,S=>(resVs ts S fn.res).map fun vs=>close S0 S (oneOrTup vs)
def finishP (S0:St):Kont (PV×St)
 | .pan v,_,S=>some (close S0 S v)
 |_,_,_=>none
def finishD (fn:EFn) (S0:St) (d:Option PV→St→Option St):Kont (PV×St)
 | .exit _,_,_=>none
 | .pan v,ts,S=>(d (some v) S).bind fun S'=>(resVs ts S' fn.res).map fun vs=>close S0 S' (oneOrTup vs)
 |_,ts,S=>(d none S).bind fun S'=>(resVs ts S' fn.res).map fun vs=>close S0 S' (oneOrTup vs)
def finV:Kont (PV×St)
 | .normal,_,S=>some (.un,S)
 | .ret,_,S=>some (.un,S)
 |_,_,_=>none
structure Lvl where
 call:CallFn
 pan:CallFn
 ev:EC→Tmps→St→Kont (PV×St)→Option (PV×St)
mutual
def PV.free:PV→Bool
 | .ref _ _=>false
 | .at_ cs=>freeL cs
 | .sl (.own _ _) _=>false
 | .sl _ xs=>freeLL xs
 | .row (.own _ _) _=>false
 | .row _ xs=>freeLL xs
 | .fn _ x y=>freeL x&&freeL y
 | .ifc _ v=>v.free
 | .agg cs=>freeL cs
 | .tup cs=>freeL cs
 | .yld _=>false
 | .mp _=>false
 | .msl _ _ _ _=>false
 |_=>true
def freeL:List PV→Bool
 |[]=>true
 |x::l=>x.free&&freeL l
def freeLL:List (List PV)→Bool
 |[]=>true
 |x::l=>freeL x&&freeLL l
end
def EOpd.free:EOpd→Bool
 | .con v=>v.free
 |_=>true
def oFree:Option EOpd→Bool
 |some x=>x.free
 |none=>true
def EOp.free:EOp→Bool
 | .mkm| .rcv=>true
 | .clr _ z x=>freeL z&&x.free
 | .mksM _ _ _ z x y=>freeL z&&(x.free&&y.free)
 | .tas _ _ z x=>z.free&&x.free
 | .lkp z _ x y| .men z x y=>z.free&&(x.free&&y.free)
 | .mup x y z| .mst x y z=>x.free&&(y.free&&z.free)
 | .mdl x y| .cpy _ x y| .appM _ _ _ x y=>x.free&&y.free
 | .mln x| .pnc x=>x.free
 | .callM f xs=>f.free&&xs.all EOpd.free
 | .mv x| .box _ x| .boxI _ x| .ld _ x| .nck x| .un _ x| .cvI _ x| .cvS x| .s2b x| .b2s x| .ifc _ x| .fA _ x| .fld _ _ x| .rng x| .nxt x| .ext x _| .len _ x| .usd x=>x.free
 | .pick c a b=>c.free&&(a.free&&b.free)
 | .new _ z=>freeL z
 | .build z ps=>freeL z&&ps.all fun p=>p.2.2.free
 | .rows _ _ z ps=>freeL z&&ps.all fun p=>p.2.free
 | .mks _ _ _ z x y=>freeL z&&(x.free&&y.free)
 | .st _ x y| .bin _ x y| .eqB _ x y| .eqP _ x y| .eqI _ x y| .eqL _ x y| .eqG _ _ _ x y| .ixL _ x y| .ixP _ _ x y| .ixS x y| .ixG _ _ _ x y| .app _ _ _ x y| .apS _ x y| .ust _ x y| .mx _ x y=>x.free&&y.free
 | .fnv _ a b=>a.all EOpd.free&&b.all EOpd.free
 | .slS x l h=>x.free&&(oFree l&&oFree h)
 | .slL _ x l h m=>x.free&&(oFree l&&(oFree h&&oFree m))
 | .call f xs=>f.free&&xs.all EOpd.free
def EQ.free (q:EQ):Bool:=
 match q.k with
 | .lds l=>l.all fun p=>p.2.free
 |_=>true
def EI.free (e:EI):Bool:=e.op.free&&e.q.free
def EC.free:EC→Bool
 | .reg _ ops _ _=>ops.all EI.free
 | .regP _ ops _ _=>ops.all EI.free
 | .rangeF _ g _ a b=>g.free&&(a.free&&b.free)
 | .seq a b=>a.free&&b.free
 | .cond c a b=>c.free&&(a.free&&b.free)
 | .block _ c=>c.free
 | .loop _ c=>c.free
 |_=>true
def EFn.free (c:EFn):Bool:=c.body.free&&match c.dfr with
 |some (a,b,g)=>a.all EI.free&&(b.all EI.free&&g.free)
 |none=>true
def setLoop (S:St) (l st:Nat) (pend:Option (Option Nat)):Option St:=
 match S.obs[l]? with
 |some (.loop r)=>some {S with obs:=S.obs.set l (.loop {r with st:=st,pend:=pend})}
 |_=>none
def bindP:List Nat→List PV→Tmps→Tmps
 |t::ps,v::vs,ts=>bindP ps vs ((t,some v)::ts)
 |_,_,ts=>ts
def rndE (l:Nat):Kont (PV×St)
 | .normal,_,S=>(setLoop S l 0 none).map fun S'=>(.bool true,S')
 | .ret,_,S=>(setLoop S l 2 (some none)).map fun S'=>(.bool false,S')
 | .exit id,_,S=>(setLoop S l 2 (some (some id))).map fun S'=>(.bool false,S')
 | .pan _,_,_=>none
def rndB (lv:EC→Tmps→St→Kont (PV×St)→Option (PV×St)) (l:Nat) (bd:EC):Kont (PV×St)
 | .normal,ts,S=>match S.obs[l]? with
  |some (.loop r)=>if r.st=0 then (setLoop S l 1 r.pend).bind fun S'=>lv bd ts S' (rndE l) else none
  |_=>none
 |_,_,_=>none
def round (lv:EC→Tmps→St→Kont (PV×St)→Option (PV×St)) (args:List PV) (S:St):Option (PV×St):=
 match args with
 | .yld l::vs=>match S.obs[l]? with
  |some (.loop r)=>if vs.length=r.ps.length∧(r.asg.free&&r.bd.free)=true then (askD vs).bind fun vs=>lv r.asg (bindP r.ps vs r.ts) S (rndB lv l r.bd) else none
  |_=>none
 |_=>none
def EC.nr:EC→Bool
 | .seq a b=>a.nr&&b.nr
 | .cond _ a b=>a.nr&&b.nr
 | .block _ c=>c.nr
 | .loop _ c=>c.nr
 | .rangeF _ _ _ _ _=>false
 |_=>true
def noY (c:CallFn):CallFn:=fun f a S=>if f=yid then none else c f a S
def dcl (E:Env) (lv:Lvl) (h:FuncId) (args:List PV) (pv:Option PV) (S:St):Option St:=
 match E.tab h with
 |some fn=>match fn.body with
  | .seq (.reg _ (⟨d,.rcv,none,_⟩::r) false ks) rest=>
   if args.length=fn.np∧fn.np≤fn.ntmps∧fn.res.isEmpty=true∧fn.dfr.isNone=true∧fn.rc=true∧rest.nr=true then (askD args).bind fun args=>
    match evOps E.G (noY lv.call) r (put (frameOf 0 args) d (some (pv.getD .nilifc))) S with
    |some (ts1,S1)=>(lv.ev rest (sel ks ts1) S1 finV).map (·.2)
    |none=>none
   else none
  |_=>none
 |none=>none
def lvlB (E:Env) (lv:Lvl) (fn:EFn) (args:List PV) (S:St):Option (PV×St):=
 match fn.dfr with
 |none=>lv.ev fn.body (frameOf 0 args) S (finish fn S)
 |some (pre,es,g)=>match evOps E.G lv.call pre (frameOf 0 args) S with
  |some (ts0,S0)=>match evOps E.G lv.call es ts0 S0 with
   |some (ts1,S1)=>match g.val E.G ts1 with
    |some (.fn h first caps)=>lv.ev fn.body ts1 S1 (finishD fn S (dcl E lv h (first++caps)))
    |_=>none
   |none=>none
  |none=>none
def lvl (E:Env):Nat→Lvl
 |0=>⟨fun _ _ _=>none,fun _ _ _=>none,fun _ _ _ _=>none⟩
 |n+1=>
  ⟨fun f args S=>match E.known f with
   |some F=>(askD args).bind fun args=>F args S
   |none=>match E.tab f with
    |some fn=>if args.length=fn.np∧fn.np≤fn.ntmps then (askD args).bind fun args=>lvlB E (lvl E n) fn args S else none
    |none=>if f=yid then round (lvl E n).ev args S else none,
   fun f args S=>match E.known f with
   |some _=>none
   |none=>match E.tab f with
    |some fn=>if args.length=fn.np∧fn.np≤fn.ntmps∧fn.dfr.isNone=true then (askD args).bind fun args=>(lvl E n).ev fn.body (frameOf 0 args) S (finishP S) else none
    |none=>none,
   fun c ts S K=>ev E.G (lvl E n).call (lvl E n).pan (lvl E n).ev c ts S K⟩
def Ev (E:Env) (f:FuncId) (args:List PV) (S:St) (r:PV) (S':St):Prop:= ∃ N,∀ n,N≤n→(lvl E n).call f args S=some (r,S')
def atomV:Value→Option PV
 | .bool b=>some (.bool b)
 | .int k n=>some (.int k n)
 | .string s=>some (.str s)
 | .pointer none=>some .nilp
 | .map none=>some .nilm
 | .slice none 0 0=>some (.sl .null [])
 | .nilFunc=>some .nilfn
 | .nilIface=>some .nilifc
 | .iface t v=>(atomV v).map (.ifc t)
 |_=>none
def ofV:Value→Option PV
 | .agg cs=>(cs.toList.mapM atomV).map .agg
 | .tuple vs=>if vs.isEmpty then some .un else none
 |v=>atomV v
def cOpd:Operand→Option EOpd
 | .tmp t=>some (.tmp t)
 | .const v=>(ofV v).map .con
 | .global g=>some (.glob g)
 | .func f=>if f<yid then some (.con (.fn f [] [])) else none
def cOpt:Option Operand→Option (Option EOpd)
 |none=>some none
 |some x=>(cOpd x).map some
def aggN (P:Program) (t:TypeId):Option (Option Nat):=
 match P.underlying t,P.info? t with
 |some (.struct _),some i|some (.array _ _),some i=>some (some i.size)
 |some _,some _=>some none
 |_,_=>none
def zeroP (P:Program) (t:TypeId):Option PV:=(((P.info? t).bind (·.zero)).bind ofV).bind fun p=>if p.okc then some p else none
def sizeP (P:Program) (t:TypeId):Option Nat:=(P.info? t).map (·.size)
def structP (P:Program) (t:TypeId):Option (Array Field):=
 match P.underlying t with
 |some (.struct fs)=>some fs
 |_=>none
def cParts (l:List (Nat×Operand)):Option (List (Nat×EOpd)):=l.mapM fun (i,x)=>(cOpd x).map (i,·)
def eqOffs (P:Program):Nat→TypeId→Nat→Option (List (Nat×Nat))
 |0,_,_=>none
 |d+1,t,base=>
  match P.underlying t,sizeP P t with
  |some (.int _),some 1=>some [(base,0)]
  |some .string,some 1=>some [(base,1)]
  |some .bool,some 1=>some [(base,2)]
  |some (.struct fs),some sz=>
   if fs.toList.all (fun f => f.name != "_" && match sizeP P f.type with | some s => decide (f.offset + s ≤ sz) | none => false) && !P.stoodInHeld t then
    (fs.toList.mapM fun f=>eqOffs P d f.type (base+f.offset)).map List.flatten
   else none
  |_,_=>none
def cEq (P:Program) (neg:Bool) (t:TypeId) (x y:EOpd):Option EOp:=
 match P.underlying t with
 |some (.int _)|some .string=>some (.bin (if neg then .neq else .eql) x y)
 |some .bool=>some (.eqB neg x y)
 |some (.pointer e)=>if sizeP P e !=some 0 then some (.eqP neg x y) else none
 |some (.interface _)=>some (.eqI neg x y)
 |some (.slice _)=>some (.eqL neg x y)
 |some (.struct _)=>if P.eqGuardType P.depth t then none else (sizeP P t).bind fun n=>(eqOffs P 8 t 0).map fun l=> .eqG neg n l x y
 |_=>none
def cOp (P:Program) (o:Oper):Option EOp:=
 match o.op with
 | .move x| .assign x=>(cOpd x).map .mv
 | .pick c a b=>do some (.pick (←cOpd c) (←cOpd a) (←cOpd b))
 | .alloc t=>do some (.new t (←zeroP P t).cells)
 | .box t x=>do some (.box t (←cOpd x))
 | .build t parts=>do
  let z:=(←zeroP P t).cells
  match P.underlying t with
  |some (.struct fs)=>do
   if !(fs.all fun f=>(sizeP P f.type).isSome) then none
   let ps←parts.toList.mapM fun (i,x)=>do let f←fs[i]?;some (f.offset,←sizeP P f.type,←cOpd x)
   some (.build z ps)
  |some (.array _ e)=>do
   let sz←sizeP P e
   let ps←parts.toList.mapM fun (i,x)=>do some (i*sz,sz,←cOpd x)
   some (.build z ps)
  |_=>none
 | .buildSlice t len parts=>do
  let some (.slice e):=P.underlying t|none
  let sz←sizeP P e
  if len*sz>2 ^ 24||sz=0 then none
  let z:=(←zeroP P e).cells
  if z.length≠sz then none
  some (.rows len sz z (←cParts parts.toList))
 | .makeSlice t n c=>do
  let some (.slice e):=P.underlying t|none
  let i←P.info? e
  let z←zeroP P e
  if i.size=0∨z.cells.length≠i.size then none
  some (.mks e i.size i.bytes z.cells (←cOpd n) (←cOpd c))
 | .load t a=>do some (.ld (←aggN P t) (←cOpd a))
 | .store t a x=>do some (.st (←sizeP P t) (←cOpd a) (←cOpd x))
 | .nilCheck x=>do some (.nck (←cOpd x))
 | .binOp .eql t x y _=>do cEq P false t (←cOpd x) (←cOpd y)
 | .binOp .neq t x y _=>do cEq P true t (←cOpd x) (←cOpd y)
 | .binOp op _ x y _=>do some (.bin op (←cOpd x) (←cOpd y))
 | .unOp op _ x=>do some (.un op (←cOpd x))
 | .convert s d x=>do
  let x←cOpd x
  match P.underlying s,P.underlying d with
  |some (.int _),some (.int k)=>some (.cvI k x)
  |some .string,some .string=>some (.cvS x)
  |some .string,some (.slice e)=>match P.underlying e with
   |some (.int .u8)=>some (.s2b x)
   |_=>none
  |some (.slice e),some .string=>match P.underlying e with
   |some (.int .u8)=>some (.b2s x)
   |_=>none
  |_,_=>none
 | .makeInterface t x=>do
  match P.underlying t with
  |some (.interface _)=>none
  |some _=>some (.ifc t (←cOpd x))
  |none=>none
 | .makeFunc (.func f) first caps=>do
  if !decide (f<yid) then none
  some (.fnv f (←first.toList.mapM cOpd) (←caps.toList.mapM cOpd))
 | .slice t x lo hi mx=>do
  match P.underlying t with
  |some .string=>if mx.isSome then none else some (.slS (←cOpd x) (←cOpt lo) (←cOpt hi))
  |some (.slice e)=>do some (.slL (←sizeP P e) (←cOpd x) (←cOpt lo) (←cOpt hi) (←cOpt mx))
  |_=>none
 | .fieldAddr t x f=>do
  let fs←structP P t
  let f←fs[f]?
  if sizeP P f.type=some 0∨sizeP P f.type=none then none
  some (.fA f.offset (←cOpd x))
 | .field t x f=>do
  let fs←structP P t
  let f←fs[f]?
  some (.fld f.offset (←aggN P f.type) (←cOpd x))
 | .indexAddr t x i=>do
  match P.underlying t with
  |some (.slice e)=>do some (.ixL (←sizeP P e) (←cOpd x) (←cOpd i))
  |some (.array n e)=>do some (.ixP n (←sizeP P e) (←cOpd x) (←cOpd i))
  |_=>none
 | .index t x i=>do
  match P.underlying t with
  |some .string=>some (.ixS (←cOpd x) (←cOpd i))
  |some (.array n e)=>do some (.ixG n (←sizeP P e) (←aggN P e) (←cOpd x) (←cOpd i))
  |_=>none
 | .range t x=>do
  match P.underlying t with
  |some .string=>some (.rng (←cOpd x))
  |_=>none
 | .next x true=>do some (.nxt (←cOpd x))
 | .extract x i=>do some (.ext (←cOpd x) i)
 | .typeAssert x _ t ok=>do
  match P.underlying t with
  |some (.interface _)=>none
  |some _=>some (.tas t ok (←zeroP P t) (←cOpd x))
  |none=>none
 | .makeMap _ none=>some .mkm
 | .lookup t m k ok=>do
  let some (.map kt e):=P.underlying t|none
  let some .string:=P.underlying kt|none
  some (.lkp (←zeroP P e) ok (←cOpd m) (←cOpd k))
 | .mapUpdate t m k x| .insert t m k x=>do
  let some (.map kt _):=P.underlying t|none
  let some .string:=P.underlying kt|none
  some (.mup (←cOpd m) (←cOpd k) (←cOpd x))
 | .mapEntry t m k=>do
  let some (.map kt e):=P.underlying t|none
  let some .string:=P.underlying kt|none
  some (.men (←zeroP P e) (←cOpd m) (←cOpd k))
 | .entryStore _ m s x=>do some (.mst (←cOpd m) (←cOpd s) (←cOpd x))
 | .panic x=>do some (.pnc (←cOpd x))
 | .call c=>do
  match c.callee with
  | .value f=>some (.call (←cOpd f) (←c.args.toList.mapM cOpd))
  | .builtin .len=>do
   let [x]:=c.args.toList|none
   let some t:=c.argTypes[0]?|none
   match P.underlying t with
   |some .string=>some (.len true (←cOpd x))
   |some (.slice _)=>some (.len false (←cOpd x))
   |_=>none
  | .builtin .append=>do
   let [x,y]:=c.args.toList|none
   let some t:=c.argTypes[0]?|none
   let some u:=c.argTypes[1]?|none
   let some (.slice e):=P.underlying t|none
   match P.underlying u with
   |some (.slice _)=>do
    let i←P.info? e
    if i.size=0 then none
    let z←i.zero
    if z.cells.size≠i.size then none
    some (.app e i.size i.bytes (←cOpd x) (←cOpd y))
   |some .string=>do
    let i←P.info? e
    match i.zero with
    |some (.int .u8 0)=>if i.size=1∧i.bytes=1 then some (.apS e (←cOpd x) (←cOpd y)) else none
    |_=>none
   |_=>none
  | .builtin .unsafeSliceData=>do
   let [x]:=c.args.toList|none
   some (.usd (←cOpd x))
  | .builtin .unsafeString=>do
   let [x,y]:=c.args.toList|none
   let some t:=c.argTypes[0]?|none
   let some u:=c.argTypes[1]?|none
   if c.argTypes.size≠2 then none
   match P.underlying t with
   |some (.pointer e)=>if P.cellsOf e=1 then do some (.ust e (←cOpd x) (←cOpd y)) else none
   |_=>none
  | .builtin .recover=>some .rcv
  | .builtin .delete=>do
   let [x,y]:=c.args.toList|none
   let some t:=c.argTypes[0]?|none
   let some (.map kt _):=P.underlying t|none
   let some .string:=P.underlying kt|none
   some (.mdl (←cOpd x) (←cOpd y))
  | .builtin .max=>do
   let [x,y]:=c.args.toList|none
   some (.mx false (←cOpd x) (←cOpd y))
  | .builtin .min=>do
   let [x,y]:=c.args.toList|none
   some (.mx true (←cOpd x) (←cOpd y))
  | .builtin .clear=>do
   let [x]:=c.args.toList|none
   let some t:=c.argTypes[0]?|none
   let some (.slice e):=P.underlying t|none
   let z←zeroP P e
   if z.cells.length=0 then none else some (.clr z.cells.length z.cells (←cOpd x))
  |_=>none
 |_=>none
def loud:EOp→Bool
 | .new _ _| .box _ _| .ld _ _| .st _ _ _| .b2s _| .rng _| .nxt _| .app _ _ _ _ _| .apS _ _ _| .ust _ _ _| .call _ _| .mks _ _ _ _ _ _
 | .callM _ _| .mksM _ _ _ _ _ _| .appM _ _ _ _ _| .cpy _ _ _| .clr _ _ _| .mkm| .lkp _ _ _ _| .mup _ _ _| .men _ _ _| .mst _ _ _| .mdl _ _| .mln _| .pnc _| .rcv=>true
 |_=>false
def preds (ops:List Oper):List (List Nat):=
 (ops.foldl (init:=(#[]:Array (List Nat))) fun acc o=>
  acc.push (o.after.toList.foldl (init:=[]) fun s e=>if Region.binds .any e then (e.on::(acc.getD e.on []++s)).eraseDups else s)).toList
def predsOk (ops:List Oper) (pr:List (List Nat)):Bool:=
 (List.range ops.length).all fun j=>match ops[j]? with
  |none=>false
  |some o=>(o.after.toList.all fun e=> !Region.binds .any e||decide (e.on<j))&&
   (pr.getD j []).all fun i=>decide (i<j)&&(o.after.toList.any fun e=>Region.binds .any e&&(e.on==i||(pr.getD e.on []).contains i))
def ordered (pr:List (List Nat)) (i j:Nat):Bool:=(pr.getD j []).contains i||(pr.getD i []).contains j
def EOpd.reads:EOpd→List Nat
 | .tmp t=>[t]
 |_=>[]
def oReads:Option EOpd→List Nat
 |some x=>x.reads
 |none=>[]
def EOp.reads:EOp→List Nat
 | .mv x| .box _ x| .boxI _ x| .ld _ x| .nck x| .un _ x| .cvI _ x| .cvS x| .s2b x| .b2s x| .ifc _ x| .fA _ x| .fld _ _ x| .rng x| .nxt x| .ext x _| .len _ x| .usd x=>x.reads
 | .pick c a b=>c.reads++(a.reads++b.reads)
 | .new _ _=>[]
 | .build _ ps=>ps.flatMap fun p=>p.2.2.reads
 | .rows _ _ _ ps=>ps.flatMap fun p=>p.2.reads
 | .st _ x y| .bin _ x y| .eqB _ x y| .eqP _ x y| .eqI _ x y| .eqL _ x y| .eqG _ _ _ x y| .ixL _ x y| .ixP _ _ x y| .ixS x y| .ixG _ _ _ x y| .app _ _ _ x y| .apS _ x y| .ust _ x y| .mx _ x y| .mks _ _ _ _ x y=>x.reads++y.reads
 | .fnv _ a b=>a.flatMap EOpd.reads++b.flatMap EOpd.reads
 | .slS x l h=>x.reads++(oReads l++oReads h)
 | .slL _ x l h m=>x.reads++(oReads l++(oReads h++oReads m))
 | .call f xs| .callM f xs=>f.reads++xs.flatMap EOpd.reads
 | .mksM _ _ _ _ x y| .appM _ _ _ x y| .cpy _ x y| .lkp _ _ x y| .men _ x y| .mdl x y=>x.reads++y.reads
 | .clr _ _ x| .tas _ _ _ x| .mln x| .pnc x=>x.reads
 | .mkm| .rcv=>[]
 | .mup x y z| .mst x y z=>x.reads++(y.reads++z.reads)
def cGuard (ops:List Oper) (o:Oper):Option (Option (Nat×Bool)):=
 match o.guard with
 |none=>some none
 |some (j,want)=>((ops[j]?).bind (·.dst)).map fun d=>some (d,want)
def EI.looks (e:EI):List Nat:=e.op.reads++(match e.guard with
 |some (d,_)=>[d]
 |none=>[])
def apartE (es:List EI) (pr:List (List Nat)):Bool:=
 es.zipIdx.all fun (x,i)=>match x.dst with
  |none=>true
  |some d=>es.zipIdx.all fun (y,j)=>i==j||ordered pr i j|| !(y.looks.contains d||y.dst==some d)
def loadOf:EOp→Option (Option Nat×EOpd)
 | .ld n a=>some (n,a)
 |_=>none
def EOpd.stat (ds:List (Option Nat)):EOpd→Bool
 | .tmp t=> !ds.contains (some t)
 |_=>true
def mkQ (draw:Bool) (pr:List (List Nat)) (es:List EOp) (ds:List (Option Nat)) (i:Nat) (e:EOp):EQ:=
 let us:=es.zipIdx.filter fun (e',j)=>loud e'&&i !=j&& !ordered pr i j
 ⟨if !draw|| !loud e||us.isEmpty then .no
  else if us.all (fun (e',_)=>match loadOf e' with|some (_,a)=>a.stat ds|none=>false) then .lds (us.filterMap fun x=>loadOf x.1) else if us.all (fun (e',_)=>(loadOf e').isSome) then .obs else .still,
  !draw||(es.zipIdx.all fun (_,j)=>decide (j≤i)||(pr.getD j []).contains i)⟩
def mkEs (draw:Bool) (pr:List (List Nat)) (es:List EOp) (gs:List (Option (Nat×Bool))) (ds:List (Option Nat)):List EI:=
 (es.zip (gs.zip ds)).zipIdx.map fun ((e,g,d),i)=>
   ⟨d,e,g,mkQ draw pr es ds i e⟩
def cOps (P:Program) (nt:Nat) (ops:List Oper) (draw:Bool):Option (List EI):=do
 let es←ops.mapM (cOp P)
 let gs←ops.mapM (cGuard ops)
 let pr:=if draw then preds ops else []
 let l:=mkEs draw pr es gs (ops.map (·.dst))
 if !(l.all fun e=>match e.dst with|some d=>decide (d<nt)|none=>true) then none else
 if draw&& !(predsOk ops pr&&apartE l pr) then none else some l
def cCode (P:Program) (nt:Nat):Code→Option EC
 | .skip=>some .skip
 | .label _=>some .skip
 | .region id ops draw=>(cOps P nt ops.toList draw).map fun l=> .reg id l draw none
 | .seq a b=>(cCode P nt a).bind fun a=>(cCode P nt b).map fun b=> .seq a b
 | .cond c a b=>(cOpd c).bind fun c=>(cCode P nt a).bind fun a=>(cCode P nt b).map fun b=> .cond c a b
 | .block id c=>(cCode P nt c).map fun c=> .block id c
 | .loop c=>(cCode P nt c).map fun c=> .loop none c
 | .exit id=>some (.exit id)
 | .ret=>some .ret
 | .scope c=>cCode P nt c
 | .rangeFunc g ps a b=>if !(ps.toList.all fun t=>decide (t<nt)) then none else (cOpd g).bind fun g=>(cCode P nt a).bind fun a=>(cCode P nt b).bind fun b=>if a.nr&&b.nr then some (.rangeF none g ps.toList a b) else none
 |_=>none
def EOp.strip:EOp→EOp
 | .boxI t x=> .box t x
 | .callM f xs=> .call f xs
 | .mksM e sz b z x y=> .mks e sz b z x y
 | .appM e sz b x y=> .app e sz b x y
 |e=>e
def EI.strip (e:EI):EI:=⟨e.dst,e.op.strip,e.guard,e.q⟩
def strip:EC→EC
 | .reg id l draw _=> .reg id (l.map EI.strip) draw none
 | .seq a b=> .seq (strip a) (strip b)
 | .cond c a b=> .cond c (strip a) (strip b)
 | .block id c=> .block id (strip c)
 | .loop _ c=> .loop none (strip c)
 | .regP id l draw _=> .reg id (l.map EI.strip) draw none
 | .rangeF _ g ps a b=> .rangeF none g ps (strip a) (strip b)
 |c=>c
def cRes (P:Program):ResultVar→Option ERes
 | .tmp t=>some (.tmp t)
 | .cell a t=>(aggN P t).map fun n=> .cell a n
def cDfr:Code→Option (List Oper×List Oper×Operand×Code)
 | .seq (.region _ ops0 false) (.seq (.region _ ops1 false) rest)=>match ops1.toList.getLast? with
  |some o=>match o.op,o.guard,o.dst with
   | .defer {callee:= .value f,args:=⟨[]⟩,..},none,none=>some (ops0.toList,ops1.toList.dropLast,f,rest)
   |_,_,_=>none
  |none=>none
 |_=>none
def cFn (P:Program) (fn:Func):Option EFn:=do
 let body←fn.body
 let rs←fn.results.toList.mapM (cRes P)
 match cDfr body with
 |some (pre,es,f,rest)=>
  let c←cCode P fn.ntmps rest
  some ⟨fn.params.size+fn.nfree,fn.ntmps,rs,c,some (←cOps P fn.ntmps pre false,←cOps P fn.ntmps es false,←cOpd f),false⟩
 |none=>
  let c←cCode P fn.ntmps body
  some ⟨fn.params.size+fn.nfree,fn.ntmps,rs,c,none,match body with
   | .seq (.region _ _ false) _=>true
   |_=>false⟩
def EFn.strip (f:EFn):EFn:=⟨f.np,f.ntmps,f.res,PE.strip f.body,f.dfr.map (fun (a,b,g)=>(a.map EI.strip,b.map EI.strip,g)),f.rc⟩
end Go.PE
