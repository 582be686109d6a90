/-
  Where private objects stand does not matter: with others ahead of them a call does the same. Conditions: each law's own.
-/
import Derived.Test.YteifnopejdiikaaDoorPE19
namespace Go.PE
open Go Go.RowKit
set_option linter.unusedVariables false
set_option linter.unusedSimpArgs false
def mvG (k:Nat):Tag→Tag
 | .own j e=> .own (k+j) e
 |g=>g
mutual
def mvV (a k:Nat):PV→PV
 | .ref l o=> .ref (a+l) o
 | .at_ cs=> .at_ (mvL a k cs)
 | .sl g xs=> .sl (mvG k g) (mvLL a k xs)
 | .row g xs=> .row (mvG k g) (mvLL a k xs)
 | .fn f x y=> .fn f (mvL a k x) (mvL a k y)
 | .ifc t v=> .ifc t (mvV a k v)
 | .agg cs=> .agg (mvL a k cs)
 | .tup cs=> .tup (mvL a k cs)
 | .bool b=> .bool b
 | .int k n=> .int k n
 | .str s=> .str s
 | .nilp=> .nilp
 | .nilfn=> .nilfn
 | .nilifc=> .nilifc
 | .yld l=> .yld (a+l)
 | .mp l=> .mp (a+l)
 | .nilm=> .nilm
 | .msl l o n sz=> .msl (a+l) o n sz
def mvL (a k:Nat):List PV→List PV
 |[]=>[]
 |x::l=>mvV a k x::mvL a k l
def mvLL (a k:Nat):List (List PV)→List (List PV)
 |[]=>[]
 |x::l=>mvL a k x::mvLL a k l
end
section
variable (a k:Nat)
mutual
theorem mv_free: ∀ x:PV,x.free=true→mvV a k x=x
 | .ref _ _,h=>by simp[PV.free] at h
 | .at_ cs,h=>by simp only[mvV,mv_freeL cs (by simpa [PV.free] using h)]
 | .sl g xs,h=>by
  cases g<;>simp[PV.free] at h<;>simp only[mvV,mvG,mv_freeLL xs h]
 | .row g xs,h=>by
  cases g<;>simp[PV.free] at h<;>simp only[mvV,mvG,mv_freeLL xs h]
 | .fn f x y,h=>by
  simp only[PV.free,Bool.and_eq_true] at h
  simp only[mvV,mv_freeL x h.1,mv_freeL y h.2]
 | .ifc t v,h=>by simp only[mvV,mv_free v (by simpa [PV.free] using h)]
 | .agg cs,h=>by simp only[mvV,mv_freeL cs (by simpa [PV.free] using h)]
 | .tup cs,h=>by simp only[mvV,mv_freeL cs (by simpa [PV.free] using h)]
 | .bool _,_=>rfl
 | .int _ _,_=>rfl
 | .str _,_=>rfl
 | .nilp,_=>rfl
 | .nilfn,_=>rfl
 | .nilifc,_=>rfl
 | .nilm,_=>rfl
 | .yld _,h=>by simp[PV.free] at h
 | .mp _,h=>by simp[PV.free] at h
 | .msl _ _ _ _,h=>by simp[PV.free] at h
theorem mv_freeL: ∀ l:List PV,freeL l=true→mvL a k l=l
 |[],_=>rfl
 |x::l,h=>by
  simp only[freeL,Bool.and_eq_true] at h
  simp only[mvL,mv_free x h.1,mv_freeL l h.2]
theorem mv_freeLL: ∀ l:List (List PV),freeLL l=true→mvLL a k l=l
 |[],_=>rfl
 |x::l,h=>by
  simp only[freeLL,Bool.and_eq_true] at h
  simp only[mvLL,mv_freeL x h.1,mv_freeLL l h.2]
end
theorem mvL_eq: ∀ l,mvL a k l=l.map (mvV a k)
 |[]=>rfl
 |x::l=>by simp only[mvL,mvL_eq l,List.map_cons]
theorem mvLL_eq: ∀ l,mvLL a k l=l.map (mvL a k)
 |[]=>rfl
 |x::l=>by simp only[mvLL,mvLL_eq l,List.map_cons]
theorem add_beq (n m:Nat):(a+n==a+m)=(n==m):=by
 apply Bool.eq_iff_iff.2
 simp only[beq_iff_eq]
 omega
theorem mvG_beq (g h:Tag):(mvG k g==mvG k h)=(g==h):=by
 apply Bool.eq_iff_iff.2
 simp only[beq_iff_eq]
 cases g<;>cases h<;>simp[mvG]
mutual
theorem mv_beq: ∀ x y:PV,(mvV a k x).beq (mvV a k y)=x.beq y
 | .ref l o,y=>by cases y<;>simp[mvV,PV.beq,add_beq]
 | .at_ cs,y=>by
  cases y with
  |at_ ds=>simp only[mvV,PV.beq,mv_beqL cs ds]
  |_=>simp[mvV,PV.beq]
 | .sl g xs,y=>by
  cases y with
  |sl h ys=>simp only[mvV,PV.beq,mv_beqLL xs ys,mvG_beq]
  |_=>simp[mvV,PV.beq]
 | .row g xs,y=>by
  cases y with
  |row h ys=>simp only[mvV,PV.beq,mv_beqLL xs ys,mvG_beq]
  |_=>simp[mvV,PV.beq]
 | .fn f x z,y=>by
  cases y with
  |fn f' x' z'=>simp only[mvV,PV.beq,mv_beqL x x',mv_beqL z z']
  |_=>simp[mvV,PV.beq]
 | .ifc t v,y=>by
  cases y with
  |ifc t' v'=>simp only[mvV,PV.beq,mv_beq v v']
  |_=>simp[mvV,PV.beq]
 | .agg cs,y=>by
  cases y with
  |agg ds=>simp only[mvV,PV.beq,mv_beqL cs ds]
  |_=>simp[mvV,PV.beq]
 | .tup cs,y=>by
  cases y with
  |tup ds=>simp only[mvV,PV.beq,mv_beqL cs ds]
  |_=>simp[mvV,PV.beq]
 | .bool _,y=>by cases y<;>simp[mvV,PV.beq]
 | .int _ _,y=>by cases y<;>simp[mvV,PV.beq]
 | .str _,y=>by cases y<;>simp[mvV,PV.beq]
 | .nilp,y=>by cases y<;>simp[mvV,PV.beq]
 | .nilfn,y=>by cases y<;>simp[mvV,PV.beq]
 | .nilifc,y=>by cases y<;>simp[mvV,PV.beq]
 | .nilm,y=>by cases y<;>simp[mvV,PV.beq]
 | .yld l,y=>by cases y<;>simp[mvV,PV.beq,add_beq]
 | .mp l,y=>by cases y<;>simp[mvV,PV.beq,add_beq]
 | .msl l o n sz,y=>by cases y<;>simp[mvV,PV.beq,add_beq]
theorem mv_beqL: ∀ x y:List PV,beqL (mvL a k x) (mvL a k y)=beqL x y
 |[],[]=>rfl
 |[],_::_=>rfl
 |_::_,[]=>rfl
 |x::l,y::m=>by simp only[mvL,beqL,mv_beq x y,mv_beqL l m]
theorem mv_beqLL: ∀ x y:List (List PV),beqLL (mvLL a k x) (mvLL a k y)=beqLL x y
 |[],[]=>rfl
 |[],_::_=>rfl
 |_::_,[]=>rfl
 |x::l,y::m=>by simp only[mvLL,beqLL,mv_beqL x y,mv_beqLL l m]
end
theorem mv_inj {x y:PV} (h:mvV a k x=mvV a k y):x=y:=beq_sound (by rw[←mv_beq a k,h];exact beq_refl _)
def mvF (ts:Tmps):Tmps:=ts.map fun p=>(p.1,p.2.map (mvV a k))
theorem mvF_inj: ∀ {x y:Tmps},mvF a k x=mvF a k y→x=y
 |[],[],_=>rfl
 |[],_::_,h=>by simp[mvF] at h
 |_::_,[],h=>by simp[mvF] at h
 |(i,u)::x,(j,v)::y,h=>by
  simp only[mvF,List.map_cons,List.cons.injEq,Prod.mk.injEq] at h
  obtain ⟨⟨rfl,h1⟩,h2⟩:=h
  rw[mvF_inj (x:=x) (y:=y) h2]
  congr 2
  cases u<;>cases v<;>simp at h1
  ·rfl
  ·rw[mv_inj a k h1]
def mvR (r:ELoop):ELoop:={r with ts:=mvF a k r.ts}
theorem mvR_inj {x y:ELoop} (h:mvR a k x=mvR a k y):x=y:=by
 cases x;cases y
 simp only[mvR,ELoop.mk.injEq] at h
 obtain ⟨rfl,rfl,rfl,h,rfl,rfl⟩:=h
 rw[mvF_inj a k h]
def mvM (es:List (ByteArray×PV×Nat)):List (ByteArray×PV×Nat):=es.map fun e=>(e.1,mvV a k e.2.1,e.2.2)
theorem mvM_beq: ∀ x y:List (ByteArray×PV×Nat),beqM (mvM a k x) (mvM a k y)=beqM x y
 |[],[]=>rfl
 |[],_::_=>rfl
 |_::_,[]=>rfl
 |(s,v,n)::x,(t,u,m)::y=>by
  show (s.data.toList==t.data.toList&&(mvV a k v).beq (mvV a k u)&&n==m&&beqM (mvM a k x) (mvM a k y))=_
  rw[mv_beq,mvM_beq x y];rfl
def mvO:Ob→Ob
 | .cells t cs=> .cells t (mvL a k cs)
 | .iter s p=> .iter s p
 | .loop r=> .loop (mvR a k r)
 | .map es c=> .map (mvM a k es) c
 | .row t cs=> .row t (mvL a k cs)
 | .dead=> .dead
theorem mvO_beq (x y:Ob):(mvO a k x).beq (mvO a k y)=x.beq y:=by
 cases x<;>cases y<;>simp[mvO,Ob.beq,mv_beqL,mvM_beq]
 exact ⟨fun h=>mvR_inj a k h,fun h=>by rw[h]⟩
theorem mvO_beqO: ∀ x y:List Ob,beqO (x.map (mvO a k)) (y.map (mvO a k))=beqO x y
 |[],[]=>rfl
 |[],_::_=>rfl
 |_::_,[]=>rfl
 |x::l,y::m=>by simp only[List.map_cons,beqO,mvO_beq,mvO_beqO l m]
end
theorem beqO_app: ∀ b x y:List Ob,beqO (b++x) (b++y)=beqO x y
 |[],x,y=>rfl
 |o::b,x,y=>by
  have:o.beq o=true:=by
   have:=beqO_refl [o];simpa [beqO] using this
  simp only[List.cons_append,beqO,this,Bool.true_and,beqO_app b x y]
section
variable (B:St)
abbrev mB (x:PV):PV:=mvV B.obs.length B.own.length x
abbrev mBL (x:List PV):List PV:=mvL B.obs.length B.own.length x
abbrev mBLL (x:List (List PV)):List (List PV):=mvLL B.obs.length B.own.length x
abbrev mBO (x:Ob):Ob:=mvO B.obs.length B.own.length x
def mS (S:St):St:=⟨B.obs++S.obs.map (mBO B),B.own++S.own⟩
abbrev mM (es:List (ByteArray×PV×Nat)):List (ByteArray×PV×Nat):=mvM B.obs.length B.own.length es
theorem findM_mv (s:ByteArray): ∀ es,findM s (mM B es)=(findM s es).map fun p=>(mB B p.1,p.2)
 |[]=>rfl
 |(k,v,n)::es=>by
  show (if strEq s k then some (mB B v,n) else findM s (mM B es))=_
  rw[findM_mv s es]
  simp only[findM]
  split<;>rfl
theorem setM_mv (s:ByteArray) (x:PV): ∀ es,setM s (mB B x) (mM B es)=mM B (setM s x es)
 |[]=>rfl
 |(k,v,n)::es=>by
  show (if strEq s k then (k,mB B x,n)::mM B es else (k,mB B v,n)::setM s (mB B x) (mM B es))=_
  rw[setM_mv s x es]
  simp only[setM]
  split<;>rfl
theorem delM_mv (s:ByteArray): ∀ es,delM s (mM B es)=mM B (delM s es)
 |[]=>rfl
 |(k,v,n)::es=>by
  show (if strEq s k then mM B es else (k,mB B v,n)::delM s (mM B es))=_
  rw[delM_mv s es]
  simp only[delM]
  split<;>rfl
theorem setB_mv (m:Int) (x:PV): ∀ es,setB m (mB B x) (mM B es)=(setB m x es).map (mM B)
 |[]=>rfl
 |(k,v,n)::es=>by
  show (if (n:Int)=m then some ((k,mB B x,n)::mM B es) else (setB m (mB B x) (mM B es)).map ((k,mB B v,n):: ·))=_
  rw[setB_mv m x es]
  simp only[setB]
  split
  ·rfl
  ·cases setB m x es<;>rfl
theorem mM_app (es:List (ByteArray×PV×Nat)) (k:ByteArray) (v:PV) (n:Nat):mM B es++[(k,mB B v,n)]=mM B (es++[(k,v,n)]):=by
 simp[mM,mvM]
def mT (ts:Tmps):Tmps:=ts.map fun p=>(p.1,p.2.map (mB B))
theorem mBL_get (l:List PV) (i:Nat):(mBL B l)[i]?=(l[i]?).map (mB B):=by rw[mBL,mvL_eq,List.getElem?_map]
theorem mBL_len (l:List PV):(mBL B l).length=l.length:=by rw[mBL,mvL_eq,List.length_map]
theorem mBL_drop (l:List PV) (i:Nat):(mBL B l).drop i=mBL B (l.drop i):=by rw[mBL,mBL,mvL_eq,mvL_eq,List.map_drop]
theorem mBL_take (l:List PV) (i:Nat):(mBL B l).take i=mBL B (l.take i):=by rw[mBL,mBL,mvL_eq,mvL_eq,List.map_take]
theorem mBL_app (l m:List PV):mBL B (l++m)=mBL B l++mBL B m:=by simp only[mBL,mvL_eq,List.map_append]
theorem mBL_set (l:List PV) (i:Nat) (x:PV):(mBL B l).set i (mB B x)=mBL B (l.set i x):=by simp only[mBL,mvL_eq,List.map_set]
theorem mBLL_get (l:List (List PV)) (i:Nat):(mBLL B l)[i]?=(l[i]?).map (mBL B):=by rw[mBLL,mvLL_eq,List.getElem?_map]
theorem mBLL_len (l:List (List PV)):(mBLL B l).length=l.length:=by rw[mBLL,mvLL_eq,List.length_map]
theorem mBLL_drop (l:List (List PV)) (i:Nat):(mBLL B l).drop i=mBLL B (l.drop i):=by rw[mBLL,mBLL,mvLL_eq,mvLL_eq,List.map_drop]
theorem mBLL_take (l:List (List PV)) (i:Nat):(mBLL B l).take i=mBLL B (l.take i):=by rw[mBLL,mBLL,mvLL_eq,mvLL_eq,List.map_take]
theorem mBLL_app (l m:List (List PV)):mBLL B (l++m)=mBLL B l++mBLL B m:=by simp only[mBLL,mvLL_eq,List.map_append]
theorem mBLL_emp (l:List (List PV)):(mBLL B l).isEmpty=l.isEmpty:=by cases l<;>rfl
theorem mB_okc (v:PV):(mB B v).okc=v.okc:=by cases v<;>rfl
theorem mB_cells (v:PV):(mB B v).cells=mBL B v.cells:=by cases v<;>simp[mB,mvV,PV.cells,mBL,mvL]
theorem mS_len (S:St):(mS B S).obs.length=B.obs.length+S.obs.length:=by simp[mS]
theorem mS_olen (S:St):(mS B S).own.length=B.own.length+S.own.length:=by simp[mS]
theorem mS_ob (S:St) (l:Nat):(mS B S).obs[B.obs.length+l]?=(S.obs[l]?).map (mBO B):=by
 simp only[mS];rw[app_get,List.getElem?_map]
theorem mS_own (S:St) (l:Nat):(mS B S).own[B.own.length+l]?=S.own[l]?:=by
 simp only[mS];rw[app_get]
theorem mS_obs_app (S:St) (o:Ob):mS B {S with obs:=S.obs++[o]}={mS B S with obs:=(mS B S).obs++[mBO B o]}:=by simp[mS]
theorem mS_obs_set (S:St) (l:Nat) (o:Ob):mS B {S with obs:=S.obs.set l o}={mS B S with obs:=(mS B S).obs.set (B.obs.length+l) (mBO B o)}:=by
 simp only[mS,List.map_set];rw[app_set]
theorem mS_own_app (S:St) (o:Nat):mS B {S with own:=S.own++[o]}={mS B S with own:=(mS B S).own++[o]}:=by simp[mS]
theorem mS_own_set (S:St) (l:Nat) (o:Nat):mS B {S with own:=S.own.set l o}={mS B S with own:=(mS B S).own.set (B.own.length+l) o}:=by
 simp only[mS];rw[app_set]
theorem mS_cells (S:St) (l:Nat):(mS B S).cells (B.obs.length+l)=(S.cells l).map (mBL B):=by
 simp only[St.cells,mS_ob]
 cases h:S.obs[l]? with
 |none=>rfl
 |some o=>cases o<;>rfl
theorem mT_look (ts:Tmps) (d:Nat):look (mT B ts) d=(look ts d).map (mB B):=by
 induction ts with
 |nil=>rfl
 |cons p ts ih=>
  obtain ⟨i,v⟩:=p
  simp only[mT,List.map_cons,look] at ih ⊢
  split
  ·rfl
  ·exact ih
theorem mT_put (ts:Tmps) (d:Option Nat) (v:Option PV):mT B (put ts d v)=put (mT B ts) d (v.map (mB B)):=by cases d<;>rfl
theorem mT_sel (ks:Option (List Nat)) (ts:Tmps):sel ks (mT B ts)=mT B (sel ks ts):=by
 cases ks with
 |none=>rfl
 |some l=>simp only[sel,mT,List.map_map];refine List.map_congr_left fun d _=> ?_;simp only[Function.comp];rw[←mT_look];rfl
theorem rowOf_mv (cs:List PV) (n:Option Nat):rowOf (mBL B cs) n=(rowOf cs n).map (mB B):=by
 cases n with
 |none=>simp only[rowOf,mBL_get]
 |some n=>
  simp only[rowOf,mBL_len,mBL_take]
  split<;>rfl
theorem derefP_mv (S:St) (p:PV):derefP (mS B S) (mB B p)=(derefP S p).map (mBL B):=by
 cases p with
 |ref l o=>
  simp only[mB,mvV,derefP,mS_cells]
  cases S.cells l with
  |none=>rfl
  |some cs=>simp only[Option.map_some,mBL_drop]
 |_=>rfl
theorem setRow_mv: ∀ (vs cs:List PV) (o:Nat),setRow (mBL B cs) o (mBL B vs)=mBL B (setRow cs o vs)
 |[],cs,o=>rfl
 |v::vs,cs,o=>by
  show setRow ((mBL B cs).set o (mB B v)) (o+1) (mBL B vs)=_
  rw[mBL_set,setRow_mv vs];rfl
theorem idxP_mv (v:PV) (n:Nat):idxP (mB B v) n=idxP v n:=by cases v<;>rfl
theorem boundP_mv (x:Option PV) (d t:Nat):boundP (x.map (mB B)) d t=boundP x d t:=by
 cases x with
 |none=>rfl
 |some v=>cases v<;>rfl
theorem bytesOf_mv: ∀ xs:List (List PV),bytesOf (mBLL B xs)=bytesOf xs
 |[]=>rfl
 |[]::_=>rfl
 |[v]::l=>by
  have ih:=bytesOf_mv l
  cases v with
  |int i n=>cases i<;>simp only[mBLL,mvLL,mvL,mvV,bytesOf] at ih ⊢;rw[ih]
  |_=>rfl
 |(u::v::r)::l=>by
  simp[mBLL,mvLL,mvL,bytesOf]
theorem rowsOfBytes_mv (l:List UInt8):mBLL B (rowsOfBytes l)=rowsOfBytes l:=by
 refine mv_freeLL _ _ _ ?_
 induction l with
 |nil=>rfl
 |cons b l ih=>simpa [rowsOfBytes,freeLL,freeL,PV.free] using ih
theorem headOk_mv (sz:Nat) (xs:List (List PV)):headOk sz (mBLL B xs)=headOk sz xs:=by
 cases xs with
 |nil=>rfl
 |cons r l=>simp only[mBLL,mvLL,headOk];rw[←mBL,mBL_len]
theorem chunk_mv (sz:Nat): ∀ (n:Nat) (cs:List PV),chunk sz n (mBL B cs)=mBLL B (chunk sz n cs)
 |0,_=>rfl
 |n+1,cs=>by simp only[chunk,mBL_take,mBL_drop,chunk_mv sz n];rfl
theorem binP_mv (op:BinOp) (x y:PV) {v:PV} (h:binP op x y=some v):binP op (mB B x) (mB B y)=some (mB B v):=by
 cases x with
 |int i m=>
  cases y with
  |int j n=>
   have:binP op (mB B (.int i m)) (mB B (.int j n))=binP op (.int i m) (.int j n):=rfl
   rw[this,h]
   cases op<;>simp only[binP] at h<;>(try split at h)<;>cases h<;>rfl
  |_=>simp[binP] at h
 |str s=>
  cases y with
  |str t=>
   have:binP op (mB B (.str s)) (mB B (.str t))=binP op (.str s) (.str t):=rfl
   rw[this,h]
   cases op<;>simp only[binP] at h<;>(try split at h)<;>cases h<;>rfl
  |_=>simp[binP] at h
 |_=>simp[binP] at h
theorem eqAtom_mv (n:Nat) (x y:PV) {t:Bool} (h:eqAtom n x y=some t):eqAtom n (mB B x) (mB B y)=some t:=by
 unfold eqAtom at h
 split at h
 ·exact h
 ·exact h
 ·exact h
 ·cases h
theorem eqCells_mv (x y:List PV): ∀ (l:List (Nat×Nat)) {t:Bool},eqCells x y l=some t→eqCells (mBL B x) (mBL B y) l=some t
 |[],t,h=>h
 |(o,k)::l,t,h=>by
  simp only[eqCells,mBL_get] at h ⊢
  split at h
  ·rename_i u v h1 h2
   simp only[h1,h2,Option.map_some]
   split at h
   ·rename_i he;rw[eqAtom_mv B _ _ _ he];exact eqCells_mv x y l h
   ·rename_i he;rw[eqAtom_mv B _ _ _ he];exact h
   ·cases h
  ·cases h
end
def Glob.Free (G:Glob):Prop:= ∀ g cs,G.tab g=some cs→freeL cs=true
def CallMv (B:St) (c:CallFn):Prop:= ∀ f args S r S',c f args S=some (r,S')→c f (mBL B args) (mS B S)=some (mB B r,mS B S')
section
variable {B:St} {G:Glob} (hG:G.Free) {ts:Tmps} {S S':St}
include hG
theorem val_mv {x:EOpd} (h:x.free=true):x.val G (mT B ts)=(x.val G ts).map (mB B):=by
 cases x with
 |tmp t=>exact mT_look B ts t
 |con v=>simp only[EOpd.val,Option.map_some,mB,mv_free _ _ v h]
 |glob g=>
  simp only[EOpd.val]
  cases hg:G.tab g with
  |none=>rfl
  |some cs=>simp only[Option.map_some,mB,mvV,mv_freeL _ _ cs (hG g cs hg)]
theorem optVal_mv {x:Option EOpd} (h:oFree x=true):optVal G (mT B ts) x=(optVal G ts x).map (Option.map (mB B)):=by
 cases x with
 |none=>rfl
 |some x=>
  simp only[optVal,val_mv hG (B:=B) (ts:=ts) (x:=x) h]
  cases x.val G ts<;>rfl
theorem vals_mv: ∀ {l:List EOpd},l.all EOpd.free=true→vals G (mT B ts) l=(vals G ts l).map (mBL B)
 |[],h=>rfl
 |x::l,h=>by
  simp only[List.all_cons,Bool.and_eq_true] at h
  simp only[vals,val_mv hG (B:=B) (ts:=ts) h.1,vals_mv h.2]
  cases x.val G ts with
  |none=>rfl
  |some v=>cases vals G ts l<;>rfl
theorem fillP_mv: ∀ {ps:List (Nat×Nat×EOpd)} {cs:List PV},(ps.all fun p=>p.2.2.free)=true→fillP G (mT B ts) (mBL B cs) ps=(fillP G ts cs ps).map (mBL B)
 |[],cs,h=>rfl
 |(o,s,x)::ps,cs,h=>by
  simp only[List.all_cons,Bool.and_eq_true] at h
  simp only[fillP,val_mv hG (B:=B) (ts:=ts) h.1]
  cases x.val G ts with
  |none=>rfl
  |some v=>
   simp only[Option.map_some,Option.bind_some,mB_okc,mB_cells,mBL_len]
   split
   ·rfl
   ·rw[setRow_mv,fillP_mv h.2]
end
theorem appP_mv {B S:St} {e:TypeId} {sz bytes:Nat} {g:Tag} {xs ys:List (List PV)} {v:PV} {S':St} (h:appP S e sz bytes g xs ys=some (v,S')):
  appP (mS B S) e sz bytes (mvG B.own.length g) (mBLL B xs) (mBLL B ys)=some (mB B v,mS B S'):=by
 unfold appP at h ⊢
 simp only[mBLL_emp,mBLL_len,headOk_mv]
 split at h
 ·rename_i he;rw[if_pos he];injection h with h;injection h with h1 h2;subst h1 h2;rfl
 ·rename_i he
  rw[if_neg he]
  split at h
  ·rename_i hc
   rw[if_pos hc]
   cases g with
   |ro=>cases h
   |own j e'=>
    simp only[mvG,mS_own] at h ⊢
    split at h
    ·rename_i h2
     rw[if_pos h2]
     injection h with h;injection h with h3 h4;subst h3 h4
     rw[mS_own_set]
     simp only[mB,mvV,mvG,←mBLL_app]
    ·cases h
   |exact=>
    simp only[mvG,mS_olen] at h ⊢
    injection h with h;injection h with h3 h4;subst h3 h4
    rw[mS_own_app]
    simp only[mB,mvV,mvG,←mBLL_app]
   |null=>
    simp only[mvG,mS_olen] at h ⊢
    injection h with h;injection h with h3 h4;subst h3 h4
    rw[mS_own_app]
    simp only[mB,mvV,mvG,←mBLL_app]
  ·cases h
section
variable {B:St} {G:Glob} {call:CallFn} {ts:Tmps} {S S':St}
theorem mBLL_flat (B:St): ∀ ys:List (List PV),(mBLL B ys).flatten=mBL B ys.flatten
 |[]=>rfl
 |r::ys=>by
  have ih:=mBLL_flat B ys
  simp only[mBLL,mvLL,List.flatten_cons] at ih ⊢
  rw[ih]
  exact (mBL_app B r ys.flatten).symm
theorem appM_mv {B S:St} {e:TypeId} {sz bytes:Nat} {x:PV} {ys:List (List PV)} {v:PV} {S':St} (h:appM S e sz bytes x ys=some (v,S')):
  appM (mS B S) e sz bytes (mB B x) (mBLL B ys)=some (mB B v,mS B S'):=by
 unfold appM at h ⊢
 simp only[mBLL_emp,mBLL_len,headOk_mv]
 split at h
 ·rename_i hem
  rw[if_pos hem]
  split at h
  ·injection h with h;injection h with h3 h4;subst h3 h4;rfl
  ·injection h with h;injection h with h3 h4;subst h3 h4;rfl
  ·cases h
 rename_i hem
 rw[if_neg hem]
 split at h
 rotate_left
 ·cases h
 rename_i hc
 rw[if_pos hc]
 split at h
 ·rename_i g
  split at h
  ·rename_i h1
   injection h with h;injection h with h3 h4;subst h3 h4
   have hg:(mvG B.own.length g= .null∨mvG B.own.length g= .exact):=by
    rcases h1.1 with e|e
    ·subst e;exact .inl rfl
    ·subst e;exact .inr rfl
   show (if (mvG B.own.length g= .null∨mvG B.own.length g= .exact)∧ys.length*bytes≤140737488355328∧ys.length≤9223372036854775807 then some (PV.msl (mS B S).obs.length 0 ys.length sz,{mS B S with obs:=(mS B S).obs++[Ob.row e (mBLL B ys).flatten]}) else none)=_
   rw[if_pos ⟨hg,h1.2⟩,mBLL_flat,mS_len]
   simp only[mB,mvV]
   rw[mS_obs_app];rfl
  ·cases h
 ·rename_i l o n s
  split at h
  ·rename_i e' cs hob
   split at h
   ·rename_i h1
    injection h with h;injection h with h3 h4;subst h3 h4
    show (match (mS B S).obs[B.obs.length+l]? with
     |some (.row e'' cs')=>if (e''=e∧s=sz∧o=0)∧cs'.length=n*sz∧0<n∧(n+ys.length)*bytes≤140737488355328∧n+ys.length≤9223372036854775807 then
       some (PV.msl (mS B S).obs.length 0 (n+ys.length) sz,{mS B S with obs:=(mS B S).obs.set (B.obs.length+l) Ob.dead++[Ob.row e (cs'++(mBLL B ys).flatten)]}) else none
     |_=>none)=_
    rw[mS_ob,hob]
    simp only[Option.map_some,mBO,mvO]
    rw[if_pos (by rw[show (mvL B.obs.length B.own.length cs).length=cs.length from mBL_len B cs];exact h1),mBLL_flat,mS_len]
    simp only[mB,mvV]
    have e1:mS B {S with obs:=S.obs.set l .dead++[.row e (cs++ys.flatten)]}={mS B S with obs:=(mS B {S with obs:=S.obs.set l .dead}).obs++[mBO B (.row e (cs++ys.flatten))]}:=mS_obs_app (B:=B) {S with obs:=S.obs.set l .dead} _
    rw[e1,mS_obs_set]
    simp only[mBO,mvO]
    rw[show mvL B.obs.length B.own.length (cs++ys.flatten)=mvL B.obs.length B.own.length cs++mBL B ys.flatten from mBL_app B cs ys.flatten]
   ·cases h
  ·cases h
 ·cases h
theorem evOp_mv (hG:G.Free) (hc:CallMv B call) {o:EOp} (hf:o.free=true) {v:PV} (h:evOp G call ts S o=some (v,S')):evOp G call (mT B ts) (mS B S) o=some (mB B v,mS B S'):=by
 have hv: ∀ {x:EOpd},x.free=true→x.val G (mT B ts)=(x.val G ts).map (mB B):=fun h=>val_mv hG h
 cases o with
 |mv x=>
  simp only[evOp,hv hf,Option.map_eq_some_iff] at h ⊢
  obtain ⟨u,hu,e⟩:=h;injection e with e1 e2;subst e1 e2
  exact ⟨_,⟨u,hu,rfl⟩,rfl⟩
 |pick c a b=>
  simp only[EOp.free,Bool.and_eq_true] at hf
  simp only[evOp,hv hf.1] at h ⊢
  split at h
  ·rename_i t ht
   simp only[ht,Option.map_some,mB,mvV] at h ⊢
   simp only[Option.map_eq_some_iff] at h
   obtain ⟨u,hu,e⟩:=h;injection e with e1 e2;subst e1 e2
   cases t with
   |true=>simp only[if_true] at hu ⊢;rw[hv hf.2.1,hu];rfl
   |false=>simp only[Bool.false_eq_true,if_false] at hu ⊢;rw[hv hf.2.2,hu];rfl
  ·cases h
 |new t z=>
  simp only[evOp,EOp.free] at h hf ⊢
  injection h with h;injection h with h1 h2;subst h1 h2
  rw[mS_obs_app,mS_len]
  simp only[mB,mvV,mBO,mvO,mv_freeL _ _ z hf]
 |box t x=>
  simp only[evOp,hv hf,Option.bind_eq_some_iff] at h ⊢
  obtain ⟨u,hu,h⟩:=h
  refine ⟨mB B u,by rw[hu];rfl, ?_⟩
  rw[mB_okc]
  split at h
  ·cases h
  ·rename_i hk
   rw[if_neg hk]
   injection h with h;injection h with h1 h2;subst h1 h2
   rw[mS_obs_app,mS_len,mB_cells];rfl
 |boxI t x=>
  simp only[evOp,hv hf,Option.bind_eq_some_iff] at h ⊢
  obtain ⟨u,hu,h⟩:=h
  refine ⟨mB B u,by rw[hu];rfl, ?_⟩
  rw[mB_okc]
  split at h
  ·cases h
  ·rename_i hk
   rw[if_neg hk]
   injection h with h;injection h with h1 h2;subst h1 h2
   rw[mB_cells];rfl
 |build z ps=>
  simp only[EOp.free,Bool.and_eq_true] at hf
  have e:=fillP_mv (B:=B) hG (ts:=ts) (cs:=z) hf.2
  rw[mBL,mv_freeL _ _ z hf.1] at e
  simp only[evOp,Option.map_eq_some_iff] at h ⊢
  obtain ⟨cs,hcs,e2⟩:=h;injection e2 with e3 e4;subst e3 e4
  exact ⟨mBL B cs,by rw[e,hcs];rfl,rfl⟩
 |rows n sz z ps=>
  simp only[EOp.free,Bool.and_eq_true] at hf
  have hz: ∀ n,freeL (repRow z n)=true:=fun n=>by
   induction n with
   |zero=>rfl
   |succ n ih=>
    have: ∀ l m:List PV,freeL l=true→freeL m=true→freeL (l++m)=true:=fun l m hl hm=>by
     induction l with
     |nil=>exact hm
     |cons x l ih=>simp only[freeL,List.cons_append,Bool.and_eq_true] at hl ⊢;exact ⟨hl.1,ih hl.2⟩
    exact this _ _ hf.1 ih
  have hp:((ps.map fun (i,x)=>(i*sz,sz,x)).all fun p=>p.2.2.free)=true:=by
   rw[List.all_map];exact hf.2
  have e:=fillP_mv (B:=B) hG (ts:=ts) (cs:=repRow z n) hp
  rw[mBL,mv_freeL _ _ _ (hz n)] at e
  simp only[evOp,Option.bind_eq_some_iff] at h ⊢
  obtain ⟨cs,hcs,h⟩:=h
  refine ⟨mBL B cs,by rw[e,hcs];rfl, ?_⟩
  split at h
  ·rename_i hl
   rw[if_pos (by rw[mBL_len];exact hl)]
   injection h with h;injection h with h1 h2;subst h1 h2
   rw[chunk_mv];rfl
  ·cases h
 |mks et sz by_ z x y=>
  simp only[EOp.free,Bool.and_eq_true] at hf
  have hz: ∀ n,freeL (repRow z n)=true:=fun n=>by
   induction n with
   |zero=>rfl
   |succ n ih=>
    have: ∀ l m:List PV,freeL l=true→freeL m=true→freeL (l++m)=true:=fun l m hl hm=>by
     induction l with
     |nil=>exact hm
     |cons x l ih=>simp only[freeL,List.cons_append,Bool.and_eq_true] at hl ⊢;exact ⟨hl.1,ih hl.2⟩
    exact this _ _ hf.1 ih
  simp only[evOp,hv hf.2.1,hv hf.2.2] at h ⊢
  split at h
  ·rename_i k1 m k2 m' h1 h2
   simp only[h1,h2,Option.map_some,mB,mvV] at h ⊢
   split at h
   ·rename_i hh
    rw[if_pos hh]
    injection h with h;injection h with h3 h4;subst h3 h4
    have e:mBL B (repRow z m.toNat)=repRow z m.toNat:=mv_freeL _ _ _ (hz _)
    have e2:mBLL B (chunk sz m.toNat (repRow z m.toNat))=chunk sz m.toNat (repRow z m.toNat):=by rw[←chunk_mv,e]
    simp only[mvV,mvG]
    rw[←mBLL,e2]
   ·cases h
  ·cases h
 |ld n x=>
  simp only[evOp,hv hf,Option.bind_eq_some_iff,Option.map_eq_some_iff] at h ⊢
  obtain ⟨p,hp,cs,hcs,r,hr,e⟩:=h;injection e with e1 e2;subst e1 e2
  exact ⟨mB B p,⟨p,hp,rfl⟩,mBL B cs,by rw[derefP_mv,hcs];rfl,mB B r,by rw[rowOf_mv,hr];rfl,rfl⟩
 |st n x y=>
  simp only[EOp.free,Bool.and_eq_true] at hf
  simp only[evOp,hv hf.1,hv hf.2] at h ⊢
  split at h
  ·rename_i l o u h1 h2
   simp only[h1,h2,Option.map_some,mB,mvV] at h ⊢
   rw[mS_ob]
   split at h
   ·rename_i t cs hob
    split at h
    ·rename_i hk
     have hk':(mB B u).okc=true∧(mB B u).cells.length=n∧o+n≤(mBL B cs).length:=by rw[mB_okc,mB_cells,mBL_len,mBL_len];exact hk
     rw[hob]
     simp only[Option.map_some,mBO,mvO]
     rw[if_pos hk']
     injection h with h;injection h with h3 h4;subst h3 h4
     rw[mS_obs_set,mB_cells,setRow_mv];rfl
    ·cases h
   ·rename_i t cs hob
    split at h
    ·rename_i hk
     have hk':(mB B u).okc=true∧(mB B u).cells.length=n∧o+n≤(mBL B cs).length:=by rw[mB_okc,mB_cells,mBL_len,mBL_len];exact hk
     rw[hob]
     simp only[Option.map_some,mBO,mvO]
     rw[if_pos hk']
     injection h with h;injection h with h3 h4;subst h3 h4
     rw[mS_obs_set,mB_cells,setRow_mv];rfl
    ·cases h
   ·cases h
  ·cases h
 |nck x=>
  simp only[evOp,hv hf] at h ⊢
  split at h
  ·rename_i l o h1
   injection h with h;injection h with h3 h4;subst h3 h4
   simp only[h1,Option.map_some,mB,mvV]
  ·rename_i cs h1
   injection h with h;injection h with h3 h4;subst h3 h4
   simp only[h1,Option.map_some,mB,mvV]
  ·cases h
 |bin op x y=>
  simp only[EOp.free,Bool.and_eq_true] at hf
  simp only[evOp,hv hf.1,hv hf.2] at h ⊢
  split at h
  ·rename_i a b h1 h2
   simp only[Option.map_eq_some_iff] at h
   obtain ⟨r,hr,e⟩:=h;injection e with e1 e2;subst e1 e2
   simp only[h1,h2,Option.map_some,binP_mv B op _ _ hr]
  ·cases h
 |eqB neg x y=>
  simp only[EOp.free,Bool.and_eq_true] at hf
  simp only[evOp,hv hf.1,hv hf.2] at h ⊢
  split at h
  ·rename_i a b h1 h2
   injection h with h;injection h with h3 h4;subst h3 h4
   simp only[h1,h2,Option.map_some,mB,mvV]
  ·cases h
 |eqP neg x y=>
  simp only[EOp.free,Bool.and_eq_true] at hf
  simp only[evOp,hv hf.1,hv hf.2] at h ⊢
  split at h
  all_goals first
   |(cases h;done)
   |(rename_i h1 h2
     injection h with h;injection h with h3 h4;subst h3 h4
     simp only[h1,h2,Option.map_some,mB,mvV])
 |eqI neg x y=>
  simp only[EOp.free,Bool.and_eq_true] at hf
  simp only[evOp,hv hf.1,hv hf.2] at h ⊢
  split at h
  all_goals first
   |(cases h;done)
   |(rename_i h1 h2
     injection h with h;injection h with h3 h4;subst h3 h4
     simp only[h1,h2,Option.map_some,mB,mvV])
   |(rename_i h1 h2
     split at h
     case isFalse=>cases h
     rename_i hcon
     injection h with h;injection h with h3 h4;subst h3 h4
     simp only[h1,h2,Option.map_some,mB,mvV,hcon,if_true])
 |eqL neg x y=>
  simp only[EOp.free,Bool.and_eq_true] at hf
  simp only[evOp,hv hf.1,hv hf.2] at h ⊢
  split at h
  ·rename_i h1 h2
   injection h with h;injection h with h3 h4;subst h3 h4
   simp only[h1,h2,Option.map_some,mB,mvV,mvG]
  ·rename_i xs g hd tl hg h1 h2
   injection h with h;injection h with h3 h4;subst h3 h4
   cases g<;>first|exact absurd rfl hg|simp only[h1,h2,Option.map_some,mB,mvV,mvG,mvLL]
  ·rename_i g hd tl xs hg h1 h2
   injection h with h;injection h with h3 h4;subst h3 h4
   cases g<;>first|exact absurd rfl hg|simp only[h1,h2,Option.map_some,mB,mvV,mvG,mvLL]
  ·rename_i h1 h2
   injection h with h;injection h with h3 h4;subst h3 h4
   simp only[h1,h2,Option.map_some,mB,mvV,mvG]
  ·rename_i h1 h2
   injection h with h;injection h with h3 h4;subst h3 h4
   simp only[h1,h2,Option.map_some,mB,mvV,mvG]
  ·cases h
 |eqG neg n offs x y=>
  simp only[EOp.free,Bool.and_eq_true] at hf
  simp only[evOp,hv hf.1,hv hf.2] at h ⊢
  split at h
  ·rename_i a b h1 h2
   split at h
   ·rename_i hl
    simp only[h1,h2,Option.map_some,mB,mvV]
    rw[if_pos (by rw[←mBL,←mBL,mBL_len,mBL_len];exact hl)]
    simp only[Option.map_eq_some_iff] at h ⊢
    obtain ⟨t,ht,e⟩:=h;injection e with e1 e2;subst e1 e2
    exact ⟨t,eqCells_mv B a b _ ht,rfl⟩
   ·cases h
  ·cases h
 |un op x=>
  simp only[evOp,hv hf] at h ⊢
  split at h
  all_goals first
   |(cases h;done)
   |(rename_i h1
     injection h with h;injection h with h3 h4;subst h3 h4
     simp only[h1,Option.map_some,mB,mvV])
 |cvI i x=>
  simp only[evOp,hv hf] at h ⊢
  split at h
  all_goals first
   |(cases h;done)
   |(rename_i h1
     injection h with h;injection h with h3 h4;subst h3 h4
     simp only[h1,Option.map_some,mB,mvV])
 |cvS x=>
  simp only[evOp,hv hf] at h ⊢
  split at h
  all_goals first
   |(cases h;done)
   |(rename_i h1
     injection h with h;injection h with h3 h4;subst h3 h4
     simp only[h1,Option.map_some,mB,mvV])
 |s2b x=>
  simp only[evOp,hv hf] at h ⊢
  split at h
  ·rename_i s h1
   injection h with h;injection h with h3 h4;subst h3 h4
   simp only[h1,Option.map_some,mB,mvV,mvG]
   rw[←mBLL,rowsOfBytes_mv]
  ·cases h
 |b2s x=>
  simp only[evOp,hv hf] at h ⊢
  split at h
  ·rename_i g xs h1
   simp only[h1,Option.map_some,mB,mvV] at h ⊢
   rw[←mBLL,bytesOf_mv]
   simp only[Option.map_eq_some_iff] at h ⊢
   obtain ⟨l,hl,e⟩:=h;injection e with e1 e2;subst e1 e2
   exact ⟨l,hl,rfl⟩
  ·cases h
 |ifc t x=>
  simp only[evOp,hv hf,Option.map_eq_some_iff] at h ⊢
  obtain ⟨u,hu,e⟩:=h;injection e with e1 e2;subst e1 e2
  exact ⟨_,⟨u,hu,rfl⟩,rfl⟩
 |fnv f x y=>
  simp only[EOp.free,Bool.and_eq_true] at hf
  simp only[evOp,vals_mv hG hf.1,vals_mv hG hf.2] at h ⊢
  split at h
  ·rename_i a b h1 h2
   injection h with h;injection h with h3 h4;subst h3 h4
   simp only[h1,h2,Option.map_some,mB,mvV]
  ·cases h
 |slS x lo hi=>
  simp only[EOp.free,Bool.and_eq_true] at hf
  simp only[evOp,hv hf.1,optVal_mv hG hf.2.1,optVal_mv hG hf.2.2] at h ⊢
  split at h
  ·rename_i s l2 h2 e1 e2 e3
   simp only[e1,e2,e3,Option.map_some,mB,mvV,boundP_mv] at h ⊢
   simp only[Option.bind_eq_some_iff] at h ⊢
   obtain ⟨a,ha,b,hb,e⟩:=h
   injection e with e;injection e with e4 e5;subst e4 e5
   exact ⟨a,ha,b,hb,rfl⟩
  ·cases h
 |slL sz x lo hi m=>
  simp only[EOp.free,Bool.and_eq_true] at hf
  simp only[evOp,hv hf.1,optVal_mv hG hf.2.1,optVal_mv hG hf.2.2.1,optVal_mv hG hf.2.2.2] at h ⊢
  split at h
  ·rename_i g xs l2 h2 m2 e1 e2 e3 e4
   simp only[e1,e2,e3,e4,Option.map_some,mB,mvV,boundP_mv] at h ⊢
   rw[←mBLL,headOk_mv,mBLL_len,mBLL_emp]
   have hs:(m2.map (mvV B.obs.length B.own.length)).isSome=m2.isSome:=by cases m2<;>rfl
   have hn:(h2.map (mvV B.obs.length B.own.length)).isNone=h2.isNone:=by cases h2<;>rfl
   rw[hs,hn]
   split at h
   ·cases h
   ·rename_i hh
    rw[if_neg hh]
    simp only[Option.bind_eq_some_iff] at h ⊢
    obtain ⟨a,ha,b,hb,c,hc2,e⟩:=h
    injection e with e;injection e with e5 e6;subst e5 e6
    refine ⟨a,ha,b,hb,c,hc2, ?_⟩
    rw[mBLL_take,mBLL_drop]
    congr 2
    simp only[mB,mvV]
    congr 1
    split
    ·rfl
    ·split<;>rfl
  ·rename_i k o n s' l2 h2 e1 e2 e3 e4
   simp only[e1,e2,e3,e4,Option.map_some,Option.map_none,mB,mvV,boundP_mv] at h ⊢
   split at h
   ·cases h
   ·rename_i hh
    rw[if_neg hh]
    simp only[Option.bind_eq_some_iff] at h ⊢
    obtain ⟨b,hb,c,hc2,e⟩:=h
    injection e with e;injection e with e5 e6;subst e5 e6
    exact ⟨b,hb,c,hc2,rfl⟩
  ·cases h
 |fA off x=>
  simp only[evOp,hv hf] at h ⊢
  split at h
  ·rename_i l o h1
   injection h with h;injection h with h3 h4;subst h3 h4
   simp only[h1,Option.map_some,mB,mvV]
  ·rename_i cs h1
   simp only[h1,Option.map_some,mB,mvV] at h ⊢
   rw[←mBL,mBL_len]
   split at h
   ·rename_i hl
    rw[if_pos hl]
    injection h with h;injection h with h3 h4;subst h3 h4
    rw[mBL_drop];simp only[mB,mvV]
   ·cases h
  ·cases h
 |fld off n x=>
  simp only[evOp,hv hf] at h ⊢
  split at h
  ·rename_i cs h1
   simp only[h1,Option.map_some,mB,mvV] at h ⊢
   rw[←mBL,mBL_drop,rowOf_mv]
   simp only[Option.map_eq_some_iff] at h ⊢
   obtain ⟨r,hr,e⟩:=h;injection e with e1 e2;subst e1 e2
   exact ⟨_,⟨r,hr,rfl⟩,rfl⟩
  ·cases h
 |ixL sz x i=>
  simp only[EOp.free,Bool.and_eq_true] at hf
  simp only[evOp,hv hf.1,hv hf.2] at h ⊢
  split at h
  ·rename_i g xs iv h1 h2
   simp only[h1,h2,Option.map_some] at h ⊢
   simp only[mB,mvV] at h ⊢
   rw[←mBLL,mBLL_len,←mB,idxP_mv]
   simp only[Option.bind_eq_some_iff] at h ⊢
   obtain ⟨j,hj,r,hr,h⟩:=h
   refine ⟨j,hj,mBL B r,by rw[mBLL_get,hr];rfl, ?_⟩
   rw[mBL_len]
   split at h
   ·rename_i hl
    rw[if_pos hl]
    injection h with h;injection h with h3 h4;subst h3 h4
    rfl
   ·cases h
  ·rename_i l o n s' iv h1 h2
   simp only[h1,h2,Option.map_some] at h ⊢
   simp only[mB,mvV] at h ⊢
   rw[←mB,idxP_mv]
   split at h
   ·cases h
   ·rename_i hh
    rw[if_neg hh]
    simp only[Option.map_eq_some_iff] at h ⊢
    obtain ⟨j,hj,e⟩:=h
    injection e with e5 e6;subst e5 e6
    exact ⟨j,hj,rfl⟩
  ·cases h
 |ixP len sz x i=>
  simp only[EOp.free,Bool.and_eq_true] at hf
  simp only[evOp,hv hf.1,hv hf.2] at h ⊢
  split at h
  ·rename_i l o iv h1 h2
   simp only[h1,h2,Option.map_some] at h ⊢
   simp only[mB,mvV]
   rw[←mB,idxP_mv]
   simp only[Option.map_eq_some_iff] at h ⊢
   obtain ⟨j,hj,e⟩:=h;injection e with e1 e2;subst e1 e2
   exact ⟨j,hj,rfl⟩
  ·rename_i cs iv h1 h2
   simp only[h1,h2,Option.map_some] at h ⊢
   simp only[mB,mvV]
   rw[←mB,idxP_mv]
   simp only[Option.bind_eq_some_iff] at h ⊢
   obtain ⟨j,hj,h⟩:=h
   refine ⟨j,hj, ?_⟩
   rw[←mBL,mBL_len]
   split at h
   ·rename_i hl
    rw[if_pos hl]
    injection h with h;injection h with h3 h4;subst h3 h4
    rw[mBL_drop];simp only[mB,mvV]
   ·cases h
  ·cases h
 |ixS x i=>
  simp only[EOp.free,Bool.and_eq_true] at hf
  simp only[evOp,hv hf.1,hv hf.2] at h ⊢
  split at h
  ·rename_i s iv h1 h2
   simp only[h1,h2,Option.map_some] at h ⊢
   simp only[mB,mvV]
   rw[←mB,idxP_mv]
   simp only[Option.bind_eq_some_iff,Option.map_eq_some_iff] at h ⊢
   obtain ⟨j,hj,b,hb,e⟩:=h;injection e with e1 e2;subst e1 e2
   exact ⟨j,hj,b,hb,rfl⟩
  ·cases h
 |ixG len sz n x i=>
  simp only[EOp.free,Bool.and_eq_true] at hf
  simp only[evOp,hv hf.1,hv hf.2] at h ⊢
  split at h
  ·rename_i cs iv h1 h2
   simp only[h1,h2,Option.map_some] at h ⊢
   simp only[mB,mvV]
   rw[←mB,idxP_mv]
   simp only[Option.bind_eq_some_iff,Option.map_eq_some_iff] at h ⊢
   obtain ⟨j,hj,r,hr,e⟩:=h;injection e with e1 e2;subst e1 e2
   exact ⟨j,hj,mB B r,by rw[←mBL,mBL_drop,rowOf_mv,hr];rfl,rfl⟩
  ·cases h
 |rng x=>
  simp only[evOp,hv hf] at h ⊢
  split at h
  ·rename_i s h1
   simp only[h1,Option.map_some,mB,mvV]
   injection h with h;injection h with h3 h4;subst h3 h4
   rw[mS_obs_app,mS_len];simp only[mB,mvV];rfl
  ·cases h
 |nxt x=>
  simp only[evOp,hv hf] at h ⊢
  split at h
  ·rename_i l h1
   simp only[h1,Option.map_some,mB,mvV]
   rw[mS_ob]
   split at h
   ·rename_i s pos hob
    rw[hob]
    simp only[Option.map_some,mBO,mvO]
    split at h
    ·rename_i hp
     rw[if_pos hp]
     injection h with h;injection h with h3 h4;subst h3 h4
     rw[mS_obs_set];rfl
    ·rename_i hp
     rw[if_neg hp]
     injection h with h;injection h with h3 h4;subst h3 h4
     rfl
   ·cases h
  ·cases h
 |ext x i=>
  simp only[evOp,hv hf] at h ⊢
  split at h
  ·rename_i vs h1
   simp only[h1,Option.map_some,mB,mvV] at h ⊢
   rw[←mBL,mBL_get]
   simp only[Option.map_eq_some_iff] at h ⊢
   obtain ⟨r,hr,e⟩:=h;injection e with e1 e2;subst e1 e2
   exact ⟨_,⟨r,hr,rfl⟩,rfl⟩
  ·cases h
 |len s x=>
  simp only[evOp,hv hf] at h ⊢
  split at h
  ·rename_i t h1
   split at h
   ·rename_i hs
    injection h with h;injection h with h3 h4;subst h3 h4
    simp only[h1,Option.map_some,mB,mvV,hs,if_true]
   ·cases h
  ·rename_i g xs h1
   split at h
   ·cases h
   ·rename_i hs
    injection h with h;injection h with h3 h4;subst h3 h4
    simp only[h1,Option.map_some,mB,mvV,hs,if_false,Bool.false_eq_true]
    rw[←mBLL,mBLL_len]
  ·rename_i l o n s' h1
   split at h
   ·cases h
   ·rename_i hs
    injection h with h;injection h with h3 h4;subst h3 h4
    simp only[h1,Option.map_some,mB,mvV,hs,if_false,Bool.false_eq_true]
  ·cases h
 |app e sz bytes x y=>
  simp only[EOp.free,Bool.and_eq_true] at hf
  simp only[evOp,hv hf.1,hv hf.2] at h ⊢
  split at h
  ·rename_i g xs g2 ys h1 h2
   simp only[h1,h2,Option.map_some,mB,mvV]
   exact appP_mv h
  ·cases h
 |apS e x y=>
  simp only[EOp.free,Bool.and_eq_true] at hf
  simp only[evOp,hv hf.1,hv hf.2] at h ⊢
  split at h
  ·rename_i g xs s h1 h2
   simp only[h1,h2,Option.map_some,mB,mvV]
   have:=appP_mv (B:=B) h
   rw[rowsOfBytes_mv] at this
   exact this
  ·cases h
 |usd x=>
  simp only[evOp,hv hf] at h ⊢
  split at h
  all_goals first
   |(cases h;done)
   |(rename_i h1
     injection h with h;injection h with h3 h4;subst h3 h4
     simp only[h1,Option.map_some,mB,mvV,mvG])
 |ust e x y=>
  simp only[EOp.free,Bool.and_eq_true] at hf
  simp only[evOp,hv hf.1,hv hf.2] at h ⊢
  split at h
  ·rename_i h1 h2
   injection h with h;injection h with h3 h4;subst h3 h4
   simp only[h1,h2,Option.map_some,mB,mvV,mvG,mvLL]
  ·rename_i j e' xs n h1 h2
   simp only[h1,h2,Option.map_some,mB,mvV,mvG]
   rw[←mBLL,mBLL_len,bytesOf_mv,mS_own]
   split at h
   ·rename_i hh
    rw[if_pos hh]
    simp only[Option.map_eq_some_iff] at h ⊢
    obtain ⟨l,hl,e2⟩:=h;injection e2 with e3 e4;subst e3 e4
    exact ⟨l,hl,by rw[mS_own_set];rfl⟩
   ·cases h
  ·cases h
 |mx mn x y=>
  simp only[EOp.free,Bool.and_eq_true] at hf
  simp only[evOp,hv hf.1,hv hf.2] at h ⊢
  split at h
  ·rename_i k2 a k3 b h1 h2
   injection h with h;injection h with h3 h4;subst h3 h4
   simp only[h1,h2,Option.map_some,mB,mvV]
  ·cases h
 |call f args=>
  simp only[EOp.free,Bool.and_eq_true] at hf
  simp only[evOp,hv hf.1,vals_mv hG hf.2] at h ⊢
  split at h
  ·rename_i g first caps vs h1 h2
   simp only[h1,h2,Option.map_some,mB,mvV]
   have:=hc _ _ _ _ _ h
   simp only[mBL_app] at this
   exact this
  ·rename_i l vs h1 h2
   simp only[h1,h2,Option.map_some,mB,mvV]
   exact hc _ _ _ _ _ h
  ·cases h
 |callM f args=>
  simp only[EOp.free,Bool.and_eq_true] at hf
  simp only[evOp,hv hf.1,vals_mv hG hf.2] at h ⊢
  split at h
  ·rename_i g first caps vs h1 h2
   simp only[h1,h2,Option.map_some,mB,mvV]
   have:=hc _ _ _ _ _ h
   simp only[mBL_app] at this
   exact this
  ·cases h
 |mksM t sz by_ z x y=>
  simp only[EOp.free,Bool.and_eq_true] at hf
  have hz: ∀ n,freeL (repRow z n)=true:=fun n=>by
   induction n with
   |zero=>rfl
   |succ n ih=>
    have: ∀ l m:List PV,freeL l=true→freeL m=true→freeL (l++m)=true:=fun l m hl hm=>by
     induction l with
     |nil=>exact hm
     |cons x l ih=>simp only[freeL,List.cons_append,Bool.and_eq_true] at hl ⊢;exact ⟨hl.1,ih hl.2⟩
    exact this _ _ hf.1 ih
  simp only[evOp,hv hf.2.1,hv hf.2.2] at h ⊢
  split at h
  ·rename_i k1 m k2 m' h1 h2
   simp only[h1,h2,Option.map_some,mB,mvV] at h ⊢
   split at h
   ·rename_i hh
    rw[if_pos hh]
    injection h with h;injection h with h3 h4;subst h3 h4
    rw[mS_obs_app,mS_len]
    simp only[mvV,mBO,mvO,mv_freeL _ _ _ (hz _)]
   ·cases h
  ·cases h
 |appM e sz by_ x y=>
  simp only[EOp.free,Bool.and_eq_true] at hf
  simp only[evOp,hv hf.1,hv hf.2] at h ⊢
  split at h
  ·rename_i p g2 ys h1 h2
   simp only[h1,h2,Option.map_some,mB,mvV]
   exact appM_mv h
  ·cases h
 |cpy _ _ _=>simp[evOp] at h
 |clr sz z x=>
  simp only[EOp.free,Bool.and_eq_true] at hf
  have hz: ∀ n,freeL (repRow z n)=true:=fun n=>by
   induction n with
   |zero=>rfl
   |succ n ih=>
    have: ∀ l m:List PV,freeL l=true→freeL m=true→freeL (l++m)=true:=fun l m hl hm=>by
     induction l with
     |nil=>exact hm
     |cons x l ih=>simp only[freeL,List.cons_append,Bool.and_eq_true] at hl ⊢;exact ⟨hl.1,ih hl.2⟩
    exact this _ _ hf.1 ih
  simp only[evOp,hv hf.2] at h ⊢
  split at h
  ·rename_i l o n s h1
   simp only[h1,Option.map_some,mB,mvV] at h ⊢
   rw[mS_ob]
   split at h
   ·rename_i t cs hob
    split at h
    ·rename_i hk
     have hk':s=sz∧0<n∧o+n*sz≤(mBL B cs).length:=by rw[mBL_len];exact hk
     rw[hob]
     simp only[Option.map_some,mBO,mvO]
     rw[if_pos hk']
     injection h with h;injection h with h3 h4;subst h3 h4
     have e1:mBL B (repRow z n)=repRow z n:=mv_freeL _ _ _ (hz n)
     rw[mS_obs_set]
     conv=>lhs;rw[←e1,setRow_mv]
     rfl
    ·cases h
   ·cases h
  ·cases h
 |mln _=>simp[evOp] at h
 |pnc _=>simp[evOp] at h
 |rcv=>simp[evOp] at h
 |tas t ok z x=>
  simp only[EOp.free,Bool.and_eq_true] at hf
  have hz:mvV B.obs.length B.own.length z=z:=mv_free _ _ z hf.1
  simp only[evOp,hv hf.2] at h ⊢
  split at h
  ·rename_i u w h1
   simp only[h1,Option.map_some,mB,mvV] at h ⊢
   split at h
   ·rename_i he
    rw[if_pos he]
    injection h with h;injection h with h3 h4;subst h3 h4
    cases ok<;>rfl
   ·rename_i he
    rw[if_neg he]
    split at h
    ·rename_i hk
     rw[if_pos hk]
     injection h with h;injection h with h3 h4;subst h3 h4
     simp only[mvV,mvL,hz]
    ·cases h
  ·rename_i h1
   simp only[h1,Option.map_some,mB,mvV] at h ⊢
   split at h
   ·rename_i hk
    rw[if_pos hk]
    injection h with h;injection h with h3 h4;subst h3 h4
    simp only[mvV,mvL,hz]
   ·cases h
  ·cases h
 |mkm=>
  simp only[evOp] at h ⊢
  injection h with h;injection h with h3 h4;subst h3 h4
  rw[mS_obs_app,mS_len];rfl
 |lkp z ok x y=>
  simp only[EOp.free,Bool.and_eq_true] at hf
  have hz:mvV B.obs.length B.own.length z=z:=mv_free _ _ z hf.1
  simp only[evOp,hv hf.2.1,hv hf.2.2] at h ⊢
  split at h
  ·rename_i l k h1 h2
   simp only[h1,h2,Option.map_some,mB,mvV,mS_ob] at h ⊢
   split at h
   ·rename_i es c hob
    simp only[hob,Option.map_some,mBO,mvO,findM_mv]
    cases hf2:findM k es with
    |none=>
     rw[hf2] at h
     simp only[Option.map_none]
     injection h with h;injection h with h3 h4;subst h3 h4
     cases ok
     ·simp only[Bool.false_eq_true,if_false,hz]
     ·simp only[if_true,mvV,mvL,hz]
    |some q=>
     rw[hf2] at h
     simp only[Option.map_some]
     injection h with h;injection h with h3 h4;subst h3 h4
     cases ok<;>rfl
   ·cases h
  ·cases h
 |mup x y z=>
  simp only[EOp.free,Bool.and_eq_true] at hf
  simp only[evOp,hv hf.1,hv hf.2.1,hv hf.2.2] at h ⊢
  split at h
  ·rename_i l k u h1 h2 h3
   simp only[h1,h2,h3,Option.map_some,mB,mvV,mS_ob] at h ⊢
   split at h
   ·rename_i es c hob
    simp only[hob,Option.map_some,mBO,mvO,findM_mv]
    cases hf2:findM k es with
    |none=>
     rw[hf2] at h
     simp only[Option.map_none]
     injection h with h;injection h with h3 h4;subst h3 h4
     rw[mS_obs_set]
     simp only[mBO,mvO,←mM_app];rfl
    |some q=>
     rw[hf2] at h
     simp only[Option.map_some]
     injection h with h;injection h with h3 h4;subst h3 h4
     rw[mS_obs_set]
     simp only[mBO,mvO,←setM_mv];rfl
   ·cases h
  ·cases h
 |men z x y=>
  simp only[EOp.free,Bool.and_eq_true] at hf
  have hz:mvV B.obs.length B.own.length z=z:=mv_free _ _ z hf.1
  simp only[evOp,hv hf.2.1,hv hf.2.2] at h ⊢
  split at h
  ·rename_i l k h1 h2
   simp only[h1,h2,Option.map_some,mB,mvV,mS_ob] at h ⊢
   split at h
   ·rename_i es c hob
    simp only[hob,Option.map_some,mBO,mvO,findM_mv]
    cases hf2:findM k es with
    |none=>
     rw[hf2] at h
     simp only[Option.map_none]
     injection h with h;injection h with h3 h4;subst h3 h4
     rw[mS_obs_set]
     simp only[mvV,mvL,hz]
     simp only[mBO,mvO,←mM_app,mB,hz]
    |some q=>
     rw[hf2] at h
     simp only[Option.map_some]
     injection h with h;injection h with h3 h4;subst h3 h4
     rfl
   ·cases h
  ·cases h
 |mst x y z=>
  simp only[EOp.free,Bool.and_eq_true] at hf
  simp only[evOp,hv hf.1,hv hf.2.1,hv hf.2.2] at h ⊢
  split at h
  ·rename_i l n u h1 h2 h3
   simp only[h1,h2,h3,Option.map_some,mB,mvV,mS_ob] at h ⊢
   split at h
   ·rename_i es c hob
    simp only[hob,Option.map_some,mBO,mvO]
    have e:=setB_mv B n u es
    simp only[mM,mB] at e
    rw[e]
    simp only[Option.map_eq_some_iff] at h ⊢
    obtain ⟨es',hes,e2⟩:=h;injection e2 with e3 e4;subst e3 e4
    exact ⟨mM B es',⟨es',hes,rfl⟩,by rw[mS_obs_set];rfl⟩
   ·cases h
  ·cases h
 |mdl x y=>
  simp only[EOp.free,Bool.and_eq_true] at hf
  simp only[evOp,hv hf.1,hv hf.2] at h ⊢
  split at h
  ·rename_i l k h1 h2
   simp only[h1,h2,Option.map_some,mB,mvV,mS_ob] at h ⊢
   split at h
   ·rename_i es c hob
    simp only[hob,Option.map_some,mBO,mvO]
    injection h with h;injection h with h3 h4;subst h3 h4
    rw[mS_obs_set]
    simp only[mBO,mvO,←delM_mv];rfl
   ·cases h
  ·cases h
theorem panOp_mv (hG:G.Free) {pan:CallFn} (hc:CallMv B pan) {o:EOp} (hf:o.free=true) {v:PV} (h:panOp G pan ts S o=some (v,S')):panOp G pan (mT B ts) (mS B S) o=some (mB B v,mS B S'):=by
 cases o with
 |call f args=>
  simp only[EOp.free,Bool.and_eq_true] at hf
  simp only[panOp,val_mv hG hf.1,vals_mv hG hf.2] at h ⊢
  split at h
  ·rename_i g first caps vs h1 h2
   simp only[h1,h2,Option.map_some,mB,mvV]
   have:=hc _ _ _ _ _ h
   simp only[mBL_app] at this
   exact this
  ·cases h
 |pnc x=>
  simp only[EOp.free] at hf
  simp only[panOp,val_mv hG hf] at h ⊢
  split at h
  ·rename_i t u h1
   injection h with h;injection h with h3 h4;subst h3 h4
   simp only[h1,Option.map_some,mB,mvV]
  ·cases h
 |_=>simp[panOp] at h
theorem rdE_mv (hG:G.Free) {n:Option Nat} {x:EOpd} (hf:x.free=true):rdE G (mT B ts) (mS B S) n x=(rdE G ts S n x).map (mB B):=by
 unfold rdE
 rw[val_mv hG hf]
 cases x.val G ts with
 |none=>rfl
 |some p=>
  simp only[Option.map_some,Option.bind_some]
  rw[derefP_mv]
  cases derefP S p with
  |none=>rfl
  |some cs=>simp only[Option.map_some,Option.bind_some];rw[rowOf_mv]
theorem qok_mv (hG:G.Free) {q:EQ} (hf:q.free=true) (h:q.ok G ts S S'=true):q.ok G (mT B ts) (mS B S) (mS B S')=true:=by
 have hb: ∀ {S S':St},S'.beq S=true→(mS B S').beq (mS B S)=true:=fun h=>by rw[St.beq_sound h];exact St.beq_refl _
 obtain ⟨k,pn⟩:=q
 cases k with
 |no=>rfl
 |still=>exact hb h
 |obs=>
  have h':S'.obs=S.obs:=beqO_sound h
  show beqO (mS B S').obs (mS B S).obs=true
  have e:(mS B S').obs=(mS B S).obs:=by simp only[mS,h']
  rw[e];exact beqO_refl _
 |lds l=>
  have h':(S'.beq S||l.all fun (n,a)=>match rdE G ts S n a,rdE G ts S' n a with|some v,some v'=>v.beq v'|_,_=>false)=true:=h
  show ((mS B S').beq (mS B S)||l.all fun (n,a)=>match rdE G (mT B ts) (mS B S) n a,rdE G (mT B ts) (mS B S') n a with|some v,some v'=>v.beq v'|_,_=>false)=true
  rw[Bool.or_eq_true] at h' ⊢
  rcases h' with h'|h'
  ·exact .inl (hb h')
  ·refine .inr (List.all_eq_true.2 ?_)
   rintro ⟨n,a⟩ hm
   have h1:=List.all_eq_true.1 h' _ hm
   have hfa:a.free=true:=List.all_eq_true.1 (show (l.all fun p=>p.2.free)=true from hf) _ hm
   simp only at h1 ⊢
   rw[rdE_mv hG hfa,rdE_mv hG hfa]
   split at h1
   ·rename_i u u' e1 e2
    rw[e1,e2,beq_sound h1]
    exact beq_refl _
   ·cases h1
theorem wanted_mv {g:Option (Nat×Bool)} {b:Bool} (hb:wantedE g ts=some b):wantedE g (mT B ts)=some b:=by
 unfold wantedE at hb ⊢
 split at hb
 ·exact hb
 ·rename_i d want
  simp only[mT_look]
  split at hb
  ·rename_i t ht;simp only[ht,Option.map_some,mB,mvV];exact hb
  ·rename_i ht;simp only[ht,Option.map_some,mB,mvV,mvL];exact hb
  ·cases hb
theorem evOps_mv (hG:G.Free) (hc:CallMv B call): ∀ {l:List EI} {ts:Tmps} {S:St} {ts':Tmps} {S':St},(l.all EI.free)=true→evOps G call l ts S=some (ts',S')→evOps G call l (mT B ts) (mS B S)=some (mT B ts',mS B S')
 |[],ts,S,ts',S',hf,h=>by
  simp only[evOps] at h ⊢
  injection h with h;injection h with h1 h2;subst h1 h2;rfl
 |i::r,ts,S,ts',S',hf,h=>by
  simp only[List.all_cons,Bool.and_eq_true,EI.free] at hf
  simp only[evOps] at h ⊢
  split at h
  ·rename_i hg
   simp only[wanted_mv hg]
   split at h
   ·rename_i v S1 he
    rw[evOp_mv hG hc hf.1.1 he]
    simp only
    split at h
    ·cases h
    ·rename_i hq
     have hq1:i.q.ok G ts S S1=true:=by simpa using hq
     rw[if_neg (by rw[qok_mv hG hf.1.2 hq1];simp)]
     have:=evOps_mv hG hc hf.2 h
     rwa[mT_put] at this
   ·cases h
  ·rename_i hg
   simp only[wanted_mv hg]
   have:=evOps_mv hG hc hf.2 h
   rwa[mT_put] at this
  ·cases h
theorem evPan_mv (hG:G.Free) (hc:CallMv B call) {pan:CallFn} (hp:CallMv B pan) (hx:Excl call pan): ∀ {l:List EI} {ts:Tmps} {S:St} {v:PV} {S':St},(l.all EI.free)=true→evPan G call pan l ts S=some (v,S')→evPan G call pan l (mT B ts) (mS B S)=some (mB B v,mS B S')
 |[],ts,S,v,S',hf,h=>by simp[evPan] at h
 |i::r,ts,S,v,S',hf,h=>by
  simp only[List.all_cons,Bool.and_eq_true,EI.free] at hf
  simp only[evPan] at h ⊢
  split at h
  ·rename_i hg
   simp only[wanted_mv hg]
   split at h
   ·rename_i u S1 he
    rw[evOp_mv hG hc hf.1.1 he]
    simp only
    split at h
    ·cases h
    ·rename_i hq
     have hq1:i.q.ok G ts S S1=true:=by simpa using hq
     rw[if_neg (by rw[qok_mv hG hf.1.2 hq1];simp)]
     have:=evPan_mv hG hc hp hx hf.2 h
     rwa[mT_put] at this
   ·split at h
    ·rename_i hpn
     have h1:=panOp_mv hG hp hf.1.1 h
     rw[panOp_no hx h1]
     simp only[hpn,if_true]
     exact h1
    ·cases h
  ·rename_i hg
   simp only[wanted_mv hg]
   have:=evPan_mv hG hc hp hx hf.2 h
   rwa[mT_put] at this
  ·cases h
end
end Go.PE
