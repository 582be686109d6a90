/-
  How the evaluator is run on code that is known and values that are not. Conditions: each law's own.
-/
import Derived.Test.YteifnopejdiikaaDoorPE16
namespace Go.PE
open Go Go.RowKit
set_option linter.unusedVariables false
set_option linter.unusedSimpArgs false
inductive Fr where
 |seq (n:Nat) (b:EC)
 |block (id:Nat)
 |again (n:Nat) (c:EC)
def kont (E:Env) (fin:Kont (PV×St)):List Fr→Kont (PV×St)
 |[]=>fin
 | .seq n b::st=>fun x ts S=>match x with
  | .normal=>(lvl E n).ev b ts S (kont E fin st)
  |x=>kont E fin st x ts S
 | .block id::st=>fun x ts S=>match x with
  | .exit id'=>if id'=id then kont E fin st .normal ts S else kont E fin st (.exit id') ts S
  |x=>kont E fin st x ts S
 | .again n c::st=>fun x ts S=>match x with
  | .normal=>(lvl E n).ev c ts S (kont E fin st)
  |x=>kont E fin st x ts S
abbrev Q0:EQ:=⟨.no,true⟩
abbrev Q1:EQ:=⟨.still,true⟩
def stepO (G:Glob) (call:CallFn) (d:Option Nat) (q:EQ) (r:List EI) (ts:Tmps) (S0:St):Option (PV×St)→Option (Tmps×St)
 |some (v,S)=>if !(q.ok G ts S0 S) then none else evOps G call r (put ts d (some v)) S
 |none=>none
def guardO (G:Glob) (call:CallFn) (d:Option Nat) (o:EOp) (b:Bool) (q:EQ) (r:List EI) (ts:Tmps) (S:St):Option PV→Option (Tmps×St)
 |some (.bool t)=>if (t==b)=true then evOps G call (⟨d,o,none,q⟩::r) ts S else evOps G call r (put ts d (some .un)) S
 |some (.tup [])=>evOps G call r (put ts d (some .un)) S
 |_=>none
def stepR (E:Env) (fin:Kont (PV×St)) (st:List Fr) (ks:Option (List Nat)):Option (Tmps×St)→Option (PV×St)
 |some (ts,S)=>kont E fin st .normal (sel ks ts) S
 |none=>none
def stepC (E:Env) (n:Nat) (a b:EC) (ts:Tmps) (S:St) (K:Kont (PV×St)):Option PV→Option (PV×St)
 |some (.bool t)=>if t=true then (lvl E n).ev a ts S K else (lvl E n).ev b ts S K
 |_=>none
section
variable {E:Env} {fin:Kont (PV×St)} {st:List Fr} {G:Glob} {call:CallFn} {ts:Tmps} {S S':St} {n:Nat}
theorem evOps_nil:evOps G call [] ts S=some (ts,S):=rfl
theorem evOps_cons {d:Option Nat} {o:EOp} {q:EQ} {r:List EI}:evOps G call (⟨d,o,none,q⟩::r) ts S=stepO G call d q r ts S (evOp G call ts S o):=by
 simp only[evOps,wantedE]
 cases evOp G call ts S o with
 |none=>rfl
 |some p=>rfl
theorem evOps_consg {d:Option Nat} {o:EOp} {r:List EI} {g:Nat} {b:Bool} {q:EQ}:evOps G call (⟨d,o,some (g,b),q⟩::r) ts S=guardO G call d o b q r ts S (look ts g):=by
 simp only[evOps,wantedE]
 cases look ts g with
 |none=>rfl
 |some v=>
  cases v<;>simp only[guardO]
  ·rename_i t
   cases h:(t==b)<;>simp[evOps,wantedE]<;>rfl
  ·rename_i vs
   cases vs<;>rfl
theorem guardO_un {d:Option Nat} {o:EOp} {b:Bool} {q:EQ} {r:List EI}:guardO G call d o b q r ts S (some .un)=evOps G call r (put ts d (some .un)) S:=rfl
theorem stepO_some {d:Option Nat} {r:List EI} {S0:St} {v:PV} {b:Bool}:stepO G call d ⟨.no,b⟩ r ts S0 (some (v,S))=evOps G call r (put ts d (some v)) S:=by simp[stepO,EQ.ok]
theorem stepO_q {d:Option Nat} {r:List EI} {v:PV} {b:Bool}:stepO G call d ⟨.still,b⟩ r ts S (some (v,S))=evOps G call r (put ts d (some v)) S:=by simp[stepO,EQ.ok,St.beq_refl]
theorem stepO_l {d:Option Nat} {r:List EI} {v:PV} {b:Bool} {L:List (Option Nat×EOpd)}:stepO G call d ⟨.lds L,b⟩ r ts S (some (v,S))=evOps G call r (put ts d (some v)) S:=by simp[stepO,EQ.ok,St.beq_refl]
theorem stepO_o {d:Option Nat} {r:List EI} {v:PV} {b:Bool} {O:List Ob} {w w':List Nat}:stepO G call d ⟨.obs,b⟩ r ts ⟨O,w⟩ (some (v,⟨O,w'⟩))=evOps G call r (put ts d (some v)) ⟨O,w'⟩:=by simp[stepO,EQ.ok,beqO_refl]
theorem stepO_os {d:Option Nat} {r:List EI} {v:PV} {b:Bool}:stepO G call d ⟨.obs,b⟩ r ts S (some (v,S))=evOps G call r (put ts d (some v)) S:=by simp[stepO,EQ.ok,beqO_refl]
def ldsOk (G:Glob) (ts:Tmps) (S S':St):List (Option Nat×EOpd)→Prop
 |[]=>True
 |(n,a)::l=>(∃ v,rdE G ts S n a=some v∧rdE G ts S' n a=some v)∧ldsOk G ts S S' l
theorem stepO_lds {d:Option Nat} {r:List EI} {v:PV} {b:Bool} {L:List (Option Nat×EOpd)} {S0:St} (h:ldsOk G ts S0 S L):stepO G call d ⟨.lds L,b⟩ r ts S0 (some (v,S))=evOps G call r (put ts d (some v)) S:=by
 have key:(L.all fun (n,a)=>match rdE G ts S0 n a,rdE G ts S n a with|some v,some v'=>v.beq v'|_,_=>false)=true:=by
  induction L with
  |nil=>rfl
  |cons x l ih=>
   obtain ⟨n,a⟩:=x
   obtain ⟨⟨u,h1,h2⟩,h3⟩:=h
   simp only[List.all_cons,h1,h2,beq_refl,Bool.true_and]
   exact ih h3
 have hok:EQ.ok G ts ⟨.lds L,b⟩ S0 S=true:=by
  show (S.beq S0||L.all _)=true
  rw[Bool.or_eq_true]
  exact .inr key
 simp only[stepO,hok,Bool.not_true,Bool.false_eq_true,if_false]
theorem guardO_yes {d:Option Nat} {o:EOp} {b:Bool} {q:EQ} {r:List EI}:guardO G call d o b q r ts S (some (.bool b))=evOps G call (⟨d,o,none,q⟩::r) ts S:=by simp[guardO]
theorem guardO_tf {d:Option Nat} {o:EOp} {q:EQ} {r:List EI}:guardO G call d o true q r ts S (some (.bool false))=evOps G call r (put ts d (some .un)) S:=by simp[guardO]
theorem guardO_ft {d:Option Nat} {o:EOp} {q:EQ} {r:List EI}:guardO G call d o false q r ts S (some (.bool true))=evOps G call r (put ts d (some .un)) S:=by simp[guardO]
theorem stepR_some {ks:Option (List Nat)}:stepR E fin st ks (some (ts,S))=kont E fin st .normal (sel ks ts) S:=rfl
theorem stepC_true {a b:EC} {K:Kont (PV×St)}:stepC E n a b ts S K (some (.bool true))=(lvl E n).ev a ts S K:=by simp[stepC]
theorem stepC_false {a b:EC} {K:Kont (PV×St)}:stepC E n a b ts S K (some (.bool false))=(lvl E n).ev b ts S K:=by simp[stepC]
theorem kont_nil_n:kont E fin [] .normal ts S=fin .normal ts S:=rfl
theorem kont_nil_r:kont E fin [] .ret ts S=fin .ret ts S:=rfl
theorem kont_seq_n {m:Nat} {b:EC}:kont E fin (.seq m b::st) .normal ts S=(lvl E m).ev b ts S (kont E fin st):=rfl
theorem kont_seq_e {m:Nat} {b:EC} {id:Nat}:kont E fin (.seq m b::st) (.exit id) ts S=kont E fin st (.exit id) ts S:=rfl
theorem kont_seq_r {m:Nat} {b:EC}:kont E fin (.seq m b::st) .ret ts S=kont E fin st .ret ts S:=rfl
theorem kont_block_n {id:Nat}:kont E fin (.block id::st) .normal ts S=kont E fin st .normal ts S:=rfl
theorem kont_block_e {id id':Nat}:kont E fin (.block id::st) (.exit id') ts S=if id'=id then kont E fin st .normal ts S else kont E fin st (.exit id') ts S:=rfl
theorem kont_block_r {id:Nat}:kont E fin (.block id::st) .ret ts S=kont E fin st .ret ts S:=rfl
theorem kont_loop_n {m:Nat} {c:EC}:kont E fin (.again m c::st) .normal ts S=(lvl E m).ev c ts S (kont E fin st):=rfl
theorem kont_loop_e {m:Nat} {c:EC} {id:Nat}:kont E fin (.again m c::st) (.exit id) ts S=kont E fin st (.exit id) ts S:=rfl
theorem kont_loop_r {m:Nat} {c:EC}:kont E fin (.again m c::st) .ret ts S=kont E fin st .ret ts S:=rfl
theorem lev_skip:(lvl E (n+1)).ev .skip ts S (kont E fin st)=kont E fin st .normal ts S:=rfl
theorem lev_reg {id:Nat} {ops:List EI} {dr:Bool} {ks:Option (List Nat)}:(lvl E (n+1)).ev (.reg id ops dr ks) ts S (kont E fin st)=stepR E fin st ks (evOps E.G (lvl E n).call ops ts S):=by
 simp only[lvl,ev]
 cases evOps E.G (lvl E n).call ops ts S with
 |none=>rfl
 |some p=>rfl
theorem lev_seq {a b:EC}:(lvl E (n+1)).ev (.seq a b) ts S (kont E fin st)=(lvl E (n+1)).ev a ts S (kont E fin (.seq (n+1) b::st)):=rfl
theorem lev_cond {c:EOpd} {a b:EC}:(lvl E (n+1)).ev (.cond c a b) ts S (kont E fin st)=stepC E (n+1) a b ts S (kont E fin st) (c.val E.G ts):=by
 simp only[lvl,ev]
 cases c.val E.G ts with
 |none=>rfl
 |some v=>cases v<;>rfl
theorem lev_block {id:Nat} {c:EC}:(lvl E (n+1)).ev (.block id c) ts S (kont E fin st)=(lvl E (n+1)).ev c ts S (kont E fin (.block id::st)):=rfl
theorem lev_exit {id:Nat}:(lvl E (n+1)).ev (.exit id) ts S (kont E fin st)=kont E fin st (.exit id) ts S:=rfl
theorem lev_ret:(lvl E (n+1)).ev .ret ts S (kont E fin st)=kont E fin st .ret ts S:=rfl
end
def endF (S0:St) (res:List ERes):Kont (PV×St)
 | .exit _,_,_=>none
 | .pan _,_,_=>none
 |_,ts,S=>(resVs ts S res).map fun vs=>close S0 S (oneOrTup vs)
theorem finish_end (fn:EFn) (S0:St):finish fn S0=endF S0 fn.res:=by
 funext x ts S
 cases x<;>rfl
def stepE (S0 S:St):Option (List PV)→Option (PV×St)
 |some vs=>some (close S0 S (oneOrTup vs))
 |none=>none
theorem endF_n (S0 S:St) (res:List ERes) (ts:Tmps):endF S0 res .normal ts S=stepE S0 S (resVs ts S res):=by
 simp only[endF];cases resVs ts S res<;>rfl
theorem endF_r (S0 S:St) (res:List ERes) (ts:Tmps):endF S0 res .ret ts S=stepE S0 S (resVs ts S res):=by
 simp only[endF];cases resVs ts S res<;>rfl
theorem stepE_some (S0 S:St) (vs:List PV):stepE S0 S (some vs)=some (close S0 S (oneOrTup vs)):=rfl
theorem close_same (S:St) (v:PV):close S S v=match sealW S.obs.length (drD S.obs.length S 40) v with|some v'=>(v',S)|none=>(v,S):=by
 unfold close
 rw[if_pos (by simp[beqO_refl])]
 rfl
theorem close_junk (S:St) (os:List Ob) (ow:List Nat) (v:PV):close S ⟨S.obs++os,S.own++ow⟩ v=match sealW S.obs.length (drD S.obs.length ⟨S.obs++os,S.own++ow⟩ 40) v with|some v'=>(v',S)|none=>(v,⟨S.obs++os,S.own++ow⟩):=by
 unfold close
 rw[if_pos (by simp[beqO_refl])]
 rfl
theorem close_junk1 (S:St) (os:List Ob) (v:PV):close S ⟨S.obs++os,S.own⟩ v=match sealW S.obs.length (drD S.obs.length ⟨S.obs++os,S.own⟩ 40) v with|some v'=>(v',S)|none=>(v,⟨S.obs++os,S.own⟩):=by
 unfold close
 rw[if_pos (by simp[beqO_refl])]
 rfl
def Plain (p:PV):Prop:= ∀ n0 dr,sealW n0 dr p=some p
def PlainL (l:List PV):Prop:= ∀ n0 dr,sealL n0 dr l=some l
def PlainLL (l:List (List PV)):Prop:= ∀ n0 dr,sealLL n0 dr l=some l
theorem plain_int (k:IntKind) (n:Int):Plain (.int k n):=fun _ _=>by simp[sealW]
theorem plain_str (s:ByteArray):Plain (.str s):=fun _ _=>by simp[sealW]
theorem plain_nil:PlainL []:=fun _ _=>by simp[sealL]
theorem plain_cons {p:PV} {l:List PV} (h:Plain p) (k:PlainL l):PlainL (p::l):=fun n d=>by simp[sealL,h n d,k n d]
theorem plainLL_of {l:List (List PV)} (h: ∀ r∈l,PlainL r):PlainLL l:=by
 intro n d
 induction l with
 |nil=>simp[sealLL]
 |cons r l ih=>simp[sealLL,h r (by simp) n d,ih fun r hr=>h r (by simp[hr])]
theorem plainLL_map {α:Type} {f:α→List PV} {l:List α} (h: ∀ x∈l,PlainL (f x)):PlainLL (l.map f):=
 plainLL_of fun r hr=>by obtain ⟨x,hx,rfl⟩:=List.mem_map.1 hr;exact h x hx
def Pure1 (E:Env) (f:FuncId) (args:List PV) (r:PV) (N:Nat):Prop:= ∀ n,N≤n→ ∀ S,(lvl E n).call f args S=some (r,S)
theorem Pure1.le {E:Env} {f:FuncId} {args:List PV} {r:PV} {N M:Nat} (h:Pure1 E f args r N) (hm:N≤M):Pure1 E f args r M:=fun n hn=>h n (by omega)
theorem headOk_map {α:Type} {f:α→List PV} {k:Nat} (h: ∀ x,(f x).length=k) (l:List α):headOk k (l.map f)=true:=by
 cases l with
 |nil=>rfl
 |cons a l=>simp[headOk,h]
end Go.PE
