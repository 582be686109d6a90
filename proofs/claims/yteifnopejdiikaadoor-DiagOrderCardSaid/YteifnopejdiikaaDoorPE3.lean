/-
  Memory told by private objects, rows and tables; frames; operands. Conditions: each law's own.
-/
import Derived.Test.YteifnopejdiikaaDoorPE2
import Derived.Laws.Cells
import Derived.Laws.Entries
import Derived.Laws.AppendOwn
namespace Go.PE
open Go Go.RowKit
set_option linter.unusedVariables false
set_option linter.unusedSimpArgs false
structure TR (nt:Nat) (C:Ctx) (w:World) (ts:Tmps) (tmps:Array Value):Prop where
 size:nt≤tmps.size
 get: ∀ d p,look ts d=some p→ ∃ v,tmps[d]?=some v∧Rep C w p v
def lst:Nat→LoopState
 |0=> .ready
 |1=> .busy
 |2=> .done
 |_=> .exhausted
def pendC:Option (Option Nat)→Option Code
 |none=>none
 |some none=>some .ret
 |some (some id)=>some (.exit id)
def ObAt (G:Glob) (C:Ctx) (w:World) (l b:Nat):Ob→Prop
 | .cells t cs=> ∃ arr,w.heap[b]?=some (.cells arr t (0,0))∧arr.size=cs.length∧(∀ (i:Nat) p,cs[i]?=some p→p.atom=true)∧
   ∀ (i:Nat) p v,cs[i]?=some p→arr[i]?=some v→Rep C w p v
 | .iter s pos=>w.heap[b]?=some (.stringIter s pos)
 | .loop r=> ∃ L nt,w.heap[b]?=some (.loop L)∧L.state=lst r.st∧L.pending=pendC r.pend∧L.params.toList=r.ps∧((∀ t∈r.ps,t<nt)∧r.asg.nr=true∧r.bd.nr=true)∧
   cCode G.prog nt L.assign=some (strip r.asg)∧cCode G.prog nt L.body=some (strip r.bd)∧TR nt C w r.ts L.tmps
 | .map es clock=> ∃ arr,w.heap[b]?=some (.map arr clock)∧arr.size=es.length∧
   ∀ (i:Nat) k v n m,es[i]?=some (k,v,n)→arr[i]?=some m→m.key= .string k∧m.born=n∧Rep C w v m.val
 | .row t cs=> ∃ arr,w.heap[b]?=some (.cells arr t (0,0))∧arr.size=C.c l∧cs.length≤arr.size∧(∀ (i:Nat) p,cs[i]?=some p→p.atom=true)∧
   ∀ (i:Nat) p v,cs[i]?=some p→arr[i]?=some v→Rep C w p v
 | .dead=>True
structure WRel (G:Glob) (C:Ctx) (S:St) (w:World):Prop where
 ob: ∀ l ob,S.obs[l]?=some ob→ob≠ .dead→ ∃ b,C.m l=some b∧b<w.heap.size∧ObAt G C w l b ob
 dd: ∀ l,C.d l=true→S.obs[l]?=some .dead
 nd: ∀ l b,C.m l=some b→S.obs[l]?≠some .dead
 dom: ∀ l b,C.m l=some b→l<S.obs.length
 inj: ∀ l l' b,C.m l=some b→C.m l'=some b→l=l'
 own: ∀ k fr,S.own[k]?=some fr→ ∃ b,C.o k=some (b,fr)
 odom: ∀ k b fr,C.o k=some (b,fr)→S.own[k]?=some fr∧b<w.heap.size
 oinj: ∀ k k' b fr fr',C.o k=some (b,fr)→C.o k'=some (b,fr')→k=k'
 disj: ∀ l b k fr,C.m l=some b→C.o k≠some (b,fr)
 glob: ∀ g cs,G.tab g=some cs→Rep C w (.at_ cs) (.pointer (some ⟨g,0,none⟩))
 blk: ∀ g o,G.blk g=some o→w.heap[g]?=some o∧(∀ l,C.m l≠some g)∧ ∀ k fr,C.o k≠some (g,fr)
theorem WRel.live {G:Glob} {C:Ctx} {S:St} {w:World} (hW:WRel G C S w) {l b:Nat} {ob:Ob} (h:S.obs[l]?=some ob) (hd:ob≠ .dead) (hm:C.m l=some b∨C.d l=true):C.m l=some b∧b<w.heap.size∧ObAt G C w l b ob:=by
 obtain ⟨b',h1,h2,h3⟩:=hW.ob l ob h hd
 rcases hm with hm|hm
 ·rw[h1] at hm;injection hm with hm;subst hm;exact ⟨h1,h2,h3⟩
 ·have:=hW.dd l hm;rw[h] at this;injection this with this;exact absurd this hd
theorem WRel.cellsAt {G:Glob} {C:Ctx} {S:St} {w:World} (hW:WRel G C S w) {l b:Nat} {cs:List PV} (h:S.cells l=some cs) (hm:C.m l=some b∨C.d l=true):
  C.m l=some b∧b<w.heap.size∧ ∃ arr t,w.heap[b]?=some (.cells arr t (0,0))∧cs.length≤arr.size∧(∀ (i:Nat) p,cs[i]?=some p→p.atom=true)∧ ∀ (i:Nat) p v,cs[i]?=some p→arr[i]?=some v→Rep C w p v:=by
 unfold St.cells at h
 split at h
 ·rename_i t cs' hob
  injection h with h;subst h
  obtain ⟨h1,h2,arr,g1,g2,g3,g4⟩:=hW.live hob (by simp) hm
  exact ⟨h1,h2,arr,t,g1,by omega,g3,g4⟩
 ·rename_i t cs' hob
  injection h with h;subst h
  obtain ⟨h1,h2,arr,g1,_,g2,g3,g4⟩:=hW.live hob (by simp) hm
  exact ⟨h1,h2,arr,t,g1,g2,g3,g4⟩
 ·cases h
theorem Rep.un (C:Ctx) (w:World):Rep C w .un undef:= .tup [] #[] rfl (fun i p v h=>by simp at h)
theorem TR.step {nt:Nat} {C C':Ctx} {w w':World} {ts:Tmps} {tmps:Array Value} (hs:Step C w C' w') (h:TR nt C w ts tmps):TR nt C' w' ts tmps:=
 ⟨h.size,fun d p hp=>let ⟨v,h1,h2⟩:=h.get d p hp;⟨v,h1,h2.step hs⟩⟩
theorem TR.ext {nt:Nat} {C:Ctx} {w:World} {ts ts':Tmps} {tmps:Array Value} (h:TR nt C w ts tmps) (he: ∀ d p,look ts' d=some p→look ts d=some p):TR nt C w ts' tmps:=
 ⟨h.size,fun d p hp=>h.get d p (he d p hp)⟩
theorem TR.getD {nt:Nat} {C:Ctx} {w:World} {ts:Tmps} {tmps:Array Value} (h:TR nt C w ts tmps) {t:Nat} {p:PV} (hp:look ts t=some p):Rep C w p (tmps.getD t undef):=by
 obtain ⟨v,h1,h2⟩:=h.get t p hp
 rw[Array.getD_eq_getD_getElem?,h1]
 exact h2
theorem look_sel_some {ks:List Nat} {ts:Tmps} {d:Nat} {p:PV} (h:look (sel (some ks) ts) d=some p):look ts d=some p:=by
 simp only[sel] at h
 induction ks with
 |nil=>simp[look] at h
 |cons k ks ih=>
  simp only[List.map_cons,look] at h
  split at h
  ·rename_i e;subst e;exact h
  ·exact ih h
theorem look_sel {ks:Option (List Nat)} {ts:Tmps} {d:Nat} {p:PV} (h:look (sel ks ts) d=some p):look ts d=some p:=by
 cases ks with
 |none=>exact h
 |some ks=>exact look_sel_some h
theorem TR.sel {nt:Nat} {C:Ctx} {w:World} {ts:Tmps} {tmps:Array Value} (h:TR nt C w ts tmps) (ks:Option (List Nat)):TR nt C w (PE.sel ks ts) tmps:=
 h.ext fun _ _=>look_sel
theorem TR.put {nt:Nat} {C:Ctx} {w:World} {ts:Tmps} {tmps:Array Value} {ds:List Deferred} (h:TR nt C w ts tmps) {dst:Option Nat} (hd: ∀ d,dst=some d→d<nt) {q:Option PV} {v:Value} (hr: ∀ p,q=some p→Rep C w p v):
  TR nt C w (PE.put ts dst q) (Act.put ⟨tmps,ds⟩ dst v).tmps:=by
 cases dst with
 |none=>exact h
 |some d=>
  have hlt:d<tmps.size:=Nat.lt_of_lt_of_le (hd d rfl) h.size
  refine ⟨by simpa [Act.put] using h.size,fun i p hp=> ?_⟩
  simp only[PE.put,look] at hp
  simp only[Act.put]
  split at hp
  ·rename_i e;subst e
   exact ⟨v,by simp[hlt],hr p hp⟩
  ·rename_i e
   obtain ⟨u,h1,h2⟩:=h.get i p hp
   exact ⟨u,by rw[Array.getElem?_setIfInBounds_ne (Ne.symm e)];exact h1,h2⟩
theorem atomV_rep {C:Ctx} {w:World}: ∀ {v:Value} {p:PV},atomV v=some p→Rep C w p v
 | .bool b,p,h=>by simp[atomV] at h;subst h;exact .bool b
 | .int k n,p,h=>by simp[atomV] at h;subst h;exact .int k n
 | .string s,p,h=>by simp[atomV] at h;subst h;exact .str s
 | .pointer none,p,h=>by simp[atomV] at h;subst h;exact .nilp
 | .map none,p,h=>by simp[atomV] at h;subst h;exact .nilm
 | .pointer (some a),p,h=>by simp[atomV] at h
 | .slice none 0 0,p,h=>by
  simp[atomV] at h;subst h
  exact .sl .null [] none 0 0 0 rfl (Nat.le_refl _) (by simp) (fun _=>⟨rfl,rfl,rfl⟩) (fun h=>by cases h) (fun h=>absurd rfl h) (by simp) (by simp) (by simp) (fun k e h=>by cases h)
 | .slice (some a) l c,p,h=>by simp[atomV] at h
 | .slice none (l+1) c,p,h=>by simp[atomV] at h
 | .slice none 0 (c+1),p,h=>by simp[atomV] at h
 | .nilFunc,p,h=>by simp[atomV] at h;subst h;exact .nilfn
 | .nilIface,p,h=>by simp[atomV] at h;subst h;exact .nilifc
 | .iface t v,p,h=>by
  simp only[atomV,Option.map_eq_some_iff] at h
  obtain ⟨q,hq,rfl⟩:=h
  exact .ifc t q v (atomV_rep hq)
 | .float _ _,p,h=>by simp[atomV] at h
 | .complex _ _ _,p,h=>by simp[atomV] at h
 | .map (some _),p,h=>by simp[atomV] at h
 | .chan _,p,h=>by simp[atomV] at h
 | .func _ _ _,p,h=>by simp[atomV] at h
 | .agg _,p,h=>by simp[atomV] at h
 | .tuple _,p,h=>by simp[atomV] at h
theorem atomV_atom: ∀ {v:Value} {p:PV},atomV v=some p→p.atom=true∧vAtom v=true:=by
 intro v p h
 unfold atomV at h
 split at h<;>first|(simp at h;subst h;exact ⟨rfl,rfl⟩)|(simp only[Option.map_eq_some_iff] at h;obtain ⟨q,_,rfl⟩:=h;exact ⟨rfl,rfl⟩)|cases h
theorem mapM_some {α β:Type} {f:α→Option β}: ∀ {l:List α} {m:List β},l.mapM f=some m→m.length=l.length∧ ∀ (i:Nat) a b,l[i]?=some a→m[i]?=some b→f a=some b
 |[],m,h=>by simp at h;subst h;exact ⟨rfl,by simp⟩
 |x::l,m,h=>by
  rw[List.mapM_cons] at h
  simp only[bind,Option.bind_eq_some_iff,pure,Option.some.injEq] at h
  obtain ⟨y,hy,m',hm,rfl⟩:=h
  obtain ⟨h1,h2⟩:=mapM_some hm
  refine ⟨by simp[h1],fun i a b ha hb=> ?_⟩
  cases i with
  |zero=>simp at ha hb;subst ha hb;exact hy
  |succ i=>exact h2 i a b (by simpa using ha) (by simpa using hb)
theorem ofV_rep {C:Ctx} {w:World} {v:Value} {p:PV} (h:ofV v=some p):Rep C w p v:=by
 unfold ofV at h
 split at h
 ·rename_i cs
  simp only[Option.map_eq_some_iff] at h
  obtain ⟨l,hl,rfl⟩:=h
  obtain ⟨h1,h2⟩:=mapM_some hl
  have hat: ∀ (i:Nat) q,l[i]?=some q→ ∃ u,cs[i]?=some u∧atomV u=some q:=by
   intro i q hq
   have hi:i<cs.toList.length:=by rw[←h1];exact getElem?_lt hq
   have hu:cs.toList[i]?=some cs.toList[i]:=List.getElem?_eq_getElem hi
   exact ⟨_,by rw[←Array.getElem?_toList];exact hu,h2 i _ _ hu hq⟩
  refine .agg l cs (by simpa using h1.symm) (fun i q hq=> ?_) (fun i q u hq hu=> ?_)
  ·obtain ⟨u,_,hu⟩:=hat i q hq
   exact (atomV_atom hu).1
  ·obtain ⟨u',hu',ha⟩:=hat i q hq
   rw[hu] at hu'
   injection hu' with e
   subst e
   exact atomV_rep ha
 ·rename_i vs
  split at h
  ·rename_i he
   simp at h
   subst h
   have:vs= #[]:=by simpa using he
   subst this
   exact .un C w
  ·cases h
 ·exact atomV_rep h
theorem opd_rep {G:Glob} {C:Ctx} {S:St} {w:World} {nt:Nat} {ts:Tmps} {a:Act} (hW:WRel G C S w) (hT:TR nt C w ts a.tmps) {x:Operand} {e:EOpd} (hc:cOpd x=some e) {p:PV} (hv:e.val G ts=some p):
  Rep C w p (a.eval x):=by
 cases x with
 |tmp t=>
  simp[cOpd] at hc;subst hc
  exact hT.getD hv
 |const v=>
  simp only[cOpd,Option.map_eq_some_iff] at hc
  obtain ⟨q,hq,rfl⟩:=hc
  simp[EOpd.val] at hv;subst hv
  exact ofV_rep hq
 |global g=>
  simp[cOpd] at hc;subst hc
  simp only[EOpd.val,Option.map_eq_some_iff] at hv
  obtain ⟨cs,hg,rfl⟩:=hv
  exact hW.glob g cs hg
 |func f=>
  simp only[cOpd] at hc
  split at hc
  ·rename_i hf;injection hc with hc;subst hc
   simp[EOpd.val] at hv;subst hv
   exact .fn f [] [] #[] #[] hf rfl rfl (by simp) (by simp)
  ·cases hc
theorem vals_rep {G:Glob} {C:Ctx} {S:St} {w:World} {nt:Nat} {ts:Tmps} {a:Act} (hW:WRel G C S w) (hT:TR nt C w ts a.tmps): ∀ {xs:List Operand} {es:List EOpd} {ps:List PV},xs.mapM cOpd=some es→vals G ts es=some ps→
  RepL C w ps (xs.map a.eval)
 |[],es,ps,h,hv=>by
  simp at h;subst h;simp[vals] at hv;subst hv
  exact ⟨rfl,by simp⟩
 |x::xs,es,ps,h,hv=>by
  rw[List.mapM_cons] at h
  simp only[bind,Option.bind_eq_some_iff,pure,Option.some.injEq] at h
  obtain ⟨e,he,es',hes,rfl⟩:=h
  simp only[vals,Option.bind_eq_some_iff,Option.map_eq_some_iff] at hv
  obtain ⟨p,hp,ps',hps,rfl⟩:=hv
  obtain ⟨h1,h2⟩:=vals_rep hW hT hes hps
  refine ⟨by simpa using h1,fun i q u hq hu=> ?_⟩
  cases i with
  |zero=>simp at hq hu;subst hq hu;exact opd_rep hW hT he hp
  |succ i=>exact h2 i q u (by simpa using hq) (by simpa using hu)
theorem wp_value {P:Program} {o:Oper} {a:Act} {w w':World} {v:Value} {K:Act→World→Prop} {Q:Exit→Act→World→Prop}
  (h:(execOp a.eval o).run P w= .ok (.value v) w') (hk:K (a.put o.dst v) w'):o.wp P a w K Q:=by
 unfold Oper.wp;rw[h];exact hk
theorem wp_skip' {P:Program} {o:Oper} {a:Act} {w w':World} {K:Act→World→Prop} {Q:Exit→Act→World→Prop}
  (h:(execOp a.eval o).run P w= .ok .skip w') (hk:K (a.put o.dst undef) w'):o.wp P a w K Q:=by
 unfold Oper.wp;rw[h];exact hk
def Does (P:Program) (G:Glob) (C:Ctx) (w:World) (S':St) (v:PV) (o:Oper) (a:Act):Prop:=
 ∀ (K:Act→World→Prop) (Q:Exit→Act→World→Prop),
  (∀ C' w' v',Rep C' w' v v'→WRel G C' S' w'→Step C w C' w'→K (a.put o.dst v') w')→o.wp P a w K Q
theorem Does.pure {P:Program} {G:Glob} {C:Ctx} {w:World} {S:St} {v:PV} {o:Oper} {a:Act} (hW:WRel G C S w) {v':Value}
  (h:(execOp a.eval o).run P w= .ok (.value v') w) (hr:Rep C w v v'):Does P G C w S v o a:=
 fun K Q hk=>wp_value h (hk C w v' hr hW (.refl C w))
theorem underlying_run {P:Program} {t:TypeId} {d:TypeDesc} (h:P.underlying t=some d) (w:World):(underlying t).run P w= .ok d w:=by
 simp[underlying,h]
theorem typeInfo_run {P:Program} {t:TypeId} {i:TypeInfo} (h:P.info? t=some i) (w:World):(typeInfo t).run P w= .ok i w:=by
 simp[typeInfo,h]
theorem sizeOf_run {P:Program} {t:TypeId} {n:Nat} (h:sizeP P t=some n) (w:World):(Go.sizeOf t).run P w= .ok n w:=by
 simp only[sizeP,Option.map_eq_some_iff] at h
 obtain ⟨i,hi,rfl⟩:=h
 simp[Go.sizeOf,typeInfo_run hi]
theorem zeroValue_run {P:Program} {t:TypeId} {p:PV} (h:zeroP P t=some p) (w:World): ∃ z,(zeroValue t).run P w= .ok z w∧ofV z=some p∧p.okc=true:=by
 simp only[zeroP,Option.bind_eq_some_iff] at h
 obtain ⟨q,⟨z,⟨i,hi,hz⟩,hp⟩,hq⟩:=h
 split at hq
 ·simp at hq;subst hq
  exact ⟨z,by simp[zeroValue,typeInfo_run hi,hz],hp,by assumption⟩
 ·cases hq
theorem aggN_run {P:Program} {t:TypeId} {n:Option Nat} (h:aggN P t=some n) (w:World):(isAgg t).run P w= .ok n.isSome w∧(∀ k,n=some k→(Go.sizeOf t).run P w= .ok k w):=by
 unfold aggN at h
 split at h
 ·rename_i d i hu hi
  simp at h;subst h
  exact ⟨by simp[isAgg,underlying_run hu],fun k hk=>by simp at hk;subst hk;simp[Go.sizeOf,typeInfo_run hi]⟩
 ·rename_i d i hu hi
  simp at h;subst h
  exact ⟨by simp[isAgg,underlying_run hu],fun k hk=>by simp at hk;subst hk;simp[Go.sizeOf,typeInfo_run hi]⟩
 ·rename_i d i h1 h2 hu hi
  simp at h;subst h
  refine ⟨?_,fun k hk=>by cases hk⟩
  simp[isAgg,underlying_run hu]
 ·cases h
end Go.PE
