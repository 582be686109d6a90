/-
  From what a row says of its arguments and of its variables to the evaluator's terms, and back. Conditions: each law's own.
-/
import Derived.Test.YteifnopejdiikaaDoorEnv
import Derived.Test.YteifnopejdiikaaDoorTypes
import Derived.Lib.LaidTab
import Derived.ShutString
import Derived.ChangeSlices
namespace Go.PE
open Go Go.RowKit Go.ChangeShapes Go.WideShapes Go.Proofs
open Go.Proofs.YteifnopejdiikaaDoor.Rows (uptoBulk uptoBulkAll)
set_option linter.unusedVariables false
set_option linter.unusedSimpArgs false
section
variable {H:Type} {enc:TypeId×Value→H} {P:Program} {W:World} {base:Nat} {r:Reach} {spare:Nat→Bool} {held:Bool} {t:TypeId} {v:Value} {d:DataW H} {ps:List MemPlace} {L:List TypeId}
theorem open_oneP (hL:plainTypes P L=true) (ht:t∈L) (hv:v.cells.toList=[v]) (hd:DataW.Trod enc P W 0 spare held t v d ps): ∃ p,Fit P t [p]∧Rep .none W p v∧p.bulk≤uptoBulk d:=by
 obtain ⟨fuel,hf⟩:=hd
 obtain ⟨cs,h1,h2,h3,h4⟩:=fits_of_trod hL fuel ht hf
 rw[hv] at h2 h3
 match cs,h2 with
 |[p],_=>exact ⟨p,h1,(h3 0 p v rfl rfl).2,by simpa [bulkL] using h4⟩
theorem open_sliceP {e:TypeId} (hu:P.underlying t=some (.slice e)) (hL:plainTypes P L=true) (ht:t∈L) (hok:Value.okWide P W r base t v) (hd:DataW.Trod enc P W 0 spare held t v d ps): ∃ p,Fit P t [p]∧Rep .none W p v∧p.bulk≤uptoBulk d:=by
 obtain ⟨A,n,cap,rfl⟩:=okWide_slice hu hok
 exact open_oneP hL ht rfl hd
theorem open_intP {k:IntKind} (hu:P.underlying t=some (.int k)) (hok:Value.okWide P W r base t v) (hd:DataW.Trod enc P W 0 spare held t v d ps): ∃ n,v= .int k n∧(Lit.int k n).wf=true∧Rep .none W (.int k n) v∧1≤uptoBulk d:=by
 obtain ⟨c,rfl,rfl,rfl,wc⟩:=open_int hu hok hd
 exact ⟨c,rfl,wc,.int _ _,by simp[uptoBulk]⟩
end
theorem laid_mem {P:Program} {W:World} {n:String} {d:DataW Unit}: ∀ {l:List (String×DataW Unit)} {ps:List MemPlace},DataW.LaidVars P W l ps→(n,d)∈l→
  ∃ g t cs fuel p,P.globalNamed n=some g∧(P.globals[g]?).map (·.type)=some t∧W.var? P n=some cs∧DataW.trod (fun _=>()) P W 0 (fun _=>true) false fuel t cs.toList=some (d,p)
 |[],_,_,hm=>by simp at hm
 |(n',d')::l,ps,h,hm=>by
  obtain ⟨g,t,cs,fuel,p,q,h1,h2,h3,h4,h5,_⟩:=h
  rcases List.mem_cons.1 hm with e|hm
  ·injection e with e1 e2;subst e1 e2
   exact ⟨g,t,cs,fuel,p,h1,h2,h3,h4⟩
  ·exact laid_mem h5 hm
theorem laid_tab {P:Program} {W:World} {name:String} {k:IntKind} {zs:List Int} {l:List (String×DataW Unit)} {g:Nat} {t e:TypeId} {n:Nat} (h:laidMet P l W) (hm:(name,Lib.tabData k zs)∈l)
  (hg:P.globalNamed name=some g) (hty:(P.globals[g]?).map (·.type)=some t) (ht:P.underlying t=some (.array n e)) (he:P.underlying e=some (.int k)) (hce:P.cellsOf e=1) (hct:P.cellsOf t=n): ∃ u z,W.heap[g]?=some (.cells (zs.map fun z=>Value.int k z).toArray u z):=by
 obtain ⟨ps,hl,_⟩:=h
 obtain ⟨g',t',cs,fuel,p,hg',ht',hvar,hd⟩:=laid_mem hl hm
 obtain rfl:=Option.some.inj (hg.symm.trans hg')
 obtain rfl:=Option.some.inj (hty.symm.trans ht')
 have hc:=Lib.cells_of_tab ht he hce hct hd
 unfold World.var? at hvar
 rw[hg] at hvar
 simp only[Option.bind_some] at hvar
 split at hvar
 ·rename_i cs' u z hb
  injection hvar with hvar;subst hvar
  exact ⟨u,z,by rw[hb,←hc]⟩
 ·cases hvar
theorem var_heap {P:Program} {W:World} {n:String} {g:Nat} {cs:Array Value} (hg:P.globalNamed n=some g) (h:W.var? P n=some cs): ∃ u z,W.heap[g]?=some (.cells cs u z):=by
 unfold World.var? at h
 rw[hg] at h
 simp only[Option.bind_some] at h
 split at h
 ·rename_i cs' u z hb
  injection h with h;subst h
  exact ⟨u,z,hb⟩
 ·cases h
structure Ground (W:World) (t:TypeId) (z:EP):Prop where
 tab: ∀ g cs,gtab g=some cs→Rep .none W (.at_ cs) (.pointer (some ⟨g,0,none⟩))
 blk: ∀ g o,(env t z).G.blk g=some o→W.heap[g]?=some o
theorem walk_true {W:World} {t:TypeId} {z:EP} (hG:Ground W t z) {f:FuncId} {args:List PV} {vs:List Value} {S':St} (h:Ev (env t z) f args .none (.bool true) S') (hR:RepL .none W args vs) (hf:f<yid:=by decide):
  Calls Tryd.prog f vs.toArray W fun e W'=>e= .returned (.bool true)∧Below W.heap.size W W':=by
 refine (calls_of_ev (env_ok t z) hf h hG.tab hG.blk hR).mono ?_
 rintro e W' ⟨C',v,rfl,hr,hb⟩
 cases hr
 exact ⟨rfl,hb⟩
theorem repL_nil {C:Ctx} {W:World}:RepL C W [] []:=⟨rfl,by simp⟩
theorem repL_cons {C:Ctx} {W:World} {p:PV} {v:Value} {ps:List PV} {vs:List Value} (h:Rep C W p v) (k:RepL C W ps vs):RepL C W (p::ps) (v::vs):=by
 refine ⟨by simp[k.1],fun i q u hq hu=> ?_⟩
 cases i with
 |zero=>simp at hq hu;subst hq hu;exact h
 |succ i=>exact k.2 i q u (by simpa using hq) (by simpa using hu)
end Go.PE
