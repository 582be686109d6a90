/-
  The law DiagOrder: whatever it is called with (as far as the row speaks of it), it returns true, and its arguments read as before. Conditions: the row's own.
-/
import Derived.Test.YteifnopejdiikaaDoorRows
import Derived.Test.YteifnopejdiikaaDoorCards
import Derived.Test.YteifnopejdiikaaDoorTie
import Derived.Test.YteifnopejdiikaaDoorRowC
import Derived.Test.YteifnopejdiikaaDoorDGA
import Derived.Test.YteifnopejdiikaaDoorPJ
import Derived.WalkKit
import Derived.ProofKit
import Derived.OpenShut
import Derived.ShutString
import Derived.Deep.DeepHandedRow
import Derived.Deep.DeepWitnessRowRef
import Derived.Lib.LaidTab
import Derived.LaidHandle
import Derived.RowKitTokens
import Derived.SevenTiedAt
namespace Go.Proofs.YteifnopejdiikaaDoor.diagOrder
open Go.ChangeShapes Go.WideShapes Go.ChangeAt Go.RowKit
open Go.ChangeMaps (open_string shut_string)
set_option linter.unusedVariables false
theorem own:ownKnob Tryd.prog.godebug=none:=by kernel_rfl
theorem laidOut:laidOutB Tryd.prog=true:=by kernel_rfl
theorem gErr : Tryd.prog.globalNamed "errors.errorType" = some 0 := by kernel_rfl
theorem gRt : (Tryd.prog.cutTypes.find? (·.1 == "internal/reflectlite.rtype")).map (·.2) = some 105 := by kernel_rfl
theorem oneRow:((List.range 166).filter fun t=>Tryd.prog.rowNamed t [101,114,114,111,114])=[36]:=by kernel_rfl
theorem nTypes:Tryd.prog.types.size=166:=by kernel_rfl
theorem laidFacts {W:World} (h:laidMetH Tryd.prog Rows.diagOrderRow.laid W): ∃ t z,PE.Ground W t z:=by
 have h' : laidMet Tryd.prog [("math/bits.deBruijn32tab", Rows.laid_math_bits_deBruijn32tab), ("math/bits.deBruijn64tab", Rows.laid_math_bits_deBruijn64tab), ("internal/strconv.uint64pow10", Rows.laid_internal_strconv_uint64pow10)] W := h.1
 have hh : handlesMet Tryd.prog [("errors.errorType", Rows.laid_errors_errorType)] W := h.2
 obtain ⟨u2, z2, e2⟩ := PE.laid_tab (name := "internal/strconv.uint64pow10") (k := .u64) (zs := Lib.pow10Tab) (g := 2) h' (.tail _ (.tail _ (.head _))) (by kernel_rfl) (by kernel_rfl) Tryd.underlying135 Tryd.underlying100 (by kernel_rfl) (by kernel_rfl)
 obtain ⟨name,u,ty,k1,k2,k3,k4,k5⟩:=hh _ (List.mem_singleton.2 rfl)
 have en:name=[101,114,114,111,114]:=(Option.some.inj k1).symm
 subst en
 obtain rfl:=Option.some.inj (gRt.symm.trans k2)
 have hm:ty∈(List.range 166).filter fun t=>Tryd.prog.rowNamed t [101,114,114,111,114]:=List.mem_filter.2 ⟨List.mem_range.2 (by rw[←nTypes];exact k3),k4⟩
 rw[oneRow] at hm
 obtain rfl:=List.mem_singleton.1 hm
 have hhd:typeHandle Tryd.prog 36= .pointer (some ⟨5,36,none⟩):=by kernel_rfl
 rw[hhd] at k5
 obtain ⟨u0,z0,e0⟩:=PE.var_heap gErr k5
 refine ⟨0,⟨fun i=>if i=2 then u2 else if i=0 then u0 else 0,fun i=>if i=2 then z2 else if i=0 then z0 else (0,0),fun i=> .nilIface⟩,fun g cs hg=> ?_,fun g o hg=> ?_⟩
 ·unfold PE.gtab at hg
  cases hg
 ·simp only[PE.env,PE.gblk] at hg
  split at hg
  ·rename_i e;subst e;obtain rfl:=Option.some.inj hg;exact e2
  split at hg
  ·rename_i e;subst e;obtain rfl:=Option.some.inj hg;exact e0
  cases hg
theorem tsOk:(Tryd.f3.params.toList.all fun t=>Tryd.prog.readableRec t&&decide (t<Tryd.prog.types.size))=true:=by
 rw[Tryd.params3]
 exact (show (([22,5]:List TypeId).all fun t=>Tryd.prog.readableRec t&&decide (t<Tryd.prog.types.size))=true by kernel_rfl)
set_option maxRecDepth 100000 in
theorem contract (H:Type) (enc:TypeId×Value→H) (W:World) (base:Nat) (args:Array Value) (ds gs:List (DataW H)) (before:List MemPlace)
  (hval0: ∀ (j:Nat) t v,Tryd.f3.params[j]?=some t→args[j]?=some v→Value.okWide Tryd.prog W .any base t v)
  (hW:DataW.Whole enc Tryd.prog Tryd.f3.params.toList Rows.diagOrderSpec.vars false W args.toList ds gs before)
  (hsz0:(DataW.weightsEach Tryd.prog (Tryd.f3.params.toList++(OpenSpec.ofChange Rows.diagOrderSpec).bare.plain.varTypes Tryd.prog) (ds++gs)).all (· ≤reachBytes)=true) (hL:laidMetH Tryd.prog Rows.diagOrderRow.laid W):
  Calls Tryd.prog 3 args W fun e W'=> ∃ v,e= .returned v∧Rows.diagOrderSpec.post enc Tryd.prog Tryd.f3 false true false false W args v W':=by
 have hF:=laidFacts hL
 have hval: ∀ (j:Nat) t v,Tryd.f3.params[j]?=some t→args[j]?=some v→Value.okWide Tryd.prog W .any base t v:=hval0
 have hW':=hW
 obtain ⟨p,q,hA0,hV,rfl,hfz,hnd⟩:=hW
 have hA:DataW.TrodAll enc Tryd.prog W 0 (fun _=>true) true Tryd.f3.params.toList args.toList ds p:=hA0
 have hA1:=hA
 have hsz:(DataW.weightsEach Tryd.prog (Tryd.f3.params.toList++(OpenSpec.ofChange Rows.diagOrderSpec).bare.plain.varTypes Tryd.prog) (ds++gs)).all (· ≤reachBytes)=true:=hsz0
 rw[Tryd.params3] at hA hval hsz
 obtain ⟨v0,vs0,d0,ds0,p0,q0,hargs,rfl,rfl,h0,r0⟩:=trodAll_cons hA
 obtain ⟨v1,vs1,d1,ds1,p1,q1,rfl,rfl,rfl,h1,r1⟩:=trodAll_cons r0
 obtain ⟨rfl,rfl,rfl⟩:=trodAll_nil r1
 obtain rfl:args= #[v0,v1]:=by cases args;simp_all
 obtain ⟨rfl,rfl⟩:=trodVars_none hV
 clear hA0 hval0 hsz0
 obtain ⟨gt,gz,hG⟩:=hF
 obtain ⟨p0',fit0,rep0,bk0⟩:=PE.open_sliceP Tryd.underlying22 PE.dataTypes_ok (by decide) (hval 0 22 v0 rfl rfl) h0
 obtain ⟨x0,e0,ok0⟩:=PE.fit_list Tryd.underlying22 (fun r hr=>PE.rDiag_fits hr) fit0
 injection e0 with e0 _;subst e0
 obtain ⟨x1,rfl,wf1,rep1,bk1⟩:=PE.open_intP Tryd.underlying5 (hval 1 5 v1 rfl rfl) h1
 have ok1:=bounds_u8 wf1
 refine (PE.walk_true hG (PE.diagOrder x0 x1 ok0 ok1) (PE.repL_cons rep0 (PE.repL_cons rep1 PE.repL_nil))).mono fun e W' ⟨he,bel⟩=> ?_
 subst he
 exact ⟨_,rfl,_,_,_,[],_,[],hW',trodAll_mk1 (shut_bool Tryd.underlying4 _),RowC.trodAll_below laidOut bel tsOk hA1,rfl,bel.frame _,fun h=>by cases h⟩
def lay0:Obj→Obj
 | .cells _ t frozen=> .cells #[.int .u8 0,.int .u8 1,.int .u8 28,.int .u8 2,.int .u8 29,.int .u8 14,.int .u8 24,.int .u8 3,.int .u8 30,.int .u8 22,.int .u8 20,.int .u8 15,.int .u8 25,.int .u8 17,.int .u8 4,.int .u8 8,.int .u8 31,.int .u8 27,.int .u8 13,.int .u8 23,.int .u8 21,.int .u8 19,.int .u8 16,.int .u8 7,.int .u8 26,.int .u8 12,.int .u8 18,.int .u8 6,.int .u8 11,.int .u8 5,.int .u8 10,.int .u8 9] t frozen
 |o=>o
def lay1:Obj→Obj
 | .cells _ t frozen=> .cells #[.int .u8 0,.int .u8 1,.int .u8 56,.int .u8 2,.int .u8 57,.int .u8 49,.int .u8 28,.int .u8 3,.int .u8 61,.int .u8 58,.int .u8 42,.int .u8 50,.int .u8 38,.int .u8 29,.int .u8 17,.int .u8 4,.int .u8 62,.int .u8 47,.int .u8 59,.int .u8 36,.int .u8 45,.int .u8 43,.int .u8 51,.int .u8 22,.int .u8 53,.int .u8 39,.int .u8 33,.int .u8 30,.int .u8 24,.int .u8 18,.int .u8 12,.int .u8 5,.int .u8 63,.int .u8 55,.int .u8 48,.int .u8 27,.int .u8 60,.int .u8 41,.int .u8 37,.int .u8 16,.int .u8 46,.int .u8 35,.int .u8 44,.int .u8 21,.int .u8 52,.int .u8 32,.int .u8 23,.int .u8 11,.int .u8 54,.int .u8 26,.int .u8 40,.int .u8 15,.int .u8 34,.int .u8 20,.int .u8 31,.int .u8 10,.int .u8 25,.int .u8 14,.int .u8 19,.int .u8 9,.int .u8 13,.int .u8 8,.int .u8 7,.int .u8 6] t frozen
 |o=>o
def lay2:Obj→Obj
 | .cells _ t frozen=> .cells #[.int .u64 1,.int .u64 10,.int .u64 100,.int .u64 1000,.int .u64 10000,.int .u64 100000,.int .u64 1000000,.int .u64 10000000,.int .u64 100000000,.int .u64 1000000000,.int .u64 10000000000,.int .u64 100000000000,.int .u64 1000000000000,.int .u64 10000000000000,.int .u64 100000000000000,.int .u64 1000000000000000,.int .u64 10000000000000000,.int .u64 100000000000000000,.int .u64 1000000000000000000,.int .u64 10000000000000000000] t frozen
 |o=>o
def lay3:Obj→Obj
 | .cells _ t frozen=> .cells #[.iface 105 (.agg #[.pointer (some ⟨5,36,none⟩)])] t frozen
 |o=>o
noncomputable def laidWorld (os:Os):World:={World.holding Tryd.prog os ⟨#[], #[],[]⟩ with heap:=(((((World.holding Tryd.prog os ⟨#[], #[],[]⟩).heap).modify 3 lay0).modify 4 lay1).modify 2 lay2).modify 0 lay3}
theorem laid_met (os:Os):laidMetH Tryd.prog Rows.diagOrderRow.laid ((laidWorld os).forCall (fun _ _=>0) ⟨#[], #[.slice none 0 0,.int .u8 0],[]⟩).memory:=
 laidMetH_of_parts (laidMet_of_run' 8 (by kernel_rfl) (by kernel_rfl)) (by kernel_rfl)
theorem reads (os:Os) {H:Type} (enc:TypeId×Value→H): ∃ places,DataW.whole enc Tryd.prog ((laidWorld os).forCall (fun _ _=>0) ⟨#[], #[.slice none 0 0,.int .u8 0],[]⟩).memory Tryd.f3.params.toList Rows.diagOrderSpec.vars false #[.slice none 0 0,.int .u8 0].toList 8=some ([.nil,.lit (.int .u8 0)],[],places):=
 ⟨[],by kernel_rfl⟩
set_option maxRecDepth 100000 in
theorem lifted (os:Os) (started:os.Started) (H:Type) (enc:TypeId×Value→H) (F:Stop.Interp):
  ReturnsInHanded {} Tryd.checked os 3 .any ((OpenSpec.ofChange Rows.diagOrderSpec).preRow enc Tryd.prog Tryd.f3 Rows.diagOrderRow.domain false Rows.diagOrderRow.laid) (((OpenSpec.ofChange Rows.diagOrderSpec).at F).post enc Tryd.prog Tryd.f3 false true false false):=by
 obtain ⟨places,hx⟩:=reads os enc
 refine returnsInHanded_of_row (C:=Tryd.checked) (s:=(OpenSpec.ofChange Rows.diagOrderSpec)) own started (by kernel_rfl) Tryd.func3
  (witness_row_at (enc:=enc) (C:=Tryd.checked) false (laidWorld os) #[.slice none 0 0,.int .u8 0] rfl (by kernel_rfl) (by kernel_rfl) (by kernel_rfl)
   (OpenSpec.preRow_of_cond 8 hx (by kernel_rfl) (fun k hk=>by cases hk) (by kernel_rfl) (laid_met os))) ?_
 intro W base args ds gs before hval hW _ hcond hsz hL _ _
 exact contract H enc W base args ds gs before hval hW hsz hL
theorem said:Rows.DiagOrderSaid:=
 OpenClaim.holds_of_cond 3 Tryd.f3 rfl rfl rfl rfl rfl rfl rfl ⟨rfl,rfl,rfl,rfl,rfl⟩ rfl rfl rfl rfl rfl (by kernel_rfl) Tryd.func3 (by kernel_rfl)
  (of_decide_eq_true (by kernel_rfl)) (by unfold Func.isWrapper;first|(rw[if_pos (by decide+kernel)];kernel_rfl)|(rw[if_neg (by decide+kernel)];exact ⟨rfl,rfl⟩))
  (fun os started H enc _ F=>by rw[OpenClaim.pre_eq_preRow];exact lifted os started H enc F)
theorem plain (f : FuncId) (fn : Func) (hf : Tryd.pinned.checked.prog.funcNamed "limbeck/limbecklaw24.DiagOrder" = some f) (hfn : Tryd.pinned.checked.prog.funcs[f]? = some fn) :
  true=Tryd.pinned.checked.prog.looks []∧ ∀ (j:Nat) t,fn.params[j]?=some t→Tryd.pinned.checked.prog.wantsStandIn t=false:=by
 obtain rfl : f = 3 := Option.some.inj ((show Tryd.prog.funcNamed "limbeck/limbecklaw24.DiagOrder" = some 3 by kernel_rfl).symm.trans hf) |>.symm
 obtain rfl:fn=Tryd.f3:=(Option.some.inj (Tryd.func3.symm.trans hfn)).symm
 refine ⟨by kernel_rfl,fun j t ht=> ?_⟩
 rw[Tryd.params3] at ht
 have hm:t∈(#[22,5]:Array TypeId):=Array.mem_of_getElem? ht
 simp only[List.mem_toArray,List.mem_cons,List.not_mem_nil,or_false] at hm
 rcases hm with rfl|rfl
 ·exact (show Tryd.prog.wantsStandIn 22=false by kernel_rfl)
 ·exact (show Tryd.prog.wantsStandIn 5=false by kernel_rfl)
theorem card:Rows.DiagOrderCardSaid:=
 Claim7.holds_tied_plain_at .later [] _ _ _ _ said (fun _ h=>by cases h) (by kernel_rfl) (fun _ h=>by cases h) diagOrder_row_tie rfl ⟨rfl,rfl⟩ (by kernel_rfl) rfl plain (by kernel_rfl)
#print axioms card
end Go.Proofs.YteifnopejdiikaaDoor.diagOrder
namespace Go.Proofs.YteifnopejdiikaaDoor
theorem diagOrder_card_holds:Rows.DiagOrderCardSaid:=diagOrder.card
end Go.Proofs.YteifnopejdiikaaDoor
