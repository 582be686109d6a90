/-
  What the evaluator knows of this seat's program: its functions, and its variables. No conditions.
-/
import Derived.ChangeSlices
import Derived.Lib.LaidTab
import Derived.ShutString
import Derived.Test.YtleggogbmklddaaGreatDoorCode
import Derived.Test.YtleggogbmklddaaGreatDoorCode1
import Derived.Test.YtleggogbmklddaaGreatDoorPKB
import Derived.Test.YtleggogbmklddaaGreatDoorPKN
import Derived.Test.YtleggogbmklddaaGreatDoorTypes
namespace Go.PE
open Go Go.Proofs
set_option linter.unusedVariables false
set_option maxRecDepth 100000
def tabL:List (Nat×EFn):=[(5,c5),(6,c6),(7,c7),(8,c8),(10,c10),(12,c12),(13,c13),(15,c15),(17,c17),(18,c18),(19,c19),(20,c20),(21,c21),(22,c22),(23,c23),(25,c25),(26,c26),(27,c27),(28,c28),(31,c31),(32,c32),(33,c33),(34,c34),(35,c35),(36,c36),(37,c37),(38,c38),(39,c39),(40,c40),(41,c41),(42,c42),(43,c43),(44,c44),(45,c45),(46,c46),(47,c47),(48,c48),(49,c49),(50,c50),(58,c58),(59,c59),(60,c60),(61,c61),(62,c62),(63,c63),(64,c64),(65,c65),(66,c66),(67,c67),(69,c69),(70,c70),(71,c71),(72,c72),(73,c73),(74,c74),(75,c75),(76,c76),(77,c77),(78,c78),(79,c79),(80,c80),(81,c81),(82,c82),(83,c83),(84,c84),(85,c85),(86,c86),(87,c87),(88,c88),(89,c89),(91,c91),(92,c92),(94,c94),(95,c95),(99,c99),(100,c100),(101,c101),(102,c102),(103,c103),(104,c104),(105,c105),(106,c106),(107,c107),(108,c108),(109,c109),(110,c110),(112,c112),(113,c113),(114,c114),(115,c115),(116,c116),(118,c118),(120,c120),(121,c121),(122,c122),(123,c123),(125,c125),(126,c126),(127,c127),(128,c128),(129,c129),(130,c130),(133,c133),(134,c134),(135,c135),(136,c136),(137,c137)]
def gtab (g:Nat):Option (List PV):=
 none
def knownF (f:FuncId):Option (List PV→St→Option (PV×St)):=
 if f=90 then some jnF else
 if f=93 then some itF else
 if f=124 then some ccF else
 none
def gblk (z:EP) (g:Nat):Option Obj:=if g=1 then some (.cells powCells (z.t 1) (z.z 1)) else none
noncomputable def env (t:TypeId) (z:EP):Env:=⟨⟨gtab,gblk z,Tryz.prog⟩,findE tabL,knownF⟩
theorem tabL_ok:TabOk Tryz.prog tabL:=by
 unfold tabL
 refine ⟨⟨by decide,Tryz.f5,Tryz.func5,c5_ok,by kernel_rfl⟩,⟨⟨by decide,Tryz.f6,Tryz.func6,c6_ok,by kernel_rfl⟩,⟨⟨by decide,Tryz.f7,Tryz.func7,c7_ok,by kernel_rfl⟩,⟨⟨by decide,Tryz.f8,Tryz.func8,c8_ok,by kernel_rfl⟩,⟨⟨by decide,Tryz.f10,Tryz.func10,c10_ok,by kernel_rfl⟩,⟨⟨by decide,Tryz.f12,Tryz.func12,c12_ok,by kernel_rfl⟩,⟨⟨by decide,Tryz.f13,Tryz.func13,c13_ok,by kernel_rfl⟩,⟨⟨by decide,Tryz.f15,Tryz.func15,c15_ok,by kernel_rfl⟩,⟨⟨by decide,Tryz.f17,Tryz.func17,c17_ok,by kernel_rfl⟩,⟨⟨by decide,Tryz.f18,Tryz.func18,c18_ok,by kernel_rfl⟩,⟨⟨by decide,Tryz.f19,Tryz.func19,c19_ok,by kernel_rfl⟩,⟨⟨by decide,Tryz.f20,Tryz.func20,c20_ok,by kernel_rfl⟩,⟨⟨by decide,Tryz.f21,Tryz.func21,c21_ok,by kernel_rfl⟩,⟨⟨by decide,Tryz.f22,Tryz.func22,c22_ok,by kernel_rfl⟩,⟨⟨by decide,Tryz.f23,Tryz.func23,c23_ok,by kernel_rfl⟩,⟨⟨by decide,Tryz.f25,Tryz.func25,c25_ok,by kernel_rfl⟩,⟨⟨by decide,Tryz.f26,Tryz.func26,c26_ok,by kernel_rfl⟩,⟨⟨by decide,Tryz.f27,Tryz.func27,c27_ok,by kernel_rfl⟩,⟨⟨by decide,Tryz.f28,Tryz.func28,c28_ok,by kernel_rfl⟩,⟨⟨by decide,Tryz.f31,Tryz.func31,c31_ok,by kernel_rfl⟩,⟨⟨by decide,Tryz.f32,Tryz.func32,c32_ok,by kernel_rfl⟩,⟨⟨by decide,Tryz.f33,Tryz.func33,c33_ok,by kernel_rfl⟩,⟨⟨by decide,Tryz.f34,Tryz.func34,c34_ok,by kernel_rfl⟩,⟨⟨by decide,Tryz.f35,Tryz.func35,c35_ok,by kernel_rfl⟩,⟨⟨by decide,Tryz.f36,Tryz.func36,c36_ok,by kernel_rfl⟩,⟨⟨by decide,Tryz.f37,Tryz.func37,c37_ok,by kernel_rfl⟩,⟨⟨by decide,Tryz.f38,Tryz.func38,c38_ok,by kernel_rfl⟩,⟨⟨by decide,Tryz.f39,Tryz.func39,c39_ok,by kernel_rfl⟩,⟨⟨by decide,Tryz.f40,Tryz.func40,c40_ok,by kernel_rfl⟩,⟨⟨by decide,Tryz.f41,Tryz.func41,c41_ok,by kernel_rfl⟩,⟨⟨by decide,Tryz.f42,Tryz.func42,c42_ok,by kernel_rfl⟩,⟨⟨by decide,Tryz.f43,Tryz.func43,c43_ok,by kernel_rfl⟩,⟨⟨by decide,Tryz.f44,Tryz.func44,c44_ok,by kernel_rfl⟩,⟨⟨by decide,Tryz.f45,Tryz.func45,c45_ok,by kernel_rfl⟩,⟨⟨by decide,Tryz.f46,Tryz.func46,c46_ok,by kernel_rfl⟩,⟨⟨by decide,Tryz.f47,Tryz.func47,c47_ok,by kernel_rfl⟩,⟨⟨by decide,Tryz.f48,Tryz.func48,c48_ok,by kernel_rfl⟩,⟨⟨by decide,Tryz.f49,Tryz.func49,c49_ok,by kernel_rfl⟩,⟨⟨by decide,Tryz.f50,Tryz.func50,c50_ok,by kernel_rfl⟩,⟨⟨by decide,Tryz.f58,Tryz.func58,c58_ok,by kernel_rfl⟩,⟨⟨by decide,Tryz.f59,Tryz.func59,c59_ok,by kernel_rfl⟩,⟨⟨by decide,Tryz.f60,Tryz.func60,c60_ok,by kernel_rfl⟩,⟨⟨by decide,Tryz.f61,Tryz.func61,c61_ok,by kernel_rfl⟩,⟨⟨by decide,Tryz.f62,Tryz.func62,c62_ok,by kernel_rfl⟩,⟨⟨by decide,Tryz.f63,Tryz.func63,c63_ok,by kernel_rfl⟩,⟨⟨by decide,Tryz.f64,Tryz.func64,c64_ok,by kernel_rfl⟩,⟨⟨by decide,Tryz.f65,Tryz.func65,c65_ok,by kernel_rfl⟩,⟨⟨by decide,Tryz.f66,Tryz.func66,c66_ok,by kernel_rfl⟩,⟨⟨by decide,Tryz.f67,Tryz.func67,c67_ok,by kernel_rfl⟩,⟨⟨by decide,Tryz.f69,Tryz.func69,c69_ok,by kernel_rfl⟩,⟨⟨by decide,Tryz.f70,Tryz.func70,c70_ok,by kernel_rfl⟩,⟨⟨by decide,Tryz.f71,Tryz.func71,c71_ok,by kernel_rfl⟩,⟨⟨by decide,Tryz.f72,Tryz.func72,c72_ok,by kernel_rfl⟩,⟨⟨by decide,Tryz.f73,Tryz.func73,c73_ok,by kernel_rfl⟩,⟨⟨by decide,Tryz.f74,Tryz.func74,c74_ok,by kernel_rfl⟩,⟨⟨by decide,Tryz.f75,Tryz.func75,c75_ok,by kernel_rfl⟩,⟨⟨by decide,Tryz.f76,Tryz.func76,c76_ok,by kernel_rfl⟩,⟨⟨by decide,Tryz.f77,Tryz.func77,c77_ok,by kernel_rfl⟩,⟨⟨by decide,Tryz.f78,Tryz.func78,c78_ok,by kernel_rfl⟩,⟨⟨by decide,Tryz.f79,Tryz.func79,c79_ok,by kernel_rfl⟩,⟨⟨by decide,Tryz.f80,Tryz.func80,c80_ok,by kernel_rfl⟩,⟨⟨by decide,Tryz.f81,Tryz.func81,c81_ok,by kernel_rfl⟩,⟨⟨by decide,Tryz.f82,Tryz.func82,c82_ok,by kernel_rfl⟩,⟨⟨by decide,Tryz.f83,Tryz.func83,c83_ok,by kernel_rfl⟩,⟨⟨by decide,Tryz.f84,Tryz.func84,c84_ok,by kernel_rfl⟩,⟨⟨by decide,Tryz.f85,Tryz.func85,c85_ok,by kernel_rfl⟩,⟨⟨by decide,Tryz.f86,Tryz.func86,c86_ok,by kernel_rfl⟩,⟨⟨by decide,Tryz.f87,Tryz.func87,c87_ok,by kernel_rfl⟩,⟨⟨by decide,Tryz.f88,Tryz.func88,c88_ok,by kernel_rfl⟩,⟨⟨by decide,Tryz.f89,Tryz.func89,c89_ok,by kernel_rfl⟩,⟨⟨by decide,Tryz.f91,Tryz.func91,c91_ok,by kernel_rfl⟩,⟨⟨by decide,Tryz.f92,Tryz.func92,c92_ok,by kernel_rfl⟩,⟨⟨by decide,Tryz.f94,Tryz.func94,c94_ok,by kernel_rfl⟩,⟨⟨by decide,Tryz.f95,Tryz.func95,c95_ok,by kernel_rfl⟩,⟨⟨by decide,Tryz.f99,Tryz.func99,c99_ok,by kernel_rfl⟩,⟨⟨by decide,Tryz.f100,Tryz.func100,c100_ok,by kernel_rfl⟩,⟨⟨by decide,Tryz.f101,Tryz.func101,c101_ok,by kernel_rfl⟩,⟨⟨by decide,Tryz.f102,Tryz.func102,c102_ok,by kernel_rfl⟩,⟨⟨by decide,Tryz.f103,Tryz.func103,c103_ok,by kernel_rfl⟩,⟨⟨by decide,Tryz.f104,Tryz.func104,c104_ok,by kernel_rfl⟩,⟨⟨by decide,Tryz.f105,Tryz.func105,c105_ok,by kernel_rfl⟩,⟨⟨by decide,Tryz.f106,Tryz.func106,c106_ok,by kernel_rfl⟩,⟨⟨by decide,Tryz.f107,Tryz.func107,c107_ok,by kernel_rfl⟩,⟨⟨by decide,Tryz.f108,Tryz.func108,c108_ok,by kernel_rfl⟩,⟨⟨by decide,Tryz.f109,Tryz.func109,c109_ok,by kernel_rfl⟩,⟨⟨by decide,Tryz.f110,Tryz.func110,c110_ok,by kernel_rfl⟩,⟨⟨by decide,Tryz.f112,Tryz.func112,c112_ok,by kernel_rfl⟩,⟨⟨by decide,Tryz.f113,Tryz.func113,c113_ok,by kernel_rfl⟩,⟨⟨by decide,Tryz.f114,Tryz.func114,c114_ok,by kernel_rfl⟩,⟨⟨by decide,Tryz.f115,Tryz.func115,c115_ok,by kernel_rfl⟩,⟨⟨by decide,Tryz.f116,Tryz.func116,c116_ok,by kernel_rfl⟩,⟨⟨by decide,Tryz.f118,Tryz.func118,c118_ok,by kernel_rfl⟩,⟨⟨by decide,Tryz.f120,Tryz.func120,c120_ok,by kernel_rfl⟩,⟨⟨by decide,Tryz.f121,Tryz.func121,c121_ok,by kernel_rfl⟩,⟨⟨by decide,Tryz.f122,Tryz.func122,c122_ok,by kernel_rfl⟩,⟨⟨by decide,Tryz.f123,Tryz.func123,c123_ok,by kernel_rfl⟩,⟨⟨by decide,Tryz.f125,Tryz.func125,c125_ok,by kernel_rfl⟩,⟨⟨by decide,Tryz.f126,Tryz.func126,c126_ok,by kernel_rfl⟩,⟨⟨by decide,Tryz.f127,Tryz.func127,c127_ok,by kernel_rfl⟩,⟨⟨by decide,Tryz.f128,Tryz.func128,c128_ok,by kernel_rfl⟩,⟨⟨by decide,Tryz.f129,Tryz.func129,c129_ok,by kernel_rfl⟩,⟨⟨by decide,Tryz.f130,Tryz.func130,c130_ok,by kernel_rfl⟩,⟨⟨by decide,Tryz.f133,Tryz.func133,c133_ok,by kernel_rfl⟩,⟨⟨by decide,Tryz.f134,Tryz.func134,c134_ok,by kernel_rfl⟩,⟨⟨by decide,Tryz.f135,Tryz.func135,c135_ok,by kernel_rfl⟩,⟨⟨by decide,Tryz.f136,Tryz.func136,c136_ok,by kernel_rfl⟩,⟨⟨by decide,Tryz.f137,Tryz.func137,c137_ok,by kernel_rfl⟩,trivial⟩⟩⟩⟩⟩⟩⟩⟩⟩⟩⟩⟩⟩⟩⟩⟩⟩⟩⟩⟩⟩⟩⟩⟩⟩⟩⟩⟩⟩⟩⟩⟩⟩⟩⟩⟩⟩⟩⟩⟩⟩⟩⟩⟩⟩⟩⟩⟩⟩⟩⟩⟩⟩⟩⟩⟩⟩⟩⟩⟩⟩⟩⟩⟩⟩⟩⟩⟩⟩⟩⟩⟩⟩⟩⟩⟩⟩⟩⟩⟩⟩⟩⟩⟩⟩⟩⟩⟩⟩⟩⟩⟩⟩⟩⟩⟩⟩⟩⟩⟩⟩⟩⟩⟩⟩⟩⟩
theorem env_ok (t:TypeId) (z:EP):EnvOk Tryz.prog (env t z):=by
 refine ⟨by kernel_rfl,rfl,fun f c h=>tabL_ok.find f c h,fun f F h=> ?_⟩
 simp only[env,knownF] at h
 split at h
 ·rename_i e;subst e;injection h with h;subst h
  exact ⟨_,.inl ⟨rfl,by decide⟩,enter_jn,fun args S r S' h=>jnF_spec (env t z).G args S r S' h⟩
 split at h
 ·rename_i e;subst e;injection h with h;subst h
  exact ⟨_,.inl ⟨rfl,by decide⟩,enter_it,fun args S r S' h=>itF_spec (env t z).G ⟨z.t 1,z.z 1,by simp[env,gblk]⟩ args S r S' h⟩
 split at h
 ·rename_i e;subst e;injection h with h;subst h
  exact ⟨_,.inl ⟨rfl,by decide⟩,enter_cc,fun args S r S' h=>ccF_spec (env t z).G args S r S' h⟩
 cases h
end Go.PE
namespace Go.PE
open Go Go.RowKit Go.ChangeShapes Go.WideShapes Go.Proofs
open Go.Proofs.YtleggogbmklddaaGreatDoor.Rows (uptoBulk uptoBulkAll)
set_option linter.unusedVariables false
set_option linter.unusedSimpArgs false
section
variable {H:Type} {enc:TypeId×Value→H} {P:Program} {W:World} {base:Nat} {r:Reach} {spare:Nat→Bool} {held:Bool} {t:TypeId} {v:Value} {d:DataW H} {ps:List MemPlace} {L:List TypeId}
theorem open_structP {fs:Array Field} (hu:P.underlying t=some (.struct fs)) (hL:plainTypes P L=true) (ht:t∈L) (hok:Value.okWide P W r base t v) (hd:DataW.Trod enc P W 0 spare held t v d ps):
  ∃ cs,Fit P t cs∧Rep .none W (.agg cs) v∧bulkL cs≤uptoBulk d:=by
 obtain ⟨fuel,hf⟩:=hd
 obtain ⟨cs,h1,h2,h3,h4⟩:=fits_of_trod hL fuel ht hf
 unfold Value.okWide at hok
 rw[hu] at hok
 obtain ⟨arr,rfl,_,_⟩:=hok
 refine ⟨cs,h1,.agg cs arr (by simpa [Value.cells] using h2.symm) (fun i p hp=> ?_) (fun i p v hp hv=>(h3 i p v hp (by simpa [Value.cells] using hv)).2),h4⟩
 have hi:i<(Value.agg arr).cells.toList.length:=by rw[←h2];exact getElem?_lt hp
 exact (h3 i p _ hp (List.getElem?_eq_getElem hi)).1
end
theorem laid_mem {P:Program} {W:World} {n:String} {d:DataW Unit}: ∀ {l:List (String×DataW Unit)} {ps:List MemPlace},DataW.LaidVars P W l ps→(n,d)∈l→
  ∃ g t cs fuel p,P.globalNamed n=some g∧(P.globals[g]?).map (·.type)=some t∧W.var? P n=some cs∧DataW.trod (fun _=>()) P W 0 (fun _=>true) false fuel t cs.toList=some (d,p)
 |[],_,_,hm=>by simp at hm
 |(n',d')::l,ps,h,hm=>by
  obtain ⟨g,t,cs,fuel,p,q,h1,h2,h3,h4,h5,_⟩:=h
  rcases List.mem_cons.1 hm with e|hm
  ·injection e with e1 e2;subst e1 e2
   exact ⟨g,t,cs,fuel,p,h1,h2,h3,h4⟩
  ·exact laid_mem h5 hm
theorem laid_tab {P:Program} {W:World} {name:String} {k:IntKind} {zs:List Int} {l:List (String×DataW Unit)} {g:Nat} {t e:TypeId} {n:Nat} (h:laidMet P l W) (hm:(name,Lib.tabData k zs)∈l)
  (hg:P.globalNamed name=some g) (hty:(P.globals[g]?).map (·.type)=some t) (ht:P.underlying t=some (.array n e)) (he:P.underlying e=some (.int k)) (hce:P.cellsOf e=1) (hct:P.cellsOf t=n): ∃ u z,W.heap[g]?=some (.cells (zs.map fun z=>Value.int k z).toArray u z):=by
 obtain ⟨ps,hl,_⟩:=h
 obtain ⟨g',t',cs,fuel,p,hg',ht',hvar,hd⟩:=laid_mem hl hm
 obtain rfl:=Option.some.inj (hg.symm.trans hg')
 obtain rfl:=Option.some.inj (hty.symm.trans ht')
 have hc:=Lib.cells_of_tab ht he hce hct hd
 unfold World.var? at hvar
 rw[hg] at hvar
 simp only[Option.bind_some] at hvar
 split at hvar
 ·rename_i cs' u z hb
  injection hvar with hvar;subst hvar
  exact ⟨u,z,by rw[hb,←hc]⟩
 ·cases hvar
structure Ground (W:World) (t:TypeId) (z:EP):Prop where
 tab: ∀ g cs,gtab g=some cs→Rep .none W (.at_ cs) (.pointer (some ⟨g,0,none⟩))
 blk: ∀ g o,(env t z).G.blk g=some o→W.heap[g]?=some o
theorem walk_true {W:World} {t:TypeId} {z:EP} (hG:Ground W t z) {f:FuncId} {args:List PV} {vs:List Value} {S':St} (h:Ev (env t z) f args .none (.bool true) S') (hR:RepL .none W args vs) (hf:f<yid:=by decide):
  Calls Tryz.prog f vs.toArray W fun e W'=>e= .returned (.bool true)∧Below W.heap.size W W':=by
 refine (calls_of_ev (env_ok t z) hf h hG.tab hG.blk hR).mono ?_
 rintro e W' ⟨C',v,rfl,hr,hb⟩
 cases hr
 exact ⟨rfl,hb⟩
theorem repL_nil {C:Ctx} {W:World}:RepL C W [] []:=⟨rfl,by simp⟩
theorem repL_cons {C:Ctx} {W:World} {p:PV} {v:Value} {ps:List PV} {vs:List Value} (h:Rep C W p v) (k:RepL C W ps vs):RepL C W (p::ps) (v::vs):=by
 refine ⟨by simp[k.1],fun i q u hq hu=> ?_⟩
 cases i with
 |zero=>simp at hq hu;subst hq hu;exact h
 |succ i=>exact k.2 i q u (by simpa using hq) (by simpa using hu)
end Go.PE
