/-
  What each operation that turns no memory does. Conditions: each law's own.
-/
import Derived.Test.YteifnopejdiikaaDoorPE3
import Derived.Lib.Bytes
namespace Go.PE
open Go Go.RowKit
set_option linter.unusedVariables false
set_option linter.unusedSimpArgs false
section
variable {nt:Nat} {P:Program} {G:Glob} {C:Ctx} {S:St} {w:World} {ts:Tmps} {a:Act} {o:Oper} {v:PV}
theorem does_mv (hW:WRel G C S w) (hT:TR nt C w ts a.tmps) {x:Operand} {e:EOpd} (ho:o.op= .move x∨o.op= .assign x) (hx:cOpd x=some e) (hv:e.val G ts=some v):Does P G C w S v o a:=by
 refine Does.pure hW (v':=a.eval x) ?_ (opd_rep hW hT hx hv)
 rcases ho with ho|ho<;>simp[execOp,ho]
theorem does_pick (hW:WRel G C S w) (hT:TR nt C w ts a.tmps) {c x y:Operand} {ec ex ey:EOpd} (ho:o.op= .pick c x y) (hc:cOpd c=some ec) (hx:cOpd x=some ex) (hy:cOpd y=some ey) {t:Bool}
  (hcv:ec.val G ts=some (.bool t)) (hv:(if t then ex else ey).val G ts=some v):Does P G C w S v o a:=by
 have h1:=opd_rep hW hT hc hcv
 cases hcx:a.eval c<;>rw[hcx] at h1<;>cases h1
 refine Does.pure hW (v':=if t then a.eval x else a.eval y) (by simp[execOp,ho,hcx,asBool]) ?_
 cases t
 ·exact opd_rep hW hT hy hv
 ·exact opd_rep hW hT hx hv
theorem Rep.int_inv {k:IntKind} {n:Int} {u:Value} (h:Rep C w (.int k n) u):u= .int k n:=by cases h;rfl
theorem Rep.bool_inv {b:Bool} {u:Value} (h:Rep C w (.bool b) u):u= .bool b:=by cases h;rfl
theorem Rep.str_inv {s:ByteArray} {u:Value} (h:Rep C w (.str s) u):u= .string s:=by cases h;rfl
theorem Rep.nilp_inv {u:Value} (h:Rep C w .nilp u):u= .pointer none:=by cases h;rfl
theorem Rep.agg_inv {cs:List PV} {u:Value} (h:Rep C w (.agg cs) u): ∃ vs,u= .agg vs∧vs.size=cs.length∧(∀ (i:Nat) p,cs[i]?=some p→p.atom=true)∧(∀ (i:Nat) p v,cs[i]?=some p→vs[i]?=some v→Rep C w p v):=by
 cases h with|agg cs vs hl ha h=>exact ⟨vs,rfl,hl,ha,h⟩
theorem Rep.tup_inv {cs:List PV} {u:Value} (h:Rep C w (.tup cs) u): ∃ vs,u= .tuple vs∧vs.size=cs.length∧(∀ (i:Nat) p v,cs[i]?=some p→vs[i]?=some v→Rep C w p v):=by
 cases h with|tup cs vs hl h=>exact ⟨vs,rfl,hl,h⟩
theorem Rep.atom {p:PV} {u:Value} (h:Rep C w p u):vAtom u=p.atom:=by cases h<;>rfl
theorem guard_int (op:BinOp) (t:TypeId) (x y:Operand) (k k':IntKind) (m n:Int):(eqGuard op t x y (.int k m) (.int k' n)).run P w= .ok () w:=by
 cases op<;>rfl
theorem guard_str (op:BinOp) (t:TypeId) (x y:Operand) (s r:ByteArray):(eqGuard op t x y (.string s) (.string r)).run P w= .ok () w:=by
 cases op<;>rfl
theorem guard_bool (op:BinOp) (t:TypeId) (x y:Operand) (s r:Bool):(eqGuard op t x y (.bool s) (.bool r)).run P w= .ok () w:=by
 cases op<;>rfl
theorem i64max:IntKind.i64.max=9223372036854775807:=by decide
theorem bin_run {op:BinOp} {t:TypeId} {p q r:PV} {u u':Value} (h:binP op p q=some r) (hp:Rep C w p u) (hq:Rep C w q u'): ∃ v',(Go.binOp op t u u').run P w= .ok v' w∧Rep C w r v'∧ ∀ x y,(eqGuard op t x y u u').run P w= .ok () w:=by
 cases p<;>try (simp[binP] at h;done)
 ·rename_i k m
  cases q<;>try (simp[binP] at h;done)
  rename_i k' n
  have e1:=hp.int_inv;have e2:=hq.int_inv;subst e1 e2
  cases op<;>simp only[binP] at h<;>split at h<;>
   first
    |(simp at h;done)
    |(rename_i hc;simp only[Option.some.injEq] at h;subst h
      refine ⟨.int _ _, ?_,.int _ _,fun x y=>guard_int _ _ _ _ _ _ _ _⟩
      simp[Go.binOp,Op.intArith,Op.intDiv,Op.intBits,Op.intCmp,Op.shift,hc];done)
    |(rename_i hc;simp only[Option.some.injEq] at h;subst h
      refine ⟨.bool _, ?_,.bool _,fun x y=>guard_int _ _ _ _ _ _ _ _⟩
      simp[Go.binOp,Op.intArith,Op.intDiv,Op.intBits,Op.intCmp,Op.shift,hc];done)
 ·rename_i s
  cases q<;>try (simp[binP] at h;done)
  rename_i s'
  have e1:=hp.str_inv;have e2:=hq.str_inv;subst e1 e2
  cases op<;>simp only[binP] at h<;>
   first
    |(simp at h;done)
    |(split at h
      ·simp at h
      ·rename_i hc;simp only[Option.some.injEq] at h;subst h
       refine ⟨_, ?_,.str _,fun x y=>guard_str _ _ _ _ _ _⟩
       simp only[Go.binOp,Op.stringOp,i64max]
       rw[if_neg hc];rfl)
    |(simp only[Option.some.injEq,strEq_eq,strLt_eq] at h;subst h;exact ⟨_,rfl,.bool _,fun x y=>guard_str _ _ _ _ _ _⟩)
theorem does_bin (hW:WRel G C S w) (hT:TR nt C w ts a.tmps) {op:BinOp} {t t':TypeId} {x y:Operand} {ex ey:EOpd} (ho:o.op= .binOp op t x y t') (hx:cOpd x=some ex) (hy:cOpd y=some ey) {p q:PV}
  (hp:ex.val G ts=some p) (hq:ey.val G ts=some q) (hv:binP op p q=some v):Does P G C w S v o a:=by
 obtain ⟨v',h1,h2,h3⟩:=bin_run (P:=P) (t:=t) hv (opd_rep hW hT hx hp) (opd_rep hW hT hy hq)
 exact Does.pure hW (v':=v') (by simp[execOp,ho,h1,h3]) h2
theorem eqIn_bool {t:TypeId} (h:P.underlying t=some .bool) (s r:Bool) (d:Nat):(Op.equalIn (d+1) t (.bool s) (.bool r)).run P w= .ok (s==r) w:=by
 unfold Op.equalIn;simp[underlying_run h]
theorem eqIn_int {t:TypeId} {k:IntKind} (h:P.underlying t=some (.int k)) (j:IntKind) (m n:Int) (d:Nat):(Op.equalIn (d+1) t (.int j m) (.int j n)).run P w= .ok (m==n) w:=by
 unfold Op.equalIn;simp[underlying_run h]
theorem ba_beq (s r:ByteArray):(s==r)=(s.toList==r.toList):=by
 rw[Lib.toList_data,Lib.toList_data]
 cases s;cases r
 rename_i x y
 show (x==y)=(x.toList==y.toList)
 rw[Bool.eq_iff_iff]
 simp
theorem eqIn_str {t:TypeId} (h:P.underlying t=some .string) (s r:ByteArray) (d:Nat):(Op.equalIn (d+1) t (.string s) (.string r)).run P w= .ok (s.toList==r.toList) w:=by
 unfold Op.equalIn;simp[underlying_run h,ba_beq]
theorem eq_run {t:TypeId} {x y:Value} {b:Bool} (h: ∀ d,(Op.equalIn (d+1) t x y).run P w= .ok b w):(Op.equal t x y).run P w= .ok b w:=h 9999
theorem eq_run_bool {t:TypeId} (h:P.underlying t=some .bool) (s r:Bool):(Op.equal t (.bool s) (.bool r)).run P w= .ok (s==r) w:=eq_run (eqIn_bool h s r)
theorem does_eqB (hW:WRel G C S w) (hT:TR nt C w ts a.tmps) {neg:Bool} {t t':TypeId} {x y:Operand} {ex ey:EOpd} (ho:o.op= .binOp (if neg then .neq else .eql) t x y t') (ht:P.underlying t=some .bool) (hx:cOpd x=some ex) (hy:cOpd y=some ey) {p q:Bool}
  (hp:ex.val G ts=some (.bool p)) (hq:ey.val G ts=some (.bool q)):Does P G C w S (.bool (neg !=(p==q))) o a:=by
 have e1:=(opd_rep hW hT hx hp).bool_inv
 have e2:=(opd_rep hW hT hy hq).bool_inv
 refine Does.pure hW (v':= .bool (neg !=(p==q))) ?_ (.bool _)
 cases neg
 ·simp only[execOp,ho,e1,e2,if_neg,Bool.false_eq_true,if_false,Sem.run_bind,guard_bool,Go.binOp,eq_run_bool ht,Result.andThen_ok,Sem.run_pure]
  simp
 ·simp only[execOp,ho,e1,e2,if_true,Sem.run_bind,guard_bool,Go.binOp,eq_run_bool ht,Result.andThen_ok,Sem.run_pure]
  simp
theorem does_un (hW:WRel G C S w) (hT:TR nt C w ts a.tmps) {op:UnOp} {t:TypeId} {x:Operand} {ex:EOpd} (ho:o.op= .unOp op t x) (hx:cOpd x=some ex) (hv:evOp G (fun _ _ _=>none) ts S (.un op ex)=some (v,S)):Does P G C w S v o a:=by
 simp only[evOp] at hv
 split at hv
 ·rename_i k n hp
  simp at hv;subst hv
  have e1:=(opd_rep hW hT hx hp).int_inv
  exact Does.pure hW (v':= .int k (k.wrap (0 - n))) (by simp[execOp,ho,e1,Op.unary,Op.intArith]) (by simpa using Rep.int _ _)
 ·rename_i b hp
  simp at hv;subst hv
  have e1:=(opd_rep hW hT hx hp).bool_inv
  exact Does.pure hW (v':= .bool !b) (by simp[execOp,ho,e1,Op.unary]) (.bool _)
 ·cases hv
theorem does_cvI (hW:WRel G C S w) (hT:TR nt C w ts a.tmps) {s d:TypeId} {x:Operand} {ex:EOpd} {j k:IntKind} (ho:o.op= .convert s d x) (hs:P.underlying s=some (.int j)) (hd:P.underlying d=some (.int k)) (hx:cOpd x=some ex) {l:IntKind} {n:Int}
  (hp:ex.val G ts=some (.int l n)):Does P G C w S (.int k (k.wrap n)) o a:=by
 have e1:=(opd_rep hW hT hx hp).int_inv
 exact Does.pure hW (v':= .int k (k.wrap n)) (by simp[execOp,ho,e1,Go.convert,underlying_run hs,underlying_run hd,Conv.intToInt]) (.int _ _)
theorem does_cvS (hW:WRel G C S w) (hT:TR nt C w ts a.tmps) {s d:TypeId} {x:Operand} {ex:EOpd} (ho:o.op= .convert s d x) (hs:P.underlying s=some .string) (hd:P.underlying d=some .string) (hx:cOpd x=some ex) {r:ByteArray}
  (hp:ex.val G ts=some (.str r)):Does P G C w S (.str r) o a:=by
 have e1:=(opd_rep hW hT hx hp).str_inv
 exact Does.pure hW (v':= .string r) (by simp[execOp,ho,e1,Go.convert,underlying_run hs,underlying_run hd]) (.str _)
theorem does_ifc (hW:WRel G C S w) (hT:TR nt C w ts a.tmps) {t:TypeId} {x:Operand} {ex:EOpd} {d:TypeDesc} (ho:o.op= .makeInterface t x) (ht:P.underlying t=some d) (hd: ∀ ms,d≠ .interface ms) (hx:cOpd x=some ex) {p:PV}
  (hp:ex.val G ts=some p):Does P G C w S (.ifc t p) o a:=by
 refine Does.pure hW (v':= .iface t (a.eval x)) ?_ (.ifc t _ _ (opd_rep hW hT hx hp))
 cases d<;>first|exact absurd rfl (hd _)|simp[execOp,ho,Instr.makeInterface,underlying_run ht]
theorem does_fnv (hW:WRel G C S w) (hT:TR nt C w ts a.tmps) {f:FuncId} {first caps:Array Operand} {e1 e2:List EOpd} {p1 p2:List PV} (hf0:f<yid) (ho:o.op= .makeFunc (.func f) first caps) (h1:first.toList.mapM cOpd=some e1) (h2:caps.toList.mapM cOpd=some e2)
  (hp1:vals G ts e1=some p1) (hp2:vals G ts e2=some p2):Does P G C w S (.fn f p1 p2) o a:=by
 have r1:=vals_rep hW hT h1 hp1
 have r2:=vals_rep hW hT h2 hp2
 refine Does.pure hW (v':= .func (.func f) (first.map a.eval) (caps.map a.eval)) (by simp[execOp,ho,Instr.makeFunc]) ?_
 refine .fn f p1 p2 _ _ hf0 (by simpa using r1.1) (by simpa using r2.1) (fun i p v hp hv=>r1.2 i p v hp ?_) (fun i p v hp hv=>r2.2 i p v hp ?_)
 ·rw[←hv,←Array.getElem?_toList,Array.toList_map]
 ·rw[←hv,←Array.getElem?_toList,Array.toList_map]
theorem does_ext (hW:WRel G C S w) (hT:TR nt C w ts a.tmps) {x:Operand} {ex:EOpd} {i:Nat} (ho:o.op= .extract x i) (hx:cOpd x=some ex) {l:List PV} (hp:ex.val G ts=some (.tup l)) (hv:l[i]?=some v):Does P G C w S v o a:=by
 obtain ⟨vs,e1,h1,h2⟩:=(opd_rep hW hT hx hp).tup_inv
 have hi:i<vs.size:=by rw[h1];exact getElem?_lt hv
 refine Does.pure hW (v':=vs[i]) ?_ (h2 i v _ hv (Array.getElem?_eq_getElem hi))
 simp[execOp,ho,e1,Instr.extract,hi]
theorem does_lenS (hW:WRel G C S w) (hT:TR nt C w ts a.tmps) {c:Call} {x:Operand} {ex:EOpd} {t:TypeId} (ho:o.op= .call c) (hc:c.callee= .builtin .len) (hcx:c.args= #[x]) (ht:c.argTypes[0]?=some t) (hu:P.underlying t=some .string) (hx:cOpd x=some ex) {r:ByteArray}
  (hp:ex.val G ts=some (.str r)):Does P G C w S (.int .i64 r.size) o a:=by
 have e1:=(opd_rep hW hT hx hp).str_inv
 refine Does.pure hW (v':= .int .i64 r.size) ?_ (.int _ _)
 simp[execOp,ho,resolve,hc,hcx,invoke,Go.builtin,Builtin.len_,ht,e1,underlying_run hu,goInt]
theorem does_lenL (hW:WRel G C S w) (hT:TR nt C w ts a.tmps) {c:Call} {x:Operand} {ex:EOpd} {t e:TypeId} (ho:o.op= .call c) (hc:c.callee= .builtin .len) (hcx:c.args= #[x]) (ht:c.argTypes[0]?=some t) (hu:P.underlying t=some (.slice e)) (hx:cOpd x=some ex) {g:Tag} {xs:List (List PV)}
  (hp:ex.val G ts=some (.sl g xs)):Does P G C w S (.int .i64 xs.length) o a:=by
 have hr:=opd_rep hW hT hx hp
 generalize hu':a.eval x=u at hr
 cases hr with|sl g xs ad n cap sz hn hcap hsz hnull hexact hrow ha hc' h hown=>
 refine Does.pure hW (v':= .int .i64 xs.length) ?_ (.int _ _)
 simp[execOp,ho,resolve,hc,hcx,invoke,Go.builtin,Builtin.len_,ht,hu',underlying_run hu,goInt,hn]
theorem bound_run {x:Option PV} {x':Option Value} {dflt top r top':Nat} {code:BoundsCode} (h:boundP x dflt top=some r) (htop:top≤top') (hx: ∀ p,x=some p→ ∃ u,x'=some u∧Rep C w p u):
  (x=none→r=dflt)∧(∀ u,x.isSome=true→x'=some u→(Instr.sliceBound u top' code).run P w= .ok r w)∧(x.isSome=true→r≤top):=by
 cases x with
 |none=>simp[boundP] at h;exact ⟨fun _=>h.symm,fun u h=>by simp at h,fun h=>by simp at h⟩
 |some p=>
  cases p<;>simp only[boundP] at h<;>try (cases h;done)
  rename_i k i
  split at h
  ·rename_i hc
   simp at h;subst h
   obtain ⟨u,hu,hr⟩:=hx _ rfl
   have:=hr.int_inv
   subst this
   refine ⟨fun h=>by simp at h,fun u' _ hu'=> ?_,fun _=>by omega⟩
   rw[hu] at hu';injection hu' with hu';subst hu'
   simp only[Instr.sliceBound,asIntOf,Sem.run_bind,Sem.run_pure,Result.andThen_ok]
   rw[if_pos ⟨hc.1,by omega⟩]
   rfl
  ·cases h
theorem optVal_rep (hW:WRel G C S w) (hT:TR nt C w ts a.tmps) {x:Option Operand} {e:Option EOpd} {p:Option PV} (hc:cOpt x=some e) (hv:optVal G ts e=some p):
  (∀ q,p=some q→ ∃ u,x.map a.eval=some u∧Rep C w q u)∧(p.isSome=x.isSome):=by
 cases x with
 |none=>
  simp[cOpt] at hc;subst hc;simp[optVal] at hv;subst hv
  exact ⟨fun q h=>by simp at h,rfl⟩
 |some x=>
  simp only[cOpt,Option.map_eq_some_iff] at hc
  obtain ⟨e',he,rfl⟩:=hc
  simp only[optVal,Option.map_eq_some_iff] at hv
  obtain ⟨q,hq,rfl⟩:=hv
  exact ⟨fun q' h=>by injection h with h;subst h;exact ⟨_,rfl,opd_rep hW hT he hq⟩,rfl⟩
theorem does_slS (hW:WRel G C S w) (hT:TR nt C w ts a.tmps) {t:TypeId} {x:Operand} {lo hi:Option Operand} {ex:EOpd} {el eh:Option EOpd} (ho:o.op= .slice t x lo hi none) (ht:P.underlying t=some .string) (hx:cOpd x=some ex) (hl:cOpt lo=some el) (hh:cOpt hi=some eh)
  {s:ByteArray} {pl ph:Option PV} (hp:ex.val G ts=some (.str s)) (hpl:optVal G ts el=some pl) (hph:optVal G ts eh=some ph) {l h:Nat} (bh:boundP ph s.size s.size=some h) (bl:boundP pl 0 h=some l):Does P G C w S (.str (s.extract l h)) o a:=by
 have e1:=(opd_rep hW hT hx hp).str_inv
 obtain ⟨r1,r2⟩:=optVal_rep (a:=a) hW hT hl hpl
 obtain ⟨q1,q2⟩:=optVal_rep (a:=a) hW hT hh hph
 obtain ⟨h1,h2,h3⟩:=bound_run (P:=P) (top':=s.size) (code:= .sliceAlen) bh (Nat.le_refl _) q1
 obtain ⟨l1,l2,l3⟩:=bound_run (P:=P) (top':=h) (code:= .sliceB) bl (Nat.le_refl _) r1
 refine Does.pure hW (v':= .string (s.extract l h)) ?_ (.str _)
 have key:(Instr.sliceBounds false s.size s.size (lo.map a.eval) (hi.map a.eval) none).run P w= .ok (l,h,s.size) w:=by
  unfold Instr.sliceBounds
  cases hi with
  |none=>
   have e2:=h1 (by cases ph with|none=>rfl|some _=>simp at q2)
   subst e2
   cases lo with
   |none=>
    have e3:=l1 (by cases pl with|none=>rfl|some _=>simp at r2)
    subst e3
    simp
   |some lo=>
    have:=l2 (a.eval lo) (by rw[r2];rfl) rfl
    simp[this]
  |some hi=>
   have h2':=h2 (a.eval hi) (by rw[q2];rfl) rfl
   cases lo with
   |none=>
    have e3:=l1 (by cases pl with|none=>rfl|some _=>simp at r2)
    subst e3
    simp[h2']
   |some lo=>
    have:=l2 (a.eval lo) (by rw[r2];rfl) rfl
    simp[this,h2']
 simp[execOp,ho,Instr.sliceAt,underlying_run ht,Instr.slice,e1,key]
theorem does_ixS (hW:WRel G C S w) (hT:TR nt C w ts a.tmps) {t:TypeId} {x i:Operand} {ex ei:EOpd} (ho:o.op= .index t x i) (ht:P.underlying t=some .string) (hx:cOpd x=some ex) (hi:cOpd i=some ei) {s:ByteArray} {iv:PV} {j:Nat} {b:UInt8}
  (hp:ex.val G ts=some (.str s)) (hq:ei.val G ts=some iv) (hj:idxP iv s.size=some j) (hb:s.data.toList[j]?=some b):Does P G C w S (.int .u8 (b.toNat:Int)) o a:=by
 have e1:=(opd_rep hW hT hx hp).str_inv
 cases iv<;>simp only[idxP] at hj<;>try (cases hj;done)
 rename_i k n
 split at hj
 ·rename_i hc
  simp at hj;subst hj
  have e2:=(opd_rep hW hT hi hq).int_inv
  refine Does.pure hW (v':= .int .u8 b.toNat) ?_ (.int _ _)
  have hb':s[n.toNat]?=some b:=by rw[←hb];simp[getElem?_def];rfl
  simp[execOp,ho,e1,e2,Instr.index,asIntOf,underlying_run ht,hc.1,hb']
 ·cases hj
theorem rowOf_rep {cs:List PV} {vs:List Value} {n:Option Nat} (hl:vs.length=cs.length) (ha: ∀ (i:Nat) p,cs[i]?=some p→p.atom=true) (h: ∀ (i:Nat) p v,cs[i]?=some p→vs[i]?=some v→Rep C w p v) (hv:rowOf cs n=some v):
  (n=none→ ∃ u,vs[0]?=some u∧Rep C w v u)∧(∀ k,n=some k→k≤vs.length∧Rep C w v (.agg (vs.take k).toArray)):=by
 cases n with
 |none=>
  simp only[rowOf] at hv
  have h0:=getElem?_lt hv
  have:vs[0]?=some (vs[0]'(by omega)):=List.getElem?_eq_getElem _
  exact ⟨fun _=>⟨_,this,h 0 v _ hv this⟩,fun k hk=>by simp at hk⟩
 |some n=>
  simp only[rowOf] at hv
  split at hv
  ·simp at hv;subst hv
   refine ⟨fun h=>by simp at h,fun k hk=> ?_⟩
   injection hk with hk;subst hk
   refine ⟨by omega,.agg _ _ (by simp;omega) (fun i p hp=> ?_) (fun i p u hp hu=> ?_)⟩
   ·rw[List.getElem?_take] at hp
    split at hp
    ·exact ha i p hp
    ·cases hp
   ·rw[List.getElem?_take] at hp
    split at hp
    ·rename_i hi
     simp[List.getElem?_take,hi] at hu
     exact h i p u hp hu
    ·cases hp
  ·cases hv
theorem part_run {t:TypeId} {n:Option Nat} (hn:aggN P t=some n) {cs:List PV} {vs:Array Value} (hl:vs.size=cs.length) (ha: ∀ (i:Nat) p,cs[i]?=some p→p.atom=true) (h: ∀ (i:Nat) p v,cs[i]?=some p→vs[i]?=some v→Rep C w p v) {off:Nat} (hv:rowOf (cs.drop off) n=some v):
  ∃ u,(part t vs off).run P w= .ok u w∧Rep C w v u:=by
 obtain ⟨h1,h2⟩:=aggN_run hn w
 obtain ⟨r1,r2⟩:=rowOf_rep (C:=C) (w:=w) (cs:=cs.drop off) (vs:=vs.toList.drop off) (by simp[hl]) (fun i p hp=>ha (off+i) p (by rwa[List.getElem?_drop] at hp))
  (fun i p u hp hu=>h (off+i) p u (by rwa[List.getElem?_drop] at hp) (by rw[List.getElem?_drop] at hu;rwa[Array.getElem?_toList] at hu)) hv
 cases n with
 |none=>
  obtain ⟨u,hu,hr⟩:=r1 rfl
  rw[List.getElem?_drop,Nat.add_zero,Array.getElem?_toList] at hu
  exact ⟨u,by simp[part,h1,hu],hr⟩
 |some k=>
  obtain ⟨hk,hr⟩:=r2 k rfl
  refine ⟨_, ?_,hr⟩
  simp only[part,Sem.run_bind,h1,Result.andThen_ok,Option.isSome_some,if_true,h2 k rfl,Sem.run_pure]
  congr 2
  rw[←Array.toList_inj]
  simp[List.take_drop,Array.toList_extract]
theorem does_fld (hW:WRel G C S w) (hT:TR nt C w ts a.tmps) {t:TypeId} {x:Operand} {f:Nat} {ex:EOpd} {fs:Array Field} {fd:Field} {n:Option Nat} (ho:o.op= .field t x f) (ht:P.underlying t=some (.struct fs)) (hf:fs[f]?=some fd) (hn:aggN P fd.type=some n) (hx:cOpd x=some ex) {cs:List PV}
  (hp:ex.val G ts=some (.agg cs)) (hv:rowOf (cs.drop fd.offset) n=some v):Does P G C w S v o a:=by
 obtain ⟨vs,e1,h1,h2,h3⟩:=(opd_rep hW hT hx hp).agg_inv
 obtain ⟨u,hu,hr⟩:=part_run (P:=P) hn h1 h2 h3 hv
 exact Does.pure hW (v':=u) (by simp[execOp,ho,Instr.field,underlying_run ht,hf,e1,asAgg,hu]) hr
theorem does_ixG (hW:WRel G C S w) (hT:TR nt C w ts a.tmps) {t e:TypeId} {x i:Operand} {ex ei:EOpd} {len sz:Nat} {n:Option Nat} (ho:o.op= .index t x i) (ht:P.underlying t=some (.array len e)) (hsz:sizeP P e=some sz) (hn:aggN P e=some n) (hx:cOpd x=some ex) (hi:cOpd i=some ei) {cs:List PV} {iv:PV} {j:Nat}
  (hp:ex.val G ts=some (.agg cs)) (hq:ei.val G ts=some iv) (hj:idxP iv len=some j) (hv:rowOf (cs.drop (j*sz)) n=some v):Does P G C w S v o a:=by
 obtain ⟨vs,e1,h1,h2,h3⟩:=(opd_rep hW hT hx hp).agg_inv
 obtain ⟨u,hu,hr⟩:=part_run (P:=P) hn h1 h2 h3 hv
 cases iv<;>simp only[idxP] at hj<;>try (cases hj;done)
 rename_i k m
 split at hj
 ·rename_i hc
  simp at hj;subst hj
  have e2:=(opd_rep hW hT hi hq).int_inv
  exact Does.pure hW (v':=u) (by simp[execOp,ho,e1,e2,Instr.index,asIntOf,underlying_run ht,hc.1,hc.2,sizeOf_run hsz,hu]) hr
 ·cases hj
theorem Rep.ptr_inv {p:PV} {u:Value} (h:Rep C w p u) (hv:(∃ l o,p= .ref l o)∨ ∃ cs,p= .at_ cs): ∃ b o,u= .pointer (some ⟨b,o,none⟩):=by
 rcases hv with ⟨l,q,rfl⟩|⟨cs,rfl⟩
 ·cases h;exact ⟨_,_,rfl⟩
 ·cases h;exact ⟨_,_,rfl⟩
theorem does_nck (hW:WRel G C S w) (hT:TR nt C w ts a.tmps) {x:Operand} {ex:EOpd} (ho:o.op= .nilCheck x) (hx:cOpd x=some ex) (hp:ex.val G ts=some v) (hv:(∃ l o,v= .ref l o)∨ ∃ cs,v= .at_ cs):Does P G C w S v o a:=by
 have hr:=opd_rep hW hT hx hp
 obtain ⟨b,q,e⟩:=hr.ptr_inv hv
 exact Does.pure hW (v':=a.eval x) (by simp[execOp,ho,e]) hr
theorem eqIn_ptr {t e:TypeId} (h:P.underlying t=some (.pointer e)) (y:Option Addr) (d:Nat):(Op.equalIn (d+1) t (.pointer none) (.pointer y)).run P w= .ok y.isNone w∧(Op.equalIn (d+1) t (.pointer y) (.pointer none)).run P w= .ok y.isNone w:=by
 constructor
 ·unfold Op.equalIn;simp[underlying_run h]
 ·unfold Op.equalIn;cases y<;>simp[underlying_run h]
theorem binop_eq {t:TypeId} {x y:Value} {b:Bool} (neg:Bool) (h:(Op.equal t x y).run P w= .ok b w) (hp:(∃ p q,x= .pointer p∧y= .pointer q)∨(∃ p n m q,x= .slice p n m∧y=q)∨(∃ l q,x= .agg l∧y=q∧ ∃ m,q= .agg m)∨(∃ t u,x= .iface t u∧y= .nilIface)∨(∃ t u,y= .iface t u∧x= .nilIface)):
  (Go.binOp (if neg then .neq else .eql) t x y).run P w= .ok (.bool (neg !=b)) w:=by
 rcases hp with ⟨p,q,rfl,rfl⟩|⟨p,n,m,q,rfl,rfl⟩|⟨l,q,rfl,rfl,m,rfl⟩|⟨t,u,rfl,rfl⟩|⟨t,u,rfl,rfl⟩<;>cases neg<;>simp[Go.binOp,h]
theorem does_eqP (hW:WRel G C S w) (hT:TR nt C w ts a.tmps) {neg:Bool} {t t' e:TypeId} {x y:Operand} {ex ey:EOpd} (ho:o.op= .binOp (if neg then .neq else .eql) t x y t') (ht:P.underlying t=some (.pointer e)) (hx:cOpd x=some ex) (hy:cOpd y=some ey) (call:CallFn)
  (hv:evOp G call ts S (.eqP neg ex ey)=some (v,S)):Does P G C w S v o a:=by
 have key: ∀ (p q:PV) (b:Bool),ex.val G ts=some p→ey.val G ts=some q→v= .bool (neg !=b)→
   ((p= .nilp∧((q= .nilp∧b=true)∨(((∃ l o,q= .ref l o)∨ ∃ cs,q= .at_ cs)∧b=false)))∨(q= .nilp∧((∃ l o,p= .ref l o)∨ ∃ cs,p= .at_ cs)∧b=false))→Does P G C w S v o a:=by
  rintro p q b hp hq rfl hc
  have rp:=opd_rep hW hT hx hp
  have rq:=opd_rep hW hT hy hq
  have hE: ∃ u u',a.eval x= .pointer u∧a.eval y= .pointer u'∧(Op.equal t (.pointer u) (.pointer u')).run P w= .ok b w:=by
   rcases hc with ⟨rfl,⟨rfl,rfl⟩|⟨h1,rfl⟩⟩|⟨rfl,h1,rfl⟩
   ·exact ⟨none,none,rp.nilp_inv,rq.nilp_inv,eq_run fun d=>(eqIn_ptr ht none d).1⟩
   ·obtain ⟨b,q,e⟩:=rq.ptr_inv h1
    exact ⟨none,_,rp.nilp_inv,e,eq_run fun d=>(eqIn_ptr ht _ d).1⟩
   ·obtain ⟨b,q,e⟩:=rp.ptr_inv h1
    exact ⟨_,none,e,rq.nilp_inv,eq_run fun d=>(eqIn_ptr ht _ d).2⟩
  obtain ⟨u,u',e1,e2,hE⟩:=hE
  refine Does.pure hW (v':= .bool (neg !=b)) ?_ (.bool _)
  have hg:(eqGuard (if neg then .neq else .eql) t x y (.pointer u) (.pointer u')).run P w= .ok () w:=by cases neg<;>rfl
  simp only[execOp,ho,e1,e2,Sem.run_bind,hg,binop_eq neg hE (.inl ⟨_,_,rfl,rfl⟩),Result.andThen_ok,Sem.run_pure]
 simp only[evOp] at hv
 split at hv<;>simp at hv<;>rename_i h1 h2
 ·exact key _ _ true h1 h2 (by rw[←hv];simp) (.inl ⟨rfl,.inl ⟨rfl,rfl⟩⟩)
 ·exact key _ _ false h1 h2 (by rw[←hv];simp) (.inl ⟨rfl,.inr ⟨.inr ⟨_,rfl⟩,rfl⟩⟩)
 ·exact key _ _ false h1 h2 (by rw[←hv];simp) (.inr ⟨rfl,.inr ⟨_,rfl⟩,rfl⟩)
 ·exact key _ _ false h1 h2 (by rw[←hv];simp) (.inl ⟨rfl,.inr ⟨.inl ⟨_,_,rfl⟩,rfl⟩⟩)
 ·exact key _ _ false h1 h2 (by rw[←hv];simp) (.inr ⟨rfl,.inl ⟨_,_,rfl⟩,rfl⟩)
theorem does_eqI (hW:WRel G C S w) (hT:TR nt C w ts a.tmps) {neg:Bool} {t t':TypeId} {ms:Array (String×TypeId)} {x y:Operand} {ex ey:EOpd} (ho:o.op= .binOp (if neg then .neq else .eql) t x y t') (ht:P.underlying t=some (.interface ms)) (hx:cOpd x=some ex) (hy:cOpd y=some ey) (call:CallFn)
  (hv:evOp G call ts S (.eqI neg ex ey)=some (v,S)):Does P G C w S v o a:=by
 simp only[evOp] at hv
 split at hv
 ·rename_i t1 v1 h1 h2
  simp at hv;subst hv
  have rp:=opd_rep hW hT hx h1
  have rq:=opd_rep hW hT hy h2
  generalize e1:a.eval x=u at rp
  generalize e2:a.eval y=u' at rq
  cases rp;cases rq
  rename_i v2 _
  have hE:(Op.equal t .nilIface (.iface t1 v2)).run P w= .ok false w:=eq_run fun d=>by unfold Op.equalIn;simp[underlying_run ht]
  have hg:(eqGuard (if neg then .neq else .eql) t x y .nilIface (.iface t1 v2)).run P w= .ok () w:=by cases neg<;>rfl
  refine Does.pure hW (v':= .bool (neg !=false)) ?_ (by simpa using Rep.bool _)
  simp only[execOp,ho,e1,e2,Sem.run_bind,hg,binop_eq neg hE (.inr (.inr (.inr (.inr ⟨_,_,rfl,rfl⟩)))),Result.andThen_ok,Sem.run_pure]
 ·rename_i t1 v1 h1 h2
  simp at hv;subst hv
  have rp:=opd_rep hW hT hx h1
  have rq:=opd_rep hW hT hy h2
  generalize e1:a.eval x=u at rp
  generalize e2:a.eval y=u' at rq
  cases rp;cases rq
  rename_i v2 _
  have hE:(Op.equal t (.iface t1 v2) .nilIface).run P w= .ok false w:=eq_run fun d=>by unfold Op.equalIn;simp[underlying_run ht]
  have hg:(eqGuard (if neg then .neq else .eql) t x y (.iface t1 v2) .nilIface).run P w= .ok () w:=by cases neg<;>rfl
  refine Does.pure hW (v':= .bool (neg !=false)) ?_ (by simpa using Rep.bool _)
  simp only[execOp,ho,e1,e2,Sem.run_bind,hg,binop_eq neg hE (.inr (.inr (.inr (.inl ⟨_,_,rfl,rfl⟩)))),Result.andThen_ok,Sem.run_pure]
 ·rename_i h1 h2
  split at hv
  case isFalse=>cases hv
  rename_i hcon
  injection hv with hv;injection hv with hv _;subst hv
  have rp:=opd_rep hW hT hx h1
  have rq:=opd_rep hW hT hy h2
  have hor:(∃ z,x= .const z)∨(∃ z,y= .const z):=by
   rcases hcon with hc|hc
   ·left
    cases x with
    |const z=>exact ⟨z,rfl⟩
    |tmp _=>simp only[cOpd] at hx;injection hx with hx;subst hx;cases hc
    |global _=>simp only[cOpd] at hx;injection hx with hx;subst hx;cases hc
    |func _=>simp only[cOpd] at hx;split at hx;(injection hx with hx;subst hx;cases h1);cases hx
   ·right
    cases y with
    |const z=>exact ⟨z,rfl⟩
    |tmp _=>simp only[cOpd] at hy;injection hy with hy;subst hy;cases hc
    |global _=>simp only[cOpd] at hy;injection hy with hy;subst hy;cases hc
    |func _=>simp only[cOpd] at hy;split at hy;(injection hy with hy;subst hy;cases h2);cases hy
  generalize e1:a.eval x=u at rp
  generalize e2:a.eval y=u' at rq
  cases rp;cases rq
  have hE:(Op.equal t .nilIface .nilIface).run P w= .ok true w:=eq_run fun d=>by unfold Op.equalIn;simp[underlying_run ht]
  have hg:(eqGuard (if neg then .neq else .eql) t x y .nilIface .nilIface).run P w= .ok () w:=by
   unfold eqGuard
   rcases hor with ⟨z,h⟩|⟨z,h⟩<;>cases neg<;>simp[h]
  have hb:(Go.binOp (if neg then .neq else .eql) t .nilIface .nilIface).run P w= .ok (.bool (neg !=true)) w:=by cases neg<;>simp[Go.binOp,hE]
  refine Does.pure hW (v':= .bool (neg !=true)) ?_ (by simpa using Rep.bool _)
  simp only[execOp,ho,e1,e2,Sem.run_bind,hg,hb,Result.andThen_ok,Sem.run_pure]
 ·cases hv
theorem does_eqL (hW:WRel G C S w) (hT:TR nt C w ts a.tmps) {neg:Bool} {t t' el:TypeId} {x y:Operand} {ex ey:EOpd} (ho:o.op= .binOp (if neg then .neq else .eql) t x y t') (ht:P.underlying t=some (.slice el)) (hx:cOpd x=some ex) (hy:cOpd y=some ey) (call:CallFn)
  (hv:evOp G call ts S (.eqL neg ex ey)=some (v,S)):Does P G C w S v o a:=by
 have key: ∀ (p q:PV) (b:Bool) (u u':Option Addr) (n n' m m':Nat),ex.val G ts=some p→ey.val G ts=some q→v= .bool (neg !=b)→a.eval x= .slice u n m→a.eval y= .slice u' n' m'→((u=none∧u'.isNone=b)∨(u'=none∧u.isNone=b))→Does P G C w S v o a:=by
  rintro p q b u u' n n' m m' hp hq rfl e1 e2 hc
  have hE:(Op.equal t (.slice u n m) (.slice u' n' m')).run P w= .ok b w:=eq_run fun d=>by
   rcases hc with ⟨rfl,rfl⟩|⟨rfl,rfl⟩
   ·unfold Op.equalIn;simp[underlying_run ht]
   ·unfold Op.equalIn;cases u<;>simp[underlying_run ht]
  have hg:(eqGuard (if neg then .neq else .eql) t x y (.slice u n m) (.slice u' n' m')).run P w= .ok () w:=by cases neg<;>rfl
  refine Does.pure hW (v':= .bool (neg !=b)) ?_ (.bool _)
  simp only[execOp,ho,e1,e2,Sem.run_bind,hg,binop_eq neg hE (.inr (.inl ⟨_,_,_,_,rfl,rfl⟩)),Result.andThen_ok,Sem.run_pure]
 have nul: ∀ {xs:List (List PV)} {u:Value},Rep C w (.sl .null xs) u→ ∃ n m,u= .slice none n m:=by
  intro xs u h
  cases h with|sl g xs ad n cap sz hn hcap hsz hnull hexact hrow ha hc' h hown=>
  obtain ⟨rfl,_,_⟩:=hnull rfl
  exact ⟨_,_,rfl⟩
 have non: ∀ {g:Tag} {r:List PV} {xs:List (List PV)} {u:Value},Rep C w (.sl g (r::xs)) u→ ∃ ad n m,u= .slice (some ad) n m:=by
  intro g r xs u h
  cases h with|sl g xs ad n cap sz hn hcap hsz hnull hexact hrow ha hc' h hown=>
  obtain ⟨b,off,rfl,_⟩:=hrow (by simp)
  exact ⟨_,_,_,rfl⟩
 simp only[evOp] at hv
 split at hv<;>simp at hv<;>rename_i h1 h2
 ·obtain ⟨n,m,e1⟩:=nul (opd_rep hW hT hx h1)
  obtain ⟨n',m',e2⟩:=nul (opd_rep hW hT hy h2)
  exact key _ _ true _ _ _ _ _ _ h1 h2 (by rw[←hv];simp) e1 e2 (.inl ⟨rfl,rfl⟩)
 ·obtain ⟨n,m,e1⟩:=nul (opd_rep hW hT hx h1)
  obtain ⟨ad,n',m',e2⟩:=non (opd_rep hW hT hy h2)
  exact key _ _ false _ _ _ _ _ _ h1 h2 (by rw[←hv];simp) e1 e2 (.inl ⟨rfl,rfl⟩)
 ·obtain ⟨ad,n,m,e1⟩:=non (opd_rep hW hT hx h1)
  obtain ⟨n',m',e2⟩:=nul (opd_rep hW hT hy h2)
  exact key _ _ false _ _ _ _ _ _ h1 h2 (by rw[←hv];simp) e1 e2 (.inr ⟨rfl,rfl⟩)
 ·obtain ⟨n,m,e1⟩:=nul (opd_rep hW hT hx h1)
  have r:=opd_rep hW hT hy h2
  generalize e2:a.eval y=u at r
  cases r with|msl l o n sz b off cap hn ho' h=>
  exact key _ _ false _ _ _ _ _ _ h1 h2 (by rw[←hv];simp) e1 e2 (.inl ⟨rfl,rfl⟩)
 ·obtain ⟨n,m,e2⟩:=nul (opd_rep hW hT hy h2)
  have r:=opd_rep hW hT hx h1
  generalize e1:a.eval x=u at r
  cases r with|msl l o n sz b off cap hn ho' h=>
  exact key _ _ false _ _ _ _ _ _ h1 h2 (by rw[←hv];simp) e1 e2 (.inr ⟨rfl,rfl⟩)
theorem Rep.two {p q:PV} {u u':Value} (h:Rep C w p u) (k:Rep C w q u'):Rep C w (.tup [p,q]) (.tuple #[u,u']):=by
 refine .tup _ _ rfl (fun i a b ha hb=> ?_)
 match i,ha,hb with
 |0,ha,hb=>simp at ha hb;subst ha hb;exact h
 |1,ha,hb=>simp at ha hb;subst ha hb;exact k
 |i+2,ha,hb=>simp at ha
theorem does_tas (hW:WRel G C S w) (hT:TR nt C w ts a.tmps) {t xt:TypeId} {d:TypeDesc} {ok:Bool} {x:Operand} {ex:EOpd} {z:PV} (ho:o.op= .typeAssert x xt t ok) (ht:P.underlying t=some d) (hd: ∀ ms,d≠ .interface ms) (hz:zeroP P t=some z) (hx:cOpd x=some ex) {call:CallFn}
  (hv:evOp G call ts S (.tas t ok z ex)=some (v,S)):Does P G C w S v o a:=by
 obtain ⟨zv,z1,z2,z3⟩:=zeroValue_run hz w
 simp only[evOp] at hv
 split at hv
 ·rename_i u q hq
  have r:=opd_rep hW hT hx hq
  generalize e1:a.eval x=uu at r
  cases r with|ifc u q qv r=>
  split at hv
  ·rename_i e;subst e
   simp only[Option.some.injEq,Prod.mk.injEq,and_true] at hv
   cases ok with
   |true=>
    simp only[if_true] at hv;subst hv
    exact Does.pure hW (v':= .tuple #[qv,.bool true]) (by cases d<;>first|exact absurd rfl (hd _)|simp[execOp,ho,Instr.typeAssert,underlying_run ht,e1]) (r.two (.bool true))
   |false=>
    simp only[Bool.false_eq_true,if_false] at hv;subst hv
    exact Does.pure hW (v':=qv) (by cases d<;>first|exact absurd rfl (hd _)|simp[execOp,ho,Instr.typeAssert,underlying_run ht,e1]) r
  ·rename_i e
   split at hv
   ·rename_i hok;subst hok
    simp only[Option.some.injEq,Prod.mk.injEq,and_true] at hv;subst hv
    exact Does.pure hW (v':= .tuple #[zv,.bool false]) (by cases d<;>first|exact absurd rfl (hd _)|simp[execOp,ho,Instr.typeAssert,underlying_run ht,e1,e,z1]) ((ofV_rep z2).two (.bool false))
   ·cases hv
 ·rename_i hq
  have r:=opd_rep hW hT hx hq
  generalize e1:a.eval x=uu at r
  cases r
  split at hv
  ·rename_i hok;subst hok
   simp only[Option.some.injEq,Prod.mk.injEq,and_true] at hv;subst hv
   exact Does.pure hW (v':= .tuple #[zv,.bool false]) (by cases d<;>first|exact absurd rfl (hd _)|simp[execOp,ho,Instr.typeAssert,underlying_run ht,e1,z1]) ((ofV_rep z2).two (.bool false))
  ·cases hv
 ·cases hv
theorem does_mx (hW:WRel G C S w) (hT:TR nt C w ts a.tmps) {c:Call} {x y:Operand} {ex ey:EOpd} {mn:Bool} (ho:o.op= .call c) (hc:c.callee= .builtin (if mn then .min else .max)) (hcx:c.args= #[x,y]) (hx:cOpd x=some ex) (hy:cOpd y=some ey) {k k':IntKind} {m n:Int}
  (hp:ex.val G ts=some (.int k m)) (hq:ey.val G ts=some (.int k' n)):Does P G C w S (.int k (if mn then (if n<m then n else m) else (if n>m then n else m))) o a:=by
 have e1:=(opd_rep hW hT hx hp).int_inv
 have e2:=(opd_rep hW hT hy hq).int_inv
 refine Does.pure hW (v':= .int k (if mn then (if n<m then n else m) else (if n>m then n else m))) ?_ (.int _ _)
 cases mn
 ·simp[execOp,ho,resolve,hc,hcx,invoke,Go.builtin,Builtin.max_,e1,e2,Builtin.max2]
 ·simp[execOp,ho,resolve,hc,hcx,invoke,Go.builtin,Builtin.min_,e1,e2,Builtin.min2]
theorem addr_add (b o n:Nat):(⟨b,o,none⟩:Addr).add n=⟨b,o+n,none⟩:=by
 unfold Addr.add;split
 ·rename_i h;subst h;rfl
 ·rfl
theorem Rep.at_drop {cs:List PV} {b off k:Nat} (h:Rep C w (.at_ cs) (.pointer (some ⟨b,off,none⟩))) (hk:k≤cs.length):Rep C w (.at_ (cs.drop k)) (.pointer (some ⟨b,off+k,none⟩)):=by
 cases h with|at_ cs b off hb hi ha hc h=>
 have e:off+k+(cs.drop k).length=off+cs.length:=by simp;omega
 refine .at_ _ b (off+k) hb (by rw[e];exact hi) (fun i p hp=>ha (k+i) p (by rwa[List.getElem?_drop] at hp)) (fun i p hp=> ?_) (fun i p v hp hv=> ?_)
 ·rw[List.getElem?_drop] at hp
  obtain ⟨v,hv⟩:=hc (k+i) p hp
  exact ⟨v,by rw[Nat.add_assoc];exact hv⟩
 ·rw[List.getElem?_drop] at hp
  rw[Nat.add_assoc] at hv
  exact h (k+i) p v hp hv
theorem does_fA (hW:WRel G C S w) (hT:TR nt C w ts a.tmps) {t:TypeId} {x:Operand} {f:Nat} {ex:EOpd} {fs:Array Field} {fd:Field} {n:Nat} (ho:o.op= .fieldAddr t x f) (ht:P.underlying t=some (.struct fs)) (hf:fs[f]?=some fd) (hn:sizeP P fd.type=some n) (h0:n≠0) (hx:cOpd x=some ex) (call:CallFn)
  (hv:evOp G call ts S (.fA fd.offset ex)=some (v,S)):Does P G C w S v o a:=by
 have run: ∀ b q,a.eval x= .pointer (some ⟨b,q,none⟩)→(execOp a.eval o).run P w= .ok (.value (.pointer (some ⟨b,q+fd.offset,none⟩))) w:=by
  intro b q e
  simp[execOp,ho,e,Instr.fieldAt,underlying_run ht,hf,Instr.sureAddr,fieldPlace,sizeOf_run hn,h0,addr_add]
 simp only[evOp] at hv
 split at hv
 ·rename_i l q hp
  simp at hv;subst hv
  have hr:=opd_rep hW hT hx hp
  generalize e:a.eval x=u at hr
  cases hr with|ref l q b h=>
  exact Does.pure hW (run _ _ e) (.ref l _ b h)
 ·rename_i cs hp
  split at hv
  ·rename_i hle
   simp at hv;subst hv
   have hr:=opd_rep hW hT hx hp
   obtain ⟨b,q,e⟩:=hr.ptr_inv (.inr ⟨_,rfl⟩)
   rw[e] at hr
   exact Does.pure hW (run _ _ e) (hr.at_drop hle)
  ·cases hv
 ·cases hv
theorem does_ixP (hW:WRel G C S w) (hT:TR nt C w ts a.tmps) {t e:TypeId} {x i:Operand} {ex ei:EOpd} {len sz:Nat} (ho:o.op= .indexAddr t x i) (ht:P.underlying t=some (.array len e)) (hsz:sizeP P e=some sz) (hx:cOpd x=some ex) (hi:cOpd i=some ei) (call:CallFn)
  (hv:evOp G call ts S (.ixP len sz ex ei)=some (v,S)):Does P G C w S v o a:=by
 have run: ∀ b q k (m:Int),a.eval x= .pointer (some ⟨b,q,none⟩)→a.eval i= .int k m→0≤m→m<len→(execOp a.eval o).run P w= .ok (.value (.pointer (some ⟨b,q+m.toNat*sz,none⟩))) w:=by
  intro b q k m e1 e2 h1 h2
  simp[execOp,ho,e1,e2,Instr.indexAt,underlying_run ht,Instr.sureAddr,asIntOf,sizeOf_run hsz,h1,h2,addr_add]
 have idx: ∀ iv j,ei.val G ts=some iv→idxP iv len=some j→ ∃ k m,a.eval i= .int k m∧0≤m∧m<len∧m.toNat=j:=by
  intro iv j h1 h2
  cases iv<;>simp only[idxP] at h2<;>try (cases h2;done)
  rename_i k m
  split at h2
  ·rename_i hc
   simp at h2
   exact ⟨k,m,(opd_rep hW hT hi h1).int_inv,hc.1,hc.2,h2⟩
  ·cases h2
 simp only[evOp] at hv
 split at hv
 ·rename_i l q iv hp hq
  simp only[Option.map_eq_some_iff] at hv
  obtain ⟨j,hj,hv⟩:=hv
  simp at hv;subst hv
  obtain ⟨k,m,e2,h1,h2,rfl⟩:=idx _ _ hq hj
  have hr:=opd_rep hW hT hx hp
  generalize e:a.eval x=u at hr
  cases hr with|ref l q b h=>
  exact Does.pure hW (run _ _ _ _ e e2 h1 h2) (.ref l _ b h)
 ·rename_i cs iv hp hq
  simp only[Option.bind_eq_some_iff] at hv
  obtain ⟨j,hj,hv⟩:=hv
  split at hv
  ·rename_i hle
   simp at hv;subst hv
   obtain ⟨k,m,e2,h1,h2,rfl⟩:=idx _ _ hq hj
   have hr:=opd_rep hW hT hx hp
   obtain ⟨b,q,e⟩:=hr.ptr_inv (.inr ⟨_,rfl⟩)
   rw[e] at hr
   exact Does.pure hW (run _ _ _ _ e e2 h1 h2) (hr.at_drop hle)
  ·cases hv
 ·cases hv
theorem Ctx.imm_mono {C:Ctx} {b hi hi':Nat} (h:C.imm b hi) (hle:hi'≤hi):C.imm b hi':=⟨h.1,fun k fr hk=>Nat.le_trans hle (h.2 k fr hk)⟩
theorem row_le {xs:List (List PV)} {sz j:Nat} {r:List PV} (hj:xs[j]?=some r) (hr:r.length=sz):j*sz+r.length≤xs.length*sz:=by
 have h1:=getElem?_lt hj
 have h3:(j+1)*sz≤xs.length*sz:=Nat.mul_le_mul_right _ h1
 rw[Nat.succ_mul] at h3
 omega
theorem does_ixL (hW:WRel G C S w) (hT:TR nt C w ts a.tmps) {t e:TypeId} {x i:Operand} {ex ei:EOpd} {sz:Nat} (ho:o.op= .indexAddr t x i) (ht:P.underlying t=some (.slice e)) (hsz:sizeP P e=some sz) (hx:cOpd x=some ex) (hi:cOpd i=some ei) {g:Tag} {xs:List (List PV)} {iv:PV} {j:Nat} {r:List PV}
  (hp:ex.val G ts=some (.sl g xs)) (hq:ei.val G ts=some iv) (hj:idxP iv xs.length=some j) (hxj:xs[j]?=some r) (hrl:r.length=sz):Does P G C w S (.at_ r) o a:=by
 have hr:=opd_rep hW hT hx hp
 generalize eu:a.eval x=u at hr
 cases hr with|sl g xs ad n cap sz' hn hcap hsz' hnull hexact hrow ha hc h hown=>
 have hne:xs≠[]:=by intro e;subst e;simp at hxj
 obtain ⟨b,off,rfl,hb,him⟩:=hrow hne
 have es:sz'=sz:=by rw[←hsz' j r hxj,hrl]
 subst es
 cases iv<;>simp only[idxP] at hj<;>try (cases hj;done)
 rename_i k m
 split at hj
 ·rename_i hcm
  simp at hj;subst hj
  have e2:=(opd_rep hW hT hi hq).int_inv
  have hle:=row_le hxj hrl
  refine Does.pure hW (v':= .pointer (some ⟨b,off+m.toNat*sz',none⟩)) ?_ ?_
  ·simp[execOp,ho,eu,e2,Instr.indexAt,underlying_run ht,asIntOf,sizeOf_run hsz,hcm.1,hcm.2,hn,addr_add]
  ·refine .at_ r b _ hb (Ctx.imm_mono him (by omega)) (fun i p hp=>ha _ _ i p hxj hp) (fun i p hp=> ?_) (fun i p v hp hv=> ?_)
   ·obtain ⟨v,hv⟩:=hc b off _ r i p rfl hxj hp
    exact ⟨v,by rw[Nat.add_assoc];exact hv⟩
   ·rw[Nat.add_assoc] at hv
    exact h b off _ r i p v rfl hxj hp hv
 ·cases hj
theorem deref_cells (hW:WRel G C S w) {p:PV} {u:Value} (hr:Rep C w p u) {cs:List PV} (h:derefP S p=some cs):
  ∃ b off,u= .pointer (some ⟨b,off,none⟩)∧ ∀ (i:Nat) q,cs[i]?=some q→q.atom=true∧ ∃ v,w.cell? ⟨b,off+i,none⟩=some v∧Rep C w q v:=by
 cases p<;>simp only[derefP] at h<;>try (cases h;done)
 ·rename_i l q
  simp only[Option.map_eq_some_iff] at h
  obtain ⟨c0,hc0,rfl⟩:=h
  cases hr with|ref l q b hm=>
  obtain ⟨_,_,arr,t,h1,h2,h3,h4⟩:=hW.cellsAt hc0 hm
  refine ⟨b,q,rfl,fun i p hp=> ?_⟩
  rw[List.getElem?_drop] at hp
  have hi:q+i<arr.size:=by have:=getElem?_lt hp;omega
  exact ⟨h3 _ p hp,arr[q+i],cell?_of h1 (Array.getElem?_eq_getElem hi),h4 _ p _ hp (Array.getElem?_eq_getElem hi)⟩
 ·rename_i c0
  simp at h;subst h
  cases hr with|at_ cs b off hb hi ha hc h=>
  refine ⟨b,off,rfl,fun i p hp=> ?_⟩
  obtain ⟨v,hv⟩:=hc i p hp
  exact ⟨ha i p hp,v,hv,h i p v hp hv⟩
theorem ld_run (hW:WRel G C S w) {t:TypeId} {n:Option Nat} (hn:aggN P t=some n) {p:PV} {u:Value} (hr:Rep C w p u) {cs:List PV} (h:derefP S p=some cs) (hv:rowOf cs n=some v):
  ∃ b off,u= .pointer (some ⟨b,off,none⟩)∧ ∃ v',(loadVar t ⟨b,off,none⟩).run P w= .ok v' w∧Rep C w v v':=by
 obtain ⟨b,off,rfl,hc⟩:=deref_cells hW hr h
 obtain ⟨h1,h2⟩:=aggN_run hn w
 refine ⟨b,off,rfl, ?_⟩
 cases n with
 |none=>
  simp only[rowOf] at hv
  obtain ⟨_,u,hu,hru⟩:=hc 0 v hv
  exact ⟨u,by simp[loadVar,h1,run_load,show w.cell? ⟨b,off,none⟩=some u from hu],hru⟩
 |some k=>
  simp only[rowOf] at hv
  split at hv
  ·rename_i hk
   simp at hv;subst hv
   let f:Nat→Value:=fun i=>(w.cell? ⟨b,off+i,none⟩).getD undef
   have hf: ∀ j,j<k→w.cell? ((⟨b,off,none⟩:Addr).add j)=some (f j):=by
    intro j hj
    have hj':cs[j]?=some (cs[j]'(by omega)):=List.getElem?_eq_getElem _
    obtain ⟨_,u,hu,_⟩:=hc j _ hj'
    rw[addr_add,hu];simp[f,hu]
   have hl:=run_loadCells (P:=P) (w:=w) ⟨b,off,none⟩ k f hf
   refine ⟨.agg ((List.range k).map f).toArray,by simp[loadVar,h1,h2 k rfl,hl],.agg _ _ (by simp;omega) (fun i p hp=> ?_) (fun i p u hp hu=> ?_)⟩
   ·rw[List.getElem?_take] at hp
    split at hp
    ·exact (hc i p hp).1
    ·cases hp
   ·rw[List.getElem?_take] at hp
    split at hp
    ·rename_i hi
     obtain ⟨_,u',hu',hr'⟩:=hc i p hp
     simp[hi,f,hu'] at hu
     subst hu
     exact hr'
    ·cases hp
  ·cases hv
theorem does_ld (hW:WRel G C S w) (hT:TR nt C w ts a.tmps) {t:TypeId} {x:Operand} {ex:EOpd} {n:Option Nat} (ho:o.op= .load t x) (hn:aggN P t=some n) (hx:cOpd x=some ex) {p:PV} {cs:List PV}
  (hp:ex.val G ts=some p) (hd:derefP S p=some cs) (hv:rowOf cs n=some v):Does P G C w S v o a:=by
 obtain ⟨b,off,e,v',h1,h2⟩:=ld_run (P:=P) hW hn (opd_rep hW hT hx hp) hd hv
 exact Does.pure hW (v':=v') (by simp[execOp,ho,Instr.loadAt,e,Instr.sureAddr,h1]) h2
end
end Go.PE
