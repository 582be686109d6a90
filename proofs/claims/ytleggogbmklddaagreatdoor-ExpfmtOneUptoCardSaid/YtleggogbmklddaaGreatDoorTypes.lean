/-
  The data types of this seat's laws as Lean types: rows of cells, and how what is handed in is read as them. (Printed by a program.) Conditions: each law's own.
-/
import Derived.Test.YtleggogbmklddaaGreatDoorPX
import Derived.Test.YtleggogbmklddaaGreatDoorProg
namespace Go.PE
open Go Go.RowKit Go.Proofs
set_option linter.unusedVariables false
set_option linter.unusedSimpArgs false
set_option maxRecDepth 100000
inductive GTy where
 |mk (K:Int) (N:Int) (Name:ByteArray) (Labels:List ByteArray) (Args:List GTy)
def GTy.K:GTy→Int
 | .mk x _ _ _ _=>x
def GTy.N:GTy→Int
 | .mk _ x _ _ _=>x
def GTy.Name:GTy→ByteArray
 | .mk _ _ x _ _=>x
def GTy.Labels:GTy→List ByteArray
 | .mk _ _ _ x _=>x
def GTy.Args:GTy→List GTy
 | .mk _ _ _ _ x=>x
mutual
def rTy:GTy→List PV
 | .mk K N Name Labels Args=>[.int .i64 K,.int .i64 N,.str Name,.sl .ro (Labels.map rStr),.sl .ro (rTys Args)]
def rTys:List GTy→List (List PV)
 |[]=>[]
 |t::l=>rTy t::rTys l
end
theorem rTys_eq: ∀ l:List GTy,rTys l=l.map rTy
 |[]=>by simp[rTys]
 |t::l=>by simp[rTys,rTys_eq l]
theorem rTy_mk (K:Int) (N:Int) (Name:ByteArray) (Labels:List ByteArray) (Args:List GTy):rTy (.mk K N Name Labels Args)=[.int .i64 K,.int .i64 N,.str Name,.sl .ro (Labels.map rStr),.sl .ro (Args.map rTy)]:=by simp[rTy,rTys_eq]
theorem rTy_eq (v:GTy):rTy v=[.int .i64 v.K,.int .i64 v.N,.str v.Name,.sl .ro (v.Labels.map rStr),.sl .ro (v.Args.map rTy)]:=by cases v;rw[rTy_mk];rfl
theorem rTy_len (v:GTy):(rTy v).length=5:=by simp[rTy_eq]
theorem rTy_take (v:GTy):(rTy v).take 5=rTy v:=by rw[List.take_of_length_le];rw[rTy_len];exact Nat.le_refl _
theorem GTy.ind {p:GTy→Prop} (h: ∀ v,(∀ k∈v.Args,p k)→p v): ∀ v,p v
 | .mk K N Name Labels Args=>h _ fun k hk=>GTy.ind h k
termination_by v=>SizeOf.sizeOf v
decreasing_by all_goals (simp_wf;have:=List.sizeOf_lt_of_mem hk;simp only[GTy.Args] at*;omega)
theorem rTy_g0 (v:GTy):(rTy v)[0]?=some (.int .i64 v.K):=by cases v;rw[rTy_mk];rfl
theorem rTy_g1 (v:GTy):(rTy v)[1]?=some (.int .i64 v.N):=by cases v;rw[rTy_mk];rfl
theorem rTy_g2 (v:GTy):(rTy v)[2]?=some (.str v.Name):=by cases v;rw[rTy_mk];rfl
theorem rTy_g3 (v:GTy):(rTy v)[3]?=some (.sl .ro (v.Labels.map rStr)):=by cases v;rw[rTy_mk];rfl
theorem rTy_g4 (v:GTy):(rTy v)[4]?=some (.sl .ro (v.Args.map rTy)):=by cases v;rw[rTy_mk];rfl
theorem rTy_set {cs:List PV} (v:GTy) (h:cs.length=5):setRow cs 0 (rTy v)=rTy v:=setRow_all (by rw[h,rTy_len])
theorem rTy_plain: ∀ v:GTy,PlainL (rTy v)
 | .mk K N Name Labels Args=>by
  rw[rTy_mk]
  exact plain_cons (plain_int _ _) (plain_cons (plain_int _ _) (plain_cons (plain_str _) (plain_cons (plain_sl (plainLL_map fun x hx=>rStr_plain x)) (plain_cons (plain_sl (plainLL_map fun x hx=>rTy_plain x)) (plain_nil)))))
termination_by v=>SizeOf.sizeOf v
decreasing_by all_goals (simp_wf;have:=List.sizeOf_lt_of_mem hx;omega)
theorem rTy_sl (n:Nat) (d:Nat→Nat→Option PV) (v:GTy):sealL n d (rTy v)=some (rTy v):=rTy_plain v n d
theorem rTy_sll (n:Nat) (d:Nat→Nat→Option PV) (l:List GTy):sealLL n d (l.map rTy)=some (l.map rTy):=plainLL_map (fun x _=>rTy_plain x) n d
theorem rTy_ok (l:List GTy):headOk 5 (l.map rTy)=true:=headOk_map rTy_len l
inductive OkTy:GTy→Prop
 |mk (K:Int) (N:Int) (Name:ByteArray) (Labels:List ByteArray) (Args:List GTy) (hK:In64 K) (hN:In64 N) (hName:Short Name.size) (hLabels:Short Labels.length∧ ∀ x∈Labels,Short x.size) (hArgs:Short Args.length) (hArgs': ∀ x∈Args,OkTy x):OkTy (.mk K N Name Labels Args)
theorem sz3:Tryz.prog.cellsOf 3=1:=by kernel_rfl
theorem sz9:Tryz.prog.cellsOf 9=1:=by kernel_rfl
theorem sz22:Tryz.prog.cellsOf 22=1:=by kernel_rfl
theorem sz23:Tryz.prog.cellsOf 23=1:=by kernel_rfl
theorem sz34:Tryz.prog.cellsOf 34=5:=by kernel_rfl
theorem rTy_both {t:TypeId} {cs:List PV} (h:Fit Tryz.prog t cs):(t=34→ ∃ x,cs=rTy x∧OkTy x)∧(t=22→ ∃ l:List GTy,cs=[.sl .ro (l.map rTy)]∧Short l.length∧ ∀ x∈l,OkTy x):=by
 induction h with
 |bool t b h=>exact ⟨fun e=>(by subst e;rw[Tryz.underlying34] at h;cases h),fun e=>(by subst e;rw[Tryz.underlying22] at h;cases h)⟩
 |int t k n h wf=>exact ⟨fun e=>(by subst e;rw[Tryz.underlying34] at h;cases h),fun e=>(by subst e;rw[Tryz.underlying22] at h;cases h)⟩
 |str t s h hs=>exact ⟨fun e=>(by subst e;rw[Tryz.underlying34] at h;cases h),fun e=>(by subst e;rw[Tryz.underlying22] at h;cases h)⟩
 |sl t e xs h hl hr ih=>
  refine ⟨fun e=>(by subst e;rw[Tryz.underlying34] at h;cases h),fun e1=> ?_⟩
  subst e1;rw[Tryz.underlying22] at h;injection h with h;injection h with h;subst h
  obtain ⟨l,rfl,hl'⟩:=rows_of (row:=rTy) (ok:=OkTy) fun j r hj=>(ih j r hj).1 rfl
  exact ⟨l,rfl,by simpa using hl,hl'⟩
 |struct t fs cs h hlen hf ih=>
  refine ⟨fun e1=> ?_,fun e=>(by subst e;rw[Tryz.underlying22] at h;cases h)⟩
  subst e1;rw[Tryz.underlying34] at h;injection h with h;injection h with h;subst h
  have f0:Fit Tryz.prog 3 (List.take (Tryz.prog.cellsOf 3) (List.drop 0 cs)):=hf 0 _ rfl
  rw[sz3] at f0
  obtain ⟨x0,e0,k0⟩:=fit_int64 Tryz.underlying3 f0
  have f1:Fit Tryz.prog 3 (List.take (Tryz.prog.cellsOf 3) (List.drop 1 cs)):=hf 1 _ rfl
  rw[sz3] at f1
  obtain ⟨x1,e1,k1⟩:=fit_int64 Tryz.underlying3 f1
  have f2:Fit Tryz.prog 9 (List.take (Tryz.prog.cellsOf 9) (List.drop 2 cs)):=hf 2 _ rfl
  rw[sz9] at f2
  obtain ⟨x2,e2,k2⟩:=fit_str Tryz.underlying9 f2
  have f3:Fit Tryz.prog 23 (List.take (Tryz.prog.cellsOf 23) (List.drop 3 cs)):=hf 3 _ rfl
  rw[sz23] at f3
  obtain ⟨x3,e3,k3⟩:=fit_strs Tryz.underlying23 Tryz.underlying9 f3
  have f4: ∃ l:List GTy,List.take (Tryz.prog.cellsOf 22) (List.drop 4 cs)=[.sl .ro (l.map rTy)]∧Short l.length∧ ∀ x∈l,OkTy x:=(ih 4 _ rfl).2 rfl
  rw[sz22] at f4
  obtain ⟨x4,e4,k4,k4'⟩:=f4
  have z:cs.drop 5=[]:=List.drop_eq_nil_of_le (by rw[hlen,sz34];exact Nat.le_refl _)
  have hc:=cut1 cs 0 1 1 rfl
  rw[e0,cut1 cs 1 1 2 rfl,e1,cut1 cs 2 1 3 rfl,e2,cut1 cs 3 1 4 rfl,e3,cut1 cs 4 1 5 rfl,e4,z,List.drop_zero] at hc
  exact ⟨.mk x0 x1 x2 x3 x4,by rw[rTy_mk];exact hc.trans (by first|rfl|simp),.mk _ _ _ _ _ k0 k1 k2 k3 k4 k4'⟩
theorem rTy_fits {cs:List PV} (h:Fit Tryz.prog 34 cs): ∃ x,cs=rTy x∧OkTy x:=(rTy_both h).1 rfl
structure GBind where
 Name:ByteArray
 Typ:GTy
def rBind (v:GBind):List PV:=([.str v.Name]++(rTy v.Typ))
theorem rBind_eq (v:GBind):rBind v=([.str v.Name]++(rTy v.Typ)):=rfl
theorem rBind_len (v:GBind):(rBind v).length=6:=by simp[rBind,rTy_eq]
theorem rBind_take (v:GBind):(rBind v).take 6=rBind v:=by rw[List.take_of_length_le];rw[rBind_len];exact Nat.le_refl _
theorem rBind_g0 (v:GBind):(rBind v)[0]?=some (.str v.Name):=by simp[rBind,rTy_eq]
theorem rBind_s1_5 (v:GBind):((rBind v).drop 1).take 5=rTy v.Typ:=by simp[rBind,rTy_eq]
theorem rBind_g1 (v:GBind):(rBind v)[1]?=some (.int .i64 v.Typ.K):=by simp[rBind,rTy_eq]
theorem rBind_g2 (v:GBind):(rBind v)[2]?=some (.int .i64 v.Typ.N):=by simp[rBind,rTy_eq]
theorem rBind_g3 (v:GBind):(rBind v)[3]?=some (.str v.Typ.Name):=by simp[rBind,rTy_eq]
theorem rBind_g4 (v:GBind):(rBind v)[4]?=some (.sl .ro (v.Typ.Labels.map rStr)):=by simp[rBind,rTy_eq]
theorem rBind_g5 (v:GBind):(rBind v)[5]?=some (.sl .ro (v.Typ.Args.map rTy)):=by simp[rBind,rTy_eq]
theorem rBind_set {cs:List PV} (v:GBind) (h:cs.length=6):setRow cs 0 (rBind v)=rBind v:=setRow_all (by rw[h,rBind_len])
theorem rBind_plain (v:GBind):PlainL (rBind v):=by
 unfold rBind
 simp only[List.cons_append,List.nil_append]
 exact plain_cons (plain_str _) (rTy_plain _)
theorem rBind_sl (n:Nat) (d:Nat→Nat→Option PV) (v:GBind):sealL n d (rBind v)=some (rBind v):=rBind_plain v n d
theorem rBind_sll (n:Nat) (d:Nat→Nat→Option PV) (l:List GBind):sealLL n d (l.map rBind)=some (l.map rBind):=plainLL_map (fun x _=>rBind_plain x) n d
theorem rBind_ok (l:List GBind):headOk 6 (l.map rBind)=true:=headOk_map rBind_len l
structure OkBind (v:GBind):Prop where
 Name:Short v.Name.size
 Typ:OkTy v.Typ
theorem sz66:Tryz.prog.cellsOf 66=6:=by kernel_rfl
theorem rBind_fits {cs:List PV} (h:Fit Tryz.prog 66 cs): ∃ x,cs=rBind x∧OkBind x:=by
 obtain ⟨hlen,hf⟩:=fit_struct Tryz.underlying66 h
 have f0:Fit Tryz.prog 9 (List.take (Tryz.prog.cellsOf 9) (List.drop 0 cs)):=hf 0 _ rfl
 rw[sz9] at f0
 obtain ⟨x0,e0,k0⟩:=fit_str Tryz.underlying9 f0
 have f1:Fit Tryz.prog 34 (List.take (Tryz.prog.cellsOf 34) (List.drop 1 cs)):=hf 1 _ rfl
 rw[sz34] at f1
 obtain ⟨x1,e1,k1⟩:=rTy_fits f1
 have z:cs.drop 6=[]:=List.drop_eq_nil_of_le (by rw[hlen,sz66];exact Nat.le_refl _)
 have hc:=cut1 cs 0 1 1 rfl
 rw[e0,cut1 cs 1 5 6 rfl,e1,z,List.drop_zero] at hc
 exact ⟨⟨x0,x1⟩,hc.trans (by first|rfl|simp[rBind]),⟨k0,k1⟩⟩
inductive GExp where
 |mk (K:Int) (N:Int) (Name:ByteArray) (Has:Bool) (Types:List GTy) (Labels:List ByteArray) (Kids:List GExp)
def GExp.K:GExp→Int
 | .mk x _ _ _ _ _ _=>x
def GExp.N:GExp→Int
 | .mk _ x _ _ _ _ _=>x
def GExp.Name:GExp→ByteArray
 | .mk _ _ x _ _ _ _=>x
def GExp.Has:GExp→Bool
 | .mk _ _ _ x _ _ _=>x
def GExp.Types:GExp→List GTy
 | .mk _ _ _ _ x _ _=>x
def GExp.Labels:GExp→List ByteArray
 | .mk _ _ _ _ _ x _=>x
def GExp.Kids:GExp→List GExp
 | .mk _ _ _ _ _ _ x=>x
mutual
def rExp:GExp→List PV
 | .mk K N Name Has Types Labels Kids=>[.int .i64 K,.int .i64 N,.str Name,.bool Has,.sl .ro (Types.map rTy),.sl .ro (Labels.map rStr),.sl .ro (rExps Kids)]
def rExps:List GExp→List (List PV)
 |[]=>[]
 |t::l=>rExp t::rExps l
end
theorem rExps_eq: ∀ l:List GExp,rExps l=l.map rExp
 |[]=>by simp[rExps]
 |t::l=>by simp[rExps,rExps_eq l]
theorem rExp_mk (K:Int) (N:Int) (Name:ByteArray) (Has:Bool) (Types:List GTy) (Labels:List ByteArray) (Kids:List GExp):rExp (.mk K N Name Has Types Labels Kids)=[.int .i64 K,.int .i64 N,.str Name,.bool Has,.sl .ro (Types.map rTy),.sl .ro (Labels.map rStr),.sl .ro (Kids.map rExp)]:=by simp[rExp,rExps_eq]
theorem rExp_eq (v:GExp):rExp v=[.int .i64 v.K,.int .i64 v.N,.str v.Name,.bool v.Has,.sl .ro (v.Types.map rTy),.sl .ro (v.Labels.map rStr),.sl .ro (v.Kids.map rExp)]:=by cases v;rw[rExp_mk];rfl
theorem rExp_len (v:GExp):(rExp v).length=7:=by simp[rExp_eq]
theorem rExp_take (v:GExp):(rExp v).take 7=rExp v:=by rw[List.take_of_length_le];rw[rExp_len];exact Nat.le_refl _
theorem GExp.ind {p:GExp→Prop} (h: ∀ v,(∀ k∈v.Kids,p k)→p v): ∀ v,p v
 | .mk K N Name Has Types Labels Kids=>h _ fun k hk=>GExp.ind h k
termination_by v=>SizeOf.sizeOf v
decreasing_by all_goals (simp_wf;have:=List.sizeOf_lt_of_mem hk;simp only[GExp.Kids] at*;omega)
theorem rExp_g0 (v:GExp):(rExp v)[0]?=some (.int .i64 v.K):=by cases v;rw[rExp_mk];rfl
theorem rExp_g1 (v:GExp):(rExp v)[1]?=some (.int .i64 v.N):=by cases v;rw[rExp_mk];rfl
theorem rExp_g2 (v:GExp):(rExp v)[2]?=some (.str v.Name):=by cases v;rw[rExp_mk];rfl
theorem rExp_g3 (v:GExp):(rExp v)[3]?=some (.bool v.Has):=by cases v;rw[rExp_mk];rfl
theorem rExp_g4 (v:GExp):(rExp v)[4]?=some (.sl .ro (v.Types.map rTy)):=by cases v;rw[rExp_mk];rfl
theorem rExp_g5 (v:GExp):(rExp v)[5]?=some (.sl .ro (v.Labels.map rStr)):=by cases v;rw[rExp_mk];rfl
theorem rExp_g6 (v:GExp):(rExp v)[6]?=some (.sl .ro (v.Kids.map rExp)):=by cases v;rw[rExp_mk];rfl
theorem rExp_set {cs:List PV} (v:GExp) (h:cs.length=7):setRow cs 0 (rExp v)=rExp v:=setRow_all (by rw[h,rExp_len])
theorem rExp_plain: ∀ v:GExp,PlainL (rExp v)
 | .mk K N Name Has Types Labels Kids=>by
  rw[rExp_mk]
  exact plain_cons (plain_int _ _) (plain_cons (plain_int _ _) (plain_cons (plain_str _) (plain_cons (plain_bool _) (plain_cons (plain_sl (plainLL_map fun x hx=>rTy_plain x)) (plain_cons (plain_sl (plainLL_map fun x hx=>rStr_plain x)) (plain_cons (plain_sl (plainLL_map fun x hx=>rExp_plain x)) (plain_nil)))))))
termination_by v=>SizeOf.sizeOf v
decreasing_by all_goals (simp_wf;have:=List.sizeOf_lt_of_mem hx;omega)
theorem rExp_sl (n:Nat) (d:Nat→Nat→Option PV) (v:GExp):sealL n d (rExp v)=some (rExp v):=rExp_plain v n d
theorem rExp_sll (n:Nat) (d:Nat→Nat→Option PV) (l:List GExp):sealLL n d (l.map rExp)=some (l.map rExp):=plainLL_map (fun x _=>rExp_plain x) n d
theorem rExp_ok (l:List GExp):headOk 7 (l.map rExp)=true:=headOk_map rExp_len l
inductive OkExp:GExp→Prop
 |mk (K:Int) (N:Int) (Name:ByteArray) (Has:Bool) (Types:List GTy) (Labels:List ByteArray) (Kids:List GExp) (hK:In64 K) (hN:In64 N) (hName:Short Name.size) (hTypes:Short Types.length∧ ∀ x∈Types,OkTy x) (hLabels:Short Labels.length∧ ∀ x∈Labels,Short x.size) (hKids:Short Kids.length) (hKids': ∀ x∈Kids,OkExp x):OkExp (.mk K N Name Has Types Labels Kids)
theorem sz4:Tryz.prog.cellsOf 4=1:=by kernel_rfl
theorem sz24:Tryz.prog.cellsOf 24=1:=by kernel_rfl
theorem sz26:Tryz.prog.cellsOf 26=7:=by kernel_rfl
theorem rExp_both {t:TypeId} {cs:List PV} (h:Fit Tryz.prog t cs):(t=26→ ∃ x,cs=rExp x∧OkExp x)∧(t=24→ ∃ l:List GExp,cs=[.sl .ro (l.map rExp)]∧Short l.length∧ ∀ x∈l,OkExp x):=by
 induction h with
 |bool t b h=>exact ⟨fun e=>(by subst e;rw[Tryz.underlying26] at h;cases h),fun e=>(by subst e;rw[Tryz.underlying24] at h;cases h)⟩
 |int t k n h wf=>exact ⟨fun e=>(by subst e;rw[Tryz.underlying26] at h;cases h),fun e=>(by subst e;rw[Tryz.underlying24] at h;cases h)⟩
 |str t s h hs=>exact ⟨fun e=>(by subst e;rw[Tryz.underlying26] at h;cases h),fun e=>(by subst e;rw[Tryz.underlying24] at h;cases h)⟩
 |sl t e xs h hl hr ih=>
  refine ⟨fun e=>(by subst e;rw[Tryz.underlying26] at h;cases h),fun e1=> ?_⟩
  subst e1;rw[Tryz.underlying24] at h;injection h with h;injection h with h;subst h
  obtain ⟨l,rfl,hl'⟩:=rows_of (row:=rExp) (ok:=OkExp) fun j r hj=>(ih j r hj).1 rfl
  exact ⟨l,rfl,by simpa using hl,hl'⟩
 |struct t fs cs h hlen hf ih=>
  refine ⟨fun e1=> ?_,fun e=>(by subst e;rw[Tryz.underlying24] at h;cases h)⟩
  subst e1;rw[Tryz.underlying26] at h;injection h with h;injection h with h;subst h
  have f0:Fit Tryz.prog 3 (List.take (Tryz.prog.cellsOf 3) (List.drop 0 cs)):=hf 0 _ rfl
  rw[sz3] at f0
  obtain ⟨x0,e0,k0⟩:=fit_int64 Tryz.underlying3 f0
  have f1:Fit Tryz.prog 3 (List.take (Tryz.prog.cellsOf 3) (List.drop 1 cs)):=hf 1 _ rfl
  rw[sz3] at f1
  obtain ⟨x1,e1,k1⟩:=fit_int64 Tryz.underlying3 f1
  have f2:Fit Tryz.prog 9 (List.take (Tryz.prog.cellsOf 9) (List.drop 2 cs)):=hf 2 _ rfl
  rw[sz9] at f2
  obtain ⟨x2,e2,k2⟩:=fit_str Tryz.underlying9 f2
  have f3:Fit Tryz.prog 4 (List.take (Tryz.prog.cellsOf 4) (List.drop 3 cs)):=hf 3 _ rfl
  rw[sz4] at f3
  obtain ⟨x3,e3⟩:=fit_bool Tryz.underlying4 f3
  have f4:Fit Tryz.prog 22 (List.take (Tryz.prog.cellsOf 22) (List.drop 4 cs)):=hf 4 _ rfl
  rw[sz22] at f4
  obtain ⟨x4,e4,k4⟩:=fit_list Tryz.underlying22 (fun r hr=>rTy_fits hr) f4
  have f5:Fit Tryz.prog 23 (List.take (Tryz.prog.cellsOf 23) (List.drop 5 cs)):=hf 5 _ rfl
  rw[sz23] at f5
  obtain ⟨x5,e5,k5⟩:=fit_strs Tryz.underlying23 Tryz.underlying9 f5
  have f6: ∃ l:List GExp,List.take (Tryz.prog.cellsOf 24) (List.drop 6 cs)=[.sl .ro (l.map rExp)]∧Short l.length∧ ∀ x∈l,OkExp x:=(ih 6 _ rfl).2 rfl
  rw[sz24] at f6
  obtain ⟨x6,e6,k6,k6'⟩:=f6
  have z:cs.drop 7=[]:=List.drop_eq_nil_of_le (by rw[hlen,sz26];exact Nat.le_refl _)
  have hc:=cut1 cs 0 1 1 rfl
  rw[e0,cut1 cs 1 1 2 rfl,e1,cut1 cs 2 1 3 rfl,e2,cut1 cs 3 1 4 rfl,e3,cut1 cs 4 1 5 rfl,e4,cut1 cs 5 1 6 rfl,e5,cut1 cs 6 1 7 rfl,e6,z,List.drop_zero] at hc
  exact ⟨.mk x0 x1 x2 x3 x4 x5 x6,by rw[rExp_mk];exact hc.trans (by first|rfl|simp),.mk _ _ _ _ _ _ _ k0 k1 k2 k4 k5 k6 k6'⟩
theorem rExp_fits {cs:List PV} (h:Fit Tryz.prog 26 cs): ∃ x,cs=rExp x∧OkExp x:=(rExp_both h).1 rfl
structure GSig where
 Name:ByteArray
 Binders:List GBind
 Params:List GBind
 Result:GTy
def rSig (v:GSig):List PV:=([.str v.Name,.sl .ro (v.Binders.map rBind),.sl .ro (v.Params.map rBind)]++(rTy v.Result))
theorem rSig_len (v:GSig):(rSig v).length=8:=by simp[rSig,rTy_eq]
theorem rSig_take (v:GSig):(rSig v).take 8=rSig v:=by rw[List.take_of_length_le];rw[rSig_len];exact Nat.le_refl _
theorem rSig_g0 (v:GSig):(rSig v)[0]?=some (.str v.Name):=by simp[rSig,rTy_eq]
theorem rSig_g1 (v:GSig):(rSig v)[1]?=some (.sl .ro (v.Binders.map rBind)):=by simp[rSig,rTy_eq]
theorem rSig_g2 (v:GSig):(rSig v)[2]?=some (.sl .ro (v.Params.map rBind)):=by simp[rSig,rTy_eq]
theorem rSig_s3_5 (v:GSig):((rSig v).drop 3).take 5=rTy v.Result:=by simp[rSig,rTy_eq]
theorem rSig_g3 (v:GSig):(rSig v)[3]?=some (.int .i64 v.Result.K):=by simp[rSig,rTy_eq]
theorem rSig_g4 (v:GSig):(rSig v)[4]?=some (.int .i64 v.Result.N):=by simp[rSig,rTy_eq]
theorem rSig_g5 (v:GSig):(rSig v)[5]?=some (.str v.Result.Name):=by simp[rSig,rTy_eq]
theorem rSig_g6 (v:GSig):(rSig v)[6]?=some (.sl .ro (v.Result.Labels.map rStr)):=by simp[rSig,rTy_eq]
theorem rSig_g7 (v:GSig):(rSig v)[7]?=some (.sl .ro (v.Result.Args.map rTy)):=by simp[rSig,rTy_eq]
theorem rSig_set {cs:List PV} (v:GSig) (h:cs.length=8):setRow cs 0 (rSig v)=rSig v:=setRow_all (by rw[h,rSig_len])
theorem rSig_plain (v:GSig):PlainL (rSig v):=by
 unfold rSig
 simp only[List.cons_append,List.nil_append]
 exact plain_cons (plain_str _) (plain_cons (plain_sl (plainLL_map fun x hx=>rBind_plain x)) (plain_cons (plain_sl (plainLL_map fun x hx=>rBind_plain x)) (rTy_plain _)))
theorem rSig_sl (n:Nat) (d:Nat→Nat→Option PV) (v:GSig):sealL n d (rSig v)=some (rSig v):=rSig_plain v n d
theorem rSig_sll (n:Nat) (d:Nat→Nat→Option PV) (l:List GSig):sealLL n d (l.map rSig)=some (l.map rSig):=plainLL_map (fun x _=>rSig_plain x) n d
theorem rSig_ok (l:List GSig):headOk 8 (l.map rSig)=true:=headOk_map rSig_len l
structure OkSig (v:GSig):Prop where
 Name:Short v.Name.size
 Binders:Short v.Binders.length∧ ∀ x∈v.Binders,OkBind x
 Params:Short v.Params.length∧ ∀ x∈v.Params,OkBind x
 Result:OkTy v.Result
theorem sz32:Tryz.prog.cellsOf 32=1:=by kernel_rfl
theorem sz36:Tryz.prog.cellsOf 36=8:=by kernel_rfl
theorem rSig_fits {cs:List PV} (h:Fit Tryz.prog 36 cs): ∃ x,cs=rSig x∧OkSig x:=by
 obtain ⟨hlen,hf⟩:=fit_struct Tryz.underlying36 h
 have f0:Fit Tryz.prog 9 (List.take (Tryz.prog.cellsOf 9) (List.drop 0 cs)):=hf 0 _ rfl
 rw[sz9] at f0
 obtain ⟨x0,e0,k0⟩:=fit_str Tryz.underlying9 f0
 have f1:Fit Tryz.prog 32 (List.take (Tryz.prog.cellsOf 32) (List.drop 1 cs)):=hf 1 _ rfl
 rw[sz32] at f1
 obtain ⟨x1,e1,k1⟩:=fit_list Tryz.underlying32 (fun r hr=>rBind_fits hr) f1
 have f2:Fit Tryz.prog 32 (List.take (Tryz.prog.cellsOf 32) (List.drop 2 cs)):=hf 2 _ rfl
 rw[sz32] at f2
 obtain ⟨x2,e2,k2⟩:=fit_list Tryz.underlying32 (fun r hr=>rBind_fits hr) f2
 have f3:Fit Tryz.prog 34 (List.take (Tryz.prog.cellsOf 34) (List.drop 3 cs)):=hf 3 _ rfl
 rw[sz34] at f3
 obtain ⟨x3,e3,k3⟩:=rTy_fits f3
 have z:cs.drop 8=[]:=List.drop_eq_nil_of_le (by rw[hlen,sz36];exact Nat.le_refl _)
 have hc:=cut1 cs 0 1 1 rfl
 rw[e0,cut1 cs 1 1 2 rfl,e1,cut1 cs 2 1 3 rfl,e2,cut1 cs 3 5 8 rfl,e3,z,List.drop_zero] at hc
 exact ⟨⟨x0,x1,x2,x3⟩,hc.trans (by first|rfl|simp[rSig]),⟨k0,k1,k2,k3⟩⟩
structure GDef where
 Sig:GSig
 Body:GExp
def rDef (v:GDef):List PV:=([.str v.Sig.Name,.sl .ro (v.Sig.Binders.map rBind),.sl .ro (v.Sig.Params.map rBind)]++(rTy v.Sig.Result++(rExp v.Body)))
theorem rDef_len (v:GDef):(rDef v).length=15:=by simp[rDef,rExp_eq,rSig,rTy_eq]
theorem rDef_take (v:GDef):(rDef v).take 15=rDef v:=by rw[List.take_of_length_le];rw[rDef_len];exact Nat.le_refl _
theorem rDef_s0_8 (v:GDef):(rDef v).take 8=rSig v.Sig:=by simp[rDef,rExp_eq,rSig,rTy_eq]
theorem rDef_g0 (v:GDef):(rDef v)[0]?=some (.str v.Sig.Name):=by simp[rDef,rExp_eq,rSig,rTy_eq]
theorem rDef_g1 (v:GDef):(rDef v)[1]?=some (.sl .ro (v.Sig.Binders.map rBind)):=by simp[rDef,rExp_eq,rSig,rTy_eq]
theorem rDef_g2 (v:GDef):(rDef v)[2]?=some (.sl .ro (v.Sig.Params.map rBind)):=by simp[rDef,rExp_eq,rSig,rTy_eq]
theorem rDef_s3_5 (v:GDef):((rDef v).drop 3).take 5=rTy v.Sig.Result:=by simp[rDef,rExp_eq,rSig,rTy_eq]
theorem rDef_g3 (v:GDef):(rDef v)[3]?=some (.int .i64 v.Sig.Result.K):=by simp[rDef,rExp_eq,rSig,rTy_eq]
theorem rDef_g4 (v:GDef):(rDef v)[4]?=some (.int .i64 v.Sig.Result.N):=by simp[rDef,rExp_eq,rSig,rTy_eq]
theorem rDef_g5 (v:GDef):(rDef v)[5]?=some (.str v.Sig.Result.Name):=by simp[rDef,rExp_eq,rSig,rTy_eq]
theorem rDef_g6 (v:GDef):(rDef v)[6]?=some (.sl .ro (v.Sig.Result.Labels.map rStr)):=by simp[rDef,rExp_eq,rSig,rTy_eq]
theorem rDef_g7 (v:GDef):(rDef v)[7]?=some (.sl .ro (v.Sig.Result.Args.map rTy)):=by simp[rDef,rExp_eq,rSig,rTy_eq]
theorem rDef_s8_7 (v:GDef):((rDef v).drop 8).take 7=rExp v.Body:=by simp[rDef,rExp_eq,rSig,rTy_eq]
theorem rDef_g8 (v:GDef):(rDef v)[8]?=some (.int .i64 v.Body.K):=by simp[rDef,rExp_eq,rSig,rTy_eq]
theorem rDef_g9 (v:GDef):(rDef v)[9]?=some (.int .i64 v.Body.N):=by simp[rDef,rExp_eq,rSig,rTy_eq]
theorem rDef_g10 (v:GDef):(rDef v)[10]?=some (.str v.Body.Name):=by simp[rDef,rExp_eq,rSig,rTy_eq]
theorem rDef_g11 (v:GDef):(rDef v)[11]?=some (.bool v.Body.Has):=by simp[rDef,rExp_eq,rSig,rTy_eq]
theorem rDef_g12 (v:GDef):(rDef v)[12]?=some (.sl .ro (v.Body.Types.map rTy)):=by simp[rDef,rExp_eq,rSig,rTy_eq]
theorem rDef_g13 (v:GDef):(rDef v)[13]?=some (.sl .ro (v.Body.Labels.map rStr)):=by simp[rDef,rExp_eq,rSig,rTy_eq]
theorem rDef_g14 (v:GDef):(rDef v)[14]?=some (.sl .ro (v.Body.Kids.map rExp)):=by simp[rDef,rExp_eq,rSig,rTy_eq]
theorem rDef_set {cs:List PV} (v:GDef) (h:cs.length=15):setRow cs 0 (rDef v)=rDef v:=setRow_all (by rw[h,rDef_len])
theorem rDef_plain (v:GDef):PlainL (rDef v):=by
 unfold rDef
 simp only[List.cons_append,List.nil_append]
 exact plain_cons (plain_str _) (plain_cons (plain_sl (plainLL_map fun x hx=>rBind_plain x)) (plain_cons (plain_sl (plainLL_map fun x hx=>rBind_plain x)) (plain_append (rTy_plain _) (rExp_plain _))))
theorem rDef_sl (n:Nat) (d:Nat→Nat→Option PV) (v:GDef):sealL n d (rDef v)=some (rDef v):=rDef_plain v n d
theorem rDef_sll (n:Nat) (d:Nat→Nat→Option PV) (l:List GDef):sealLL n d (l.map rDef)=some (l.map rDef):=plainLL_map (fun x _=>rDef_plain x) n d
theorem rDef_ok (l:List GDef):headOk 15 (l.map rDef)=true:=headOk_map rDef_len l
structure OkDef (v:GDef):Prop where
 Sig:OkSig v.Sig
 Body:OkExp v.Body
theorem sz38:Tryz.prog.cellsOf 38=15:=by kernel_rfl
theorem rDef_fits {cs:List PV} (h:Fit Tryz.prog 38 cs): ∃ x,cs=rDef x∧OkDef x:=by
 obtain ⟨hlen,hf⟩:=fit_struct Tryz.underlying38 h
 have f0:Fit Tryz.prog 36 (List.take (Tryz.prog.cellsOf 36) (List.drop 0 cs)):=hf 0 _ rfl
 rw[sz36] at f0
 obtain ⟨x0,e0,k0⟩:=rSig_fits f0
 have f1:Fit Tryz.prog 26 (List.take (Tryz.prog.cellsOf 26) (List.drop 8 cs)):=hf 1 _ rfl
 rw[sz26] at f1
 obtain ⟨x1,e1,k1⟩:=rExp_fits f1
 have z:cs.drop 15=[]:=List.drop_eq_nil_of_le (by rw[hlen,sz38];exact Nat.le_refl _)
 have hc:=cut1 cs 0 8 8 rfl
 rw[e0,cut1 cs 8 7 15 rfl,e1,z,List.drop_zero] at hc
 exact ⟨⟨x0,x1⟩,hc.trans (by first|rfl|simp[rDef,rSig]),⟨k0,k1⟩⟩
def dataTypes:List TypeId:=[3,4,9,22,23,24,26,32,34,36,38,66]
theorem dataTypes_ok:plainTypes Tryz.prog dataTypes=true:=by kernel_rfl
end Go.PE
