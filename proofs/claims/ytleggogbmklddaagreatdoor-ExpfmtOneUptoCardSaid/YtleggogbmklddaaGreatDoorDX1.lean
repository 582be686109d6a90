/-
  Loops over lists, round by round. Conditions: each law's own.
-/
import Derived.Test.YtleggogbmklddaaGreatDoorPQ
import Derived.Test.YtleggogbmklddaaGreatDoorS4
namespace Go.PE
open Go Go.RowKit
set_option linter.unusedVariables false
set_option linter.unusedSimpArgs false
theorem loopF {α β:Type} {E:Env} {c:EC} (l:List α) (hl:Short l.length) (F:Nat→β→Tmps) (G:Nat→β→St) (step:β→α→β) (I:Nat→β→Prop) (fin:Kont (PV×St)) (st:List Fw)
  (hs: ∀ (i:Nat) (b:β) (a:α),l[i]?=some a→a∈l→(i:Int)<(l.length:Int)→IntKind.i64.wrap ((i:Int)+1)=((i+1:Nat):Int)→I i b→I (i+1) (step b a)∧run E fin st c (F i b) (G i b)=run E fin st c (F (i+1) (step b a)) (G (i+1) (step b a))):
  ∀ (rest:List α) (i:Nat) (b:β),l.drop i=rest→I i b→I (i+rest.length) (rest.foldl step b)∧run E fin st c (F i b) (G i b)=run E fin st c (F (i+rest.length) (rest.foldl step b)) (G (i+rest.length) (rest.foldl step b))
 |[],i,b,h,hI=>⟨hI,rfl⟩
 |a::r,i,b,h,hI=>by
  obtain ⟨h1,h2,h3⟩:=drop_cons h
  unfold Short maxLen at hl
  have w:=wrap_succ (i:=i) (n:=l.length) h3 (by omega)
  obtain ⟨k1,k2⟩:=hs i b a h1 (mem_of_get h1) (by omega) w hI
  have ih:=loopF l (by unfold Short maxLen;omega) F G step I fin st hs r (i+1) (step b a) h2 k1
  have e:i+(a::r).length=i+1+r.length:=by simp only[List.length_cons];omega
  rw[e,List.foldl_cons,k2]
  exact ih
theorem loopA {α:Type} {E:Env} {c:EC} {S:St} (l:List α) (hl:Short l.length) (F:Nat→Tmps) (p:α→Bool) (fin:Kont (PV×St)) (st:List Fw) (K X:Option (PV×St))
  (hs: ∀ (i:Nat) (a:α),l[i]?=some a→a∈l→(i:Int)<(l.length:Int)→IntKind.i64.wrap ((i:Int)+1)=((i+1:Nat):Int)→p a=false→run E fin st c (F i) S=run E fin st c (F (i+1)) S)
  (hk: ∀ (i:Nat) (a:α),l[i]?=some a→a∈l→(i:Int)<(l.length:Int)→IntKind.i64.wrap ((i:Int)+1)=((i+1:Nat):Int)→p a=true→run E fin st c (F i) S=K) (hx:run E fin st c (F l.length) S=X):
  run E fin st c (F 0) S=if l.any p then K else X:=by
 rw[←hx]
 have key: ∀ (rest:List α) (i:Nat),l.drop i=rest→run E fin st c (F i) S=if rest.any p then K else run E fin st c (F (i+rest.length)) S:=by
  intro rest
  induction rest with
  |nil=>intro i h;simp
  |cons a r ih=>
   intro i h
   obtain ⟨h1,h2,h3⟩:=drop_cons h
   unfold Short maxLen at hl
   have w:=wrap_succ (i:=i) (n:=l.length) h3 (by omega)
   have hlt:(i:Int)<(l.length:Int):=by omega
   cases q:p a with
   |true=>rw[hk i a h1 (mem_of_get h1) hlt w q,List.any_cons,q];simp
   |false=>
    rw[hs i a h1 (mem_of_get h1) hlt w q,ih (i+1) h2,List.any_cons,q]
    have e:i+(a::r).length=i+1+r.length:=by simp only[List.length_cons];omega
    rw[e];simp
 have:=key l 0 rfl
 simpa using this
theorem loopP {α:Type} {E:Env} {c:EC} {S:St} (l:List α) (hl:Short l.length) (F:Nat→Tmps) (p:α→Bool) (fin:Kont (PV×St)) (st:List Fw) (K:Nat→Option (PV×St)) (X:Option (PV×St))
  (hs: ∀ (i:Nat) (a:α),l[i]?=some a→a∈l→(i:Int)<(l.length:Int)→IntKind.i64.wrap ((i:Int)+1)=((i+1:Nat):Int)→p a=false→run E fin st c (F i) S=run E fin st c (F (i+1)) S)
  (hk: ∀ (i:Nat) (a:α),l[i]?=some a→a∈l→(i:Int)<(l.length:Int)→IntKind.i64.wrap ((i:Int)+1)=((i+1:Nat):Int)→p a=true→run E fin st c (F i) S=K i) (hx:run E fin st c (F l.length) S=X):
  run E fin st c (F 0) S=if l.any p then K (l.findIdx p) else X:=by
 rw[←hx]
 have key: ∀ (rest:List α) (i:Nat),l.drop i=rest→run E fin st c (F i) S=if rest.any p then K (i+rest.findIdx p) else run E fin st c (F (i+rest.length)) S:=by
  intro rest
  induction rest with
  |nil=>intro i h;simp
  |cons a r ih=>
   intro i h
   obtain ⟨h1,h2,h3⟩:=drop_cons h
   unfold Short maxLen at hl
   have w:=wrap_succ (i:=i) (n:=l.length) h3 (by omega)
   have hlt:(i:Int)<(l.length:Int):=by omega
   cases q:p a with
   |true=>
    rw[hk i a h1 (mem_of_get h1) hlt w q,List.any_cons,q,List.findIdx_cons,q];simp
   |false=>
    rw[hs i a h1 (mem_of_get h1) hlt w q,ih (i+1) h2,List.any_cons,q,List.findIdx_cons,q]
    have e:i+(a::r).length=i+1+r.length:=by simp only[List.length_cons];omega
    have e2:i+(r.findIdx p+1)=i+1+r.findIdx p:=by omega
    rw[e];simp[e2]
 have:=key l 0 rfl
 simpa using this
theorem loopR {α β:Type} {E:Env} {c:EC} (l:List α) (hl:Short l.length) (step:β→α→β) (I:Nat→β→Tmps→St→Prop)
  (hs: ∀ (i:Nat) (b:β) (a:α) (ts:Tmps) (T:St),l[i]?=some a→a∈l→(i:Int)<(l.length:Int)→IntKind.i64.wrap ((i:Int)+1)=((i+1:Nat):Int)→I i b ts T→ ∃ ts' T',I (i+1) (step b a) ts' T'∧ ∀ fin st,run E fin st c ts T=run E fin st c ts' T')
  (b:β) (ts:Tmps) (S:St) (h0:I 0 b ts S): ∃ ts' T',I l.length (l.foldl step b) ts' T'∧ ∀ fin st,run E fin st c ts S=run E fin st c ts' T':=by
 have key: ∀ (rest:List α) (i:Nat) (b:β) (ts:Tmps) (S:St),l.drop i=rest→I i b ts S→ ∃ ts' T',I (i+rest.length) (rest.foldl step b) ts' T'∧ ∀ fin st,run E fin st c ts S=run E fin st c ts' T':=by
  intro rest
  induction rest with
  |nil=>intro i b ts S h hI;exact ⟨ts,S,by simpa using hI,fun _ _=>rfl⟩
  |cons a r ih=>
   intro i b ts S h hI
   obtain ⟨h1,h2,h3⟩:=drop_cons h
   unfold Short maxLen at hl
   have w:=wrap_succ (i:=i) (n:=l.length) h3 (by omega)
   obtain ⟨ts1,T1,k1,k2⟩:=hs i b a ts S h1 (mem_of_get h1) (by omega) w hI
   obtain ⟨ts2,T2,k3,k4⟩:=ih (i+1) _ ts1 T1 h2 k1
   have e:i+(a::r).length=i+1+r.length:=by simp only[List.length_cons];omega
   exact ⟨ts2,T2,by rw[e];simpa using k3,fun fin st=>(k2 fin st).trans (k4 fin st)⟩
 have:=key l 0 b ts S rfl h0
 simpa using this
theorem zip_get {α β:Type} {l:List α} {m:List β} {i:Nat} {a:α} {b:β} (h:(l.zip m)[i]?=some (a,b)):l[i]?=some a∧m[i]?=some b:=by
 rw[List.getElem?_zip_eq_some] at h;exact h
def allZ {α:Type} (p:α→α→Bool):List α→List α→Bool
 |[],[]=>true
 |a::l,b::m=>p a b&&allZ p l m
 |_,_=>false
theorem allZ_len {α:Type} {p:α→α→Bool}: ∀ {l m:List α},l.length≠m.length→allZ p l m=false
 |[],[],h=>absurd rfl h
 |[],_::_,_=>rfl
 |_::_,[],_=>rfl
 |a::l,b::m,h=>by rw[allZ,allZ_len (by simpa using h),Bool.and_false]
theorem allZ_zip {α:Type} {p:α→α→Bool}: ∀ {l m:List α},l.length=m.length→(l.zip m).any (fun q=> !(p q.1 q.2))= !(allZ p l m)
 |[],[],_=>rfl
 |[],_::_,h=>by simp at h
 |_::_,[],h=>by simp at h
 |a::l,b::m,h=>by
  rw[List.zip_cons_cons,List.any_cons,allZ_zip (by simpa using h),allZ]
  cases p a b<;>simp
theorem allZ_iff {α:Type} {p:α→α→Bool} (l:List α) (hp: ∀ a∈l,∀ b,p a b=true↔a=b): ∀ m,allZ p l m=true↔l=m:=by
 induction l with
 |nil=>intro m;cases m<;>simp[allZ]
 |cons a l ih=>
  intro m
  cases m with
  |nil=>simp[allZ]
  |cons b m=>
   rw[allZ,Bool.and_eq_true,hp a (by simp) b,ih (fun x hx=>hp x (List.mem_cons_of_mem _ hx)) m]
   simp
theorem zip_len {α:Type} {l m:List α} (h:l.length=m.length):(l.zip m).length=l.length:=by simp[h]
theorem loopT {α β:Type} {E:Env} {c:EC} (l:List α) (hl:Short l.length) (F:Nat→β→Tmps) (X:Nat→β→St→Kont (PV×St)→List Fw→Option (PV×St))
  (hs: ∀ (i:Nat) (b:β) (a:α),l[i]?=some a→a∈l→(i:Int)<(l.length:Int)→IntKind.i64.wrap ((i:Int)+1)=((i+1:Nat):Int)→(∃ b',∀ S fin st,run E fin st c (F i b) S=run E fin st c (F (i+1) b') S)∨ ∃ i' b',∀ S fin st,run E fin st c (F i b) S=X i' b' S fin st)
  (hx: ∀ (b:β),∃ i' b',∀ S fin st,run E fin st c (F l.length b) S=X i' b' S fin st) (b:β): ∃ (i:Nat) (b':β),∀ S fin st,run E fin st c (F 0 b) S=X i b' S fin st:=by
 have key: ∀ (rest:List α) (i:Nat) (b:β),l.drop i=rest→i≤l.length→ ∃ (j:Nat) (b':β),∀ S fin st,run E fin st c (F i b) S=X j b' S fin st:=by
  intro rest
  induction rest with
  |nil=>
   intro i b h hle
   have h1:=drop_nil h
   have q:i=l.length:=by omega
   subst q;exact hx b
  |cons a r ih=>
   intro i b h hle
   obtain ⟨h1,h2,h3⟩:=drop_cons h
   unfold Short maxLen at hl
   have w:=wrap_succ (i:=i) (n:=l.length) h3 (by omega)
   rcases hs i b a h1 (mem_of_get h1) (by omega) w with ⟨b',hb⟩|hb
   ·obtain ⟨j,b2,hj⟩:=ih (i+1) b' h2 (by omega)
    exact ⟨j,b2,fun S fin st=>(hb S fin st).trans (hj S fin st)⟩
   ·exact hb
 exact key l 0 b rfl (by omega)
end Go.PE
namespace Go.PE
open Go Go.RowKit Go.Proofs
set_option linter.unusedVariables false
set_option linter.unusedSimpArgs false
set_option maxRecDepth 100000
section
variable {ot:TypeId} {oz:EP}
theorem okExp_at {t:GExp} (h:OkExp t):(Short t.Kids.length∧ ∀ x∈t.Kids,OkExp x)∧(Short t.Types.length∧ ∀ x∈t.Types,OkTy x)∧(Short t.Labels.length∧ ∀ x∈t.Labels,Short x.size)∧Short t.Name.size∧In64 t.K∧In64 t.N:=by
 cases h;exact ⟨⟨by assumption,by assumption⟩,by assumption,by assumption,by assumption,by assumption,by assumption⟩
def sameB (a b:GBind):Bool:=strEq a.Name b.Name&&sameT a.Typ b.Typ
mutual
def sameE:GExp→GExp→Bool
 | .mk K N Name Has Types Labels Kids,b=>K==b.K&&(N==b.N&&(strEq Name b.Name&&(Has==b.Has&&(eqS Labels b.Labels&&(allZ sameT Types b.Types&&sameEs Kids b.Kids)))))
def sameEs:List GExp→List GExp→Bool
 |[],[]=>true
 |a::l,b::m=>sameE a b&&sameEs l m
 |_,_=>false
end
theorem sameE_eq (a b:GExp):sameE a b=(a.K==b.K&&(a.N==b.N&&(strEq a.Name b.Name&&(a.Has==b.Has&&(eqS a.Labels b.Labels&&(allZ sameT a.Types b.Types&&sameEs a.Kids b.Kids)))))):=by cases a;rw[sameE];rfl
theorem sameEs_allZ: ∀ l m:List GExp,sameEs l m=allZ sameE l m
 |[],[]=>by simp[sameEs,allZ]
 |[],_::_=>by simp[sameEs,allZ]
 |_::_,[]=>by simp[sameEs,allZ]
 |a::l,b::m=>by rw[sameEs,allZ,sameEs_allZ l m]
mutual
theorem sameE_iff: ∀ {a b:GExp},sameE a b=true↔a=b
 | .mk K N Name Has Types Labels Kids,b=>by
  cases b
  rw[sameE]
  have h1:=fun m=>allZ_iff Types (fun a _ b=>sameT_iff (a:=a) (b:=b)) m
  simp only[GExp.K,GExp.N,GExp.Name,GExp.Has,GExp.Types,GExp.Labels,GExp.Kids,Bool.and_eq_true,beq_iff_eq,strEq_iff,eqS_iff,h1,sameEs_iff (l:=Kids),GExp.mk.injEq]
  constructor
  ·rintro ⟨a,b,c,d,e,f,g⟩;exact ⟨a,b,c,d,f,e,g⟩
  ·rintro ⟨a,b,c,d,e,f,g⟩;exact ⟨a,b,c,d,f,e,g⟩
theorem sameEs_iff: ∀ {l m:List GExp},sameEs l m=true↔l=m
 |[],[]=>by simp[sameEs]
 |[],_::_=>by simp[sameEs]
 |_::_,[]=>by simp[sameEs]
 |a::l,b::m=>by simp only[sameEs,Bool.and_eq_true,sameE_iff (a:=a) (b:=b),sameEs_iff (l:=l) (m:=m),List.cons.injEq]
end
theorem sameB_iff {a b:GBind}:sameB a b=true↔a=b:=by
 cases a;cases b
 simp only[sameB,Bool.and_eq_true,strEq_iff,sameT_iff,GBind.mk.injEq]
def sameSig (a b:GSig):Bool:=strEq a.Name b.Name&&(allZ sameB a.Binders b.Binders&&(allZ sameB a.Params b.Params&&sameT a.Result b.Result))
def sameDef (a b:GDef):Bool:=sameSig a.Sig b.Sig&&sameE a.Body b.Body
theorem sameSig_iff {a b:GSig}:sameSig a b=true↔a=b:=by
 cases a;cases b
 simp only[sameSig,Bool.and_eq_true,strEq_iff,sameT_iff,allZ_iff _ (fun a _ b=>sameB_iff (a:=a) (b:=b)),GSig.mk.injEq]
theorem sameDef_iff {a b:GDef}:sameDef a b=true↔a=b:=by
 cases a;cases b
 simp only[sameDef,Bool.and_eq_true,sameSig_iff,sameE_iff,GDef.mk.injEq]
theorem sameAll04 (l m:List GTy) (hl:Short l.length) (hm:Short m.length) (ol: ∀ x∈l,OkTy x) (om: ∀ x∈m,OkTy x) (S:St):cal (env ot oz) 35 [.sl .ro (l.map rTy),.sl .ro (m.map rTy)] S=some (.bool (allZ sameT l m),S):=by
 by_cases he:l.length=m.length
 ·have hz:=zip_len he
  have hb:((l.length:Int) !=(m.length:Int))=false:=by rw[he];simp
  have f0:=fun fin st=>loopA (E:=(env ot oz)) (S:=S) (c:=c35_l0) (l.zip m) (by rw[hz];exact hl)
   (fun i=>[(0,some (.sl .ro (l.map rTy))),(1,some (.sl .ro (m.map rTy))),(5,some (.int .i64 (i:Int)))]) (fun q=> !(sameT q.1 q.2)) fin st (aft (env ot oz) fin st .ret [(4,some (.bool false))] S)
   (aft (env ot oz) fin st (.exit 0) [(0,some (.sl .ro (l.map rTy))),(1,some (.sl .ro (m.map rTy))),(5,some (.int .i64 (l.length:Int))),(20,some (.bool false))] S)
   (fun i q h1 h2 h3 h4 h5=>by
    obtain ⟨a,b⟩:=q
    obtain ⟨k1,k2⟩:=zip_get h1
    rw[hz] at h3
    have h3':(i:Int)<(m.length:Int):=by omega
    have c:=same04 (ot:=ot) (oz:=oz) a (ol a (mem_of_get k1)) b (om b (mem_of_get k2))
    simp only[Bool.not_eq_false'] at h5
    (rw[c35_l0_w];simp only[c35_l0_b,c35_l0_a,c35_r4,go_sem,h3,h3',h4,k1,k2,h5,c];repeat' ((first|rw[guardO_t]|rw[guardO_f]|rw[cw_bool]);split<;>rename_i h<;>(try rw[Bool.not_eq_true] at h)<;>(try simp only[go_sem,c35_r4,c35_l0_a,h3,h3',h4,k1,k2,h5,c, *]))))
   (fun i q h1 h2 h3 h4 h5=>by
    obtain ⟨a,b⟩:=q
    obtain ⟨k1,k2⟩:=zip_get h1
    rw[hz] at h3
    have h3':(i:Int)<(m.length:Int):=by omega
    have c:=same04 (ot:=ot) (oz:=oz) a (ol a (mem_of_get k1)) b (om b (mem_of_get k2))
    simp only[Bool.not_eq_true'] at h5
    (rw[c35_l0_w];simp only[c35_l0_b,c35_l0_a,c35_r4,go_sem,h3,h3',h4,k1,k2,h5,c];repeat' ((first|rw[guardO_t]|rw[guardO_f]|rw[cw_bool]);split<;>rename_i h<;>(try rw[Bool.not_eq_true] at h)<;>(try simp only[go_sem,c35_r4,c35_l0_a,h3,h3',h4,k1,k2,h5,c, *]))))
   (by rw[hz];(rw[c35_l0_w];simp only[c35_l0_b,c35_l0_a,c35_r4,go_sem];repeat' ((first|rw[guardO_t]|rw[guardO_f]|rw[cw_bool]);split<;>rename_i h<;>(try rw[Bool.not_eq_true] at h)<;>(try simp only[go_sem,c35_r4,c35_l0_a, *]))))
  have e:=allZ_zip (p:=sameT) he
  rw[e] at f0
  simp only[Int.cast_ofNat_Int] at f0
  cases q:allZ sameT l m<;>simp only[q,Bool.not_true,Bool.not_false,if_true,if_false,Bool.false_eq_true] at f0<;>(rw[w_plain (fn:=c35) rfl rfl (by simp only[go_sem,f0,hb,q]) rfl (by decide)];simp only[c35,c35_b,c35_r4,go_sem,f0,hb,q];repeat' ((first|rw[guardO_t]|rw[guardO_f]|rw[cw_bool]);split<;>rename_i h<;>(try rw[Bool.not_eq_true] at h)<;>(try simp only[go_sem,c35_r4,f0,hb,q, *])))
 ·have e:=allZ_len (p:=sameT) he
  have hb:((l.length:Int) !=(m.length:Int))=true:=by simp;omega
  (rw[w_plain (fn:=c35) rfl rfl (by simp only[go_sem,e,hb]) rfl (by decide)];simp only[c35,c35_b,c35_r4,go_sem,e,hb];repeat' ((first|rw[guardO_t]|rw[guardO_f]|rw[cw_bool]);split<;>rename_i h<;>(try rw[Bool.not_eq_true] at h)<;>(try simp only[go_sem,c35_r4,e,hb, *])))
theorem same09 (l m:List GBind) (hl:Short l.length) (hm:Short m.length) (ol: ∀ x∈l,OkBind x) (om: ∀ x∈m,OkBind x) (S:St):cal (env ot oz) 79 [.sl .ro (l.map rBind),.sl .ro (m.map rBind)] S=some (.bool (allZ sameB l m),S):=by
 by_cases he:l.length=m.length
 ·have hz:=zip_len he
  have hb:((l.length:Int) !=(m.length:Int))=false:=by rw[he];simp
  have f0:=fun fin st=>loopA (E:=(env ot oz)) (S:=S) (c:=c79_l0) (l.zip m) (by rw[hz];exact hl)
   (fun i=>[(0,some (.sl .ro (l.map rBind))),(1,some (.sl .ro (m.map rBind))),(5,some (.int .i64 (i:Int)))]) (fun q=> !(sameB q.1 q.2)) fin st (aft (env ot oz) fin st .ret [(4,some (.bool false))] S)
   (aft (env ot oz) fin st (.exit 0) [(0,some (.sl .ro (l.map rBind))),(1,some (.sl .ro (m.map rBind))),(5,some (.int .i64 (l.length:Int))),(20,some (.bool false))] S)
   (fun i q h1 h2 h3 h4 h5=>by
    obtain ⟨a,b⟩:=q
    obtain ⟨k1,k2⟩:=zip_get h1
    rw[hz] at h3
    have h3':(i:Int)<(m.length:Int):=by omega
    have c:=same04 (ot:=ot) (oz:=oz) a.Typ (ol a (mem_of_get k1)).Typ b.Typ (om b (mem_of_get k2)).Typ
    simp only[Bool.not_eq_false',sameB,Bool.and_eq_true] at h5
    obtain ⟨h5,h6⟩:=h5
    (rw[c79_l0_w];simp only[c79_l0_b,c79_l0_a,c79_r4,c79_r6,go_sem,h3,h3',h4,k1,k2,h5,h6,c];repeat' ((first|rw[guardO_t]|rw[guardO_f]|rw[cw_bool]);split<;>rename_i h<;>(try rw[Bool.not_eq_true] at h)<;>(try simp only[go_sem,c79_r4,c79_r6,c79_l0_a,h3,h3',h4,k1,k2,h5,h6,c, *]))))
   (fun i q h1 h2 h3 h4 h5=>by
    obtain ⟨a,b⟩:=q
    obtain ⟨k1,k2⟩:=zip_get h1
    rw[hz] at h3
    have h3':(i:Int)<(m.length:Int):=by omega
    have c:=same04 (ot:=ot) (oz:=oz) a.Typ (ol a (mem_of_get k1)).Typ b.Typ (om b (mem_of_get k2)).Typ
    simp only[Bool.not_eq_true',sameB,Bool.and_eq_false_iff] at h5
    rcases h5 with h5|h5
    ·(rw[c79_l0_w];simp only[c79_l0_b,c79_l0_a,c79_r4,c79_r6,go_sem,h3,h3',h4,k1,k2,h5,c];repeat' ((first|rw[guardO_t]|rw[guardO_f]|rw[cw_bool]);split<;>rename_i h<;>(try rw[Bool.not_eq_true] at h)<;>(try simp only[go_sem,c79_r4,c79_r6,c79_l0_a,h3,h3',h4,k1,k2,h5,c, *])))
    ·cases q:strEq a.Name b.Name<;>(rw[c79_l0_w];simp only[c79_l0_b,c79_l0_a,c79_r4,c79_r6,go_sem,h3,h3',h4,k1,k2,h5,q,c];repeat' ((first|rw[guardO_t]|rw[guardO_f]|rw[cw_bool]);split<;>rename_i h<;>(try rw[Bool.not_eq_true] at h)<;>(try simp only[go_sem,c79_r4,c79_r6,c79_l0_a,h3,h3',h4,k1,k2,h5,q,c, *]))))
   (by rw[hz];(rw[c79_l0_w];simp only[c79_l0_b,c79_l0_a,c79_r4,c79_r6,go_sem];repeat' ((first|rw[guardO_t]|rw[guardO_f]|rw[cw_bool]);split<;>rename_i h<;>(try rw[Bool.not_eq_true] at h)<;>(try simp only[go_sem,c79_r4,c79_r6,c79_l0_a, *]))))
  have e:=allZ_zip (p:=sameB) he
  rw[e] at f0
  simp only[Int.cast_ofNat_Int] at f0
  cases q:allZ sameB l m<;>simp only[q,Bool.not_true,Bool.not_false,if_true,if_false,Bool.false_eq_true] at f0<;>(rw[w_plain (fn:=c79) rfl rfl (by simp only[go_sem,f0,hb,q]) rfl (by decide)];simp only[c79,c79_b,c79_r4,c79_r6,go_sem,f0,hb,q];repeat' ((first|rw[guardO_t]|rw[guardO_f]|rw[cw_bool]);split<;>rename_i h<;>(try rw[Bool.not_eq_true] at h)<;>(try simp only[go_sem,c79_r4,c79_r6,f0,hb,q, *])))
 ·have e:=allZ_len (p:=sameB) he
  have hb:((l.length:Int) !=(m.length:Int))=true:=by simp;omega
  (rw[w_plain (fn:=c79) rfl rfl (by simp only[go_sem,e,hb]) rfl (by decide)];simp only[c79,c79_b,c79_r4,c79_r6,go_sem,e,hb];repeat' ((first|rw[guardO_t]|rw[guardO_f]|rw[cw_bool]);split<;>rename_i h<;>(try rw[Bool.not_eq_true] at h)<;>(try simp only[go_sem,c79_r4,c79_r6,e,hb, *])))
set_option maxHeartbeats 2000000 in
theorem same14: ∀ (a:GExp),OkExp a→ ∀ b,OkExp b→ ∀ S,cal (env ot oz) 20 [.agg (rExp a),.agg (rExp b)] S=some (.bool (sameE a b),S):=by
 refine GExp.ind fun a ih oa b ob S=> ?_
 obtain ⟨⟨a1,a2⟩,⟨a3,a4⟩,⟨a5,a6⟩,_⟩:=okExp_at oa
 obtain ⟨⟨b1,b2⟩,⟨b3,b4⟩,⟨b5,b6⟩,_⟩:=okExp_at ob
 have s1:=same01 (ot:=ot) (oz:=oz) a.Labels b.Labels a5 b5
 have s2:=sameAll04 (ot:=ot) (oz:=oz) a.Types b.Types a3 b3 a4 b4
 have e:=sameE_eq a b
 rw[sameEs_allZ] at e
 by_cases he:a.Kids.length=b.Kids.length
 ·have hz:=zip_len he
  have hb:((a.Kids.length:Int) !=(b.Kids.length:Int))=false:=by rw[he];simp
  have f0:=fun fin st=>loopA (E:=(env ot oz)) (S:=S) (c:=c20_l0) (a.Kids.zip b.Kids) (by rw[hz];exact a1)
   (fun i=>[(2,some (.at_ (rExp a))),(3,some (.at_ (rExp b))),(5,some (.int .i64 (i:Int)))]) (fun q=> !(sameE q.1 q.2)) fin st (aft (env ot oz) fin st .ret [(4,some (.bool false))] S)
   (aft (env ot oz) fin st (.exit 0) [(2,some (.at_ (rExp a))),(3,some (.at_ (rExp b))),(5,some (.int .i64 (a.Kids.length:Int))),(68,some (.bool false))] S)
   (fun i q h1 h2 h3 h4 h5=>by
    obtain ⟨x,y⟩:=q
    obtain ⟨k1,k2⟩:=zip_get h1
    rw[hz] at h3
    have h3':(i:Int)<(b.Kids.length:Int):=by omega
    have c:=ih x (mem_of_get k1) (a2 x (mem_of_get k1)) y (b2 y (mem_of_get k2))
    simp only[Bool.not_eq_false'] at h5
    (rw[c20_l0_w];simp only[c20_l0_b,c20_l0_a,c20_r1,c20_r4,go_sem,h3,h3',h4,k1,k2,h5,c];repeat' ((first|rw[guardO_t]|rw[guardO_f]|rw[cw_bool]);split<;>rename_i h<;>(try rw[Bool.not_eq_true] at h)<;>(try simp only[go_sem,c20_r1,c20_r4,c20_l0_a,h3,h3',h4,k1,k2,h5,c, *]))))
   (fun i q h1 h2 h3 h4 h5=>by
    obtain ⟨x,y⟩:=q
    obtain ⟨k1,k2⟩:=zip_get h1
    rw[hz] at h3
    have h3':(i:Int)<(b.Kids.length:Int):=by omega
    have c:=ih x (mem_of_get k1) (a2 x (mem_of_get k1)) y (b2 y (mem_of_get k2))
    simp only[Bool.not_eq_true'] at h5
    (rw[c20_l0_w];simp only[c20_l0_b,c20_l0_a,c20_r1,c20_r4,go_sem,h3,h3',h4,k1,k2,h5,c];repeat' ((first|rw[guardO_t]|rw[guardO_f]|rw[cw_bool]);split<;>rename_i h<;>(try rw[Bool.not_eq_true] at h)<;>(try simp only[go_sem,c20_r1,c20_r4,c20_l0_a,h3,h3',h4,k1,k2,h5,c, *]))))
   (by rw[hz];(rw[c20_l0_w];simp only[c20_l0_b,c20_l0_a,c20_r1,c20_r4,go_sem];repeat' ((first|rw[guardO_t]|rw[guardO_f]|rw[cw_bool]);split<;>rename_i h<;>(try rw[Bool.not_eq_true] at h)<;>(try simp only[go_sem,c20_r1,c20_r4,c20_l0_a, *]))))
  have e2:=allZ_zip (p:=sameE) he
  rw[e2] at f0
  simp only[Int.cast_ofNat_Int] at f0
  cases q:allZ sameE a.Kids b.Kids<;>simp only[q,Bool.not_true,Bool.not_false,if_true,if_false,Bool.false_eq_true] at f0<;>(rw[w_plain (fn:=c20) rfl rfl (by simp only[go_sem,s1,s2,f0,hb]) rfl (by decide)];simp only[c20,c20_b,c20_r1,c20_r4,go_sem,s1,s2,f0,hb];repeat' ((first|rw[guardO_t]|rw[guardO_f]|rw[cw_bool]);split<;>rename_i h<;>(try rw[Bool.not_eq_true] at h)<;>(try simp only[go_sem,c20_r1,c20_r4,s1,s2,f0,hb, *])))<;>(try simp_all [e,q])<;>(try omega)
 ·have e2:=allZ_len (p:=sameE) he
  have hb:((a.Kids.length:Int) !=(b.Kids.length:Int))=true:=by simp;omega
  (rw[w_plain (fn:=c20) rfl rfl (by simp only[go_sem,s1,s2,hb]) rfl (by decide)];simp only[c20,c20_b,c20_r1,c20_r4,go_sem,s1,s2,hb];repeat' ((first|rw[guardO_t]|rw[guardO_f]|rw[cw_bool]);split<;>rename_i h<;>(try rw[Bool.not_eq_true] at h)<;>(try simp only[go_sem,c20_r1,c20_r4,s1,s2,hb, *])))<;>(try simp_all [e,e2])<;>(try omega)
theorem sameSig14 (a b:GSig) (oa:OkSig a) (ob:OkSig b) (S:St):cal (env ot oz) 33 [.agg (rSig a),.agg (rSig b)] S=some (.bool (sameSig a b),S):=by
 have s1:=same09 (ot:=ot) (oz:=oz) a.Binders b.Binders oa.Binders.1 ob.Binders.1 oa.Binders.2 ob.Binders.2
 have s2:=same09 (ot:=ot) (oz:=oz) a.Params b.Params oa.Params.1 ob.Params.1 oa.Params.2 ob.Params.2
 have s3:=same04 (ot:=ot) (oz:=oz) a.Result oa.Result b.Result ob.Result
 (rw[w_plain (fn:=c33) rfl rfl (by simp only[go_sem,s1,s2,s3]) rfl (by decide)];simp only[c33,c33_b,c33_r1,go_sem,s1,s2,s3];repeat' ((first|rw[guardO_t]|rw[guardO_f]|rw[cw_bool]);split<;>rename_i h<;>(try rw[Bool.not_eq_true] at h)<;>(try simp only[go_sem,c33_r1,s1,s2,s3, *])))<;>(try simp_all [sameSig])<;>(try omega)
theorem sameDef14 (a b:GDef) (oa:OkDef a) (ob:OkDef b) (S:St):cal (env ot oz) 18 [.agg (rDef a),.agg (rDef b)] S=some (.bool (sameDef a b),S):=by
 have s1:=sameSig14 (ot:=ot) (oz:=oz) a.Sig b.Sig oa.Sig ob.Sig
 have s2:=same14 (ot:=ot) (oz:=oz) a.Body oa.Body b.Body ob.Body
 (rw[w_plain (fn:=c18) rfl rfl (by simp only[go_sem,s1,s2]) rfl (by decide)];simp only[c18,c18_b,c18_r1,go_sem,s1,s2];repeat' ((first|rw[guardO_t]|rw[guardO_f]|rw[cw_bool]);split<;>rename_i h<;>(try rw[Bool.not_eq_true] at h)<;>(try simp only[go_sem,c18_r1,s1,s2, *])))<;>(try simp_all [sameDef])<;>(try omega)
end
end Go.PE
