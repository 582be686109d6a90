/-
  Loops over lists, round by round. Conditions: each law's own.
-/
import Derived.Test.YteifnopejdiikaaDoorPE21
namespace Go.PE
open Go Go.RowKit
set_option linter.unusedVariables false
set_option linter.unusedSimpArgs false
theorem loopF {α β:Type} {E:Env} {c:EC} (l:List α) (hl:Short l.length) (F:Nat→β→Tmps) (G:Nat→β→St) (step:β→α→β) (I:Nat→β→Prop) (fin:Kont (PV×St)) (st:List Fw)
  (hs: ∀ (i:Nat) (b:β) (a:α),l[i]?=some a→a∈l→(i:Int)<(l.length:Int)→IntKind.i64.wrap ((i:Int)+1)=((i+1:Nat):Int)→I i b→I (i+1) (step b a)∧run E fin st c (F i b) (G i b)=run E fin st c (F (i+1) (step b a)) (G (i+1) (step b a))):
  ∀ (rest:List α) (i:Nat) (b:β),l.drop i=rest→I i b→I (i+rest.length) (rest.foldl step b)∧run E fin st c (F i b) (G i b)=run E fin st c (F (i+rest.length) (rest.foldl step b)) (G (i+rest.length) (rest.foldl step b))
 |[],i,b,h,hI=>⟨hI,rfl⟩
 |a::r,i,b,h,hI=>by
  obtain ⟨h1,h2,h3⟩:=drop_cons h
  unfold Short maxLen at hl
  have w:=wrap_succ (i:=i) (n:=l.length) h3 (by omega)
  obtain ⟨k1,k2⟩:=hs i b a h1 (mem_of_get h1) (by omega) w hI
  have ih:=loopF l (by unfold Short maxLen;omega) F G step I fin st hs r (i+1) (step b a) h2 k1
  have e:i+(a::r).length=i+1+r.length:=by simp only[List.length_cons];omega
  rw[e,List.foldl_cons,k2]
  exact ih
theorem loopA {α:Type} {E:Env} {c:EC} {S:St} (l:List α) (hl:Short l.length) (F:Nat→Tmps) (p:α→Bool) (fin:Kont (PV×St)) (st:List Fw) (K X:Option (PV×St))
  (hs: ∀ (i:Nat) (a:α),l[i]?=some a→a∈l→(i:Int)<(l.length:Int)→IntKind.i64.wrap ((i:Int)+1)=((i+1:Nat):Int)→p a=false→run E fin st c (F i) S=run E fin st c (F (i+1)) S)
  (hk: ∀ (i:Nat) (a:α),l[i]?=some a→a∈l→(i:Int)<(l.length:Int)→IntKind.i64.wrap ((i:Int)+1)=((i+1:Nat):Int)→p a=true→run E fin st c (F i) S=K) (hx:run E fin st c (F l.length) S=X):
  run E fin st c (F 0) S=if l.any p then K else X:=by
 rw[←hx]
 have key: ∀ (rest:List α) (i:Nat),l.drop i=rest→run E fin st c (F i) S=if rest.any p then K else run E fin st c (F (i+rest.length)) S:=by
  intro rest
  induction rest with
  |nil=>intro i h;simp
  |cons a r ih=>
   intro i h
   obtain ⟨h1,h2,h3⟩:=drop_cons h
   unfold Short maxLen at hl
   have w:=wrap_succ (i:=i) (n:=l.length) h3 (by omega)
   have hlt:(i:Int)<(l.length:Int):=by omega
   cases q:p a with
   |true=>rw[hk i a h1 (mem_of_get h1) hlt w q,List.any_cons,q];simp
   |false=>
    rw[hs i a h1 (mem_of_get h1) hlt w q,ih (i+1) h2,List.any_cons,q]
    have e:i+(a::r).length=i+1+r.length:=by simp only[List.length_cons];omega
    rw[e];simp
 have:=key l 0 rfl
 simpa using this
theorem loopR {α β:Type} {E:Env} {c:EC} (l:List α) (hl:Short l.length) (step:β→α→β) (I:Nat→β→Tmps→St→Prop)
  (hs: ∀ (i:Nat) (b:β) (a:α) (ts:Tmps) (T:St),l[i]?=some a→a∈l→(i:Int)<(l.length:Int)→IntKind.i64.wrap ((i:Int)+1)=((i+1:Nat):Int)→I i b ts T→ ∃ ts' T',I (i+1) (step b a) ts' T'∧ ∀ fin st,run E fin st c ts T=run E fin st c ts' T')
  (b:β) (ts:Tmps) (S:St) (h0:I 0 b ts S): ∃ ts' T',I l.length (l.foldl step b) ts' T'∧ ∀ fin st,run E fin st c ts S=run E fin st c ts' T':=by
 have key: ∀ (rest:List α) (i:Nat) (b:β) (ts:Tmps) (S:St),l.drop i=rest→I i b ts S→ ∃ ts' T',I (i+rest.length) (rest.foldl step b) ts' T'∧ ∀ fin st,run E fin st c ts S=run E fin st c ts' T':=by
  intro rest
  induction rest with
  |nil=>intro i b ts S h hI;exact ⟨ts,S,by simpa using hI,fun _ _=>rfl⟩
  |cons a r ih=>
   intro i b ts S h hI
   obtain ⟨h1,h2,h3⟩:=drop_cons h
   unfold Short maxLen at hl
   have w:=wrap_succ (i:=i) (n:=l.length) h3 (by omega)
   obtain ⟨ts1,T1,k1,k2⟩:=hs i b a ts S h1 (mem_of_get h1) (by omega) w hI
   obtain ⟨ts2,T2,k3,k4⟩:=ih (i+1) _ ts1 T1 h2 k1
   have e:i+(a::r).length=i+1+r.length:=by simp only[List.length_cons];omega
   exact ⟨ts2,T2,by rw[e];simpa using k3,fun fin st=>(k2 fin st).trans (k4 fin st)⟩
 have:=key l 0 b ts S rfl h0
 simpa using this
end Go.PE
