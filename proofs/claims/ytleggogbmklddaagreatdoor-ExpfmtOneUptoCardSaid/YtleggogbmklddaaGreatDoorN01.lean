/-
  Names, by the document: what is kept, kinds, lists that rise. Conditions: each law's own.
-/
import Derived.Test.YtleggogbmklddaaGreatDoorR3Q
namespace Go.PE
open Go Go.RowKit Go.Proofs
set_option linter.unusedVariables false
set_option linter.unusedSimpArgs false
set_option maxRecDepth 100000
section
variable {ot:TypeId} {oz:EP}
def wordsA:List ByteArray:=[⟨#[108,101,116]⟩,⟨#[105,110]⟩,⟨#[105,102]⟩,⟨#[116,104,101,110]⟩,⟨#[101,108,115,101]⟩,⟨#[102,110]⟩,⟨#[99,97,108,108]⟩,⟨#[100,101,102]⟩,⟨#[116,114,117,101]⟩,⟨#[102,97,108,115,101]⟩]
def wordsB:List ByteArray:=[⟨#[73,110,116]⟩,⟨#[66,111,111,108]⟩,⟨#[83,116,114,105,110,103]⟩,⟨#[84,111,112]⟩]
def keptS (s:ByteArray):Int:=if wordsA.any (strEq · s) then 3 else if wordsB.any (strEq · s) then 4 else 0
theorem kept_l0 (s:ByteArray) (l:List ByteArray) (hl:l.length≤1000) (g:Tag) (S:St) (fin:Kont (PV×St)) (st:List Fr): ∀ (rest:List ByteArray) (i:Nat),l.drop i=rest→ ∀ n,rest.length+2≤n→
  (lvl (env ot oz) n).ev c125_l0 [(0,some (.str s)),(3,some (.sl g (l.map rStr))),(4,some (.int .i64 (i:Int)))] S (kont (env ot oz) fin st)=
   if rest.any (strEq · s) then kont (env ot oz) fin st .ret [(2,some (.int .i64 3))] S else kont (env ot oz) fin st (.exit 0) [(0,some (.str s)),(3,some (.sl g (l.map rStr))),(4,some (.int .i64 ((i+rest.length:Nat):Int))),(11,some (.bool false))] S
 |[],i,h,n,hn=>by
  obtain ⟨k,rfl⟩: ∃ k,n=k+1:=⟨n - 1,by omega⟩
  have hlt:=lt_no (drop_nil h)
  (rw[c125_l0_step];simp only[c125_l0_b,go_sem,hlt,List.any_nil])
 |c::r,i,h,n,hn=>by
  obtain ⟨k,rfl⟩: ∃ k,n=k+1:=⟨n - 1,by omega⟩
  obtain ⟨h1,h2,h3⟩:=drop_cons h
  simp only[List.length_cons] at hn
  have e:i+(c::r).length=i+1+r.length:=by simp only[List.length_cons];omega
  have w:=wrap_succ (i:=i) (n:=l.length) h3 (by omega)
  have hlt:(i:Int)<(l.length:Int):=by omega
  have ih:=kept_l0 s l hl g S fin st r (i+1) h2 k (by omega)
  rw[e]
  cases q:strEq c s<;>(rw[c125_l0_step];simp only[c125_l0_b,go_sem,hlt,h1,q,w,ih,List.any_cons])
theorem kept_l1 (s:ByteArray) (l:List ByteArray) (hl:l.length≤1000) (g:Tag) (S:St) (fin:Kont (PV×St)) (st:List Fr): ∀ (rest:List ByteArray) (i:Nat),l.drop i=rest→ ∀ n,rest.length+2≤n→
  (lvl (env ot oz) n).ev c125_l1 [(0,some (.str s)),(5,some (.sl g (l.map rStr))),(6,some (.int .i64 (i:Int)))] S (kont (env ot oz) fin st)=
   if rest.any (strEq · s) then kont (env ot oz) fin st .ret [(2,some (.int .i64 4))] S else kont (env ot oz) fin st (.exit 2) [(0,some (.str s)),(5,some (.sl g (l.map rStr))),(6,some (.int .i64 ((i+rest.length:Nat):Int))),(24,some (.bool false))] S
 |[],i,h,n,hn=>by
  obtain ⟨k,rfl⟩: ∃ k,n=k+1:=⟨n - 1,by omega⟩
  have hlt:=lt_no (drop_nil h)
  (rw[c125_l1_step];simp only[c125_l1_b,go_sem,hlt,List.any_nil])
 |c::r,i,h,n,hn=>by
  obtain ⟨k,rfl⟩: ∃ k,n=k+1:=⟨n - 1,by omega⟩
  obtain ⟨h1,h2,h3⟩:=drop_cons h
  simp only[List.length_cons] at hn
  have e:i+(c::r).length=i+1+r.length:=by simp only[List.length_cons];omega
  have w:=wrap_succ (i:=i) (n:=l.length) h3 (by omega)
  have hlt:(i:Int)<(l.length:Int):=by omega
  have ih:=kept_l1 s l hl g S fin st r (i+1) h2 k (by omega)
  rw[e]
  cases q:strEq c s<;>(rw[c125_l1_step];simp only[c125_l1_b,go_sem,hlt,h1,q,w,ih,List.any_cons])
theorem kept_ok (s:ByteArray):Ans (env ot oz) 125 [.str s] (.int .i64 (keptS s)):=by
 refine ⟨30,fun S=> ?_⟩
 have f0:=fun fin st=>kept_l0 (ot:=ot) (oz:=oz) s wordsA (by decide) .exact S fin st wordsA 0 rfl 29 (by decide)
 have f1:=fun fin st=>kept_l1 (ot:=ot) (oz:=oz) s wordsB (by decide) .exact S fin st wordsB 0 rfl 29 (by decide)
 have e:keptS s=if wordsA.any (strEq · s) then 3 else if wordsB.any (strEq · s) then 4 else 0:=rfl
 generalize wordsA.any (strEq · s)=a at*
 generalize wordsB.any (strEq · s)=b at*
 simp only[wordsA,wordsB,List.map_cons,List.map_nil,rStr_eq,Int.cast_ofNat_Int] at f0 f1
 cases a<;>cases b<;>simp only[if_true,if_false,Bool.false_eq_true] at f0 f1 e<;>(rw[call_plain (fn:=c125) rfl rfl (by simp only[go_sem,f0,f1,e]) rfl (by decide)];simp only[c125,c125_b,go_sem,f0,f1,e])
def lowB (c:UInt8):Bool:=decide (97≤(c.toNat:Int))&&decide ((c.toNat:Int)≤122)
def upB (c:UInt8):Bool:=decide (65≤(c.toNat:Int))&&decide ((c.toNat:Int)≤90)
def digB (c:UInt8):Bool:=decide (48≤(c.toNat:Int))&&decide ((c.toNat:Int)≤57)
theorem low_ok (c:UInt8):Ans (env ot oz) 126 [.int .u8 (c.toNat:Int)] (.bool (lowB c)):=by
 refine ⟨2,fun S=> ?_⟩
 by_cases h1:97≤(c.toNat:Int)<;>by_cases h2:(c.toNat:Int)≤122<;>(rw[call_plain (fn:=c126) rfl rfl (by simp only[go_sem,h1,h2,lowB]) rfl (by decide)];simp only[c126,c126_b,c126_r1,go_sem,h1,h2,lowB])
theorem up_ok (c:UInt8):Ans (env ot oz) 127 [.int .u8 (c.toNat:Int)] (.bool (upB c)):=by
 refine ⟨2,fun S=> ?_⟩
 by_cases h1:65≤(c.toNat:Int)<;>by_cases h2:(c.toNat:Int)≤90<;>(rw[call_plain (fn:=c127) rfl rfl (by simp only[go_sem,h1,h2,upB]) rfl (by decide)];simp only[c127,c127_b,c127_r1,go_sem,h1,h2,upB])
theorem dig_ok (c:UInt8):Ans (env ot oz) 128 [.int .u8 (c.toNat:Int)] (.bool (digB c)):=by
 refine ⟨2,fun S=> ?_⟩
 by_cases h1:48≤(c.toNat:Int)<;>by_cases h2:(c.toNat:Int)≤57<;>(rw[call_plain (fn:=c128) rfl rfl (by simp only[go_sem,h1,h2,digB]) rfl (by decide)];simp only[c128,c128_b,c128_r1,go_sem,h1,h2,digB])
def innerB (k:Int) (c:UInt8):Bool:=digB c||lowB c||(upB c&& !(k==1))
def firstK (c:UInt8):Int:=if upB c then 2 else if lowB c then 1 else 0
def kindL:List UInt8→Int
 |[]=>0
 |c::r=>if r.length≤7&&r.all (innerB (firstK c)) then firstK c else 0
def kindS (s:ByteArray):Int:=if keptS s !=0 then keptS s else kindL s.data.toList
theorem kind01_l0 (s:ByteArray) (hl:s.size≤8) (kd:Int) (N:Nat) (hL: ∀ c:UInt8,∀ m,N≤m→ ∀ S,(lvl (env ot oz) m).call 126 [.int .u8 (c.toNat:Int)] S=some (.bool (lowB c),S)) (hU: ∀ c:UInt8,∀ m,N≤m→ ∀ S,(lvl (env ot oz) m).call 127 [.int .u8 (c.toNat:Int)] S=some (.bool (upB c),S))
  (hD: ∀ c:UInt8,∀ m,N≤m→ ∀ S,(lvl (env ot oz) m).call 128 [.int .u8 (c.toNat:Int)] S=some (.bool (digB c),S)) (S:St) (fin:Kont (PV×St)) (st:List Fr): ∀ (rest:List UInt8) (i:Nat),s.data.toList.drop i=rest→ ∀ n,rest.length+N+2≤n→
  (lvl (env ot oz) n).ev c112_l0 [(0,some (.str s)),(4,some (.int .i64 kd)),(5,some (.int .i64 (i:Int)))] S (kont (env ot oz) fin st)=
   if rest.all (innerB kd) then kont (env ot oz) fin st (.exit 0) [(0,some (.str s)),(4,some (.int .i64 kd)),(5,some (.int .i64 ((i+rest.length:Nat):Int))),(28,some (.bool false))] S else kont (env ot oz) fin st .ret [(2,some (.int .i64 0))] S
 |[],i,h,n,hn=>by
  obtain ⟨k,rfl⟩: ∃ k,n=k+1:=⟨n - 1,by omega⟩
  have hlt:=lt_no (drop_nil h)
  rw[size_data] at hlt
  (rw[c112_l0_step];simp only[c112_l0_b,c112_r4,c112_r14,go_sem,hlt,List.all_nil])
 |c::r,i,h,n,hn=>by
  obtain ⟨k,rfl⟩: ∃ k,n=k+1:=⟨n - 1,by omega⟩
  obtain ⟨h1,h2,h3⟩:=drop_cons h
  simp only[List.length_cons] at hn
  have e:i+(c::r).length=i+1+r.length:=by simp only[List.length_cons];omega
  have hd:=size_data s
  have w:=wrap_succ (i:=i) (n:=s.size) (by omega) (by omega)
  have hlt:(i:Int)<(s.size:Int):=by omega
  have ih:=kind01_l0 s hl kd N hL hU hD S fin st r (i+1) h2 k (by omega)
  have cL:=hL c k (by omega)
  have cU:=hU c k (by omega)
  have cD:=hD c k (by omega)
  rw[e]
  cases q1:digB c<;>cases q2:lowB c<;>cases q3:upB c<;>cases q4:(kd==1)<;>(rw[c112_l0_step];simp only[c112_l0_b,c112_r4,c112_r14,go_sem,hlt,h1,q1,q2,q3,q4,w,ih,cL,cU,cD,List.all_cons,innerB,Bool.or_self,Bool.not_true,Bool.not_false])
theorem bytes_all {p:Nat→UInt8→Prop} (hp: ∀ n m c,n≤m→p n c→p m c) (h: ∀ c:UInt8,∃ n,p n c): ∃ N,∀ c:UInt8,p N c:=by
 obtain ⟨N,hN⟩:=all_le (p:=fun n (k:Nat)=>p n (UInt8.ofNat k)) (fun n m k hm h=>hp n m _ hm h) (l:=List.range 256) (fun k _=>h (UInt8.ofNat k))
 refine ⟨N,fun c=> ?_⟩
 have:=hN c.toNat (by simpa using c.toNat_lt)
 simpa using this
theorem kind01_ok (s:ByteArray):Ans (env ot oz) 112 [.str s] (.int .i64 (kindS s)):=by
 obtain ⟨A,a⟩:=(kept_ok (ot:=ot) (oz:=oz) s).le
 obtain ⟨NL,hL⟩:=bytes_all (p:=fun n c=> ∀ S,(lvl (env ot oz) n).call 126 [.int .u8 (c.toNat:Int)] S=some (.bool (lowB c),S)) (fun n m c hm h S=>call_mono hm (h S)) low_ok
 obtain ⟨NU,hU⟩:=bytes_all (p:=fun n c=> ∀ S,(lvl (env ot oz) n).call 127 [.int .u8 (c.toNat:Int)] S=some (.bool (upB c),S)) (fun n m c hm h S=>call_mono hm (h S)) up_ok
 obtain ⟨ND,hD⟩:=bytes_all (p:=fun n c=> ∀ S,(lvl (env ot oz) n).call 128 [.int .u8 (c.toNat:Int)] S=some (.bool (digB c),S)) (fun n m c hm h S=>call_mono hm (h S)) dig_ok
 refine ⟨A+NL+NU+ND+14,fun S=> ?_⟩
 have a:=a (A+NL+NU+ND+12) (by omega)
 have e:kindS s=if keptS s !=0 then keptS s else kindL s.data.toList:=rfl
 generalize keptS s=kp at*
 cases hk:(kp !=0) with
 |true=>
  simp only[hk,if_true] at e
  (rw[call_plain (fn:=c112) rfl rfl (by simp only[go_sem,a,hk,e]) rfl (by decide)];simp only[c112,c112_b,c112_r4,c112_r14,go_sem,a,hk,e])
 |false=>
  simp only[hk,if_false,Bool.false_eq_true] at e
  have hd:=size_data s
  cases hs:s.data.toList with
  |nil=>
   have h0:(s.size:Int)<1:=by rw[hs] at hd;simp at hd;omega
   have e:kindS s=0:=by rw[e,hs];rfl
   (rw[call_plain (fn:=c112) rfl rfl (by simp only[go_sem,a,hk,h0,e]) rfl (by decide)];simp only[c112,c112_b,c112_r4,c112_r14,go_sem,a,hk,h0,e])
  |cons c r=>
   rw[hs,List.length_cons] at hd
   have h0: ¬ (s.size:Int)<1:=by omega
   by_cases h8:(8:Int)<(s.size:Int)
   ·have e:kindS s=0:=by
     rw[e,hs];unfold kindL
     have: ¬ r.length≤7:=by omega
     simp[this]
    (rw[call_plain (fn:=c112) rfl rfl (by simp only[go_sem,a,hk,h0,h8,e]) rfl (by decide)];simp only[c112,c112_b,c112_r4,c112_r14,go_sem,a,hk,h0,h8,e])
   ·have hl:=fun fin st=>kind01_l0 (ot:=ot) (oz:=oz) s (by omega) (firstK c) (NL+NU+ND) (fun c m hm S=>call_mono (by omega) (hL c S)) (fun c m hm S=>call_mono (by omega) (hU c S)) (fun c m hm S=>call_mono (by omega) (hD c S)) S fin st r 1 (by rw[hs];rfl) (A+NL+NU+ND+13) (by omega)
    have cL: ∀ S,(lvl (env ot oz) (A+NL+NU+ND+12)).call 126 [.int .u8 (c.toNat:Int)] S=some (.bool (lowB c),S):=fun S=>call_mono (by omega) (hL c S)
    have cU: ∀ S,(lvl (env ot oz) (A+NL+NU+ND+12)).call 127 [.int .u8 (c.toNat:Int)] S=some (.bool (upB c),S):=fun S=>call_mono (by omega) (hU c S)
    have hp:(0:Int)<(s.size:Int):=by omega
    have hr:decide (r.length≤7)=true:=by simp;omega
    rw[hs] at e
    simp only[kindL,hr,Bool.true_and] at e
    have e2:firstK c=if upB c then 2 else if lowB c then 1 else 0:=rfl
    generalize firstK c=kd at*
    cases q3:r.all (innerB kd)<;>simp only[q3,if_true,if_false,Bool.false_eq_true,Int.cast_ofNat_Int] at e hl<;>cases q1:lowB c<;>cases q2:upB c<;>simp only[q1,q2,if_true,if_false,Bool.false_eq_true] at e2<;>subst e2<;>(rw[call_plain (fn:=c112) rfl rfl (by simp only[go_sem,a,hk,h0,h8,hp,hs,e,cL,cU,q1,q2,hl]) rfl (by decide)];simp only[c112,c112_b,c112_r4,c112_r14,go_sem,a,hk,h0,h8,hp,hs,e,cL,cU,q1,q2,hl])
def fineS (s:ByteArray):Bool:=kindS s==1
def varS (s:ByteArray):Bool:=kindS s==2
theorem fine01_ok (s:ByteArray):Ans (env ot oz) 69 [.str s] (.bool (fineS s)):=by
 obtain ⟨A,a⟩:=(kind01_ok (ot:=ot) (oz:=oz) s).le
 refine ⟨A+2,fun S=> ?_⟩
 have a:=a A (by omega)
 (rw[call_plain (fn:=c69) rfl rfl (by simp only[go_sem,a,fineS]) rfl (by decide)];simp only[c69,c69_b,go_sem,a,fineS])
theorem var01_ok (s:ByteArray):Ans (env ot oz) 72 [.str s] (.bool (varS s)):=by
 obtain ⟨A,a⟩:=(kind01_ok (ot:=ot) (oz:=oz) s).le
 refine ⟨A+2,fun S=> ?_⟩
 have a:=a A (by omega)
 (rw[call_plain (fn:=c72) rfl rfl (by simp only[go_sem,a,varS]) rfl (by decide)];simp only[c72,c72_b,go_sem,a,varS])
def risF:Option ByteArray→List ByteArray→Bool
 |_,[]=>true
 |none,s::r=>fineS s&&risF (some s) r
 |some q,s::r=>fineS s&&(strLt q s&&risF (some s) r)
def risingS (l:List ByteArray):Bool:=risF none l
theorem rising01_l0 (l:List ByteArray) (hl:Short l.length) (N:Nat) (g:Tag) (S:St) (fin:Kont (PV×St)) (st:List Fr): ∀ (rest:List ByteArray) (i:Nat) (p:Option ByteArray),l.drop i=rest→(i=0∧p=none∨ ∃ j q,i=j+1∧l[j]?=some q∧p=some q)→
  (∀ s∈rest,∀ m,N≤m→ ∀ S,(lvl (env ot oz) m).call 69 [.str s] S=some (.bool (fineS s),S))→ ∀ n,rest.length+N+2≤n→
  (lvl (env ot oz) n).ev c81_l0 [(0,some (.sl g (l.map rStr))),(3,some (.int .i64 (i:Int)))] S (kont (env ot oz) fin st)=
   if risF p rest then kont (env ot oz) fin st (.exit 0) [(0,some (.sl g (l.map rStr))),(3,some (.int .i64 ((i+rest.length:Nat):Int))),(7,some (.bool false))] S else kont (env ot oz) fin st .ret [(2,some (.bool false))] S
 |[],i,p,h,hp,hc,n,hn=>by
  obtain ⟨k,rfl⟩: ∃ k,n=k+1:=⟨n - 1,by omega⟩
  have hlt:=lt_no (drop_nil h)
  (rw[c81_l0_step];simp only[c81_l0_b,c81_r4,go_sem,hlt,risF])
 |s::r,i,p,h,hp,hc,n,hn=>by
  obtain ⟨k,rfl⟩: ∃ k,n=k+1:=⟨n - 1,by omega⟩
  obtain ⟨h1,h2,h3⟩:=drop_cons h
  unfold Short maxLen at hl
  simp only[List.length_cons] at hn
  have e:i+(s::r).length=i+1+r.length:=by simp only[List.length_cons];omega
  have w:=wrap_succ (i:=i) (n:=l.length) h3 (by omega)
  have hlt:(i:Int)<(l.length:Int):=by omega
  have ih:=rising01_l0 l (by unfold Short maxLen;omega) N g S fin st r (i+1) (some s) h2 (.inr ⟨i,s,rfl,h1,rfl⟩) (fun x hx=>hc x (List.mem_cons_of_mem _ hx)) k (by omega)
  have cF:=hc s (by simp) k (by omega)
  rw[e]
  rcases hp with ⟨rfl,rfl⟩|⟨j,q,rfl,hq,rfl⟩
  ·simp only[Int.cast_ofNat_Int,Nat.zero_add,Int.zero_add] at w ih
   cases q1:fineS s<;>(rw[c81_l0_step];simp only[c81_l0_b,c81_r4,go_sem,h3,h1,q1,w,ih,cF,risF])
  ·have hz:(0:Int)<((j+1:Nat):Int):=by omega
   have w1:IntKind.i64.wrap (((j+1:Nat):Int) - 1)=(j:Int):=by rw[wrap64 (by omega) (by omega)];omega
   have hj:(j:Int)<(l.length:Int):=by omega
   cases q1:fineS s<;>cases q2:strLt q s<;>(rw[c81_l0_step];simp only[c81_l0_b,c81_r4,go_sem,hlt,h1,q1,q2,w,ih,cF,risF,hz,w1,hj,hq])
theorem rising01_ok (l:List ByteArray) (hl:Short l.length) (g:Tag):Ans (env ot oz) 81 [.sl .ro (l.map rStr)] (.bool (risingS l)):=by
 obtain ⟨N,hN⟩:=all_le (p:=fun n (s:ByteArray)=> ∀ S,(lvl (env ot oz) n).call 69 [.str s] S=some (.bool (fineS s),S)) (fun n m k hm h S=>call_mono hm (h S)) (l:=l) (fun s _=>fine01_ok s)
 refine ⟨l.length+N+3,fun S=> ?_⟩
 have f:=fun fin st=>rising01_l0 (ot:=ot) (oz:=oz) l hl N .ro S fin st l 0 none rfl (.inl ⟨rfl,rfl⟩) (fun s hs m hm S=>call_mono hm (hN s hs S)) (l.length+N+2) (by omega)
 have e:risingS l=risF none l:=rfl
 simp only[Int.cast_ofNat_Int] at f
 cases q:risF none l<;>simp only[q,if_true,if_false,Bool.false_eq_true] at f e<;>(rw[call_plain (fn:=c81) rfl rfl (by simp only[go_sem,f,e]) rfl (by decide)];simp only[c81,c81_b,c81_r4,go_sem,f,e])
end
end Go.PE
