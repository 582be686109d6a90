/-
  The law of the diagnoses' order. Conditions: each law's own.
-/
import Derived.Test.YteifnopejdiikaaDoorDG9
namespace Go.PE
open Go Go.RowKit Go.Proofs
set_option linter.unusedVariables false
set_option linter.unusedSimpArgs false
set_option maxRecDepth 100000
def tgD:Nat→Tag
 |0=> .null
 |_+1=> .ro
theorem tgD_s (i:Nat):tgD (i+1)= .ro:=rfl
theorem foldD (l:List GDiag):l.foldl (fun o x=>allD (o++[x])) []=allD l:=by
 have key: ∀ (r p:List GDiag),r.foldl (fun o x=>allD (o++[x])) (allD p)=allD (p++r):=by
  intro r
  induction r with
  |nil=>intro p;simp
  |cons x r ih=>
   intro p
   have e:allD (allD p++[x])=allD (p++[x]):=by unfold allD;exact all_add ahD_ord 20 p x
   rw[List.foldl_cons,e,ih,List.append_assoc];rfl
 have:=key l []
 rw[List.nil_append] at this
 exact this
theorem allD_strict (l:List GDiag):(allD l).Pairwise fun a b=>ahD a b=true:=take_strict 20 (allO_strict ahD_ord l)
theorem allD_self (l:List GDiag):allD (allD l)=allD l:=by
 have h:=allO_self ahD_ord (allD_strict l)
 show (allO ahD (allD l)).take 20=allD l
 rw[h]
 exact List.take_of_length_le (by unfold allD;rw[List.length_take];omega)
theorem allD_turn (l:List GDiag) (n:Nat):allD (l.drop n++l.take n)=allD l:=by
 unfold allD
 rw[allO_perm ahD_ord (m:=l) (fun a=>by
  rw[List.mem_append]
  conv=>rhs;rw[←List.take_append_drop n l,List.mem_append]
  exact Or.comm)]
theorem allD_pos {l:List GDiag} (h:0<l.length):0<(allD l).length:=by
 unfold allD
 rw[List.length_take]
 have:0<(allO ahD l).length:=by
  obtain ⟨x,hx⟩: ∃ x,x∈l:=⟨l[0],List.getElem_mem h⟩
  exact List.length_pos_of_mem (allO_mem.2 hx)
 omega
theorem allD_20 (l:List GDiag):(allD l).length≤20:=by unfold allD;rw[List.length_take];omega
section
variable {ot:TypeId} {oz:EP}
theorem order_l0 (l:List GDiag) (hl:l.length≤60) (hp:0<l.length) (a b:PV) (T:St): ∀ fin st,run (env ot oz) fin st c3_l0 [(0,some (.sl .ro (l.map rDiag))),(6,some (a)),(7,some (b)),(8,some (.sl .null [])),(9,some (.int .i64 0))] T=
  aft (env ot oz) fin st (.exit 0) [(0,some (.sl .ro (l.map rDiag))),(6,some (a)),(7,some (b)),(8,some (.sl .ro ((allD l).map rDiag))),(9,some (.int .i64 (l.length:Int))),(40,some (.bool false))] T:=fun fin st=>by
 have f:=(loopF (E:=(env ot oz)) (c:=c3_l0) l (by unfold Short maxLen;omega) (fun i o=>[(0,some (.sl .ro (l.map rDiag))),(6,some (a)),(7,some (b)),(8,some (.sl (tgD i) (o.map rDiag))),(9,some (.int .i64 (i:Int)))]) (fun _ _=>T) (fun o x=>allD (o++[x])) (fun i o=>o.length≤20) fin st
  (fun i o x h1 h2 h3 h4 hI=>by
   refine ⟨allD_20 _, ?_⟩
   have c1:=fun T=>cal_tag2 (g:=tgD i) (addD (ot:=ot) (oz:=oz) o x (by omega) T) (plainLL_map fun x _=>rDiag_plain x) (plain_cons (by intro n d;simp only[sealW,rDiag_sl,Option.map_some]) plain_nil)
   have ts:=tgD_s i
   generalize allD (o++[x])=r at*
   generalize tgD i=g at*
   generalize tgD (i+1)=g2 at*
   subst ts
   (rw[c3_l0_w];simp only[c3_l0_b,c3_l0_a,c3_r1,c3_r16,go_sem,h1,h3,h4,c1,rDiag_len,rDiag_take];repeat' ((first|rw[guardO_t]|rw[guardO_f]|rw[cw_bool]);split<;>rename_i h<;>(try rw[Bool.not_eq_true] at h)<;>(try simp only[go_sem,c3_r1,c3_r16,c3_l0_a,h1,h3,h4,c1,rDiag_len,rDiag_take, *])))) l 0 [] rfl (by simp)).2
 rw[foldD,Nat.zero_add] at f
 have et:tgD l.length= .ro:=by cases l;simp at hp;rfl
 rw[et] at f
 simp only[Int.cast_ofNat_Int,List.map_nil] at f
 have t0:tgD 0= .null:=rfl
 rw[t0] at f
 rw[f]
 generalize allD l=r at*
 (rw[c3_l0_w];simp only[c3_l0_b,c3_l0_a,c3_r1,c3_r16,go_sem];repeat' ((first|rw[guardO_t]|rw[guardO_f]|rw[cw_bool]);split<;>rename_i h<;>(try rw[Bool.not_eq_true] at h)<;>(try simp only[go_sem,c3_r1,c3_r16,c3_l0_a, *])))
theorem order_l1 (r:List GDiag) (hr:r.length≤20) (hp:0<r.length) (hs:r.Pairwise fun a b=>ahD a b=true) (b one:PV) (T:St): ∀ fin st,run (env ot oz) fin st c3_l1 [(6,some (.sl .ro (r.map rDiag))),(7,some (b)),(8,some (one)),(10,some (.int .i64 1))] T=
  aft (env ot oz) fin st (.exit 2) [(6,some (.sl .ro (r.map rDiag))),(7,some (b)),(8,some (one)),(10,some (.int .i64 (r.length:Int))),(52,some (.bool false))] T:=fun fin st=>by
 have f0:=loopA (E:=(env ot oz)) (S:=T) (c:=c3_l1) (r.drop 1) (by unfold Short maxLen;rw[List.length_drop];omega) (fun j=>[(6,some (.sl .ro (r.map rDiag))),(7,some (b)),(8,some (one)),(10,some (.int .i64 ((j+1:Nat):Int)))]) (fun _=>false) fin st none (aft (env ot oz) fin st (.exit 2) [(6,some (.sl .ro (r.map rDiag))),(7,some (b)),(8,some (one)),(10,some (.int .i64 (r.length:Int))),(52,some (.bool false))] T)
  (fun j y h1 h2 h3 h4 h5=>by
   rw[List.getElem?_drop,Nat.add_comm] at h1
   have hj:=getElem?_lt h1
   have hx:r[j]?=some r[j]:=List.getElem?_eq_getElem (by omega)
   have hy:r[j+1]=y:=by rw[List.getElem?_eq_getElem hj] at h1;injection h1
   have hah:ahD r[j] y=true:=by rw[←hy];exact List.pairwise_iff_getElem.1 hs j (j+1) (by omega) hj (by omega)
   generalize r[j]=x at*
   have c1:=fun T=>aheadP (ot:=ot) (oz:=oz) x y T
   rw[hah] at c1
   have w1:IntKind.i64.wrap (((j+1:Nat):Int) - 1)=(j:Int):=by rw[wrap64 (by omega) (by omega)];omega
   have w2:IntKind.i64.wrap (((j+1:Nat):Int)+1)=((j+1+1:Nat):Int):=by rw[wrap64 (by omega) (by omega)];omega
   have d1:((j+1:Nat):Int)<(r.length:Int):=by omega
   have d2:(j:Int)<(r.length:Int):=by omega
   have d3:(0:Int)≤((j+1:Nat):Int):=by omega
   have d4:((j+1:Nat):Int).toNat=j+1:=by omega
   generalize hk:((j+1:Nat):Int)=k at*
   (rw[c3_l1_w];simp only[c3_l1_b,c3_l1_a,c3_r1,c3_r16,go_sem,h1,hx,w1,w2,d1,d2,d3,d4,c1,rDiag_len,rDiag_take];repeat' ((first|rw[guardO_t]|rw[guardO_f]|rw[cw_bool]);split<;>rename_i h<;>(try rw[Bool.not_eq_true] at h)<;>(try simp only[go_sem,c3_r1,c3_r16,c3_l1_a,h1,hx,w1,w2,d1,d2,d3,d4,c1,rDiag_len,rDiag_take, *]))))
  (fun i d h1 h2 h3 h4 h5=>by cases h5)
  (by
   have e:((r.drop 1).length+1:Nat)=r.length:=by rw[List.length_drop];omega
   rw[e]
   (rw[c3_l1_w];simp only[c3_l1_b,c3_l1_a,c3_r1,c3_r16,go_sem];repeat' ((first|rw[guardO_t]|rw[guardO_f]|rw[cw_bool]);split<;>rename_i h<;>(try rw[Bool.not_eq_true] at h)<;>(try simp only[go_sem,c3_r1,c3_r16,c3_l1_a, *]))))
 have ha:(r.drop 1).any (fun _=>false)=false:=by simp
 simp only[ha,Bool.false_eq_true,if_false] at f0
 exact f0
theorem order_ok (l:List GDiag) (k:Nat) (hk:k<256) (S:St):cal (env ot oz) 3 [.sl .ro (l.map rDiag),.int .u8 (k:Int)] S=some (.bool true,S):=by
 have aw:=aw24 (ot:=ot) (oz:=oz)
 have s1:=short24 (ot:=ot) (oz:=oz) l
 cases q1:shortD l with
 |false=>rw[q1] at s1;(rw[w_plain (fn:=c3) rfl rfl (by simp only[go_sem,s1,aw]) rfl (by decide)];simp only[c3,c3_b,c3_r1,c3_r16,go_sem,s1,aw];repeat' ((first|rw[guardO_t]|rw[guardO_f]|rw[cw_bool]);split<;>rename_i h<;>(try rw[Bool.not_eq_true] at h)<;>(try simp only[go_sem,c3_r1,c3_r16,s1,aw, *])))
 |true=>
  rw[q1] at s1
  obtain ⟨b1,b2⟩:=short_all q1
  have hl:l.length≤1000000000:=by omega
  by_cases hz:l.length=0
  ·have hz1:((l.length:Int)==0)=true:=by rw[hz];rfl
   have hz2:decide ((l.length:Int)=0)=true:=by rw[hz];rfl
   (rw[w_plain (fn:=c3) rfl rfl (by simp only[go_sem,s1,hz1,hz2,aw]) rfl (by decide)];simp only[c3,c3_b,c3_r1,c3_r16,go_sem,s1,hz1,hz2,aw];repeat' ((first|rw[guardO_t]|rw[guardO_f]|rw[cw_bool]);split<;>rename_i h<;>(try rw[Bool.not_eq_true] at h)<;>(try simp only[go_sem,c3_r1,c3_r16,s1,hz1,hz2,aw, *])))
  ·have hz1:((l.length:Int)==0)=false:=by simpa using hz
   have hz2:decide ((l.length:Int)=0)=false:=by simpa using hz
   have hz3:((l.length:Int)=0)=False:=by simpa using hz
   have hp:0<l.length:=by omega
   have kw:IntKind.i64.wrap (k:Int)=(k:Int):=wrap_nat (by omega)
   have kr:(k:Int).tmod (l.length:Int)=((k % l.length:Nat):Int):=by rw[Int.tmod_eq_emod_of_nonneg (by omega)];omega
   have hn:k % l.length<l.length:=Nat.mod_lt _ hp
   generalize k % l.length=n at*
   have hi1:(n:Int)≤(l.length:Int):=by omega
   have hi0:(0:Int)≤(n:Int):=by omega
   have hdr:(l.map rDiag).take n=(l.take n).map rDiag:=List.map_take.symm
   have hdd:((l.map rDiag).take l.length).drop n=(l.drop n).map rDiag:=by rw[List.take_of_length_le (by simp)];exact List.map_drop.symm
   obtain ⟨g1,w1,p1,k1⟩:=growD_app S.obs S.own [] .exact [] (l.drop n) (.inl rfl) (by simp;omega)
   obtain ⟨g2,w2,p2,k2⟩:=growD_app S.obs S.own w1 g1 ([]++l.drop n) (l.take n) k1 (by simp;omega)
   simp only[List.map_append,List.map_nil,List.nil_append,List.append_nil] at p1 p2
   have pos:=allD_pos hp
   have l20:=allD_20 l
   have a1:=allP (ot:=ot) (oz:=oz) l hl
   have a2:=fun g T=>cal_tag1 (g:=g) (allP (ot:=ot) (oz:=oz) (l.drop n++l.take n) (by simp;omega) T) (plainLL_map fun x _=>rDiag_plain x)
   rw[allD_turn] at a2
   simp only[List.map_append] at a2
   have a3:=allP (ot:=ot) (oz:=oz) (allD l) (by omega)
   rw[allD_self] at a3
   have f0:=order_l0 (ot:=ot) (oz:=oz) l b1 hp
   have f1:=order_l1 (ot:=ot) (oz:=oz) (allD l) l20 pos (allD_strict l)
   have m1:=same_self (ot:=ot) (oz:=oz) (allD l) (by omega)
   have d1:decide ((0:Int)<((allD l).length:Int))=true:=decide_eq_true (by omega)
   have d2:decide (0<(allD l).length)=true:=decide_eq_true pos
   have cl:close S ⟨S.obs,S.own++w2⟩ (.bool true)=(.bool true,S):=by
    have:=close_junk S [] w2 (.bool true)
    rw[List.append_nil] at this
    rw[this];simp[sealW]
   generalize allD l=r at*
   generalize (⟨S.obs,S.own++w2⟩:St)=T2 at*
   generalize (⟨S.obs,S.own++w1⟩:St)=T1 at*
   (rw[w_plain (fn:=c3) rfl rfl (by simp only[go_sem,s1,hz1,hz2,hz3,kw,kr,hi1,hi0,hdr,hdd,p1,p2,a1,a2,a3,f0,f1,m1,d1,d2,cl,aw,Option.isSome_none,Option.isNone_none,Option.isSome_some,Option.isNone_some,Nat.min_self]) rfl (by decide)];simp only[c3,c3_b,c3_r1,c3_r16,go_sem,s1,hz1,hz2,hz3,kw,kr,hi1,hi0,hdr,hdd,p1,p2,a1,a2,a3,f0,f1,m1,d1,d2,cl,aw,Option.isSome_none,Option.isNone_none,Option.isSome_some,Option.isNone_some,Nat.min_self];repeat' ((first|rw[guardO_t]|rw[guardO_f]|rw[cw_bool]);split<;>rename_i h<;>(try rw[Bool.not_eq_true] at h)<;>(try simp only[go_sem,c3_r1,c3_r16,s1,hz1,hz2,hz3,kw,kr,hi1,hi0,hdr,hdd,p1,p2,a1,a2,a3,f0,f1,m1,d1,d2,cl,aw,Option.isSome_none,Option.isNone_none,Option.isSome_some,Option.isNone_some,Nat.min_self, *])))
theorem diagOrder (l:List GDiag) (k:Int) (ok:Short l.length∧ ∀ a∈l,OkDiag a) (okk:0≤k∧k≤255):Ev (env ot oz) 3 [.sl .ro (l.map rDiag),.int .u8 k] .none (.bool true) .none:=by
 obtain ⟨n,rfl⟩:=Int.eq_ofNat_of_zero_le okk.1
 exact cal_ev (order_ok (ot:=ot) (oz:=oz) l n (by omega) .none)
end
end Go.PE
