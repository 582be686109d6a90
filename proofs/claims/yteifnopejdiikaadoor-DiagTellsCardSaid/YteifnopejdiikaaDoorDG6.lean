/-
  All diagnoses, in order, each once: by the document; one more; are two lists the same. Conditions: each law's own.
-/
import Derived.Test.YteifnopejdiikaaDoorDG5
namespace Go.PE
open Go Go.RowKit Go.Proofs
set_option linter.unusedVariables false
set_option linter.unusedSimpArgs false
set_option maxRecDepth 100000
def posD (x:GDiag) (out:List GDiag):Nat:=out.findIdx fun y=> !(ahD y x)
theorem posD_le (x:GDiag) (out:List GDiag):posD x out≤out.length:=List.findIdx_le_length
theorem putO_pos (x:GDiag): ∀ out:List GDiag,putO ahD x out=if out[posD x out]?=some x then out else out.take (posD x out)++([x]++out.drop (posD x out))
 |[]=>by simp[putO,posD]
 |y::r=>by
  have ih:=putO_pos x r
  unfold putO
  unfold posD at ih ⊢
  rw[List.findIdx_cons]
  cases q:ahD y x with
  |true=>
   simp only[Bool.not_true,cond_false,if_true,List.getElem?_cons_succ,List.take_succ_cons,List.drop_succ_cons]
   rw[ih]
   split<;>simp
  |false=>
   simp only[Bool.not_false,cond_true,Bool.false_eq_true,if_false,List.getElem?_cons_zero,Option.some.injEq,List.take_zero,List.drop_zero]
   split<;>simp_all
theorem putO_len (x:GDiag) (out:List GDiag):(putO ahD x out).length≤out.length+1:=by
 rw[putO_pos]
 split
 ·omega
 ·have:=posD_le x out;simp;omega
section
variable {ot:TypeId} {oz:EP}
theorem r0_loop (l out:List GDiag) (i:Nat) (x:GDiag) (g:Tag) (hx:l[i]?=some x) (hl:l.length≤1000000000) (ho:out.length≤1000000000) (T:St): ∀ fin st,run (env ot oz) fin st c17_l0 [(0,some (.sl .ro (l.map rDiag))),(3,some (.sl g (out.map rDiag))),(4,some (.int .i64 (i:Int))),(5,some (.int .i64 0))] T=
  aft (env ot oz) fin st (.exit 2) [(0,some (.sl .ro (l.map rDiag))),(3,some (.sl g (out.map rDiag))),(4,some (.int .i64 (i:Int))),(5,some (.int .i64 (posD x out:Int))),(26,some (.bool false))] T:=fun fin st=>by
 have hil:(i:Int)<(l.length:Int):=by have:=getElem?_lt hx;omega
 have f0:=loopP (E:=(env ot oz)) (S:=T) (c:=c17_l0) out (by unfold Short maxLen;omega) (fun j=>[(0,some (.sl .ro (l.map rDiag))),(3,some (.sl g (out.map rDiag))),(4,some (.int .i64 (i:Int))),(5,some (.int .i64 (j:Int)))]) (fun y=> !(ahD y x)) fin st
  (fun j=>aft (env ot oz) fin st (.exit 2) [(0,some (.sl .ro (l.map rDiag))),(3,some (.sl g (out.map rDiag))),(4,some (.int .i64 (i:Int))),(5,some (.int .i64 (j:Int))),(26,some (.bool false))] T) (aft (env ot oz) fin st (.exit 2) [(0,some (.sl .ro (l.map rDiag))),(3,some (.sl g (out.map rDiag))),(4,some (.int .i64 (i:Int))),(5,some (.int .i64 (out.length:Int))),(26,some (.bool false))] T)
  (fun j y h1 h2 h3 h4 h5=>by
   have c:=aheadR (ot:=ot) (oz:=oz) y x
   simp only[Bool.not_eq_false'] at h5
   (rw[c17_l0_w];simp only[c17_l0_b,c17_l0_a,c17_r6,c17_r8,go_sem,h1,h3,h4,hx,hil,c,h5];repeat' ((first|rw[guardO_t]|rw[guardO_f]|rw[cw_bool]);split<;>rename_i h<;>(try rw[Bool.not_eq_true] at h)<;>(try simp only[go_sem,c17_r6,c17_r8,c17_l0_a,h1,h3,h4,hx,hil,c,h5, *]))))
  (fun j y h1 h2 h3 h4 h5=>by
   have c:=aheadR (ot:=ot) (oz:=oz) y x
   simp only[Bool.not_eq_true'] at h5
   (rw[c17_l0_w];simp only[c17_l0_b,c17_l0_a,c17_r6,c17_r8,go_sem,h1,h3,h4,hx,hil,c,h5];repeat' ((first|rw[guardO_t]|rw[guardO_f]|rw[cw_bool]);split<;>rename_i h<;>(try rw[Bool.not_eq_true] at h)<;>(try simp only[go_sem,c17_r6,c17_r8,c17_l0_a,h1,h3,h4,hx,hil,c,h5, *]))))
  (by (rw[c17_l0_w];simp only[c17_l0_b,c17_l0_a,c17_r6,c17_r8,go_sem,hx,hil];repeat' ((first|rw[guardO_t]|rw[guardO_f]|rw[cw_bool]);split<;>rename_i h<;>(try rw[Bool.not_eq_true] at h)<;>(try simp only[go_sem,c17_r6,c17_r8,c17_l0_a,hx,hil, *]))))
 simp only[Int.cast_ofNat_Int] at f0
 rw[f0]
 unfold posD
 cases q:out.any fun y=> !(ahD y x) with
 |true=>simp only[if_true]
 |false=>
  simp only[Bool.false_eq_true,if_false]
  have:out.findIdx (fun y=> !(ahD y x))=out.length:=by
   rw[List.findIdx_eq_length]
   intro y hy
   rw[List.any_eq_false] at q
   simpa using q y hy
  rw[this]
def rI (l:List GDiag) (S:St) (i:Nat) (out:List GDiag) (ts:Tmps) (T:St):Prop:= ∃ g w,ts=[(0,some (.sl .ro (l.map rDiag))),(3,some (.sl g (out.map rDiag))),(4,some (.int .i64 (i:Int)))]∧T=⟨S.obs,S.own++w⟩∧GrowD S.own w g out∧out.length≤i
theorem r1_loop (l:List GDiag) (hl:l.length≤1000000000) (S:St): ∃ g w,∀ fin st,run (env ot oz) fin st c17_l1 [(0,some (.sl .ro (l.map rDiag))),(3,some (.sl .null [])),(4,some (.int .i64 0))] S=
  aft (env ot oz) fin st (.exit 0) [(0,some (.sl .ro (l.map rDiag))),(3,some (.sl g ((allO ahD l).map rDiag))),(4,some (.int .i64 (l.length:Int))),(9,some (.bool false))] ⟨S.obs,S.own++w⟩:=by
 obtain ⟨ts,T,hI,hr⟩:=loopR (E:=(env ot oz)) (c:=c17_l1) l (by unfold Short maxLen;omega) (fun out d=>putO ahD d out) (rI l S)
  (fun i out x ts T h1 h2 h3 h4 hI=>by
   obtain ⟨g,w,rfl,rfl,hG,hle⟩:=hI
   have hil:=getElem?_lt h1
   have f0:=r0_loop (ot:=ot) (oz:=oz) l out i x g h1 hl (by omega) ⟨S.obs,S.own++w⟩
   have hp:=putO_pos x out
   have hpl:=putO_len x out
   have hk:=posD_le x out
   generalize posD x out=k at*
   by_cases hlt:k<out.length
   ·obtain ⟨y,hy⟩: ∃ y,out[k]?=some y:=⟨_,List.getElem?_eq_getElem hlt⟩
    have d1:=lt_yes hlt
    have d2:(k:Int)<(out.length:Int):=by omega
    have q:=eqD y x
    rw[hy] at hp
    cases hs:sameD y x with
    |true=>
     obtain rfl:=sameD_iff.1 hs
     rw[if_pos rfl] at hp
     rw[hp]
     refine ⟨_,_,⟨g,w,rfl,rfl,hG,by omega⟩,fun fin st=> ?_⟩
     (rw[c17_l1_w];simp only[c17_l1_b,c17_l1_a,c17_r6,c17_r8,go_sem,h1,h3,h4,f0,d1,d2,hy,↓q,hs];repeat' ((first|rw[guardO_t]|rw[guardO_f]|rw[cw_bool]);split<;>rename_i h<;>(try rw[Bool.not_eq_true] at h)<;>(try simp only[go_sem,c17_r6,c17_r8,c17_l1_a,h1,h3,h4,f0,d1,d2,hy,↓q,hs, *])))
    |false=>
     rw[if_neg (fun e=>by injection e with e;subst e;rw[sameD_iff.2 rfl] at hs;cases hs)] at hp
     obtain ⟨g1,w1,a1,k1⟩:=growD_app S.obs S.own w .exact [] (out.take k) (.inl rfl) (by simp;omega)
     obtain ⟨g2,w2,a2,k2⟩:=growD_app S.obs S.own w1 g1 ([]++out.take k) [x] k1 (by simp;omega)
     obtain ⟨g3,w3,a3,k3⟩:=growD_app S.obs S.own w2 g2 ([]++out.take k++[x]) (out.drop k) k2 (by simp;omega)
     rw[hp]
     rw[List.nil_append,List.append_assoc] at k3
     refine ⟨_,_,⟨g3,w3,rfl,rfl,k3,by rw[←hp];omega⟩,fun fin st=> ?_⟩
     simp only[List.map_append,List.map_cons,List.map_nil,List.append_assoc,List.cons_append,List.nil_append] at a1 a2 a3 ⊢
     have hdr:(out.map rDiag).take k=(out.take k).map rDiag:=List.map_take.symm
     have hdd:((out.map rDiag).take out.length).drop k=(out.drop k).map rDiag:=by rw[List.take_of_length_le (by simp)];exact List.map_drop.symm
     have hi2:(k:Int)≤(out.length:Int):=by omega
     (rw[c17_l1_w];simp only[c17_l1_b,c17_l1_a,c17_r6,c17_r8,go_sem,h1,h3,h4,f0,d1,d2,hy,↓q,hs,a1,a2,a3,hdr,hdd,hi2,Option.isSome_none,Option.isNone_none,Option.isSome_some,Option.isNone_some,Nat.min_self];repeat' ((first|rw[guardO_t]|rw[guardO_f]|rw[cw_bool]);split<;>rename_i h<;>(try rw[Bool.not_eq_true] at h)<;>(try simp only[go_sem,c17_r6,c17_r8,c17_l1_a,h1,h3,h4,f0,d1,d2,hy,↓q,hs,a1,a2,a3,hdr,hdd,hi2,Option.isSome_none,Option.isNone_none,Option.isSome_some,Option.isNone_some,Nat.min_self, *])))
   ·have d1:=lt_no (Nat.le_of_not_lt hlt)
    have hn:out[k]?=none:=List.getElem?_eq_none (by omega)
    rw[hn,if_neg (by simp)] at hp
    obtain ⟨g1,w1,a1,k1⟩:=growD_app S.obs S.own w .exact [] (out.take k) (.inl rfl) (by simp;omega)
    obtain ⟨g2,w2,a2,k2⟩:=growD_app S.obs S.own w1 g1 ([]++out.take k) [x] k1 (by simp;omega)
    obtain ⟨g3,w3,a3,k3⟩:=growD_app S.obs S.own w2 g2 ([]++out.take k++[x]) (out.drop k) k2 (by simp;omega)
    rw[hp]
    rw[List.nil_append,List.append_assoc] at k3
    refine ⟨_,_,⟨g3,w3,rfl,rfl,k3,by rw[←hp];omega⟩,fun fin st=> ?_⟩
    simp only[List.map_append,List.map_cons,List.map_nil,List.append_assoc,List.cons_append,List.nil_append] at a1 a2 a3 ⊢
    have hdr:(out.map rDiag).take k=(out.take k).map rDiag:=List.map_take.symm
    have hdd:((out.map rDiag).take out.length).drop k=(out.drop k).map rDiag:=by rw[List.take_of_length_le (by simp)];exact List.map_drop.symm
    have hi2:(k:Int)≤(out.length:Int):=by omega
    (rw[c17_l1_w];simp only[c17_l1_b,c17_l1_a,c17_r6,c17_r8,go_sem,h1,h3,h4,f0,d1,a1,a2,a3,hdr,hdd,hi2,Option.isSome_none,Option.isNone_none,Option.isSome_some,Option.isNone_some,Nat.min_self];repeat' ((first|rw[guardO_t]|rw[guardO_f]|rw[cw_bool]);split<;>rename_i h<;>(try rw[Bool.not_eq_true] at h)<;>(try simp only[go_sem,c17_r6,c17_r8,c17_l1_a,h1,h3,h4,f0,d1,a1,a2,a3,hdr,hdd,hi2,Option.isSome_none,Option.isNone_none,Option.isSome_some,Option.isNone_some,Nat.min_self, *])))) [] _ S ⟨.null,[],rfl,by simp,.inr (.inl ⟨rfl,rfl⟩),by simp⟩
 obtain ⟨g,w,rfl,rfl,_,_⟩:=hI
 refine ⟨g,w,fun fin st=> ?_⟩
 have:=hr fin st
 simp only[Int.cast_ofNat_Int,List.map_nil] at this
 rw[this]
 unfold allO
 (rw[c17_l1_w];simp only[c17_l1_b,c17_l1_a,c17_r6,c17_r8,go_sem];repeat' ((first|rw[guardO_t]|rw[guardO_f]|rw[cw_bool]);split<;>rename_i h<;>(try rw[Bool.not_eq_true] at h)<;>(try simp only[go_sem,c17_r6,c17_r8,c17_l1_a, *])))
theorem allO_len (l:List GDiag):(allO ahD l).length≤l.length:=by
 have key: ∀ (l o:List GDiag),(l.foldl (fun o x=>putO ahD x o) o).length≤o.length+l.length:=by
  intro l
  induction l with
  |nil=>intro o;simp
  |cons a l ih=>intro o;have:=ih (putO ahD a o);have:=putO_len a o;rw[List.foldl_cons,List.length_cons];omega
 have:=key l []
 unfold allO;simpa using this
theorem all24 (l:List GDiag) (hl:l.length≤1000000000) (S:St):cal (env ot oz) 17 [.sl .ro (l.map rDiag)] S=some (.sl .ro ((allD l).map rDiag),S):=by
 obtain ⟨g,w,f⟩:=r1_loop (ot:=ot) (oz:=oz) l hl S
 have hlen:=allO_len l
 unfold allD
 generalize allO ahD l=xs at*
 by_cases h:20<xs.length
 ·have d1:decide ((20:Int)<(xs.length:Int))=true:=decide_eq_true (by omega)
  have hi2:(20:Int)≤(xs.length:Int):=by omega
  have hdr:(xs.map rDiag).take 20=(xs.take 20).map rDiag:=List.map_take.symm
  have cl:=fun g'=>growD_close S S.obs.tail w g' (xs.take 20)
  have cl2: ∀ g',close S ⟨S.obs,S.own++w⟩ (.sl g' ((xs.take 20).map rDiag))=(.sl .ro ((xs.take 20).map rDiag),S):=fun g'=>by have:=growD_close S [] w g' (xs.take 20);simpa using this
  generalize (⟨S.obs,S.own++w⟩:St)=T at*
  (rw[w_plain (fn:=c17) rfl rfl (by simp only[go_sem,f,d1,hi2,hdr,cl2,Option.isSome_none,Option.isNone_none,Option.isSome_some,Option.isNone_some,Nat.min_self]) rfl (by decide)];simp only[c17,c17_b,c17_r6,c17_r8,go_sem,f,d1,hi2,hdr,cl2,Option.isSome_none,Option.isNone_none,Option.isSome_some,Option.isNone_some,Nat.min_self];repeat' ((first|rw[guardO_t]|rw[guardO_f]|rw[cw_bool]);split<;>rename_i h<;>(try rw[Bool.not_eq_true] at h)<;>(try simp only[go_sem,c17_r6,c17_r8,f,d1,hi2,hdr,cl2,Option.isSome_none,Option.isNone_none,Option.isSome_some,Option.isNone_some,Nat.min_self, *])))
 ·have d1:decide ((20:Int)<(xs.length:Int))=false:=decide_eq_false (by omega)
  rw[List.take_of_length_le (by omega)]
  have cl2:close S ⟨S.obs,S.own++w⟩ (.sl g (xs.map rDiag))=(.sl .ro (xs.map rDiag),S):=by have:=growD_close S [] w g xs;simpa using this
  generalize (⟨S.obs,S.own++w⟩:St)=T at*
  (rw[w_plain (fn:=c17) rfl rfl (by simp only[go_sem,f,d1,cl2]) rfl (by decide)];simp only[c17,c17_b,c17_r6,c17_r8,go_sem,f,d1,cl2];repeat' ((first|rw[guardO_t]|rw[guardO_f]|rw[cw_bool]);split<;>rename_i h<;>(try rw[Bool.not_eq_true] at h)<;>(try simp only[go_sem,c17_r6,c17_r8,f,d1,cl2, *])))
theorem rDiag_lds {G:Glob} {call:CallFn} {ts:Tmps} {S0 S1:St} {n:Option Nat} {r:List EI} {v:PV} {b:Bool} {d:GDiag} (h:look ts 3=some (.at_ (rDiag d))):
  stepO G call n ⟨.lds [(some 3,.tmp 3)],b⟩ r ts S0 (some (v,S1))=evOps G call r (put ts n (some v)) S1:=by
 have e:(rDiag d).take 3=rDiag d:=List.take_of_length_le (by rw[rDiag_len];omega)
 refine stepO_lds ⟨⟨.agg (rDiag d), ?_, ?_⟩,trivial⟩<;>
  simp only[rdE,EOpd.val,h,Option.bind_some,derefP,rowOf,rDiag_len,Nat.le_refl,if_true,e]
theorem add24 (l:List GDiag) (x:GDiag) (hl:l.length≤999999999) (S:St):cal (env ot oz) 18 [.sl .ro (l.map rDiag),.agg (rDiag x)] S=some (.sl .ro ((allD (l++[x])).map rDiag),S):=by
 obtain ⟨g1,w1,a1,k1⟩:=growD_app S.obs S.own [] .exact [] l (.inl rfl) (by simp;omega)
 obtain ⟨g2,w2,a2,k2⟩:=growD_app S.obs S.own w1 g1 ([]++l) [x] k1 (by simp;omega)
 have c:=all24 (ot:=ot) (oz:=oz) (l++[x]) (by simp;omega)
 have c': ∀ g T,cal (env ot oz) 17 [.sl g ((l++[x]).map rDiag)] T=some (.sl .ro ((allD (l++[x])).map rDiag),T):=fun g T=>cal_tag1 (c T) (plainLL_map fun x _=>rDiag_plain x)
 simp only[List.map_append,List.map_cons,List.map_nil,List.nil_append,List.append_nil] at a1 a2 c'
 have cl:=growD_close S [] w2 .ro (allD (l++[x]))
 simp only[List.append_nil] at cl
 generalize allD (l++[x])=r at*
 (rw[w_plain (fn:=c18) rfl rfl (by simp only[go_sem,a1,a2,c',cl,rDiag_lds (d:=x)]) rfl (by decide)];simp only[c18,c18_b,go_sem,a1,a2,c',cl,rDiag_lds (d:=x)];repeat' ((first|rw[guardO_t]|rw[guardO_f]|rw[cw_bool]);split<;>rename_i h<;>(try rw[Bool.not_eq_true] at h)<;>(try simp only[go_sem,a1,a2,c',cl,rDiag_lds (d:=x), *])))
theorem cloneK (l:List GDiag) (hl:l.length≤1000000000) (S:St): ∃ g' w',cal (env ot oz) 24 [.sl .ro (l.map rDiag)] S=some (.sl g' (l.map rDiag),⟨S.obs,S.own++w'⟩)∧GrowD S.own w' g' l:=by
 have ha:askD [.sl .ro (l.map rDiag)]=some [.sl .ro (l.map rDiag)]:=by simp only[go_sem]
 rw[cal_known (F:=clF) rfl (args':=[.sl .ro (l.map rDiag)]) ha]
 unfold clF
 rw[ha]
 cases l with
 |nil=>exact ⟨.exact,[],by simp,.inl rfl⟩
 |cons x l=>
  obtain ⟨g1,w1,a1,k1⟩:=growD_app S.obs S.own [] .exact [] (x::l) (.inl rfl) (by simp at hl ⊢;omega)
  refine ⟨g1,w1, ?_,k1⟩
  simp only[List.append_nil,List.map_nil,List.nil_append] at a1
  simpa using a1
theorem addD (l:List GDiag) (x:GDiag) (hl:l.length≤999999999) (S:St):cal (env ot oz) 8 [.sl .ro (l.map rDiag),.agg (rDiag x)] S=some (.sl .ro ((allD (l++[x])).map rDiag),S):=by
 obtain ⟨g1,w1,a1,k1⟩:=cloneK (ot:=ot) (oz:=oz) l (by omega) S
 obtain ⟨g2,w2,a2,k2⟩:=growD_app S.obs S.own w1 g1 l [x] k1 (by simp;omega)
 have c:=allP (ot:=ot) (oz:=oz) (l++[x]) (by simp;omega)
 have c': ∀ g T,cal (env ot oz) 7 [.sl g ((l++[x]).map rDiag)] T=some (.sl .ro ((allD (l++[x])).map rDiag),T):=fun g T=>cal_tag1 (c T) (plainLL_map fun x _=>rDiag_plain x)
 simp only[List.map_append,List.map_cons,List.map_nil,List.nil_append,List.append_nil] at a1 a2 c'
 have cl:=growD_close S [] w2 .ro (allD (l++[x]))
 simp only[List.append_nil] at cl
 generalize allD (l++[x])=r at*
 (rw[w_plain (fn:=c8) rfl rfl (by simp only[go_sem,a1,a2,c',cl,rDiag_lds (d:=x)]) rfl (by decide)];simp only[c8,c8_b,go_sem,a1,a2,c',cl,rDiag_lds (d:=x)];repeat' ((first|rw[guardO_t]|rw[guardO_f]|rw[cw_bool]);split<;>rename_i h<;>(try rw[Bool.not_eq_true] at h)<;>(try simp only[go_sem,a1,a2,c',cl,rDiag_lds (d:=x), *])))
end
end Go.PE
