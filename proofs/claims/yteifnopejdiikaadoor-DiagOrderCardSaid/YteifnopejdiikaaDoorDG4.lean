/-
  slices.Compact over diagnoses, whole. Conditions: each law's own.
-/
import Derived.Test.YteifnopejdiikaaDoorDG3
namespace Go.PE
open Go Go.RowKit Go.Proofs
set_option linter.unusedVariables false
set_option linter.unusedSimpArgs false
set_option maxRecDepth 100000
theorem cmpO_snoc {α:Type} [DecidableEq α]: ∀ (b:List α) (p y:α),b.getLast?=some p→cmpO (b++[y])=cmpO b++(if p=y then [] else [y])
 |[],p,y,h=>by simp at h
 |[x],p,y,h=>by
  simp at h;subst h
  simp only[List.cons_append,List.nil_append,cmpO]
  split<;>simp_all
 |x::z::r,p,y,h=>by
  have ih:=cmpO_snoc (z::r) p y (by simpa using h)
  simp only[List.cons_append] at ih ⊢
  rw[cmpO,cmpO]
  split
  ·exact ih
  ·rw[ih];rfl
theorem cmpO_take {xs:List GDiag} {m:Nat} {x y:GDiag} (hx:xs[m]?=some x) (hy:xs[m - 1]?=some y) (h0:1≤m):cmpO (xs.take (m+1))=cmpO (xs.take m)++(if sameD x y then [] else [x]):=by
 have h1:xs.take (m+1)=xs.take m++[x]:=by rw[List.take_add_one,hx];rfl
 have hm:=getElem?_lt hx
 have h2:(xs.take m).getLast?=some y:=by
  rw[List.getLast?_eq_getElem?,List.length_take,Nat.min_eq_left (by omega),List.getElem?_take,if_pos (by omega)];exact hy
 rw[h1,cmpO_snoc _ y x h2]
 by_cases e:y=x
 ·subst e
  rw[if_pos rfl,if_pos (sameD_iff.2 rfl)]
 ·rw[if_neg e,if_neg (fun h=>e (sameD_iff.1 h).symm)]
theorem cmpO_le {α:Type} [DecidableEq α]: ∀ l:List α,(cmpO l).length≤l.length
 |[]=>by simp[cmpO]
 |[x]=>by simp[cmpO]
 |x::y::r=>by
  have:=cmpO_le (y::r)
  unfold cmpO
  split<;>simp at* <;>omega
def RW (T:St) (l:Nat) (t:TypeId) (Y:List GDiag):St:={T with obs:=T.obs.set l (.row t (Y.flatMap rDiag))}
theorem RW_get {T:St} {l:Nat} {t:TypeId} {Y:List GDiag} (h:l<T.obs.length):(RW T l t Y).obs[l]?=some (.row t (Y.flatMap rDiag)):=by
 simp[RW,h]
theorem RW_set {T:St} {l:Nat} {t:TypeId} {Y:List GDiag} (cs:List PV):(⟨(RW T l t Y).obs.set l (.row t cs),(RW T l t Y).own⟩:St)=⟨T.obs.set l (.row t cs),T.own⟩:=by
 simp[RW]
section
variable {ot:TypeId} {oz:EP}
theorem c0_all (l n k0:Nat) (t:TypeId) (xs:List GDiag) (hx:xs.length=n) (hn:n≤1000000000) (T:St) (hl:l<T.obs.length): ∀ (d m k:Nat) (Y:List GDiag),m+d=n→k0+1≤m→Y.length=n→k+1≤m→Y.take k=cmpO (xs.take m)→Y.drop k=xs.drop k→
  ∃ (Y':List GDiag),Y'.length=n∧Y'.take (cmpO xs).length=cmpO xs∧(cmpO xs).length+1≤n∧ ∀ fin st,
   run (env ot oz) fin st c23_l0 [(0,some (.msl l 0 n 3)),(3,some (.int .i64 (k:Int))),(4,some (.msl l (k0*3) (n - k0) 3)),(5,some (.int .i64 ((m - k0:Nat):Int)))] (RW T l t Y)=
    aft (env ot oz) fin st (.exit 2) [(0,some (.msl l 0 n 3)),(3,some (.int .i64 ((cmpO xs).length:Int))),(4,some (.msl l (k0*3) (n - k0) 3)),(5,some (.int .i64 ((n - k0:Nat):Int))),(32,some (.bool false))] (RW T l t Y'):=by
 intro d
 induction d with
 |zero=>
  intro m k Y hm h0 hY hk ht hd
  obtain rfl:m=n:=by omega
  have e:xs.take m=xs:=List.take_of_length_le (by omega)
  rw[e] at ht
  have hlen:(cmpO xs).length=k:=by rw[←ht,List.length_take];omega
  refine ⟨Y,hY,by rw[hlen];exact ht,by rw[hlen];omega,fun fin st=> ?_⟩
  rw[c0_end,hlen]
 |succ d ih=>
  intro m k Y hm h0 hY hk ht hd
  have hmn:m<xs.length:=by omega
  obtain ⟨x,hxm⟩: ∃ x,xs[m]?=some x:=⟨_,List.getElem?_eq_getElem hmn⟩
  obtain ⟨y,hym⟩: ∃ y,xs[m - 1]?=some y:=⟨_,List.getElem?_eq_getElem (show m - 1<xs.length by omega)⟩
  have same: ∀ j,k≤j→Y[j]?=xs[j]?:=fun j hj=>by
   have:=congrArg (fun z:List GDiag=>z[j - k]?) hd
   simp only[List.getElem?_drop] at this
   rw[show k+(j - k)=j by omega] at this;exact this
  have hY1:=(same m (by omega)).trans hxm
  have hY2:=(same (m - 1) (by omega)).trans hym
  have ct:=cmpO_take hxm hym (by omega)
  have g:=RW_get (T:=T) (l:=l) (t:=t) (Y:=Y) hl
  cases hs:sameD x y with
  |true=>
   rw[hs,if_pos rfl,List.append_nil] at ct
   obtain ⟨Y',r1,r2,r3,r4⟩:=ih (m+1) k Y (by omega) (by omega) hY (by omega) (by rw[ct];exact ht) hd
   refine ⟨Y',r1,r2,r3,fun fin st=> ?_⟩
   rw[c0_same l n k0 k m x y t _ _ g h0 (by omega) hn (cells_at hY1) (cells_at hY2) hs]
   exact r4 fin st
  |false=>
   rw[hs] at ct
   simp only[Bool.false_eq_true,if_false] at ct
   have hYl:(Y.set k x).take (k+1)=Y.take k++[x]:=by
    rw[List.take_add_one,List.getElem?_set_self (by omega),List.take_set_of_le (Nat.le_refl k)];rfl
   have hYd:(Y.set k x).drop (k+1)=xs.drop (k+1):=by
    rw[List.drop_set_of_lt (by omega)]
    have:=congrArg (List.drop 1) hd
    simpa [List.drop_drop] using this
   obtain ⟨Y',r1,r2,r3,r4⟩:=ih (m+1) (k+1) (Y.set k x) (by omega) (by omega) (by simpa using hY) (by omega) (by rw[hYl,ht,ct]) hYd
   refine ⟨Y',r1,r2,r3,fun fin st=> ?_⟩
   rw[c0_other l n k0 k m x y t _ _ g h0 (by omega) (by omega) hn (cells_at hY1) (cells_at hY2) (by rw[dflat_len];omega) hs,RW_set,set_cells Y k x (by omega)]
   exact r4 fin st
def zD:List PV:=[.str ⟨#[]⟩,.int .i64 0,.int .i64 0]
theorem c1_hit (l n i:Nat) (t:TypeId) (xs:List GDiag) (x y:GDiag) (hx:xs.length=n) (hn:n≤1000000000) (T:St) (hl:l<T.obs.length) (h0:1≤i) (hi:i<n) (hxm:xs[i]?=some x) (hym:xs[i - 1]?=some y) (hs:sameD x y=true) (hc:cmpO (xs.take i)=xs.take i):
  ∃ zs,zs.length=(n - (cmpO xs).length)*3∧ ∀ fin st,run (env ot oz) fin st c23_l1 [(0,some (.msl l 0 n 3)),(3,some (.int .i64 (i:Int)))] (RW T l t xs)=
   aft (env ot oz) fin st .ret [(2,some (.msl l 0 (cmpO xs).length 3))] {T with obs:=T.obs.set l (.row t ((cmpO xs).flatMap rDiag++zs))}:=by
 have ct:=cmpO_take hxm hym h0
 rw[hs,if_pos rfl,List.append_nil] at ct
 obtain ⟨Y,r1,r2,r3,r4⟩:=c0_all (ot:=ot) (oz:=oz) l n i t xs hx hn T hl (n - (i+1)) (i+1) i xs (by omega) (Nat.le_refl _) hx (Nat.le_refl _) (by rw[ct,hc]) rfl
 generalize hK:(cmpO xs).length=K at*
 refine ⟨repRow zD (n - K), ?_,fun fin st=> ?_⟩
 ·have: ∀ j,(repRow zD j).length=j*3:=fun j=>by
   induction j with
   |zero=>rfl
   |succ j ih=>rw[repRow,List.length_append,ih];simp[zD];omega
  exact this _
 have lt:=lt_yes hi
 have w1:IntKind.i64.wrap ((i:Int) - 1)=((i - 1:Nat):Int):=by rw[wrap64 (by omega) (by omega)];omega
 have b1:(i:Int)<(n:Int):=by omega
 have b2:((i - 1:Nat):Int)<(n:Int):=by omega
 have b3:(i:Int)≤(n:Int):=by omega
 have b4:(K:Int)≤(n:Int):=by omega
 have e1:i+1 - i=1:=by omega
 rw[e1] at r4
 simp only[cast_1] at r4
 have q:=eqD x y
 have hT:=RW_get (T:=T) (l:=l) (t:=t) (Y:=xs) hl
 have hT2:=RW_get (T:=T) (l:=l) (t:=t) (Y:=Y) hl
 obtain ⟨x1,x2⟩:=cells_at hxm
 obtain ⟨y1,y2⟩:=cells_at hym
 have hr:setRow (Y.flatMap rDiag) (K*3) (repRow zD (n - K))=(cmpO xs).flatMap rDiag++repRow zD (n - K):=by
  have hz: ∀ j,(repRow zD j).length=j*3:=fun j=>by
   induction j with
   |zero=>rfl
   |succ j ih=>rw[repRow,List.length_append,ih];simp[zD];omega
  have e2:Y.flatMap rDiag=(Y.take K).flatMap rDiag++(Y.drop K).flatMap rDiag:=by rw[←List.flatMap_append,List.take_append_drop]
  have e3:((Y.take K).flatMap rDiag).length=K*3:=by rw[dflat_len,List.length_take];omega
  have e4:((Y.drop K).flatMap rDiag).length=(n - K)*3:=by rw[dflat_len,List.length_drop,r1]
  rw[setRow_spec _ _ _ (by rw[hz,dflat_len,r1];omega),hz,e2,List.take_left' e3,List.drop_eq_nil_of_le (by rw[List.length_append,e3,e4];omega),r2,List.append_nil]
 have st2:=RW_set (T:=T) (l:=l) (t:=t) (Y:=Y) ((cmpO xs).flatMap rDiag++repRow zD (n - K))
 have p1:0<n - K:=by omega
 have p2:K*3+(n - K)*3≤(Y.flatMap rDiag).length:=by rw[dflat_len,r1];omega
 generalize Y.flatMap rDiag=cs2 at*
 generalize xs.flatMap rDiag=cs at*
 generalize RW T l t xs=T1 at*
 generalize RW T l t Y=T2 at*
 unfold zD at*
 (rw[c23_l1_w];simp only[c23_l1_b,c23_l1_a,go_sem,hT,hT2,lt,w1,b1,b2,b3,b4,x1,x2,y1,y2,↓q,hs,r4,hr,st2,p1,p2,Nat.sub_zero];repeat' ((first|rw[guardO_t]|rw[guardO_f]|rw[cw_bool]);split<;>rename_i h<;>(try rw[Bool.not_eq_true] at h)<;>(try simp only[go_sem,c23_l1_a,hT,hT2,lt,w1,b1,b2,b3,b4,x1,x2,y1,y2,↓q,hs,r4,hr,st2,p1,p2,Nat.sub_zero, *])))
theorem c1_all (l n:Nat) (t:TypeId) (xs:List GDiag) (hx:xs.length=n) (hn:n≤1000000000) (T:St) (hl:l<T.obs.length): ∀ (d i:Nat),i+d=n→1≤i→cmpO (xs.take i)=xs.take i→
  (cmpO xs=xs∧ ∀ fin st,run (env ot oz) fin st c23_l1 [(0,some (.msl l 0 n 3)),(3,some (.int .i64 (i:Int)))] (RW T l t xs)=aft (env ot oz) fin st (.exit 0) [(0,some (.msl l 0 n 3)),(3,some (.int .i64 (n:Int))),(13,some (.bool false))] (RW T l t xs))∨
  ∃ zs,zs.length=(n - (cmpO xs).length)*3∧ ∀ fin st,run (env ot oz) fin st c23_l1 [(0,some (.msl l 0 n 3)),(3,some (.int .i64 (i:Int)))] (RW T l t xs)=
   aft (env ot oz) fin st .ret [(2,some (.msl l 0 (cmpO xs).length 3))] {T with obs:=T.obs.set l (.row t ((cmpO xs).flatMap rDiag++zs))}:=by
 intro d
 induction d with
 |zero=>
  intro i hi h0 hc
  obtain rfl:i=n:=by omega
  rw[List.take_of_length_le (by omega)] at hc
  exact .inl ⟨hc,fun fin st=>c1_end l i _ fin st⟩
 |succ d ih=>
  intro i hi h0 hc
  have hin:i<xs.length:=by omega
  obtain ⟨x,hxm⟩: ∃ x,xs[i]?=some x:=⟨_,List.getElem?_eq_getElem hin⟩
  obtain ⟨y,hym⟩: ∃ y,xs[i - 1]?=some y:=⟨_,List.getElem?_eq_getElem (show i - 1<xs.length by omega)⟩
  cases hs:sameD x y with
  |true=>exact .inr (c1_hit l n i t xs x y hx hn T hl h0 (by omega) hxm hym hs hc)
  |false=>
   have ct:=cmpO_take hxm hym h0
   rw[hs,hc] at ct
   simp only[Bool.false_eq_true,if_false] at ct
   have e:xs.take (i+1)=xs.take i++[x]:=by rw[List.take_add_one,hxm];rfl
   have step:=c1_step (ot:=ot) (oz:=oz) l n i x y t _ _ (RW_get (T:=T) (l:=l) (t:=t) (Y:=xs) hl) h0 (by omega) hn (cells_at hxm) (cells_at hym) hs
   rcases ih (i+1) (by omega) (by omega) (by rw[ct,e]) with ⟨h1,h2⟩|⟨zs,h1,h2⟩
   ·exact .inl ⟨h1,fun fin st=>(step fin st).trans (h2 fin st)⟩
   ·exact .inr ⟨zs,h1,fun fin st=>(step fin st).trans (h2 fin st)⟩
theorem set_self {T:St} {l:Nat} {ob:Ob} (h:T.obs[l]?=some ob):(⟨T.obs.set l ob,T.own⟩:St)=T:=by
 have:T.obs.set l ob=T.obs:=by
  apply List.ext_getElem?
  intro j
  rw[List.getElem?_set]
  split
  ·rename_i e;subst e;split
   ·exact h.symm
   ·rename_i hh;exact absurd (getElem?_lt h) hh
  ·rfl
 rw[this]
theorem close_set (T:St) {l:Nat} (hl:l<T.obs.length) (ob:Ob) (a b c:Nat):close T ⟨T.obs.set l ob,T.own⟩ (.msl l a b c)=(.msl l a b c,⟨T.obs.set l ob,T.own⟩):=by
 by_cases h:(beqO ((T.obs.set l ob).take T.obs.length) T.obs&&T.own.take T.own.length==T.own)=true
 ·have e:=beqO_sound (by simp only[Bool.and_eq_true] at h;exact h.1)
  rw[List.take_of_length_le (by simp)] at e
  simp only[e]
  show close T T _=_
  unfold close
  simp only[beqO_refl,List.take_length,beq_self_eq_true,Bool.and_self,if_true,sealW,hl]
 ·unfold close
  simp only[h,Bool.false_eq_true,if_false]
theorem compactD (l:Nat) (t:TypeId) (xs:List GDiag) (T:St) (hT:T.obs[l]?=some (.row t (xs.flatMap rDiag))) (hne:xs≠[]) (hn:xs.length≤1000000000):
  ∃ zs,cal (env ot oz) 23 [.msl l 0 xs.length 3] T=some (.msl l 0 (cmpO xs).length 3,⟨T.obs.set l (.row t ((cmpO xs).flatMap rDiag++zs)),T.own⟩):=by
 have hl:=getElem?_lt hT
 have hs:=set_self hT
 have cs:=fun ob a b c=>close_set T hl ob a b c
 have h0:1≤xs.length:=by cases xs;exact absurd rfl hne;simp
 have e0:RW T l t xs=T:=hs
 by_cases h1:xs.length<2
 ·have e1:cmpO xs=xs:=by
   match xs,h0,h1 with
   |[x],_,_=>rfl
  refine ⟨[], ?_⟩
  rw[e1,List.append_nil,hs]
  have d1:decide ((xs.length:Int)<2)=true:=decide_eq_true (by omega)
  have cl:close T T (.msl l 0 xs.length 3)=(.msl l 0 xs.length 3,T):=by have:=cs (.row t (xs.flatMap rDiag)) 0 xs.length 3;rwa[hs] at this
  (rw[w_plain (fn:=c23) rfl rfl (by simp only[go_sem,d1,cl]) rfl (by decide)];simp only[c23,c23_b,go_sem,d1,cl];repeat' ((first|rw[guardO_t]|rw[guardO_f]|rw[cw_bool]);split<;>rename_i h<;>(try rw[Bool.not_eq_true] at h)<;>(try simp only[go_sem,d1,cl, *])))
 ·have d1:decide ((xs.length:Int)<2)=false:=decide_eq_false (by omega)
  rcases c1_all (ot:=ot) (oz:=oz) l xs.length t xs rfl hn T hl (xs.length - 1) 1 (by omega) (Nat.le_refl _) (by cases xs;exact absurd rfl hne;rfl) with ⟨h2,f⟩|⟨zs,_,f⟩
  ·refine ⟨[], ?_⟩
   rw[h2,List.append_nil,hs]
   rw[e0] at f
   simp only[cast_1] at f
   have cl:close T T (.msl l 0 xs.length 3)=(.msl l 0 xs.length 3,T):=by have:=cs (.row t (xs.flatMap rDiag)) 0 xs.length 3;rwa[hs] at this
   (rw[w_plain (fn:=c23) rfl rfl (by simp only[go_sem,d1,f,cl]) rfl (by decide)];simp only[c23,c23_b,go_sem,d1,f,cl];repeat' ((first|rw[guardO_t]|rw[guardO_f]|rw[cw_bool]);split<;>rename_i h<;>(try rw[Bool.not_eq_true] at h)<;>(try simp only[go_sem,d1,f,cl, *])))
  ·refine ⟨zs, ?_⟩
   rw[e0] at f
   simp only[cast_1] at f
   generalize (cmpO xs).flatMap rDiag++zs=cs2 at*
   generalize (cmpO xs).length=K at*
   (rw[w_plain (fn:=c23) rfl rfl (by simp only[go_sem,d1,f,cs]) rfl (by decide)];simp only[c23,c23_b,go_sem,d1,f,cs];repeat' ((first|rw[guardO_t]|rw[guardO_f]|rw[cw_bool]);split<;>rename_i h<;>(try rw[Bool.not_eq_true] at h)<;>(try simp only[go_sem,d1,f,cs, *])))
end
end Go.PE
