/-
  More fuel does no harm; closed calls are settled by evaluation. Conditions: each law's own.
-/
import Derived.Test.YteifnopejdiikaaDoorPE17
namespace Go.PE
open Go Go.RowKit
set_option linter.unusedVariables false
set_option linter.unusedSimpArgs false
def CallLe (c d:CallFn):Prop:= ∀ f a S x,c f a S=some x→d f a S=some x
def Excl (d q:CallFn):Prop:= ∀ f a S x y,q f a S=some x→d f a S=some y→False
theorem evOp_mono {G:Glob} {c d:CallFn} (h:CallLe c d) {ts:Tmps} {S:St} {e:EOp} {x:PV×St} (hv:evOp G c ts S e=some x):evOp G d ts S e=some x:=by
 cases e with
 |call f args=>
  simp only[evOp] at hv ⊢
  split at hv
  ·exact h _ _ _ _ hv
  ·exact h _ _ _ _ hv
  ·cases hv
 |callM f args=>
  simp only[evOp] at hv ⊢
  split at hv
  ·exact h _ _ _ _ hv
  ·cases hv
 |_=>exact hv
theorem evOps_mono {G:Glob} {c d:CallFn} (h:CallLe c d): ∀ {l:List EI} {ts:Tmps} {S:St} {x:Tmps×St},evOps G c l ts S=some x→evOps G d l ts S=some x
 |[],ts,S,x,hv=>hv
 |i::r,ts,S,x,hv=>by
  simp only[evOps] at hv ⊢
  split at hv
  ·split at hv
   ·rename_i v S' he
    rw[evOp_mono h he]
    simp only
    split at hv
    ·cases hv
    ·rename_i hq
     rw[if_neg hq]
     exact evOps_mono h hv
   ·cases hv
  ·exact evOps_mono h hv
  ·cases hv
theorem panOp_mono {G:Glob} {p q:CallFn} (h:CallLe p q) {ts:Tmps} {S:St} {e:EOp} {x:PV×St} (hv:panOp G p ts S e=some x):panOp G q ts S e=some x:=by
 cases e with
 |call f args=>
  simp only[panOp] at hv ⊢
  split at hv
  ·exact h _ _ _ _ hv
  ·cases hv
 |_=>exact hv
theorem panOp_no {G:Glob} {d q:CallFn} (h:Excl d q) {ts:Tmps} {S:St} {e:EOp} {x:PV×St} (hv:panOp G q ts S e=some x):evOp G d ts S e=none:=by
 cases e with
 |call f args=>
  simp only[panOp] at hv
  simp only[evOp]
  split at hv
  ·rename_i g first caps vs h1 h2
   cases hd:d g (first++vs++caps) S with
   |none=>simp only[h1,h2,hd]
   |some y=>exact (h _ _ _ _ _ hv hd).elim
  ·cases hv
 |pnc x=>rfl
 |_=>simp[panOp] at hv
theorem evPan_mono {G:Glob} {c d p q:CallFn} (h:CallLe c d) (hp:CallLe p q) (hx:Excl d q): ∀ {l:List EI} {ts:Tmps} {S:St} {x:PV×St},evPan G c p l ts S=some x→evPan G d q l ts S=some x
 |[],ts,S,x,hv=>by simp[evPan] at hv
 |i::r,ts,S,x,hv=>by
  simp only[evPan] at hv ⊢
  split at hv
  ·split at hv
   ·rename_i v S' he
    rw[evOp_mono h he]
    simp only
    split at hv
    ·cases hv
    ·rename_i hq
     rw[if_neg hq]
     exact evPan_mono h hp hx hv
   ·split at hv
    ·rename_i hpn
     have h1:=panOp_mono hp hv
     rw[panOp_no hx h1]
     simp only[hpn,if_true]
     exact h1
    ·cases hv
  ·exact evPan_mono h hp hx hv
  ·cases hv
theorem evPan_no {G:Glob} {d q:CallFn} (hx:Excl d q): ∀ {l:List EI} {ts:Tmps} {S:St} {x:PV×St},evPan G d q l ts S=some x→evOps G d l ts S=none
 |[],ts,S,x,hv=>by simp[evPan] at hv
 |i::r,ts,S,x,hv=>by
  simp only[evPan] at hv
  simp only[evOps]
  split at hv
  ·split at hv
   ·rename_i v S' he
    split at hv
    ·cases hv
    ·rename_i hq
     rw[if_neg hq]
     exact evPan_no hx hv
   ·rfl
  ·exact evPan_no hx hv
  ·cases hv
theorem ev_mono {α:Type} {G:Glob} {c d p q:CallFn} (h:CallLe c d) (hp:CallLe p q) (hx:Excl d q) {lp lq:EC→Tmps→St→Kont α→Option α}
  (hl: ∀ e ts S K K' x,(∀ y ts S x,K y ts S=some x→K' y ts S=some x)→lp e ts S K=some x→lq e ts S K'=some x):
  ∀ (e:EC) {ts:Tmps} {S:St} {K K':Kont α} {x:α},(∀ y ts S x,K y ts S=some x→K' y ts S=some x)→ev G c p lp e ts S K=some x→ev G d q lq e ts S K'=some x:=by
 intro e
 induction e with
 |skip=>intro ts S K K' x hK hv;exact hK _ _ _ _ hv
 |reg id ops dr ks=>
  intro ts S K K' x hK hv
  simp only[ev] at hv ⊢
  split at hv
  ·rename_i ts' S' he
   rw[evOps_mono h he]
   exact hK _ _ _ _ hv
  ·cases hv
 |regP id ops dr ks=>
  intro ts S K K' x hK hv
  simp only[ev] at hv ⊢
  split at hv
  ·rename_i ts' S' he
   rw[evOps_mono h he]
   exact hK _ _ _ _ hv
  ·split at hv
   ·rename_i v S' he
    have h1:=evPan_mono h hp hx he
    rw[evPan_no hx h1]
    simp only[h1]
    exact hK _ _ _ _ hv
   ·cases hv
 |rangeF ks g ps asg bd _ _=>
  intro ts S K K' x hK hv
  simp only[ev] at hv ⊢
  split at hv
  ·rename_i f first caps hg
   split at hv
   ·rename_i rv S2 he
    rw[h _ _ _ _ he]
    simp only
    split at hv
    ·rename_i r hr
     split at hv
     ·cases hv
     ·rename_i hst
      rw[if_neg hst]
      exact hK _ _ _ _ hv
    ·cases hv
   ·cases hv
  ·cases hv
 |seq a b iha ihb=>
  intro ts S K K' x hK hv
  simp only[ev] at hv ⊢
  refine iha ?_ hv
  intro y ts S x hy
  cases y with
  |normal=>exact ihb hK hy
  |_=>exact hK _ _ _ _ hy
 |cond co a b iha ihb=>
  intro ts S K K' x hK hv
  simp only[ev] at hv ⊢
  split at hv
  ·rename_i t ht
   cases t with
   |true=>exact iha hK hv
   |false=>exact ihb hK hv
  ·cases hv
 |block id a iha=>
  intro ts S K K' x hK hv
  simp only[ev] at hv ⊢
  refine iha ?_ hv
  intro y ts S x hy
  cases y with
  |exit id'=>
   simp only at hy ⊢
   split at hy
   ·rename_i he;rw[if_pos he];exact hK _ _ _ _ hy
   ·rename_i he;rw[if_neg he];exact hK _ _ _ _ hy
  |_=>exact hK _ _ _ _ hy
 |loop ks a iha=>
  intro ts S K K' x hK hv
  simp only[ev] at hv ⊢
  refine iha ?_ hv
  intro y ts S x hy
  cases y with
  |normal=>exact hl _ _ _ _ _ _ hK hy
  |_=>exact hK _ _ _ _ hy
 |exit id=>intro ts S K K' x hK hv;exact hK _ _ _ _ hv
 |ret=>intro ts S K K' x hK hv;exact hK _ _ _ _ hv
def Joint (lp:EC→Tmps→St→Kont (PV×St)→Option (PV×St)):Prop:=
 ∀ e ts S K K' x y,lp e ts S K=some x→lp e ts S K'=some y→ ∃ z ts' S',K z ts' S'=some x∧K' z ts' S'=some y
theorem ev_joint {G:Glob} {c p:CallFn} {lp:EC→Tmps→St→Kont (PV×St)→Option (PV×St)} (hl:Joint lp): ∀ (e:EC),∀ ts S K K' x y,ev G c p lp e ts S K=some x→ev G c p lp e ts S K'=some y→ ∃ z ts' S',K z ts' S'=some x∧K' z ts' S'=some y:=by
 intro e
 induction e with
 |skip=>intro ts S K K' x y h1 h2;exact ⟨_,_,_,h1,h2⟩
 |reg id ops dr ks=>
  intro ts S K K' x y h1 h2
  simp only[ev] at h1 h2
  split at h1
  ·rename_i ts' S' he
   rw[he] at h2
   exact ⟨_,_,_,h1,h2⟩
  ·cases h1
 |regP id ops dr ks=>
  intro ts S K K' x y h1 h2
  simp only[ev] at h1 h2
  split at h1
  ·rename_i ts' S' he
   rw[he] at h2
   exact ⟨_,_,_,h1,h2⟩
  ·rename_i he
   rw[he] at h2
   simp only at h2
   split at h1
   ·rename_i v S' hp
    rw[hp] at h2
    exact ⟨_,_,_,h1,h2⟩
   ·cases h1
 |rangeF ks g ps asg bd _ _=>
  intro ts S K K' x y h1 h2
  simp only[ev] at h1 h2
  split at h1
  ·rename_i f first caps hg
   simp only[hg] at h2
   split at h1
   ·rename_i rv S2 he
    simp only[he] at h2
    split at h1
    ·rename_i r hr
     simp only[hr] at h2
     split at h1
     ·cases h1
     ·rename_i hst
      rw[if_neg hst] at h2
      exact ⟨_,_,_,h1,h2⟩
    ·cases h1
   ·cases h1
  ·cases h1
 |seq a b iha ihb=>
  intro ts S K K' x y h1 h2
  simp only[ev] at h1 h2
  obtain ⟨z,ts',S',k1,k2⟩:=iha _ _ _ _ _ _ h1 h2
  cases z with
  |normal=>exact ihb _ _ _ _ _ _ k1 k2
  |_=>exact ⟨_,_,_,k1,k2⟩
 |cond co a b iha ihb=>
  intro ts S K K' x y h1 h2
  simp only[ev] at h1 h2
  split at h1
  ·rename_i t ht
   simp only[ht] at h2
   cases t with
   |true=>exact iha _ _ _ _ _ _ h1 h2
   |false=>exact ihb _ _ _ _ _ _ h1 h2
  ·cases h1
 |block id a iha=>
  intro ts S K K' x y h1 h2
  simp only[ev] at h1 h2
  obtain ⟨z,ts',S',k1,k2⟩:=iha _ _ _ _ _ _ h1 h2
  cases z with
  |exit id'=>
   simp only at k1 k2
   split at k1
   ·rename_i he;rw[if_pos he] at k2;exact ⟨_,_,_,k1,k2⟩
   ·rename_i he;rw[if_neg he] at k2;exact ⟨_,_,_,k1,k2⟩
  |_=>exact ⟨_,_,_,k1,k2⟩
 |loop ks a iha=>
  intro ts S K K' x y h1 h2
  simp only[ev] at h1 h2
  obtain ⟨z,ts',S',k1,k2⟩:=iha _ _ _ _ _ _ h1 h2
  cases z with
  |normal=>exact hl _ _ _ _ _ _ _ k1 k2
  |_=>exact ⟨_,_,_,k1,k2⟩
 |exit id=>intro ts S K K' x y h1 h2;exact ⟨_,_,_,h1,h2⟩
 |ret=>intro ts S K K' x y h1 h2;exact ⟨_,_,_,h1,h2⟩
theorem lvl_joint (E:Env): ∀ n,Joint (lvl E n).ev
 |0=>fun e ts S K K' x y h=>by simp[lvl] at h
 |n+1=>fun e ts S K K' x y h1 h2=>ev_joint (lvl_joint E n) e ts S K K' x y h1 h2
theorem lvl_excl (E:Env): ∀ n,Excl (lvl E n).call (lvl E n).pan
 |0=>fun f a S x y h=>by simp[lvl] at h
 |n+1=>fun f a S x y h1 h2=>by
  simp only[lvl] at h1 h2
  split at h1
  ·cases h1
  ·rename_i hk
   split at h1
   ·rename_i fn ht
    split at h1
    ·rename_i hc
     simp only[hk,ht] at h2
     rw[if_pos ⟨hc.1,hc.2.1⟩] at h2
     simp only[Option.bind_eq_some_iff] at h1 h2
     obtain ⟨a1,ha1,h1⟩:=h1
     obtain ⟨a2,ha2,h2⟩:=h2
     rw[ha1] at ha2;injection ha2 with ha2;subst ha2
     have hd:fn.dfr=none:=by simpa using hc.2.2
     simp only[lvlB,hd] at h2
     obtain ⟨z,ts',S',k1,k2⟩:=lvl_joint E n _ _ _ _ _ _ _ h1 h2
     cases z<;>simp[finish,finishP] at k1 k2
    ·cases h1
   ·cases h1
def EvLe (p q:EC→Tmps→St→Kont (PV×St)→Option (PV×St)):Prop:=
 ∀ e ts S K K' x,(∀ y ts S x,K y ts S=some x→K' y ts S=some x)→p e ts S K=some x→q e ts S K'=some x
theorem noY_le {c d:CallFn} (h:CallLe c d):CallLe (noY c) (noY d):=by
 intro f a S x hv
 unfold noY at hv ⊢
 split at hv
 ·cases hv
 ·rename_i hf;rw[if_neg hf];exact h _ _ _ _ hv
theorem rndB_le {p q:EC→Tmps→St→Kont (PV×St)→Option (PV×St)} (h:EvLe p q) {l:Nat} {bd:EC}: ∀ y ts S x,rndB p l bd y ts S=some x→rndB q l bd y ts S=some x:=by
 intro y ts S x hv
 cases y<;>simp only[rndB] at hv ⊢ <;>try (cases hv;done)
 split at hv
 ·split at hv
  ·rename_i hst
   rw[if_pos hst]
   simp only[Option.bind_eq_some_iff] at hv ⊢
   obtain ⟨S',h1,h2⟩:=hv
   exact ⟨S',h1,h _ _ _ _ _ _ (fun _ _ _ _ h=>h) h2⟩
  ·cases hv
 ·cases hv
theorem round_le {p q:EC→Tmps→St→Kont (PV×St)→Option (PV×St)} (h:EvLe p q) {args:List PV} {S:St} {x:PV×St} (hv:round p args S=some x):round q args S=some x:=by
 unfold round at hv ⊢
 split at hv
 ·split at hv
  ·split at hv
   ·rename_i hl
    rw[if_pos hl]
    simp only[Option.bind_eq_some_iff] at hv ⊢
    obtain ⟨a',ha,hv⟩:=hv
    exact ⟨a',ha,h _ _ _ _ _ _ (rndB_le h) hv⟩
   ·cases hv
  ·cases hv
 ·cases hv
theorem dcl_le {E:Env} {lv lw:Lvl} (hc:CallLe lv.call lw.call) (he:EvLe lv.ev lw.ev) {h:FuncId} {args:List PV} {pv:Option PV} {S S':St} (hv:dcl E lv h args pv S=some S'):dcl E lw h args pv S=some S':=by
 unfold dcl at hv ⊢
 split at hv
 ·split at hv
  ·split at hv
   ·rename_i hcnd
    rw[if_pos hcnd]
    simp only[Option.bind_eq_some_iff] at hv ⊢
    obtain ⟨a',ha,hv⟩:=hv
    refine ⟨a',ha, ?_⟩
    split at hv
    ·rename_i ts1 S1 hops
     rw[evOps_mono (noY_le hc) hops]
     simp only[Option.map_eq_some_iff] at hv ⊢
     obtain ⟨r,hr,hrr⟩:=hv
     exact ⟨r,he _ _ _ _ _ _ (fun _ _ _ _ h=>h) hr,hrr⟩
    ·cases hv
   ·cases hv
  ·cases hv
 ·cases hv
theorem finishD_le {fn:EFn} {S0:St} {d d':Option PV→St→Option St} (h: ∀ p S S',d p S=some S'→d' p S=some S'): ∀ y ts S x,finishD fn S0 d y ts S=some x→finishD fn S0 d' y ts S=some x:=by
 intro y ts S x hv
 cases y<;>simp only[finishD,Option.bind_eq_some_iff] at hv ⊢ <;>first|(cases hv;done)|(obtain ⟨S',h1,h2⟩:=hv;exact ⟨S',h _ _ _ h1,h2⟩)
theorem lvlB_le {E:Env} {lv lw:Lvl} (hc:CallLe lv.call lw.call) (he:EvLe lv.ev lw.ev) {fn:EFn} {args:List PV} {S:St} {x:PV×St} (hv:lvlB E lv fn args S=some x):lvlB E lw fn args S=some x:=by
 unfold lvlB at hv ⊢
 split at hv
 ·exact he _ _ _ _ _ _ (fun _ _ _ _ h=>h) hv
 ·split at hv
  ·rename_i ts0 S0 h0
   simp only[evOps_mono hc h0]
   split at hv
   ·rename_i ts1 S1 h1
    simp only[evOps_mono hc h1]
    split at hv
    ·rename_i h first caps hg
     exact he _ _ _ _ _ _ (finishD_le fun p S S' h=>dcl_le hc he h) hv
    ·cases hv
   ·cases hv
  ·cases hv
theorem lvl_succ3 (E:Env): ∀ n,CallLe (lvl E n).call (lvl E (n+1)).call∧EvLe (lvl E n).ev (lvl E (n+1)).ev∧CallLe (lvl E n).pan (lvl E (n+1)).pan
 |0=>⟨fun f a S x h=>by simp[lvl] at h,fun e ts S K K' x hK h=>by simp[lvl] at h,fun f a S x h=>by simp[lvl] at h⟩
 |n+1=>by
  obtain ⟨h1,h2,h3⟩:=lvl_succ3 E n
  refine ⟨fun f a S x h=> ?_,fun e ts S K K' x hK h=> ?_,fun f a S x h=> ?_⟩
  ·rw[show (lvl E (n+1)).call f a S=(match E.known f with
    |some F=>(askD a).bind fun a=>F a S
    |none=>match E.tab f with
     |some fn=>if a.length=fn.np∧fn.np≤fn.ntmps then (askD a).bind fun a=>lvlB E (lvl E n) fn a S else none
     |none=>if f=yid then round (lvl E n).ev a S else none) from rfl] at h
   rw[show (lvl E (n+1+1)).call f a S=(match E.known f with
    |some F=>(askD a).bind fun a=>F a S
    |none=>match E.tab f with
     |some fn=>if a.length=fn.np∧fn.np≤fn.ntmps then (askD a).bind fun a=>lvlB E (lvl E (n+1)) fn a S else none
     |none=>if f=yid then round (lvl E (n+1)).ev a S else none) from rfl]
   cases hk:E.known f with
   |some F=>rw[hk] at h;exact h
   |none=>
    rw[hk] at h
    cases ht:E.tab f with
    |none=>
     rw[ht] at h
     simp only at h ⊢
     split at h
     ·rename_i hf;rw[if_pos hf];exact round_le h2 h
     ·cases h
    |some fn=>
     rw[ht] at h
     simp only at h ⊢
     split at h
     ·rename_i hc
      rw[if_pos hc]
      simp only[Option.bind_eq_some_iff] at h ⊢
      obtain ⟨a',ha,hv⟩:=h
      exact ⟨a',ha,lvlB_le h1 h2 hv⟩
     ·cases h
  ·exact ev_mono h1 h3 (lvl_excl E (n+1)) h2 e hK h
  ·rw[show (lvl E (n+1)).pan f a S=(match E.known f with
    |some _=>none
    |none=>match E.tab f with
     |some fn=>if a.length=fn.np∧fn.np≤fn.ntmps∧fn.dfr.isNone=true then (askD a).bind fun a=>(lvl E n).ev fn.body (frameOf 0 a) S (finishP S) else none
     |none=>none) from rfl] at h
   rw[show (lvl E (n+1+1)).pan f a S=(match E.known f with
    |some _=>none
    |none=>match E.tab f with
     |some fn=>if a.length=fn.np∧fn.np≤fn.ntmps∧fn.dfr.isNone=true then (askD a).bind fun a=>(lvl E (n+1)).ev fn.body (frameOf 0 a) S (finishP S) else none
     |none=>none) from rfl]
   cases hk:E.known f with
   |some F=>rw[hk] at h;exact h
   |none=>
    rw[hk] at h
    cases ht:E.tab f with
    |none=>rw[ht] at h;cases h
    |some fn=>
     rw[ht] at h
     simp only at h ⊢
     split at h
     ·rename_i hc
      rw[if_pos hc]
      simp only[Option.bind_eq_some_iff] at h ⊢
      obtain ⟨a',ha,hv⟩:=h
      exact ⟨a',ha,h2 _ _ _ _ _ _ (fun _ _ _ _ h=>h) hv⟩
     ·cases h
theorem lvl_succ (E:Env) (n:Nat):CallLe (lvl E n).call (lvl E (n+1)).call∧EvLe (lvl E n).ev (lvl E (n+1)).ev:=⟨(lvl_succ3 E n).1,(lvl_succ3 E n).2.1⟩
theorem pan_mono {E:Env} {n m:Nat} (hm:n≤m) {f:FuncId} {a:List PV} {S:St} {x:PV×St} (h:(lvl E n).pan f a S=some x):(lvl E m).pan f a S=some x:=by
 induction hm with
 |refl=>exact h
 |step _ ih=>exact (lvl_succ3 E _).2.2 _ _ _ _ ih
theorem call_mono {E:Env} {n m:Nat} (hm:n≤m) {f:FuncId} {a:List PV} {S:St} {x:PV×St} (h:(lvl E n).call f a S=some x):(lvl E m).call f a S=some x:=by
 induction hm with
 |refl=>exact h
 |step _ ih=>exact (lvl_succ E _).1 _ _ _ _ ih
def Ans (E:Env) (f:FuncId) (args:List PV) (r:PV):Prop:= ∃ N,∀ S,(lvl E N).call f args S=some (r,S)
theorem Ans.le {E:Env} {f:FuncId} {args:List PV} {r:PV} (h:Ans E f args r): ∃ N,∀ n,N≤n→ ∀ S,(lvl E n).call f args S=some (r,S):=by
 obtain ⟨N,h⟩:=h
 exact ⟨N,fun n hn S=>call_mono hn (h S)⟩
theorem Ans.ev {E:Env} {f:FuncId} {args:List PV} {r:PV} (h:Ans E f args r) (S:St):Ev E f args S r S:=by
 obtain ⟨N,h⟩:=h.le
 exact ⟨N,fun n hn=>h n hn S⟩
def callIs (E:Env) (n:Nat) (f:FuncId) (args:List PV) (r:PV):Bool:=
 match (lvl E n).call f args .none with
 |some (v,S)=>v.beq r&&S.beq .none
 |none=>false
theorem callIs_eq {E:Env} {n:Nat} {f:FuncId} {args:List PV} {r:PV} (h:callIs E n f args r=true):(lvl E n).call f args .none=some (r,.none):=by
 unfold callIs at h
 split at h
 ·rename_i v S he
  simp only[Bool.and_eq_true] at h
  rw[he,beq_sound h.1,St.beq_sound h.2]
 ·cases h
def digF:Nat→Nat→List UInt8
 |0,_=>[]
 |f+1,n=>if n<10 then [UInt8.ofNat (48+n)] else digF f (n / 10)++[UInt8.ofNat (48+n % 10)]
def numL (n:Int):List UInt8:=if n<0 then 45::digF 20 n.natAbs else digF 20 n.toNat
def numS (n:Int):ByteArray:=⟨(numL n).toArray⟩
def findE:List (Nat×EFn)→Nat→Option EFn
 |[],_=>none
 |(k,c)::l,f=>if f=k then some c else findE l f
def TabOk (P:Program):List (Nat×EFn)→Prop
 |[]=>True
 | (k, c) :: l => (k < yid ∧ ∃ fn, P.funcs[k]? = some fn ∧ cFn P fn = some c.strip ∧ (fn.name == "runtime.NumGoroutine") = false) ∧ TabOk P l
theorem TabOk.find {P : Program} : ∀ {l : List (Nat × EFn)}, TabOk P l → ∀ f c, findE l f = some c → f < yid ∧ ∃ fn, P.funcs[f]? = some fn ∧ cFn P fn = some c.strip ∧ (fn.name == "runtime.NumGoroutine") = false
 |[],_,f,c,h=>by cases h
 |(k,c')::l,ht,f,c,h=>by
  simp only[findE] at h
  split at h
  ·rename_i e;subst e
   injection h with h;subst h
   exact ht.1
  ·exact TabOk.find ht.2 f c h
end Go.PE
