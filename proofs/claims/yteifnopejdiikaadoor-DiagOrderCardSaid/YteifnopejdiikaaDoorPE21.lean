/-
  Where private objects stand does not matter: calls. Conditions: each law's own.
-/
import Derived.Test.YteifnopejdiikaaDoorPE20
namespace Go.PE
open Go Go.RowKit
set_option linter.unusedVariables false
set_option linter.unusedSimpArgs false
section
variable {B:St}
theorem ref_mv {l:Nat} {x:Option PV}:(x.map (mB B)=some (.ref (B.obs.length+l) 0))=(x=some (.ref l 0)):=by
 cases x with
 |none=>simp
 |some q=>
  simp only[Option.map_some,Option.some.injEq]
  exact propext ⟨fun h=>mv_inj B.obs.length B.own.length (by rw[←mB,h];rfl),fun h=>by rw[h];rfl⟩
mutual
theorem sealW_mv {n0 n1:Nat} {d d':Nat→Nat→Option PV} (hn: ∀ l,B.obs.length+l<n1↔l<n0) (hd: ∀ l o,d' (B.obs.length+l) o=(d l o).map (mB B)): ∀ p,sealW n1 d' (mB B p)=(sealW n0 d p).map (mB B)
 | .ref l o=>by
  simp only[mB,mvV,sealW,hn]
  split
  ·rfl
  ·exact hd l o
 | .at_ cs=>by
  simp only[mB,mvV,sealW];rw[←mBL,sealL_mv hn hd cs]
  cases sealL n0 d cs<;>rfl
 | .sl g xs=>by
  simp only[mB,mvV,sealW];rw[←mBLL,sealLL_mv hn hd xs]
  cases sealLL n0 d xs<;>rfl
 | .row g xs=>by
  simp only[mB,mvV,sealW];rw[←mBLL,sealLL_mv hn hd xs]
  cases sealLL n0 d xs<;>rfl
 | .fn f x y=>by
  simp only[mB,mvV,sealW];rw[←mBL,←mBL,sealL_mv hn hd x,sealL_mv hn hd y]
  cases sealL n0 d x<;>cases sealL n0 d y<;>rfl
 | .ifc t v=>by
  simp only[mB,mvV,sealW];rw[←mB,sealW_mv hn hd v]
  cases sealW n0 d v<;>rfl
 | .agg cs=>by
  simp only[mB,mvV,sealW];rw[←mBL,sealL_mv hn hd cs]
  cases sealL n0 d cs<;>rfl
 | .tup cs=>by
  simp only[mB,mvV,sealW];rw[←mBL,sealL_mv hn hd cs]
  cases sealL n0 d cs<;>rfl
 | .bool _=>by simp only[mB,mvV,sealW,Option.map_some]
 | .int _ _=>by simp only[mB,mvV,sealW,Option.map_some]
 | .str _=>by simp only[mB,mvV,sealW,Option.map_some]
 | .nilp=>by simp only[mB,mvV,sealW,Option.map_some]
 | .nilfn=>by simp only[mB,mvV,sealW,Option.map_some]
 | .nilifc=>by simp only[mB,mvV,sealW,Option.map_some]
 | .nilm=>by simp only[mB,mvV,sealW,Option.map_some]
 | .yld l=>by
  simp only[mB,mvV,sealW,hn]
  split
  ·rfl
  ·simp only[hd,ref_mv];split<;>rfl
 | .mp l=>by
  simp only[mB,mvV,sealW,hn]
  split
  ·rfl
  ·simp only[hd,ref_mv];split<;>rfl
 | .msl l o n sz=>by
  simp only[mB,mvV,sealW,hn]
  split
  ·rfl
  ·rw[hd]
   cases d l o with
   |none=>rfl
   |some q=>
    cases q with
    |ref l' o'=>
     simp only[Option.map_some,mB,mvV]
     by_cases h:l'=l∧o'=o
     ·rw[if_pos ⟨by omega,h.2⟩,if_pos h];rfl
     ·rw[if_neg (fun h2=>h ⟨by omega,h2.2⟩),if_neg h];rfl
    |at_ cs=>
     simp only[Option.map_some,mB,mvV]
     rw[←mBL,mBL_len]
     split
     ·rw[chunk_mv];rfl
     ·rfl
    |_=>rfl
theorem sealL_mv {n0 n1:Nat} {d d':Nat→Nat→Option PV} (hn: ∀ l,B.obs.length+l<n1↔l<n0) (hd: ∀ l o,d' (B.obs.length+l) o=(d l o).map (mB B)): ∀ l,sealL n1 d' (mBL B l)=(sealL n0 d l).map (mBL B)
 |[]=>by simp only[mBL,mvL,sealL,Option.map_some]
 |x::l=>by
  simp only[mBL,mvL,sealL];rw[←mB,←mBL,sealW_mv hn hd x,sealL_mv hn hd l]
  cases sealW n0 d x with
  |none=>rfl
  |some y=>cases sealL n0 d l<;>rfl
theorem sealLL_mv {n0 n1:Nat} {d d':Nat→Nat→Option PV} (hn: ∀ l,B.obs.length+l<n1↔l<n0) (hd: ∀ l o,d' (B.obs.length+l) o=(d l o).map (mB B)): ∀ l,sealLL n1 d' (mBLL B l)=(sealLL n0 d l).map (mBLL B)
 |[]=>by simp only[mBLL,mvLL,sealLL,Option.map_some]
 |x::l=>by
  simp only[mBLL,mvLL,sealLL];rw[←mBL,←mBLL,sealL_mv hn hd x,sealLL_mv hn hd l]
  cases sealL n0 d x with
  |none=>rfl
  |some y=>cases sealLL n0 d l<;>rfl
end
theorem drD_mv (n0:Nat) (S:St): ∀ d l o,drD (B.obs.length+n0) (mS B S) d (B.obs.length+l) o=(drD n0 S d l o).map (mB B)
 |0,l,o=>rfl
 |d+1,l,o=>by
  simp only[drD,mS_cells]
  cases S.cells l with
  |none=>rfl
  |some cs=>
   simp only[Option.map_some,mBL_len,mBL_drop]
   split
   ·rw[sealL_mv (n0:=n0) (fun l=>by omega) (drD_mv n0 S d)]
    cases sealL n0 (drD n0 S d) (cs.drop o)<;>rfl
   ·rfl
theorem close_mv (S0 S:St) (v:PV):close (mS B S0) (mS B S) (mB B v)=(mB B (close S0 S v).1,mS B (close S0 S v).2):=by
 have h1:(beqO ((mS B S).obs.take (mS B S0).obs.length) (mS B S0).obs)=beqO (S.obs.take S0.obs.length) S0.obs:=by
  rw[mS_len]
  have:(mS B S).obs.take (B.obs.length+S0.obs.length)=B.obs++(S.obs.take S0.obs.length).map (mBO B):=by
   simp only[mS]
   rw[List.take_length_add_append,List.map_take]
  rw[this]
  simp only[mS]
  rw[beqO_app,mvO_beqO]
 have h2:((mS B S).own.take (mS B S0).own.length==(mS B S0).own)=(S.own.take S0.own.length==S0.own):=by
  rw[mS_olen]
  have:(mS B S).own.take (B.own.length+S0.own.length)=B.own++S.own.take S0.own.length:=by
   simp only[mS]
   rw[List.take_length_add_append]
  rw[this]
  simp only[mS]
  apply Bool.eq_iff_iff.2
  simp
 unfold close
 rw[h1,h2]
 split
 ·rw[mS_len,sealW_mv (n0:=S0.obs.length) (fun l=>by omega) (drD_mv S0.obs.length S 40)]
  cases sealW S0.obs.length (drD S0.obs.length S 40) v<;>rfl
 ·rfl
theorem askD_mv (l:List PV):askD (mBL B l)=(askD l).map (mBL B):=
 sealL_mv (fun l=>by omega) (fun l o=>rfl) l
theorem frameOf_mv: ∀ (i:Nat) (l:List PV),frameOf i (mBL B l)=mT B (frameOf i l)
 |i,[]=>rfl
 |i,x::l=>by
  show (i,some (mB B x))::frameOf (i+1) (mBL B l)=_
  rw[frameOf_mv (i+1) l];rfl
theorem resVs_mv {ts:Tmps} {S:St}: ∀ {l:List ERes},resVs (mT B ts) (mS B S) l=(resVs ts S l).map (mBL B)
 |[]=>rfl
 |r::l=>by
  have h1:resV (mT B ts) (mS B S) r=(resV ts S r).map (mB B):=by
   cases r with
   |tmp t=>exact mT_look B ts t
   |cell a n=>
    simp only[resV,mT_look]
    cases look ts a with
    |none=>rfl
    |some p=>
     simp only[Option.map_some,Option.bind_some,derefP_mv]
     cases derefP S p with
     |none=>rfl
     |some cs=>simp only[Option.map_some,Option.bind_some,rowOf_mv]
  simp only[resVs,h1,resVs_mv (l:=l)]
  cases resV ts S r with
  |none=>rfl
  |some v=>cases resVs ts S l<;>rfl
theorem oneOrTup_mv (l:List PV):oneOrTup (mBL B l)=mB B (oneOrTup l):=by
 match l with
 |[]=>rfl
 |[v]=>rfl
 |u::v::l=>rfl
end
structure EnvFree (E:Env):Prop where
 glob:E.G.Free
 tab: ∀ f c,E.tab f=some c→c.free=true
 known: ∀ B f F,E.known f=some F→ ∀ args S r S',F args S=some (r,S')→F (mBL B args) (mS B S)=some (mB B r,mS B S')
def mX (B:St):EX→EX
 | .pan v=> .pan (mB B v)
 |x=>x
def KLe (B:St) (K K':Kont (PV×St)):Prop:= ∀ y ts S r S',K y ts S=some (r,S')→K' (mX B y) (mT B ts) (mS B S)=some (mB B r,mS B S')
def EvMv (B:St) (p:EC→Tmps→St→Kont (PV×St)→Option (PV×St)):Prop:=
 ∀ e ts S K K' r S',e.free=true→KLe B K K'→p e ts S K=some (r,S')→p e (mT B ts) (mS B S) K'=some (mB B r,mS B S')
theorem dropT_mv (B:St) (ops:List EI) (ts:Tmps):dropT ops (mT B ts)=mT B (dropT ops ts):=by
 simp only[dropT,mT,List.filter_map]
 rfl
theorem pendX_mv (B:St) (p:Option (Option Nat)):mX B (pendX p)=pendX p:=by
 match p with
 |none=>rfl
 |some none=>rfl
 |some (some _)=>rfl
theorem ev_mv {B:St} {G:Glob} (hG:G.Free) {c p:CallFn} (hc:CallMv B c) (hp:CallMv B p) (hx:Excl c p) {lp:EC→Tmps→St→Kont (PV×St)→Option (PV×St)} (hl:EvMv B lp):
  ∀ (e:EC) {ts:Tmps} {S:St} {K K':Kont (PV×St)} {r:PV} {S':St},e.free=true→KLe B K K'→ev G c p lp e ts S K=some (r,S')→ev G c p lp e (mT B ts) (mS B S) K'=some (mB B r,mS B S'):=by
 intro e
 induction e with
 |skip=>intro ts S K K' r S' hf hK hv;exact hK _ _ _ _ _ hv
 |reg id ops dr ks=>
  intro ts S K K' r S' hf hK hv
  simp only[ev] at hv ⊢
  split at hv
  ·rename_i ts' S1 he
   rw[evOps_mv hG hc hf he]
   have:=hK _ _ _ _ _ hv
   simp only
   rw[mT_sel];exact this
  ·cases hv
 |regP id ops dr ks=>
  intro ts S K K' r S' hf hK hv
  simp only[ev] at hv ⊢
  split at hv
  ·rename_i ts' S1 he
   rw[evOps_mv hG hc hf he]
   have:=hK _ _ _ _ _ hv
   simp only
   rw[mT_sel];exact this
  ·split at hv
   ·rename_i v S1 he
    have h1:=evPan_mv hG hc hp hx hf he
    rw[evPan_no hx h1]
    simp only[h1]
    have:=hK _ _ _ _ _ hv
    rw[dropT_mv];exact this
   ·cases hv
 |rangeF ks g ps asg bd _ _=>
  intro ts S K K' r S' hf hK hv
  simp only[EC.free,Bool.and_eq_true] at hf
  simp only[ev] at hv ⊢
  rw[val_mv hG hf.1]
  split at hv
  ·rename_i f first caps hg
   simp only[hg,Option.map_some,mB,mvV]
   split at hv
   ·rename_i rv S2 he
    have h1:=hc _ _ _ _ _ he
    rw[mS_obs_app] at h1
    simp only[mBL_app] at h1
    have hst:({mS B S with obs:=(mS B S).obs++[mBO B (.loop ⟨ps,asg,bd,sel ks ts,0,none⟩)]}:St)={mS B S with obs:=(mS B S).obs++[.loop ⟨ps,asg,bd,sel ks (mT B ts),0,none⟩]}:=by
     rw[mT_sel];rfl
    rw[hst] at h1
    rw[mS_len]
    have h1':c f (mBL B first++[.yld (B.obs.length+S.obs.length)]++mBL B caps) {mS B S with obs:=(mS B S).obs++[.loop ⟨ps,asg,bd,sel ks (mT B ts),0,none⟩]}=some (mB B rv,mS B S2):=h1
    simp only[mBL] at h1'
    rw[h1']
    simp only[mS_ob]
    split at hv
    ·rename_i rr hr
     simp only[hr,Option.map_some,mBO,mvO,mvR]
     split at hv
     ·cases hv
     ·rename_i hst
      rw[if_neg hst]
      have:=hK _ _ _ _ _ hv
      rw[pendX_mv,mS_obs_set] at this
      rw[mT_sel]
      exact this
    ·cases hv
   ·cases hv
  ·cases hv
 |seq a b iha ihb=>
  intro ts S K K' r S' hf hK hv
  simp only[EC.free,Bool.and_eq_true] at hf
  simp only[ev] at hv ⊢
  refine iha hf.1 ?_ hv
  intro y ts S r S' hy
  cases y with
  |normal=>exact ihb hf.2 hK hy
  |exit id=>exact hK _ _ _ _ _ hy
  |ret=>exact hK _ _ _ _ _ hy
  |pan v=>exact hK _ _ _ _ _ hy
 |cond co a b iha ihb=>
  intro ts S K K' r S' hf hK hv
  simp only[EC.free,Bool.and_eq_true] at hf
  simp only[ev] at hv ⊢
  rw[val_mv hG hf.1]
  split at hv
  ·rename_i t ht
   simp only[ht,Option.map_some,mB,mvV]
   cases t with
   |true=>exact iha hf.2.1 hK hv
   |false=>exact ihb hf.2.2 hK hv
  ·cases hv
 |block id a iha=>
  intro ts S K K' r S' hf hK hv
  simp only[ev] at hv ⊢
  refine iha hf ?_ hv
  intro y ts S r S' hy
  cases y with
  |normal=>exact hK _ _ _ _ _ hy
  |exit id'=>
   simp only[mX] at hy ⊢
   split at hy
   ·rename_i he;rw[if_pos he];exact hK _ _ _ _ _ hy
   ·rename_i he;rw[if_neg he];exact hK _ _ _ _ _ hy
  |ret=>exact hK _ _ _ _ _ hy
  |pan v=>exact hK _ _ _ _ _ hy
 |loop ks a iha=>
  intro ts S K K' r S' hf hK hv
  simp only[ev] at hv ⊢
  rw[mT_sel]
  refine iha hf ?_ hv
  intro y ts S r S' hy
  cases y with
  |normal=>exact hl _ _ _ _ _ _ _ hf hK hy
  |exit id=>exact hK _ _ _ _ _ hy
  |ret=>exact hK _ _ _ _ _ hy
  |pan v=>exact hK _ _ _ _ _ hy
 |exit id=>intro ts S K K' r S' hf hK hv;exact hK _ _ _ _ _ hv
 |ret=>intro ts S K K' r S' hf hK hv;exact hK _ _ _ _ _ hv
theorem bindP_mv (B:St): ∀ (ps:List Nat) (vs:List PV) (ts:Tmps),bindP ps (mBL B vs) (mT B ts)=mT B (bindP ps vs ts)
 |[],_,_=>rfl
 |_::_,[],_=>rfl
 |t::ps,v::vs,ts=>bindP_mv B ps vs ((t,some v)::ts)
theorem setLoop_mv (B:St) {S S':St} {l st:Nat} {pend:Option (Option Nat)} (h:setLoop S l st pend=some S'):setLoop (mS B S) (B.obs.length+l) st pend=some (mS B S'):=by
 obtain ⟨r,hr,rfl⟩:=setLoop_some h
 unfold setLoop
 simp only[mS_ob,hr,Option.map_some,mBO,mvO]
 rw[mS_obs_set];rfl
theorem rndE_mv (B:St) (l:Nat):KLe B (rndE l) (rndE (B.obs.length+l)):=by
 intro y ts S r S' h
 cases y<;>simp only[rndE,mX,Option.map_eq_some_iff] at h ⊢ <;>first
  |(cases h;done)
  |(obtain ⟨S2,h1,h2⟩:=h
    injection h2 with e1 e2;subst e1 e2
    exact ⟨_,setLoop_mv B h1,rfl⟩)
theorem rndB_mv (B:St) {lv:EC→Tmps→St→Kont (PV×St)→Option (PV×St)} (hl:EvMv B lv) (l:Nat) {bd:EC} (hb:bd.free=true):KLe B (rndB lv l bd) (rndB lv (B.obs.length+l) bd):=by
 intro y ts S r S' h
 cases y<;>simp only[rndB,mX] at h ⊢ <;>try (cases h;done)
 simp only[mS_ob]
 split at h
 ·rename_i rr hr
  simp only[hr,Option.map_some,mBO,mvO]
  split at h
  ·rename_i hst
   have:(mvR B.obs.length B.own.length rr).st=0:=hst
   rw[if_pos this]
   simp only[Option.bind_eq_some_iff] at h ⊢
   obtain ⟨S2,h1,h2⟩:=h
   exact ⟨_,setLoop_mv B h1,hl _ _ _ _ _ _ _ hb (rndE_mv B l) h2⟩
  ·cases h
 ·cases h
theorem round_mv (B:St) {lv:EC→Tmps→St→Kont (PV×St)→Option (PV×St)} (hl:EvMv B lv) {args:List PV} {S S':St} {r:PV} (h:round lv args S=some (r,S')):round lv (mBL B args) (mS B S)=some (mB B r,mS B S'):=by
 unfold round at h ⊢
 split at h
 ·rename_i l vs
  show (match (mS B S).obs[B.obs.length+l]? with
   |some (.loop r)=>if (mBL B vs).length=r.ps.length∧(r.asg.free&&r.bd.free)=true then (askD (mBL B vs)).bind fun vs=>lv r.asg (bindP r.ps vs r.ts) (mS B S) (rndB lv (B.obs.length+l) r.bd) else none
   |_=>none)=_
  simp only[mS_ob]
  split at h
  ·rename_i rr hr
   simp only[hr,Option.map_some,mBO,mvO,mBL_len]
   split at h
   ·rename_i hc
    rw[if_pos (show vs.length=(mvR B.obs.length B.own.length rr).ps.length∧((mvR B.obs.length B.own.length rr).asg.free&&(mvR B.obs.length B.own.length rr).bd.free)=true from hc)]
    have hff:rr.asg.free=true∧rr.bd.free=true:=by simpa using hc.2
    simp only[Option.bind_eq_some_iff] at h ⊢
    obtain ⟨a',ha,hv⟩:=h
    refine ⟨mBL B a',by rw[askD_mv,ha];rfl, ?_⟩
    have:=hl _ _ _ _ _ _ _ hff.1 (rndB_mv B hl l hff.2) hv
    rw[←bindP_mv] at this
    exact this
   ·cases h
  ·cases h
 ·cases h
theorem fin_mv (B:St) {S:St} (res:List ERes) {ts:Tmps} {S2 S2':St} {r:PV} (hy:((resVs ts S2 res).map fun vs=>close S S2 (oneOrTup vs))=some (r,S2')):((resVs (mT B ts) (mS B S2) res).map fun vs=>close (mS B S) (mS B S2) (oneOrTup vs))=some (mB B r,mS B S2'):=by
 rw[resVs_mv]
 simp only[Option.map_eq_some_iff] at hy
 obtain ⟨vs,hvs,e⟩:=hy
 rw[hvs]
 simp only[Option.map_some]
 rw[oneOrTup_mv,close_mv,e]
theorem noY_mv {B:St} {c:CallFn} (h:CallMv B c):CallMv B (noY c):=by
 intro f a S r S' hv
 unfold noY at hv ⊢
 split at hv
 ·cases hv
 ·rename_i hf;rw[if_neg hf];exact h _ _ _ _ _ hv
theorem finV_mv (B:St):KLe B finV finV:=by
 intro y ts S r S' h
 cases y<;>simp only[finV,mX] at h ⊢ <;>first
  |(cases h;done)
  |(injection h with h;injection h with e1 e2;subst e1 e2;rfl)
theorem dcl_mv {E:Env} (hE:EnvFree E) (B:St) {lv:Lvl} (hc:CallMv B lv.call) (hl:EvMv B lv.ev) {hf:FuncId} {args:List PV} {pv:Option PV} {S S':St} (h:dcl E lv hf args pv S=some S'):dcl E lv hf (mBL B args) (pv.map (mB B)) (mS B S)=some (mS B S'):=by
 unfold dcl at h ⊢
 split at h
 ·rename_i fn ht
  have hfree:=hE.tab hf fn ht
  simp only[EFn.free,Bool.and_eq_true] at hfree
  split at h
  ·rename_i id d q r ks rest hb
   rw[hb] at hfree
   simp only[EC.free,Bool.and_eq_true,List.all_cons] at hfree
   rw[mBL_len]
   split at h
   ·rename_i hcnd
    rw[if_pos hcnd]
    simp only[Option.bind_eq_some_iff] at h ⊢
    obtain ⟨a',ha,hv⟩:=h
    refine ⟨mBL B a',by rw[askD_mv,ha];rfl, ?_⟩
    split at hv
    ·rename_i ts1 S1 hops
     have h1:=evOps_mv hE.glob (noY_mv hc) hfree.1.1.2 hops
     rw[mT_put,←frameOf_mv] at h1
     have hpv:(some (pv.getD PV.nilifc)).map (mB B)=some ((pv.map (mB B)).getD .nilifc):=by cases pv<;>rfl
     rw[hpv] at h1
     rw[h1]
     simp only[Option.map_eq_some_iff] at hv ⊢
     obtain ⟨⟨rv,S3⟩,hr,hrr⟩:=hv
     have h2:=hl _ _ _ _ _ _ _ hfree.1.2 (finV_mv B) hr
     simp only at hrr
     subst hrr
     refine ⟨(mB B rv,mS B S3), ?_,rfl⟩
     rw[mT_sel]
     exact h2
    ·cases hv
   ·cases h
  ·cases h
 ·cases h
theorem lvl_mv {E:Env} (hE:EnvFree E) (B:St): ∀ n,CallMv B (lvl E n).call∧EvMv B (lvl E n).ev∧CallMv B (lvl E n).pan
 |0=>⟨fun f a S r S' h=>by simp[lvl] at h,fun e ts S K K' r S' hf hK h=>by simp[lvl] at h,fun f a S r S' h=>by simp[lvl] at h⟩
 |n+1=>by
  obtain ⟨h1,h2,h3⟩:=lvl_mv hE B n
  refine ⟨fun f a S r S' h=> ?_,fun e ts S K K' r S' hf hK h=>ev_mv hE.glob h1 h3 (lvl_excl E n) h2 e hf hK h,fun f a S r S' h=> ?_⟩
  ·rw[show ∀ a S,(lvl E (n+1)).call f a S=(match E.known f with
    |some F=>(askD a).bind fun a=>F a S
    |none=>match E.tab f with
     |some fn=>if a.length=fn.np∧fn.np≤fn.ntmps then (askD a).bind fun a=>lvlB E (lvl E n) fn a S else none
     |none=>if f=yid then round (lvl E n).ev a S else none) from fun _ _=>rfl] at h ⊢
   cases hk:E.known f with
   |some F=>
    rw[hk] at h
    simp only[Option.bind_eq_some_iff] at h ⊢
    obtain ⟨a',ha,hF⟩:=h
    exact ⟨mBL B a',by rw[askD_mv,ha];rfl,hE.known B f F hk _ _ _ _ hF⟩
   |none=>
    rw[hk] at h
    cases ht:E.tab f with
    |none=>
     rw[ht] at h
     simp only at h ⊢
     split at h
     ·rename_i hf;rw[if_pos hf];exact round_mv B h2 h
     ·cases h
    |some fn=>
     rw[ht] at h
     simp only at h ⊢
     rw[mBL_len]
     split at h
     ·rename_i hc
      rw[if_pos hc]
      simp only[Option.bind_eq_some_iff] at h ⊢
      obtain ⟨a',ha,hv⟩:=h
      refine ⟨mBL B a',by rw[askD_mv,ha];rfl, ?_⟩
      have hfree:=hE.tab f fn ht
      simp only[EFn.free,Bool.and_eq_true] at hfree
      unfold lvlB at hv ⊢
      rw[frameOf_mv]
      cases hd:fn.dfr with
      |none=>
       rw[hd] at hv
       simp only at hv ⊢
       refine h2 _ _ _ _ _ _ _ hfree.1 ?_ hv
       intro y ts S2 r S2' hy
       cases y with
       |normal=>exact fin_mv B fn.res hy
       |ret=>exact fin_mv B fn.res hy
       |exit id=>simp[finish] at hy
       |pan v=>simp[finish] at hy
      |some q3=>
       obtain ⟨pre,es,g⟩:=q3
       rw[hd] at hv hfree
       simp only[Bool.and_eq_true] at hv hfree ⊢
       split at hv
       ·rename_i ts0 S0 ho0
        rw[evOps_mv hE.glob h1 hfree.2.1 ho0]
        simp only
        split at hv
        ·rename_i ts1 S1 ho1
         rw[evOps_mv hE.glob h1 hfree.2.2.1 ho1]
         simp only
         rw[val_mv hE.glob hfree.2.2.2]
         split at hv
         ·rename_i hh first caps hg
          simp only[hg,Option.map_some,mB,mvV]
          refine h2 _ _ _ _ _ _ _ hfree.1 ?_ hv
          intro y ts S2 r S2' hy
          have hca: ∀ {pv:Option PV} {S3:St},dcl E (lvl E n) hh (first++caps) pv S2=some S3→dcl E (lvl E n) hh (mvL B.obs.length B.own.length first++mvL B.obs.length B.own.length caps) (pv.map (mB B)) (mS B S2)=some (mS B S3):=fun h=>by
           have:=dcl_mv hE B h1 h2 h
           rw[mBL_app] at this
           exact this
          cases y with
          |normal=>
           simp only[finishD,Option.bind_eq_some_iff,mX] at hy ⊢
           obtain ⟨S3,e1,e2⟩:=hy
           exact ⟨_,hca e1,fin_mv B fn.res e2⟩
          |ret=>
           simp only[finishD,Option.bind_eq_some_iff,mX] at hy ⊢
           obtain ⟨S3,e1,e2⟩:=hy
           exact ⟨_,hca e1,fin_mv B fn.res e2⟩
          |pan v=>
           simp only[finishD,Option.bind_eq_some_iff,mX] at hy ⊢
           obtain ⟨S3,e1,e2⟩:=hy
           exact ⟨_,hca e1,fin_mv B fn.res e2⟩
          |exit id=>simp[finishD] at hy
         ·cases hv
        ·cases hv
       ·cases hv
     ·cases h
  ·rw[show ∀ a S,(lvl E (n+1)).pan f a S=(match E.known f with
    |some _=>none
    |none=>match E.tab f with
     |some fn=>if a.length=fn.np∧fn.np≤fn.ntmps∧fn.dfr.isNone=true then (askD a).bind fun a=>(lvl E n).ev fn.body (frameOf 0 a) S (finishP S) else none
     |none=>none) from fun _ _=>rfl] at h ⊢
   cases hk:E.known f with
   |some F=>rw[hk] at h;cases h
   |none=>
    rw[hk] at h
    cases ht:E.tab f with
    |none=>rw[ht] at h;cases h
    |some fn=>
     rw[ht] at h
     simp only at h ⊢
     rw[mBL_len]
     split at h
     ·rename_i hc
      rw[if_pos hc]
      simp only[Option.bind_eq_some_iff] at h ⊢
      obtain ⟨a',ha,hv⟩:=h
      refine ⟨mBL B a',by rw[askD_mv,ha];rfl, ?_⟩
      have hfree:=hE.tab f fn ht
      simp only[EFn.free,Bool.and_eq_true] at hfree
      rw[frameOf_mv]
      refine h2 _ _ _ _ _ _ _ hfree.1 ?_ hv
      intro y ts S2 r S2' hy
      cases y<;>simp only[finishP,mX] at hy ⊢ <;>try (cases hy;done)
      injection hy with hy
      rw[close_mv,hy]
     ·cases h
theorem cal_mv {E:Env} (hE:EnvFree E) (B:St) {f:FuncId} {args:List PV} {S S':St} {r:PV} (h:cal E f args S=some (r,S')):cal E f (mBL B args) (mS B S)=some (mB B r,mS B S'):=by
 obtain ⟨n,hn⟩:=(lim_some (cal_mono f args)).1 h
 exact cal_at ((lvl_mv hE B n).1 _ _ _ _ _ hn)
theorem cal_any {E:Env} (hE:EnvFree E) {f:FuncId} {args:List PV} {r:PV} (h:cal E f args .none=some (r,.none)) (ha:freeL args=true) (hr:r.free=true) (S:St):cal E f args S=some (r,S):=by
 have:=cal_mv hE S h
 have e:mS S .none=S:=by simp[mS,St.none]
 rw[e,mBL,mv_freeL _ _ _ ha,mB,mv_free _ _ _ hr] at this
 exact this
theorem cal_closed {E:Env} (hE:EnvFree E) {n:Nat} {f:FuncId} {args:List PV} {r:PV} (h:callIs E n f args r=true) (ha:freeL args=true) (hr:r.free=true) (S:St):cal E f args S=some (r,S):=
 cal_any hE (cal_at (callIs_eq h)) ha hr S
theorem cal_tag1 {E:Env} {S:St} {f:FuncId} {g:Tag} {xs:List (List PV)} {x:Option (PV×St)} (h:cal E f [.sl .ro xs] S=x) (hp:PlainLL xs) (hf:f≠yid:=by decide):cal E f [.sl g xs] S=x:=by
 rw[←h]
 have e: ∀ g,askD [.sl g xs]=some [.sl .ro xs]:=fun g=>by simp only[askD,sealL,sealW,hp _ _,Option.map_some,Option.bind_some]
 exact cal_ask (e g) (e .ro) rfl hf
theorem cal_tag2 {E:Env} {S:St} {f:FuncId} {g:Tag} {xs:List (List PV)} {ys:List PV} {x:Option (PV×St)} (h:cal E f (.sl .ro xs::ys) S=x) (hp:PlainLL xs) (hy:PlainL ys) (hf:f≠yid:=by decide):cal E f (.sl g xs::ys) S=x:=by
 rw[←h]
 have e: ∀ g,askD (.sl g xs::ys)=some (.sl .ro xs::ys):=fun g=>by simp only[askD,sealL,sealW,hp _ _,hy _ _,Option.map_some,Option.bind_some]
 exact cal_ask (e g) (e .ro) rfl hf
theorem none_obs:St.none.obs=[]:=rfl
theorem none_own:St.none.own=[]:=rfl
theorem close_none (S:St) (v:PV):close .none S v=match sealW 0 (drD 0 S 40) v with|some v'=>(v',.none)|none=>(v,S):=by
 unfold close
 rw[if_pos (by simp[none_obs,none_own,beqO])]
 rfl
section
variable {G:Glob} {call:CallFn} {ts:Tmps} {S:St} {d:Option Nat} {o:EOp} {q:EQ} {r:List EI}
theorem guardO_t {t:Bool}:guardO G call d o true q r ts S (some (.bool t))=if t=true then evOps G call (⟨d,o,none,q⟩::r) ts S else evOps G call r (put ts d (some .un)) S:=by
 cases t<;>simp[guardO]
theorem guardO_f {t:Bool}:guardO G call d o false q r ts S (some (.bool t))=if t=true then evOps G call r (put ts d (some .un)) S else evOps G call (⟨d,o,none,q⟩::r) ts S:=by
 cases t<;>simp[guardO]
end
theorem sel_look (ts:Tmps): ∀ (ks:List Nat) (d:Nat),d∈ks→look (ks.map fun k=>(k,look ts k)) d=look ts d
 |k::ks,d,h=>by
  simp only[List.map_cons,look]
  split
  ·rename_i e;rw[e]
  ·rename_i e
   rcases List.mem_cons.1 h with h|h
   ·exact absurd h e
   ·exact sel_look ts ks d h
theorem sel_sel (ts:Tmps) (ks:List Nat):sel (some ks) (sel (some ks) ts)=sel (some ks) ts:=by
 simp only[sel]
 exact List.map_congr_left fun k hk=>by rw[sel_look ts ks k hk]
theorem a_again_s {E:Env} {fin:Kont (PV×St)} {st:List Fw} {ts:Tmps} {S:St} {ks:List Nat} {b:EC}:aft E fin (.again (.loop (some ks) b)::st) .normal ts S=run E fin st (.loop (some ks) b) (sel (some ks) ts) S:=by
 rw[a_again_n,w_loop,w_loop,sel_sel]
theorem w_plain {E:Env} {S:St} {f:FuncId} {fn:EFn} {args:List PV} (h:E.known f=none) (ht:E.tab f=some fn) (ha:askD args=some args) (hl:args.length=fn.np) (hn:fn.np≤fn.ntmps) (hd:fn.dfr=none:=by rfl):
  cal E f args S=run E (endF S fn.res) [] fn.body (frameOf 0 args) S:=w_call h ht ha hl hn hd
end Go.PE
