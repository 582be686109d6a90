/-
  What a call hands over, and hands back. Conditions: each law's own.
-/
import Derived.Test.YteifnopejdiikaaDoorPE14
namespace Go.PE
open Go Go.RowKit
set_option linter.unusedVariables false
set_option linter.unusedSimpArgs false
theorem sealL_spec {n0:Nat} {dr:Nat→Nat→Option PV}: ∀ {l l':List PV},sealL n0 dr l=some l'→l'.length=l.length∧ ∀ (i:Nat) p p',l[i]?=some p→l'[i]?=some p'→sealW n0 dr p=some p'
 |[],l',h=>by simp[sealL] at h;subst h;simp
 |a::l,l',h=>by
  simp only[sealL,Option.bind_eq_some_iff,Option.map_eq_some_iff] at h
  obtain ⟨a',ha,m,hm,rfl⟩:=h
  obtain ⟨h1,h2⟩:=sealL_spec hm
  refine ⟨by simp[h1],fun i p p' hp hp'=> ?_⟩
  cases i with
  |zero=>simp at hp hp';subst hp hp';exact ha
  |succ i=>exact h2 i p p' (by simpa using hp) (by simpa using hp')
theorem sealLL_spec {n0:Nat} {dr:Nat→Nat→Option PV}: ∀ {l l':List (List PV)},sealLL n0 dr l=some l'→l'.length=l.length∧ ∀ (i:Nat) p p',l[i]?=some p→l'[i]?=some p'→sealL n0 dr p=some p'
 |[],l',h=>by simp[sealLL] at h;subst h;simp
 |a::l,l',h=>by
  simp only[sealLL,Option.bind_eq_some_iff,Option.map_eq_some_iff] at h
  obtain ⟨a',ha,m,hm,rfl⟩:=h
  obtain ⟨h1,h2⟩:=sealLL_spec hm
  refine ⟨by simp[h1],fun i p p' hp hp'=> ?_⟩
  cases i with
  |zero=>simp at hp hp';subst hp hp';exact ha
  |succ i=>exact h2 i p p' (by simpa using hp) (by simpa using hp')
theorem get_of_len {α β:Type} {l:List α} {m:List β} (h:m.length=l.length) {i:Nat} {b:β} (hb:m[i]?=some b): ∃ a,l[i]?=some a:=by
 have:=getElem?_lt hb
 exact ⟨_,List.getElem?_eq_getElem (by omega)⟩
theorem rep_chunk {C:Ctx} {w:World} {cs:List PV} {b o off n cap sz:Nat} (h:Rep C w (.at_ cs) (.pointer (some ⟨b,o,none⟩))) (hcap:n≤cap) (hoff:n≠0→off=o) (hle:n*sz≤cs.length):Rep C w (.sl .ro (chunk sz n cs)) (.slice (some ⟨b,off,none⟩) n cap):=by
 cases h with|at_ cs b o hb hi ha hc h=>
 have hjn: ∀ {j:Nat} {r:List PV},(chunk sz n cs)[j]?=some r→j<n:=fun hj=>by have:=getElem?_lt hj;rwa[chunk_length] at this
 have get: ∀ {j:Nat} {r:List PV} {i:Nat} {p:PV},(chunk sz n cs)[j]?=some r→r[i]?=some p→cs[j*sz+i]?=some p:=by
  intro j r i p hj hi
  have e1:=chunk_get sz n cs j r hj
  subst e1
  rw[List.getElem?_take] at hi
  split at hi
  ·rwa[List.getElem?_drop] at hi
  ·cases hi
 refine .sl .ro _ _ _ _ sz (chunk_length sz n cs).symm (by rw[chunk_length];exact hcap) (fun j r hj=> ?_) (fun h=>by cases h) (fun h=>by cases h) (fun hne=> ?_) (fun j r i p hj hi=>ha _ p (get hj hi)) (fun b' off' j r i p e hj hi=> ?_) (fun b' off' j r i p v e hj hi hv=> ?_) (fun k e h=>by cases h)
 ·have e1:=chunk_get sz n cs j r hj
  have:=hjn hj
  subst e1
  have:(j+1)*sz≤n*sz:=Nat.mul_le_mul_right _ this
  rw[Nat.succ_mul] at this
  simp;omega
 ·have hn:n≠0:=by intro e;subst e;exact hne rfl
  rw[hoff hn]
  exact ⟨b,o,rfl,hb,Ctx.imm_mono hi (by rw[chunk_length];omega)⟩
 ·have hn:n≠0:=by have:=hjn hj;omega
  rw[hoff hn] at e
  simp at e;obtain ⟨rfl,rfl⟩:=e
  exact hc _ p (get hj hi)
 ·have hn:n≠0:=by have:=hjn hj;omega
  rw[hoff hn] at e
  simp at e;obtain ⟨rfl,rfl⟩:=e
  exact h _ p v (get hj hi) hv
theorem seal_gen {C1 C2:Ctx} {w:World} {n0:Nat} {dr:Nat→Nat→Option PV} (hm: ∀ l b,l<n0→C1.m l=some b→C2.m l=some b) (hmd: ∀ l,l<n0→C1.d l=true→C2.d l=true) (hcc: ∀ l,C2.c l=C1.c l) (himm: ∀ b hi,C1.imm b hi→C2.imm b hi)
  (hd2: ∀ l o l' o',dr l o=some (.ref l' o')→C2=C1)
  (hdr: ∀ l o b q,¬ l<n0→(C1.m l=some b∨C1.d l=true)→dr l o=some q→Rep C2 w q (.pointer (some ⟨b,o,none⟩))∧q.atom=true):
  ∀ {p:PV} {u:Value},Rep C1 w p u→ ∀ {p':PV},sealW n0 dr p=some p'→Rep C2 w p' u∧(p.atom=true→p'.atom=true):=by
 intro p u h
 induction h with
 |bool b=>intro p' h;simp[sealW] at h;subst h;exact ⟨.bool b,fun _=>rfl⟩
 |int k n=>intro p' h;simp[sealW] at h;subst h;exact ⟨.int k n,fun _=>rfl⟩
 |str s=>intro p' h;simp[sealW] at h;subst h;exact ⟨.str s,fun _=>rfl⟩
 |nilp=>intro p' h;simp[sealW] at h;subst h;exact ⟨.nilp,fun _=>rfl⟩
 |nilfn=>intro p' h;simp[sealW] at h;subst h;exact ⟨.nilfn,fun _=>rfl⟩
 |nilifc=>intro p' h;simp[sealW] at h;subst h;exact ⟨.nilifc,fun _=>rfl⟩
 |ref l o b hb=>
  intro p' h
  simp only[sealW] at h
  split at h
  ·rename_i hlt
   injection h with h;subst h
   exact ⟨.ref l o b (hb.imp (hm l b hlt) (hmd l hlt)),fun _=>rfl⟩
  ·rename_i hlt
   obtain ⟨h1,h2⟩:=hdr l o b p' hlt hb h
   exact ⟨h1,fun _=>h2⟩
 |yld l b hb=>
  intro p' h
  simp only[sealW] at h
  split at h
  ·rename_i hlt
   injection h with h;subst h
   exact ⟨.yld l b (hb.imp (hm l b hlt) (hmd l hlt)),fun _=>rfl⟩
  ·split at h
   ·rename_i hlt hd
    injection h with h;subst h
    have:=hd2 _ _ _ _ hd;subst this
    exact ⟨.yld l b hb,fun _=>rfl⟩
   ·cases h
 |mp l b hb=>
  intro p' h
  simp only[sealW] at h
  split at h
  ·rename_i hlt
   injection h with h;subst h
   exact ⟨.mp l b (hb.imp (hm l b hlt) (hmd l hlt)),fun _=>rfl⟩
  ·split at h
   ·rename_i hlt hd
    injection h with h;subst h
    have:=hd2 _ _ _ _ hd;subst this
    exact ⟨.mp l b hb,fun _=>rfl⟩
   ·cases h
 |nilm=>intro p' h;simp[sealW] at h;subst h;exact ⟨.nilm,fun _=>rfl⟩
 |msl l o n sz b off cap hn ho hb=>
  intro p' h
  simp only[sealW] at h
  split at h
  ·rename_i hlt
   injection h with h;subst h
   exact ⟨.msl l o n sz b off cap hn ho (hb.imp (fun hb=>⟨hm l b hlt hb.1,by rw[hcc];exact hb.2⟩) (hmd l hlt)),fun _=>rfl⟩
  ·rename_i hlt
   split at h
   ·rename_i l' o' hd
    split at h
    ·injection h with h;subst h
     have:=hd2 _ _ _ _ hd;subst this
     exact ⟨.msl l o n sz b off cap hn ho hb,fun _=>rfl⟩
    ·cases h
   ·rename_i cs hd
    split at h
    ·rename_i hle
     injection h with h;subst h
     obtain ⟨h1,h2⟩:=hdr l o b _ hlt (hb.imp (·.1) id) hd
     exact ⟨rep_chunk h1 hn ho hle,fun _=>rfl⟩
    ·cases h
   ·cases h
 |at_ cs b off hb hi ha hc h ih=>
  intro p' h'
  simp only[sealW,Option.map_eq_some_iff] at h'
  obtain ⟨cs',hcs,rfl⟩:=h'
  obtain ⟨e1,e2⟩:=sealL_spec hcs
  have get: ∀ {i:Nat} {q:PV},cs'[i]?=some q→ ∃ p,cs[i]?=some p∧sealW n0 dr p=some q:=fun hq=>by
   obtain ⟨p,hp⟩:=get_of_len e1 hq
   exact ⟨p,hp,e2 _ p _ hp hq⟩
  refine ⟨.at_ cs' b off hb (by rw[e1];exact himm _ _ hi) (fun i q hq=> ?_) (fun i q hq=> ?_) (fun i q v hq hv=> ?_),fun _=>rfl⟩
  ·obtain ⟨p,hp,hs⟩:=get hq
   obtain ⟨v,hv⟩:=hc i p hp
   exact (ih i p v hp hv hs).2 (ha i p hp)
  ·obtain ⟨p,hp,hs⟩:=get hq
   exact hc i p hp
  ·obtain ⟨p,hp,hs⟩:=get hq
   exact (ih i p v hp hv hs).1
 |sl g xs a n cap sz hn hcap hsz hnull hexact hrow ha hc h hown ih=>
  intro p' h'
  simp only[sealW,Option.map_eq_some_iff] at h'
  obtain ⟨xs',hxs,rfl⟩:=h'
  obtain ⟨e1,e2⟩:=sealLL_spec hxs
  have get: ∀ {j:Nat} {r':List PV},xs'[j]?=some r'→ ∃ r,xs[j]?=some r∧r'.length=r.length∧ ∀ {i:Nat} {q:PV},r'[i]?=some q→ ∃ p,r[i]?=some p∧sealW n0 dr p=some q:=fun {j r'} hj=>by
   obtain ⟨r,hr⟩:=get_of_len e1 hj
   obtain ⟨f1,f2⟩:=sealL_spec (e2 _ r _ hr hj)
   refine ⟨r,hr,f1,fun {i q} hq=> ?_⟩
   obtain ⟨p,hp⟩:=get_of_len f1 hq
   exact ⟨p,hp,f2 _ p _ hp hq⟩
  have hne:xs'≠[]→xs≠[]:=fun hx' e=>hx' (List.eq_nil_of_length_eq_zero (by rw[e1,e];rfl))
  refine ⟨.sl .ro xs' a n cap sz (by omega) (by omega) (fun j r' hj=> ?_) (fun h=>by cases h) (fun h=>by cases h) (fun hx=> ?_) (fun j r' i q hj hi=> ?_) (fun b off j r' i q e hj hi=> ?_) (fun b off j r' i q v e hj hi hv=> ?_) (fun k e h=>by cases h),fun _=>rfl⟩
  ·obtain ⟨r,hr,hl,_⟩:=get hj
   rw[hl];exact hsz j r hr
  ·obtain ⟨b,off,e,hb,hi⟩:=hrow (hne hx)
   exact ⟨b,off,e,hb,by rw[e1];exact himm _ _ hi⟩
  ·obtain ⟨r,hr,hl,hg⟩:=get hj
   obtain ⟨p,hp,hs⟩:=hg hi
   have hx:xs≠[]:=by intro e;subst e;simp at hr
   obtain ⟨b,off,e,_⟩:=hrow hx
   obtain ⟨v,hv⟩:=hc b off j r i p e hr hp
   exact (ih b off j r i p v e hr hp hv hs).2 (ha j r i p hr hp)
  ·obtain ⟨r,hr,hl,hg⟩:=get hj
   obtain ⟨p,hp,hs⟩:=hg hi
   exact hc b off j r i p e hr hp
  ·obtain ⟨r,hr,hl,hg⟩:=get hj
   obtain ⟨p,hp,hs⟩:=hg hi
   exact (ih b off j r i p v e hr hp hv hs).1
 |row g xs a n cap h ih=>
  intro p' h'
  simp only[sealW,Option.map_eq_some_iff] at h'
  obtain ⟨xs',hxs,rfl⟩:=h'
  exact ⟨.row _ _ _ _ _ (ih (p':= .sl .ro xs') (by simp[sealW,hxs])).1,fun _=>rfl⟩
 |fn f first caps first' caps' hf0 h1 h2 hf hc ihf ihc=>
  intro p' h'
  simp only[sealW,Option.bind_eq_some_iff,Option.map_eq_some_iff] at h'
  obtain ⟨a,ha,b,hb,rfl⟩:=h'
  obtain ⟨a1,a2⟩:=sealL_spec ha
  obtain ⟨b1,b2⟩:=sealL_spec hb
  refine ⟨.fn f a b first' caps' hf0 (by omega) (by omega) (fun i q v hq hv=> ?_) (fun i q v hq hv=> ?_),fun _=>rfl⟩
  ·obtain ⟨p,hp⟩:=get_of_len a1 hq
   exact (ihf i p v hp hv (a2 i p q hp hq)).1
  ·obtain ⟨p,hp⟩:=get_of_len b1 hq
   exact (ihc i p v hp hv (b2 i p q hp hq)).1
 |ifc t p v h ih=>
  intro p' h'
  simp only[sealW,Option.map_eq_some_iff] at h'
  obtain ⟨q,hq,rfl⟩:=h'
  exact ⟨.ifc t q v (ih hq).1,fun _=>rfl⟩
 |agg cs vs hl ha h ih=>
  intro p' h'
  simp only[sealW,Option.map_eq_some_iff] at h'
  obtain ⟨cs',hcs,rfl⟩:=h'
  obtain ⟨e1,e2⟩:=sealL_spec hcs
  refine ⟨.agg cs' vs (by omega) (fun i q hq=> ?_) (fun i q v hq hv=> ?_),fun h=>by cases h⟩
  ·obtain ⟨p,hp⟩:=get_of_len e1 hq
   have hi:i<vs.size:=by have:=getElem?_lt hp;omega
   exact (ih i p _ hp (Array.getElem?_eq_getElem hi) (e2 i p q hp hq)).2 (ha i p hp)
  ·obtain ⟨p,hp⟩:=get_of_len e1 hq
   exact (ih i p v hp hv (e2 i p q hp hq)).1
 |tup cs vs hl h ih=>
  intro p' h'
  simp only[sealW,Option.map_eq_some_iff] at h'
  obtain ⟨cs',hcs,rfl⟩:=h'
  obtain ⟨e1,e2⟩:=sealL_spec hcs
  refine ⟨.tup cs' vs (by omega) (fun i q v hq hv=> ?_),fun h=>by cases h⟩
  obtain ⟨p,hp⟩:=get_of_len e1 hq
  exact (ih i p v hp hv (e2 i p q hp hq)).1
theorem askD_rep {C:Ctx} {w:World} {ps ps':List PV} {vs:List Value} (h:RepL C w ps vs) (ha:askD ps=some ps'):RepL C w ps' vs:=by
 obtain ⟨h1,h2⟩:=sealL_spec ha
 refine ⟨by rw[h1];exact h.1,fun i q v hq hv=> ?_⟩
 obtain ⟨p,hp⟩:=get_of_len h1 hq
 refine (seal_gen (C1:=C) (C2:=C) (n0:=0) (fun l b h _=>by omega) (fun l h _=>by omega) (fun _=>rfl) (fun b hi h=>h) (fun _ _ _ _ _=>rfl) (fun l o b q _ hb hd=> ?_) (h.2 i p v hp hv) (h2 i p q hp hq)).1
 simp at hd;subst hd
 exact ⟨.ref l o b hb,rfl⟩
def Ctx.cut (C:Ctx) (n k:Nat):Ctx:=⟨fun l=>if l<n then C.p l else none,fun j=>if j<k then C.o j else none,C.c⟩
theorem Ctx.cut_m (C:Ctx) (n k l:Nat):(C.cut n k).m l=if l<n then C.m l else none:=by
 simp only[Ctx.cut,Ctx.m];split<;>rfl
theorem Ctx.cut_d (C:Ctx) (n k l:Nat):(C.cut n k).d l=if l<n then C.d l else false:=by
 simp only[Ctx.cut,Ctx.d];split<;>rfl
theorem Ctx.cut_o (C:Ctx) (n k j:Nat):(C.cut n k).o j=if j<k then C.o j else none:=rfl
theorem Ctx.cut_ref {C:Ctx} {n k l b:Nat} (hl:l<n) (h:C.m l=some b∨C.d l=true):(C.cut n k).m l=some b∨(C.cut n k).d l=true:=by
 rw[Ctx.cut_m,Ctx.cut_d,if_pos hl,if_pos hl];exact h
theorem Ctx.cut_imm {C:Ctx} (n k:Nat) {b hi:Nat} (h:C.imm b hi):(C.cut n k).imm b hi:=by
 refine ⟨fun l hl=> ?_,fun j fr hj=> ?_⟩
 ·rw[Ctx.cut_m] at hl;split at hl
  ·exact h.1 l hl
  ·cases hl
 ·rw[Ctx.cut_o] at hj;split at hj
  ·exact h.2 j fr hj
  ·cases hj
theorem cut_old {C0 C1:Ctx} {w0 w1:World} {n k:Nat} (hn: ∀ l b,(C0.m l=some b∨C0.d l=true)→l<n) (hk: ∀ j b fr,C0.o j=some (b,fr)→j<k): ∀ {p:PV} {u0:Value},Rep C0 w0 p u0→ ∀ {u:Value},Rep C1 w1 p u→Rep (C1.cut n k) w1 p u:=by
 have himm: ∀ b hi,C1.imm b hi→(C1.cut n k).imm b hi:=fun b hi h=>Ctx.cut_imm n k h
 intro p u0 h
 induction h with
 |bool b=>intro u h;cases h;exact .bool b
 |int a n=>intro u h;cases h;exact .int a n
 |str s=>intro u h;cases h;exact .str s
 |nilp=>intro u h;cases h;exact .nilp
 |nilfn=>intro u h;cases h;exact .nilfn
 |nilifc=>intro u h;cases h;exact .nilifc
 |ref l o b hb=>
  intro u h
  cases h with|ref l o b' hb'=>exact .ref l o b' (Ctx.cut_ref (hn l b hb) hb')
 |yld l b hb=>
  intro u h
  cases h with|yld l b' hb'=>exact .yld l b' (Ctx.cut_ref (hn l b hb) hb')
 |mp l b hb=>
  intro u h
  cases h with|mp l b' hb'=>exact .mp l b' (Ctx.cut_ref (hn l b hb) hb')
 |nilm=>intro u h;cases h;exact .nilm
 |msl l o m sz b off cap hm ho hb=>
  intro u h
  cases h with|msl l o m sz b' off' cap' hm' ho' hb'=>
  have hl:=hn l b (hb.imp (·.1) id)
  refine .msl l o m sz b' off' cap' hm' ho' ?_
  rw[Ctx.cut_m,Ctx.cut_d,if_pos hl,if_pos hl];exact hb'
 |at_ cs b off hb hi ha hc h ih=>
  intro u h'
  cases h' with|at_ cs b' off' hb' hi' ha' hc' h'=>
  refine .at_ cs b' off' hb' (himm _ _ hi') ha' hc' (fun i p v hp hv=> ?_)
  obtain ⟨v0,hv0⟩:=hc i p hp
  exact ih i p v0 hp hv0 (h' i p v hp hv)
 |sl g xs a m cap sz hm hcap hsz hnull hexact hrow ha hc h hown ih=>
  intro u h'
  cases h' with|sl g xs a' m' cap' sz' hm' hcap' hsz' hnull' hexact' hrow' ha' hc' h' hown'=>
  refine .sl g xs a' m' cap' sz' hm' hcap' hsz' hnull' hexact' (fun hx=> ?_) ha' hc' (fun b off j r i p v e hj hi hv=> ?_) (fun q el hq=> ?_)
  ·obtain ⟨b,off,e,h1,h2⟩:=hrow' hx
   exact ⟨b,off,e,h1,himm _ _ h2⟩
  ·have hx:xs≠[]:=by intro e;subst e;simp at hj
   obtain ⟨b0,off0,e0,_⟩:=hrow hx
   obtain ⟨v0,hv0⟩:=hc b0 off0 j r i p e0 hj hi
   exact ih b0 off0 j r i p v0 e0 hj hi hv0 (h' b off j r i p v e hj hi hv)
  ·obtain ⟨hx,b,fr,h1,h2,h3⟩:=hown' q el hq
   obtain ⟨_,b0,fr0,g1,_⟩:=hown q el hq
   exact ⟨hx,b,fr,by rw[Ctx.cut_o,if_pos (hk q b0 fr0 g1)];exact h1,h2,h3⟩
 |row g xs a m cap h ih=>
  intro u h'
  cases h' with|row g xs a' m' cap' h'=>exact .row _ _ _ _ _ (ih h')
 |fn f first caps first' caps' hf0 h1 h2 hf hc ihf ihc=>
  intro u h'
  cases h' with|fn f first caps first2 caps2 hf0 g1 g2 gf gc=>
  refine .fn f first caps first2 caps2 hf0 g1 g2 (fun i p v hp hv=> ?_) (fun i p v hp hv=> ?_)
  ·have hi:i<first'.size:=by rw[h1];exact getElem?_lt hp
   exact ihf i p _ hp (Array.getElem?_eq_getElem hi) (gf i p v hp hv)
  ·have hi:i<caps'.size:=by rw[h2];exact getElem?_lt hp
   exact ihc i p _ hp (Array.getElem?_eq_getElem hi) (gc i p v hp hv)
 |ifc t p v h ih=>
  intro u h'
  cases h' with|ifc t p v' h'=>exact .ifc t p v' (ih h')
 |agg cs vs hl ha h ih=>
  intro u h'
  cases h' with|agg cs vs' hl' ha' h'=>
  refine .agg cs vs' hl' ha' (fun i p v hp hv=> ?_)
  have hi:i<vs.size:=by rw[hl];exact getElem?_lt hp
  exact ih i p _ hp (Array.getElem?_eq_getElem hi) (h' i p v hp hv)
 |tup cs vs hl h ih=>
  intro u h'
  cases h' with|tup cs vs' hl' h'=>
  refine .tup cs vs' hl' (fun i p v hp hv=> ?_)
  have hi:i<vs.size:=by rw[hl];exact getElem?_lt hp
  exact ih i p _ hp (Array.getElem?_eq_getElem hi) (h' i p v hp hv)
theorem seal_back {G:Glob} {C:Ctx} {S:St} {w:World} (hW:WRel G C S w) (n k:Nat): ∀ (d:Nat) {p:PV} {u:Value},Rep C w p u→ ∀ {p':PV},sealW n (drD n S d) p=some p'→Rep (C.cut n k) w p' u∧(p.atom=true→p'.atom=true):=by
 have himm: ∀ b hi,C.imm b hi→(C.cut n k).imm b hi:=fun b hi h=>Ctx.cut_imm n k h
 have hm: ∀ l b,l<n→C.m l=some b→(C.cut n k).m l=some b:=fun l b hl hb=>by rw[Ctx.cut_m,if_pos hl];exact hb
 have hmd: ∀ l,l<n→C.d l=true→(C.cut n k).d l=true:=fun l hl hb=>by rw[Ctx.cut_d,if_pos hl];exact hb
 intro d
 induction d with
 |zero=>
  intro p u h p' hs
  exact seal_gen (C2:=C.cut n k) hm hmd (fun _=>rfl) himm (fun l o l' o' hd=>by simp[drD] at hd) (fun l o b q _ _ hd=>by simp[drD] at hd) h hs
 |succ d ih=>
  intro p u h p' hs
  refine seal_gen (C2:=C.cut n k) hm hmd (fun _=>rfl) himm (fun l o l' o' hd=> ?_) (fun l o b q hl hb hd=> ?_) h hs
  ·simp only[drD] at hd
   split at hd
   ·split at hd
    ·simp only[Option.map_eq_some_iff] at hd
     obtain ⟨_,_,h⟩:=hd;cases h
    ·cases hd
   ·cases hd
  simp only[drD] at hd
  split at hd
  ·rename_i cs hcs
   split at hd
   ·rename_i hle
    simp only[Option.map_eq_some_iff] at hd
    obtain ⟨cs',hcs',rfl⟩:=hd
    obtain ⟨e1,e2⟩:=sealL_spec hcs'
    obtain ⟨hb,hlt,arr,t,h1,h2,h3,h4⟩:=hW.cellsAt hcs hb
    have get: ∀ {i:Nat} {q:PV},cs'[i]?=some q→ ∃ p v,cs[o+i]?=some p∧sealW n (drD n S d) p=some q∧w.cell? ⟨b,o+i,none⟩=some v∧Rep C w p v:=fun {i q} hq=>by
     obtain ⟨p,hp⟩:=get_of_len e1 hq
     have hp':=hp
     rw[List.getElem?_drop] at hp'
     have hi:o+i<arr.size:=by have:=getElem?_lt hp';omega
     exact ⟨p,arr[o+i],hp',e2 i p q hp hq,cell?_of h1 (Array.getElem?_eq_getElem hi),h4 _ p _ hp' (Array.getElem?_eq_getElem hi)⟩
    refine ⟨.at_ cs' b o hlt ⟨fun l' hl'=> ?_,fun j fr hj=> ?_⟩ (fun i q hq=> ?_) (fun i q hq=> ?_) (fun i q v hq hv=> ?_),rfl⟩
    ·rw[Ctx.cut_m] at hl';split at hl'
     ·have:=hW.inj _ _ _ hl' hb;omega
     ·cases hl'
    ·rw[Ctx.cut_o] at hj;split at hj
     ·exact absurd hj (hW.disj l b j fr hb)
     ·cases hj
    ·obtain ⟨p,v,hp,hs,_,hr⟩:=get hq
     exact (ih hr hs).2 (h3 _ p hp)
    ·obtain ⟨p,v,_,_,hv,_⟩:=get hq
     exact ⟨v,hv⟩
    ·obtain ⟨p,v',_,hs,hv',hr⟩:=get hq
     rw[hv'] at hv;injection hv with hv;subst hv
     exact (ih hr hs).1
   ·cases hd
  ·cases hd
theorem take_get {α:Type} {l m:List α} (h:l.take m.length=m) {i:Nat} {x:α} (hx:m[i]?=some x):l[i]?=some x:=by
 have:=getElem?_lt hx
 rw[←h,List.getElem?_take,if_pos this] at hx
 exact hx
theorem close_rep {G:Glob} {C0 C1:Ctx} {S0 S1:St} {w0 w1:World} {v:PV} {u:Value} (h0:WRel G C0 S0 w0) (h1:WRel G C1 S1 w1) (hs:Step C0 w0 C1 w1) (hr:Rep C1 w1 v u):
  ∃ C',Rep C' w1 (close S0 S1 v).1 u∧WRel G C' (close S0 S1 v).2 w1∧Step C0 w0 C' w1:=by
 unfold close
 split
 ·rename_i hc
  simp only[Bool.and_eq_true,beq_iff_eq] at hc
  have hob:=beqO_sound hc.1
  have hown:=hc.2
  split
  ·rename_i v' hv'
   have hn: ∀ l b,(C0.m l=some b∨C0.d l=true)→l<S0.obs.length:=fun l b h=>h.elim (h0.dom l b) fun h=>getElem?_lt (h0.dd l h)
   have hk: ∀ j b fr,C0.o j=some (b,fr)→j<S0.own.length:=fun j b fr h=>getElem?_lt (h0.odom j b fr h).1
   have hsame: ∀ l,l<S0.obs.length→S0.obs[l]?=S1.obs[l]?:=fun l hl=>by rw[←hob,List.getElem?_take,if_pos hl]
   refine ⟨C1.cut S0.obs.length S0.own.length,(seal_back h1 _ _ _ hr hv').1,⟨?_, ?_, ?_, ?_, ?_, ?_, ?_, ?_, ?_, ?_, ?_⟩,⟨hs.ext,⟨?_, ?_, ?_, ?_, ?_, ?_⟩, ?_⟩⟩
   ·intro l ob hl hd
    have hll:=getElem?_lt hl
    have hl1:=take_get hob hl
    obtain ⟨b,g1,g2,g3⟩:=h1.ob l ob hl1 hd
    obtain ⟨b0,k1,k2,k3⟩:=h0.ob l ob hl hd
    refine ⟨b,by rw[Ctx.cut_m,if_pos hll];exact g1,g2, ?_⟩
    cases ob with
    |iter s pos=>exact g3
    |dead=>trivial
    |cells ct cs=>
     obtain ⟨arr,f1,f2,f3,f4⟩:=g3
     obtain ⟨arr0,q1,q2,q3,q4⟩:=k3
     refine ⟨arr,f1,f2,f3,fun i p v hp hv=> ?_⟩
     have hi:i<arr0.size:=by rw[q2];exact getElem?_lt hp
     exact cut_old hn hk (q4 i p _ hp (Array.getElem?_eq_getElem hi)) (f4 i p v hp hv)
    |row ct cs=>
     obtain ⟨arr,f1,f0,f2,f3,f4⟩:=g3
     obtain ⟨arr0,q1,q0,q2,q3,q4⟩:=k3
     refine ⟨arr,f1,f0,f2,f3,fun i p v hp hv=> ?_⟩
     have hi:i<arr0.size:=by have:=getElem?_lt hp;omega
     exact cut_old hn hk (q4 i p _ hp (Array.getElem?_eq_getElem hi)) (f4 i p v hp hv)
    |loop r=>
     obtain ⟨L,nt,f1,f2,f3,f4,f5,f6,f7,f8⟩:=g3
     obtain ⟨L0,nt0,_,_,_,_,_,_,_,q8⟩:=k3
     refine ⟨L,nt,f1,f2,f3,f4,f5,f6,f7,f8.size,fun d p hp=> ?_⟩
     obtain ⟨u,hu,hr⟩:=f8.get d p hp
     obtain ⟨u0,_,hr0⟩:=q8.get d p hp
     exact ⟨u,hu,cut_old hn hk hr0 hr⟩
    |map es c=>
     obtain ⟨arr,f1,f2,f3⟩:=g3
     obtain ⟨arr0,q1,q2,q3⟩:=k3
     refine ⟨arr,f1,f2,fun i k v n m hi hm=> ?_⟩
     obtain ⟨a1,a2,a3⟩:=f3 i k v n m hi hm
     have hi0:i<arr0.size:=by rw[q2];exact getElem?_lt hi
     exact ⟨a1,a2,cut_old hn hk (q3 i k v n _ hi (Array.getElem?_eq_getElem hi0)).2.2 a3⟩
   ·intro l h
    rw[Ctx.cut_d] at h;split at h
    ·rename_i hl;rw[hsame l hl];exact h1.dd l h
    ·cases h
   ·intro l b h
    rw[Ctx.cut_m] at h;split at h
    ·rename_i hl;rw[hsame l hl];exact h1.nd l b h
    ·cases h
   ·intro l b h
    rw[Ctx.cut_m] at h;split at h
    ·assumption
    ·cases h
   ·intro l l' b h h'
    rw[Ctx.cut_m] at h h';split at h
    ·split at h'
     ·exact h1.inj l l' b h h'
     ·cases h'
    ·cases h
   ·intro j fr h
    have hj:=getElem?_lt h
    obtain ⟨b,hb⟩:=h1.own j fr (take_get hown h)
    exact ⟨b,by rw[Ctx.cut_o,if_pos hj];exact hb⟩
   ·intro j b fr h
    rw[Ctx.cut_o] at h;split at h
    ·rename_i hlt
     obtain ⟨g1,g2⟩:=h1.odom j b fr h
     refine ⟨?_,g2⟩
     rw[←hown,List.getElem?_take,if_pos hlt];exact g1
    ·cases h
   ·intro j j' b fr fr' h h'
    rw[Ctx.cut_o] at h h';split at h
    ·split at h'
     ·exact h1.oinj j j' b fr fr' h h'
     ·cases h'
    ·cases h
   ·intro l b j fr h
    rw[Ctx.cut_m] at h;rw[Ctx.cut_o];split at h
    ·split
     ·exact h1.disj l b j fr h
     ·intro h;cases h
    ·cases h
   ·exact fun g cs hg=>cut_old hn hk (h0.glob g cs hg) (h1.glob g cs hg)
   ·intro g o hg
    obtain ⟨g1,g2,g3⟩:=h1.blk g o hg
    refine ⟨g1,fun l hl=> ?_,fun j fr hj=> ?_⟩
    ·rw[Ctx.cut_m] at hl;split at hl
     ·exact g2 l hl
     ·cases hl
    ·rw[Ctx.cut_o] at hj;split at hj
     ·exact g3 j fr hj
     ·cases hj
   ·intro l b h
    exact Ctx.cut_ref (hn l b (.inl h)) (hs.le.m1 l b h)
   ·intro l b h
    rw[Ctx.cut_m] at h;split at h
    ·rcases hs.le.m2 l b h with h|h|⟨l0,h,hd⟩
     ·exact .inl h
     ·exact .inr (.inl h)
     ·exact .inr (.inr ⟨l0,h,by rw[Ctx.cut_d,if_pos (hn l0 b (.inl h))];exact hd⟩)
    ·cases h
   ·intro l h
    rw[Ctx.cut_d,if_pos (hn l 0 (.inr h))];exact hs.le.d1 l h
   ·intro l b h h'
    rw[Ctx.cut_m] at h';split at h'
    ·exact hs.le.c1 l b h h'
    ·cases h'
   ·intro j b fr h
    rw[Ctx.cut_o] at h;split at h
    ·exact hs.le.o1 j b fr h
    ·cases h
   ·intro j b fr h
    obtain ⟨b',fr',g1,g2,g3⟩:=hs.le.o2 j b fr h
    exact ⟨b',fr',by rw[Ctx.cut_o,if_pos (hk j b fr h)];exact g1,g2,g3⟩
   ·intro j b fr h h'
    rw[Ctx.cut_o] at h';split at h'
    ·exact hs.own j b fr h h'
    ·cases h'
  ·exact ⟨C1,hr,h1,hs⟩
 ·exact ⟨C1,hr,h1,hs⟩
end Go.PE
