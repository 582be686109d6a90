/-
  What is shown is read: every right expression; so one text is one expression. Conditions: numbers are of 64 bits.
-/
import Derived.Test.YtleggogbmklddaaGreatDoorEYA
import Derived.Test.YtleggogbmklddaaGreatDoorDX1
namespace Go.PE
open Go Go.RowKit Go.Proofs
set_option linter.unusedVariables false
set_option linter.unusedSimpArgs false
set_option maxRecDepth 100000
def Inv (e:GExp):Prop:=HO e∧NX e∧(1≤tightE e→NW e)∧HF e∧HP e∧HS e
theorem nx_at {x:GExp} (n:Int) (h:NX x): ∃ c t,aL x n=c::t∧c≠41:=by
 unfold aL
 split
 ·exact ⟨40,_,rfl,by decide⟩
 ·exact h
theorem inv_0 {e:GExp} (ht:tightE e<2) (ho:HO e) (nx:NX e) (nw:1≤tightE e→NW e):Inv e:=by
 have hf:=HF_paren (by omega) (HB_of ho)
 have hp:=HP_of (by omega) hf
 exact ⟨ho,nx,nw,hf,hp,HS_of (by omega) hp⟩
theorem inv_5 {e:GExp} (ht:tightE e=5) (ha:HA e) (nx:NX e) (nw:NW e):Inv e:=by
 have hf:=HF_atom ht ha
 have hp:=HP_of (by omega) hf
 have hs:=HS_of (by omega) hp
 exact ⟨HO_of (by omega) nw hs,nx,fun _=>nw,hf,hp,hs⟩
theorem inv_4 {e:GExp} (ht:tightE e=4) (hf:HF e) (nx:NX e) (nw:NW e):Inv e:=by
 have hp:=HP_of (by omega) hf
 have hs:=HS_of (by omega) hp
 exact ⟨HO_of (by omega) nw hs,nx,fun _=>nw,hf,hp,hs⟩
theorem inv_3 {e:GExp} (ht:tightE e=3) (hp:HP e) (nx:NX e) (nw:NW e):Inv e:=by
 have hs:=HS_of (by omega) hp
 have ho:=HO_of (by omega) nw hs
 exact ⟨ho,nx,fun _=>nw,HF_paren (by omega) (HB_of ho),hp,hs⟩
theorem inv_2 {e:GExp} (ht:tightE e=2) (hs:HS e) (nx:NX e) (nw:NW e):Inv e:=by
 have ho:=HO_of (by omega) nw hs
 have hf:=HF_paren (by omega) (HB_of ho)
 exact ⟨ho,nx,fun _=>nw,hf,HP_of (by omega) hf,hs⟩
theorem nw_of {e:GExp} {c:UInt8} {t:List UInt8} (h:eL e=c::t) (ha:alnum c=false):NW e:=fun r _=>by rw[h,List.cons_append];exact nk_no ha
theorem nw_wd {e:GExp} {w t:List UInt8} (h: ∀ r,outA r→wd (eL e++r)=(w,t++r)) (n1:w≠[108,101,116]) (n2:w≠[105,102]) (n3:w≠[102,110]):NW e:=fun r hr=>by
 unfold NK;rw[h r hr];exact ⟨n1,n2,n3⟩
theorem nw_at {e x:GExp} {n:Int} {t:List UInt8} (h:eL e=aL x n++t) (ho: ∀ r,outA r→outA (t++r)) (hx:1≤tightE x→NW x) (hn:1≤n):NW e:=fun r hr=>by
 rw[h,List.append_assoc]
 refine nk_at n ?_ _ (ho r hr)
 by_cases h1:tightE x<n
 ·exact .inl h1
 ·exact .inr (hx (by omega))
theorem nx_front {e x:GExp} {n:Int} {t:List UInt8} (h:eL e=aL x n++t) (hx:NX x):NX e:=by
 obtain ⟨c,u,e1,hc⟩:=nx_at n hx
 exact ⟨c,u++t,by rw[h,e1];rfl,hc⟩
theorem eL_8 {x y:GExp}:eL (.mk 8 0 no false [] [] [x,y])=aL x 4++(40::(eL y++[41])):=by
 unfold eL
 rw[showE_8 (x:=x) (y:=y) rfl rfl]
 simp only[append_l,at_l]
 show aL x 4++[40]++(showE y).data.toList++[41]=_
 simp
theorem eL_10 {x:GExp} {s:ByteArray}:eL (.mk 10 0 s false [] [] [x])=aL x 4++(46::s.data.toList):=by
 unfold eL
 rw[showE_10 (x:=x) rfl rfl rfl]
 simp only[append_l,at_l]
 show aL x 4++[46]++s.data.toList=_
 simp
theorem lowNe {c:UInt8} (h:lowB c=true):c≠41:=fun e=>by subst e;revert h;decide
theorem inv_all: ∀ e:GExp,OkExp e→rightE e=true→Inv e:=by
 refine GExp.ind fun e ih ok hr=> ?_
 obtain ⟨ho,hk⟩:=right_own hr
 have k:=own_kinds ho
 obtain ⟨p1,p2,p3,p4,p5,p6,p7,p8,p9,p10⟩:=own_more ho
 obtain ⟨q1,q2,q3,q4,q5,q6,q7,q8,q9,q10,q11,q12,q13,q14⟩:=own_facts ho
 obtain ⟨⟨_,okk⟩,_,_,_,_,hN⟩:=okExp_at ok
 replace ih:=fun x hx=>ih x hx (okk x hx) (hk x hx)
 have ty: ∀ t∈e.Types,rightT t=true:=fun t ht=>by
  unfold typesOk at q1
  rw[List.all_eq_true] at q1
  have:=q1 t ht
  simp only[Bool.and_eq_true] at this;exact this.1
 have nm:e.K≠3→e.K≠4→e.K≠5→e.K≠7→e.K≠10→e.K≠13→e.Name=no:=fun h1 h2 h3 h4 h5 h6=>strEq_iff.1 (p1 h1 h2 h3 h4 h5 h6)
 have nil: ∀ {α:Type} {l:List α},l.length=0→l=[]:=fun h=>List.eq_nil_of_length_eq_zero h
 clear p1 hr ho hk q1 okk ok
 obtain ⟨K,N,Name,Has,Types,Labels,Kids⟩:=e
 simp only[GExp.K,GExp.N,GExp.Name,GExp.Has,GExp.Types,GExp.Labels,GExp.Kids] at*
 rcases k with rfl|rfl|rfl|rfl|rfl|rfl|rfl|rfl|rfl|rfl|rfl|rfl|rfl
 ·obtain rfl:=nm (by decide) (by decide) (by decide) (by decide) (by decide) (by decide)
  obtain rfl:=p5 (by decide)
  obtain rfl:=nil (p6 (by decide))
  obtain rfl:=nil (p8 (by decide) (by decide) (by decide) (by decide))
  obtain rfl:=nil (q2 rfl).1
  obtain ⟨n,rfl⟩:=Int.eq_ofNat_of_zero_le (q2 rfl).2
  have hn:n<10 ^ 20:=by obtain ⟨_,h⟩:=hN;omega
  have e1:eL (.mk 1 (n:Int) no false [] [] [])=digF 20 n:=by
   unfold eL
   rw[showE_1 rfl]
   show (numS (n:Int)).data.toList=_
   rw[numS_nn (by omega)];simp
  have hd:=digF_dig 20 n
  have ha:=digF_al 20 n
  have hne:=digF_ne 19 n
  have hw: ∀ r,outA r→wd (eL (.mk 1 (n:Int) no false [] [] [])++r)=(digF 20 n,[]++r):=fun r hr=>by rw[e1];exact wd_app ha hr
  refine inv_5 rfl (HA_num hn) ?_ (nw_wd hw ?_ ?_ ?_)
  ·cases hw:digF 20 n with
   |nil=>exact absurd hw hne
   |cons c w=>exact ⟨c,w,by rw[e1,hw],fun e=>by have:=hd c (by simp[hw]);subst e;revert this;decide⟩
  ·exact fun e=>by have:=hd 108 (by simp[e]);revert this;decide
  ·exact fun e=>by have:=hd 105 (by simp[e]);revert this;decide
  ·exact fun e=>by have:=hd 102 (by simp[e]);revert this;decide
 ·obtain rfl:=nm (by decide) (by decide) (by decide) (by decide) (by decide) (by decide)
  obtain rfl:=p5 (by decide)
  obtain rfl:=nil (p6 (by decide))
  obtain rfl:=nil (p8 (by decide) (by decide) (by decide) (by decide))
  obtain rfl:=nil (q3 rfl).1
  have h:=(q3 rfl).2
  refine inv_5 rfl (HA_bool h) ?_ ?_
  ·rcases h with rfl|rfl
   ·exact ⟨102,[97,108,115,101],rfl,by decide⟩
   ·exact ⟨116,[114,117,101],rfl,by decide⟩
  ·rcases h with rfl|rfl
   ·exact nw_wd (w:=[102,97,108,115,101]) (t:=[]) (fun r hr=>wd_app (w:=[102,97,108,115,101]) (by decide) hr) (by decide) (by decide) (by decide)
   ·exact nw_wd (w:=[116,114,117,101]) (t:=[]) (fun r hr=>wd_app (w:=[116,114,117,101]) (by decide) hr) (by decide) (by decide) (by decide)
 ·obtain rfl:=p3 (by decide) (by decide) (by decide)
  obtain rfl:=p5 (by decide)
  obtain rfl:=nil (p6 (by decide))
  obtain rfl:=nil (p8 (by decide) (by decide) (by decide) (by decide))
  obtain rfl:=nil (q4 rfl)
  have e1:eL (.mk 3 0 Name false [] [] [])=34::(Name.data.toList.flatMap qc++[34]):=by
   unfold eL
   rw[showE_3 rfl]
   show (quoteS Name).data.toList=_
   unfold quoteS
   rw[txt_data];simp
  exact inv_5 rfl (HA_str Name) ⟨_,_,e1,by decide⟩ (nw_of e1 (by decide))
 ·have hs:=p2 (by decide)
  obtain rfl:=p3 (by decide) (by decide) (by decide)
  obtain rfl:=p5 (by decide)
  obtain rfl:=nil (p6 (by decide))
  obtain rfl:=nil (p8 (by decide) (by decide) (by decide) (by decide))
  obtain rfl:=nil (q5 rfl)
  have e1:eL (.mk 4 0 Name false [] [] [])=Name.data.toList:=by unfold eL;rw[showE_4 rfl];rfl
  have kw:=fine_word hs
  have n1:Name.data.toList≠[108,101,116]:=fun e=>kw ⟨#[108,101,116]⟩ (by simp[wordsA]) (by rw[←txt_toList Name,e];rfl)
  have n2:Name.data.toList≠[105,102]:=fun e=>kw ⟨#[105,102]⟩ (by simp[wordsA]) (by rw[←txt_toList Name,e];rfl)
  have n3:Name.data.toList≠[102,110]:=fun e=>kw ⟨#[102,110]⟩ (by simp[wordsA]) (by rw[←txt_toList Name,e];rfl)
  obtain ⟨al,c,t,hc,hl⟩:=fine_al hs
  exact inv_5 rfl (HA_var hs) ⟨c,t,by rw[e1,hc],lowNe hl⟩ (nw_wd (t:=[]) (fun r hr=>by rw[e1];exact wd_app al hr) n1 n2 n3)
 ·have hs:=p2 (by decide)
  obtain rfl:=p3 (by decide) (by decide) (by decide)
  obtain rfl:=p5 (by decide)
  obtain rfl:=nil (p6 (by decide))
  obtain ⟨hk,ht⟩:=q6 rfl
  obtain ⟨x,y,rfl⟩:=lenIs2 hk
  refine inv_0 (show (0:Int)<2 by decide) (HO_let hs ht ty (ih x (by simp)).1 (ih y (by simp)).1) ?_ (fun h=>absurd h (show ¬ (1:Int)≤0 by decide))
  exact ⟨108,_,by unfold eL;rw[showE_5 (x:=x) (y:=y) rfl rfl];simp only[append_l];rfl,by decide⟩
 ·obtain rfl:=nm (by decide) (by decide) (by decide) (by decide) (by decide) (by decide)
  obtain rfl:=p3 (by decide) (by decide) (by decide)
  obtain rfl:=p5 (by decide)
  obtain rfl:=nil (p6 (by decide))
  obtain rfl:=nil (p8 (by decide) (by decide) (by decide) (by decide))
  obtain ⟨x,y,z,rfl⟩:=lenIs3 (q7 rfl)
  refine inv_0 (show (0:Int)<2 by decide) (HO_if (ih x (by simp)).1 (ih y (by simp)).1 (ih z (by simp)).1) ?_ (fun h=>absurd h (show ¬ (1:Int)≤0 by decide))
  exact ⟨105,_,by unfold eL;rw[showE_6 (x:=x) (y:=y) (z:=z) rfl rfl];simp only[append_l];rfl,by decide⟩
 ·have hs:=p2 (by decide)
  obtain rfl:=p3 (by decide) (by decide) (by decide)
  obtain rfl:=p5 (by decide)
  obtain rfl:=nil (p6 (by decide))
  obtain ⟨hk,ht⟩:=q8 rfl
  obtain ⟨x,rfl⟩:=lenIs1 hk
  refine inv_0 (show (0:Int)<2 by decide) (HO_fn hs ht ty (ih x (by simp)).1) ?_ (fun h=>absurd h (show ¬ (1:Int)≤0 by decide))
  exact ⟨102,_,by unfold eL;rw[showE_7 (e:= .mk 7 0 Name false Types [] [x]) (x:=x) rfl rfl ht];simp only[append_l];rfl,by decide⟩
 ·obtain rfl:=nm (by decide) (by decide) (by decide) (by decide) (by decide) (by decide)
  obtain rfl:=p3 (by decide) (by decide) (by decide)
  obtain rfl:=p5 (by decide)
  obtain rfl:=nil (p6 (by decide))
  obtain rfl:=nil (p8 (by decide) (by decide) (by decide) (by decide))
  obtain ⟨x,y,rfl⟩:=lenIs2 (q9 rfl)
  obtain ⟨_,nx,nw,hf,_⟩:=ih x (by simp)
  exact inv_4 rfl (HF_app hf (ih y (by simp)).1) (nx_front eL_8 nx) (nw_at eL_8 (fun r _=>show alnum 40=false by decide) nw (by decide))
 ·obtain rfl:=nm (by decide) (by decide) (by decide) (by decide) (by decide) (by decide)
  obtain rfl:=p3 (by decide) (by decide) (by decide)
  obtain rfl:=p5 (by decide)
  obtain rfl:=nil (p8 (by decide) (by decide) (by decide) (by decide))
  have e1: ∃ t,eL (.mk 9 0 no false [] Labels Kids)=123::t:=by
   unfold eL;rw[showE_9 rfl];simp only[append_l];exact ⟨_,rfl⟩
  obtain ⟨t,e1⟩:=e1
  have hl: ∀ l∈Labels,fineS l=true:=risF_fine (p:=none) (p7 rfl)
  exact inv_5 rfl (HA_rec hl (q10 rfl).1.symm fun k hk=>(ih k hk).1) ⟨_,_,e1,by decide⟩ (nw_of e1 (by decide))
 ·have hs:=p2 (by decide)
  obtain rfl:=p3 (by decide) (by decide) (by decide)
  obtain rfl:=p5 (by decide)
  obtain rfl:=nil (p6 (by decide))
  obtain rfl:=nil (p8 (by decide) (by decide) (by decide) (by decide))
  obtain ⟨x,rfl⟩:=lenIs1 (q11 rfl).1
  obtain ⟨_,nx,nw,hf,_⟩:=ih x (by simp)
  exact inv_4 rfl (HF_proj hs hf) (nx_front eL_10 nx) (nw_at eL_10 (fun r _=>show alnum 46=false by decide) nw (by decide))
 ·obtain rfl:=nm (by decide) (by decide) (by decide) (by decide) (by decide) (by decide)
  obtain rfl:=p5 (by decide)
  obtain rfl:=nil (p6 (by decide))
  obtain rfl:=nil (p8 (by decide) (by decide) (by decide) (by decide))
  obtain ⟨x,y,rfl⟩:=lenIs2 (q12 rfl)
  obtain ⟨_,nx,nw,hf,hp,hs⟩:=ih x (by simp)
  obtain ⟨_,_,_,hf2,hp2,hs2⟩:=ih y (by simp)
  have hN:=p4 rfl
  have hM:1≤max (tightO N) 2:=by omega
  have nx':=nx_front (op_l (n:=N) (y:=y)) nx
  have nw':=nw_at (op_l (n:=N) (x:=x) (y:=y)) (fun r _=>show alnum 32=false by decide) nw hM
  have:N=1∨N=2∨N=3∨N=4∨N=5∨N=6∨N=7:=by omega
  rcases this with rfl|rfl|rfl|rfl|rfl|rfl|rfl
  ·exact inv_2 rfl (HS_add (by decide) hs hp2) nx' nw'
  ·exact inv_2 rfl (HS_add (by decide) hs hp2) nx' nw'
  ·exact inv_3 rfl (HP_mul (by decide) hp hf2) nx' nw'
  ·exact inv_3 rfl (HP_mul (by decide) hp hf2) nx' nw'
  ·exact inv_2 rfl (HS_add (by decide) hs hp2) nx' nw'
  all_goals
   have nt:tightE x<2∨NW x:=by
    by_cases h:tightE x<2
    ·exact .inl h
    ·exact .inr (nw (by omega))
   exact inv_0 (show (1:Int)<2 by decide) (HO_cmp (by decide) nt hs hs2) nx' (fun _=>nw')
 ·obtain rfl:=nm (by decide) (by decide) (by decide) (by decide) (by decide) (by decide)
  obtain rfl:=p3 (by decide) (by decide) (by decide)
  obtain rfl:=p5 (by decide)
  obtain rfl:=nil (p6 (by decide))
  obtain ⟨x,rfl⟩:=lenIs1 (q13 rfl).1
  obtain ⟨t,rfl⟩:=lenIs1 (q13 rfl).2
  have e1: ∃ u,eL (.mk 12 0 no false [t] [] [x])=40::u:=by
   unfold eL;rw[showE_12 (e:= .mk 12 0 no false [t] [] [x]) (x:=x) (t:=t) rfl rfl rfl];simp only[append_l];exact ⟨_,rfl⟩
  obtain ⟨u,e1⟩:=e1
  exact inv_5 rfl (HA_asc (ty t (by simp)) (ih x (by simp)).1) ⟨_,_,e1,by decide⟩ (nw_of e1 (by decide))
 ·have hs:=p2 (by decide)
  obtain rfl:=p3 (by decide) (by decide) (by decide)
  obtain rfl:=nil (p6 (by decide))
  have e1: ∃ u,eL (.mk 13 0 Name Has Types [] Kids)=[99,97,108,108]++(32::u):=by
   unfold eL;rw[showE_13 rfl];simp only[append_l];exact ⟨_,rfl⟩
  obtain ⟨u,e1⟩:=e1
  refine inv_5 rfl (HA_call hs (fun h=>nil (p9 rfl h)) (fun h=>p10 rfl h) ty (fun k hk=>(ih k hk).1) fun k hk=>(ih k hk).2.1) ⟨99,_,e1,by decide⟩ (nw_wd (w:=[99,97,108,108]) (t:=32::u) (fun r hr=> ?_) (by decide) (by decide) (by decide))
  rw[e1,List.append_assoc];exact wd_app (by decide) (show alnum 32=false by decide)
theorem show_inj {x y:GExp} (ox:OkExp x) (oy:OkExp y) (hx:rightE x=true) (hy:rightE y=true) (h:showE x=showE y):x=y:=by
 obtain ⟨F,h1⟩:=(inv_all x ox hx).1
 obtain ⟨G,h2⟩:=(inv_all y oy hy).1
 have h1:=h1 (F+G) (by omega) [] f_nil
 have h2:=h2 (F+G) (by omega) [] f_nil
 have e:eL x=eL y:=by unfold eL;rw[h]
 rw[e,h2] at h1
 injection h1 with h1;injection h1 with h1 _;injection h1 with h1 _;injection h1 with h1 _
 exact h1.symm
end Go.PE
