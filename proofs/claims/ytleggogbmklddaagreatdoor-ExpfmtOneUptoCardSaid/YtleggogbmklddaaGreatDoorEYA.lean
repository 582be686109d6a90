/-
  What is shown is read: let, if, fn. No conditions.
-/
import Derived.Test.YtleggogbmklddaaGreatDoorEY7
namespace Go.PE
open Go Go.RowKit Go.Proofs
set_option linter.unusedVariables false
set_option linter.unusedSimpArgs false
set_option maxRecDepth 100000
def bL:List GTy→List UInt8
 |[]=>[]
 |t::_=>58::32::shL t
theorem showT_l {t:GTy} (h:rightT t=true):(showT t).data.toList=shL t:=by unfold showT shL;rw[if_pos h]
theorem bound_l {e:GExp} (h: ∀ t∈e.Types,rightT t=true):(boundS e).data.toList=e.Name.data.toList++bL e.Types:=by
 unfold boundS bL
 cases q:e.Types with
 |nil=>simp
 |cons t l=>
  simp only[append_l,showT_l (h t (by simp[q]))]
  show e.Name.data.toList++[58,32]++shL t=_
  simp
theorem bnd_ok {ts:List GTy} {u:List UInt8} (hl:ts.length≤1) (ok: ∀ t∈ts,rightT t=true) (hu:outS u) (h2:eat [58,32] u=none):bnd (bL ts++u)=some (ts,u):=by
 match ts,hl with
 |[],_=>unfold bnd bL;simp only[List.nil_append,h2]
 |[t],_=>
  have e1:bL [t]++u=58::32::(shL t++u):=by simp[bL]
  have e2:eat [58,32] (58::32::(shL t++u))=some (shL t++u):=by simp[eat]
  unfold bnd
  rw[e1,e2]
  simp only[rdT_sh (ok t (by simp)) hu,Option.map_some]
theorem bL_out {ts:List GTy} {u:List UInt8} (hu:outA u):outA (bL ts++u):=by
 cases ts with
 |nil=>exact hu
 |cons t l=>show alnum 58=false;decide
theorem F0_sp {c:UInt8} {z:List UInt8} (h1:c≠42) (h2:c≠47) (h3:c≠43) (h4:c≠45) (h5:c≠60) (h6: ∀ d r,z=d::r→c=61→d≠61) (h7:c=61→z≠[]):F0 (32::c::z):=by
 have n1: ¬ (42:UInt8)=c:=fun e=>h1 e.symm
 have n2: ¬ (47:UInt8)=c:=fun e=>h2 e.symm
 have n3: ¬ (43:UInt8)=c:=fun e=>h3 e.symm
 have n4: ¬ (45:UInt8)=c:=fun e=>h4 e.symm
 have n5: ¬ (60:UInt8)=c:=fun e=>h5 e.symm
 refine ⟨⟨⟨F3_32 _, ?_⟩, ?_⟩, ?_⟩
 ·simp[opM,eat,n1,n2]
 ·simp[opA,eat,n3,n4]
 ·unfold opC
  have e1:eat [32,60,32] (32::c::z)=none:=by simp[eat,n5]
  have e2:eat [32,61,61,32] (32::c::z)=none:=by
   by_cases hc:c=61
   ·subst hc
    cases z with
    |nil=>exact absurd rfl (h7 rfl)
    |cons d r=>
     have:=h6 d r rfl rfl
     have n: ¬ (61:UInt8)=d:=fun e=>this e.symm
     simp[eat,n]
   ·have n: ¬ (61:UInt8)=c:=fun e=>hc e.symm
    simp[eat,n]
  rw[e1,e2];rfl
theorem HO_let {x y:GExp} {s:ByteArray} {ts:List GTy} (hs:fineS s=true) (hl:ts.length≤1) (ok: ∀ t∈ts,rightT t=true) (hx:HO x) (hy:HO y):HO (.mk 5 0 s false ts [] [x,y]):=by
 obtain ⟨F,hx⟩:=hx
 obtain ⟨G,hy⟩:=hy
 refine ⟨F+G+1,fun f hf r hr=> ?_⟩
 obtain ⟨g,rfl⟩: ∃ g,f=g+1:=⟨f - 1,by omega⟩
 have e1:eL (.mk 5 0 s false ts [] [x,y])++r=[108,101,116]++(32::(s.data.toList++(bL ts++(32::61::32::(eL x++(32::105::110::32::(eL y++r))))))):=by
  unfold eL
  rw[showE_5 (x:=x) (y:=y) rfl rfl]
  simp only[append_l,bound_l (e:= .mk 5 0 s false ts [] [x,y]) ok]
  show [108,101,116,32]++(s.data.toList++bL ts)++[32,61,32]++(showE x).data.toList++[32,105,110,32]++(showE y).data.toList++r=_
  simp
 have h1:=hx g (by omega) (32::105::110::32::(eL y++r)) (F0_sp (by decide) (by decide) (by decide) (by decide) (by decide) (fun _ _ _ h=>absurd h (by decide)) (fun h=>absurd h (by decide)))
 have h2:=hy g (by omega) r hr
 have w1: ∀ z,wd ([108,101,116]++(32::z))=([108,101,116],32::z):=fun z=>wd_app (by decide) (show alnum 32=false by decide)
 have w2:=wd_app (u:=bL ts++(32::61::32::(eL x++(32::105::110::32::(eL y++r))))) (fine_al hs).1 (bL_out (show alnum 32=false by decide))
 have b1:=bnd_ok (u:=32::61::32::(eL x++(32::105::110::32::(eL y++r)))) hl ok ⟨by decide,fun h=>absurd h.2 (by simp)⟩ (by simp[eat])
 have t1: ∀ z,eat [32,61,32] (32::61::32::z)=some z:=fun z=>by simp[eat]
 have t2: ∀ z,eat [32,105,110,32] (32::105::110::32::z)=some z:=fun z=>by simp[eat]
 rw[e1]
 simp only[rd,w1,if_true,eat_yes,Option.bind_some,w2,b1,t1,h1,t2,h2,txt_toList]
 rfl
theorem HO_if {x y z:GExp} (hx:HO x) (hy:HO y) (hz:HO z):HO (.mk 6 0 no false [] [] [x,y,z]):=by
 obtain ⟨F,hx⟩:=hx
 obtain ⟨G,hy⟩:=hy
 obtain ⟨K,hz⟩:=hz
 refine ⟨F+G+K+1,fun f hf r hr=> ?_⟩
 obtain ⟨g,rfl⟩: ∃ g,f=g+1:=⟨f - 1,by omega⟩
 have e1:eL (.mk 6 0 no false [] [] [x,y,z])++r=[105,102]++(32::(eL x++(32::116::104::101::110::32::(eL y++(32::101::108::115::101::32::(eL z++r)))))):=by
  unfold eL
  rw[showE_6 (x:=x) (y:=y) (z:=z) rfl rfl]
  simp only[append_l]
  show [105,102,32]++(showE x).data.toList++[32,116,104,101,110,32]++(showE y).data.toList++[32,101,108,115,101,32]++(showE z).data.toList++r=_
  simp
 have h1:=hx g (by omega) (32::116::104::101::110::32::(eL y++(32::101::108::115::101::32::(eL z++r)))) (F0_sp (by decide) (by decide) (by decide) (by decide) (by decide) (fun _ _ _ h=>absurd h (by decide)) (fun h=>absurd h (by decide)))
 have h2:=hy g (by omega) (32::101::108::115::101::32::(eL z++r)) (F0_sp (by decide) (by decide) (by decide) (by decide) (by decide) (fun _ _ _ h=>absurd h (by decide)) (fun h=>absurd h (by decide)))
 have h3:=hz g (by omega) r hr
 have w1: ∀ z,wd ([105,102]++(32::z))=([105,102],32::z):=fun z=>wd_app (by decide) (show alnum 32=false by decide)
 have t1: ∀ z,eat [32,116,104,101,110,32] (32::116::104::101::110::32::z)=some z:=fun z=>by simp[eat]
 have t2: ∀ z,eat [32,101,108,115,101,32] (32::101::108::115::101::32::z)=some z:=fun z=>by simp[eat]
 have n1:([105,102]:List UInt8)≠[108,101,116]:=by decide
 rw[e1]
 simp only[rd,w1,n1,if_true,if_false,eat_yes,Option.bind_some,t1,h1,t2,h2,h3]
 rfl
theorem HO_fn {x:GExp} {s:ByteArray} {ts:List GTy} (hs:fineS s=true) (hl:ts.length≤1) (ok: ∀ t∈ts,rightT t=true) (hx:HO x):HO (.mk 7 0 s false ts [] [x]):=by
 obtain ⟨F,hx⟩:=hx
 refine ⟨F+1,fun f hf r hr=> ?_⟩
 obtain ⟨g,rfl⟩: ∃ g,f=g+1:=⟨f - 1,by omega⟩
 have e1:eL (.mk 7 0 s false ts [] [x])++r=[102,110]++(32::(s.data.toList++(bL ts++(32::61::62::32::(eL x++r))))):=by
  unfold eL
  rw[showE_7 (e:= .mk 7 0 s false ts [] [x]) (x:=x) rfl rfl hl]
  simp only[append_l,bound_l (e:= .mk 7 0 s false ts [] [x]) ok]
  show [102,110,32]++(s.data.toList++bL ts)++[32,61,62,32]++(showE x).data.toList++r=_
  simp
 have h1:=hx g (by omega) r hr
 have w1: ∀ z,wd ([102,110]++(32::z))=([102,110],32::z):=fun z=>wd_app (by decide) (show alnum 32=false by decide)
 have w2:=wd_app (u:=bL ts++(32::61::62::32::(eL x++r))) (fine_al hs).1 (bL_out (show alnum 32=false by decide))
 have b1:=bnd_ok (u:=32::61::62::32::(eL x++r)) hl ok ⟨by decide,fun h=>absurd h.2 (by simp)⟩ (by simp[eat])
 have t1: ∀ z,eat [32,61,62,32] (32::61::62::32::z)=some z:=fun z=>by simp[eat]
 have n1:([102,110]:List UInt8)≠[108,101,116]:=by decide
 have n2:([102,110]:List UInt8)≠[105,102]:=by decide
 rw[e1]
 simp only[rd,w1,n1,n2,if_true,if_false,eat_yes,Option.bind_some,w2,b1,t1,h1,txt_toList]
 rfl
end Go.PE
namespace Go.PE
open Go Go.RowKit Go.Proofs
set_option linter.unusedVariables false
set_option linter.unusedSimpArgs false
set_option maxRecDepth 100000
theorem digF_dig: ∀ (f n:Nat),∀ c∈digF f n,digB c=true
 |0,n,c,h=>by simp[digF] at h
 |f+1,n,c,h=>by
  have key: ∀ k,k<10→digB (UInt8.ofNat (48+k))=true:=by decide
  rw[digF] at h
  split at h
  ·rename_i hn
   simp only[List.mem_singleton] at h
   subst h;exact key n hn
  ·rw[List.mem_append,List.mem_singleton] at h
   rcases h with h|h
   ·exact digF_dig f _ c h
   ·subst h;exact key (n % 10) (Nat.mod_lt _ (by decide))
theorem word_no {c:UInt8} {s:List UInt8} (h:alnum c=true):eat [34] (c::s)=none∧eat [123] (c::s)=none∧eat [40] (c::s)=none:=by
 refine ⟨eat_no fun e=> ?_,eat_no fun e=> ?_,eat_no fun e=> ?_⟩<;>(subst e;revert h;decide)
theorem HA_num {n:Nat} (hn:n<10 ^ 20):HA (.mk 1 (n:Int) no false [] [] []):=by
 refine ⟨1,fun f hf r hr=> ?_⟩
 obtain ⟨g,rfl⟩: ∃ g,f=g+1:=⟨f - 1,by omega⟩
 have e1:eL (.mk 1 (n:Int) no false [] [] [])=digF 20 n:=by
  unfold eL
  rw[showE_1 rfl]
  show (numS (n:Int)).data.toList=_
  rw[numS_nn (by omega)];simp
 have h1:=rdN_dig hn hr
 rw[e1]
 have hd:=digF_dig 20 n
 have ha:=digF_al 20 n
 have hne:=digF_ne 19 n
 generalize digF 20 n=w at*
 cases w with
 |nil=>exact absurd rfl hne
 |cons c w=>
  obtain ⟨a1,a2,a3⟩:=word_no (s:=w++r) (ha c (by simp))
  have d1:=hd c (by simp)
  rw[List.cons_append] at h1 ⊢
  simp only[rd,a1,a2,a3,List.head?_cons,Option.map_some,d1,Option.getD_some,if_true,h1]
  rfl
theorem HA_str (s:ByteArray):HA (.mk 3 0 s false [] [] []):=by
 refine ⟨1,fun f hf r hr=> ?_⟩
 obtain ⟨g,rfl⟩: ∃ g,f=g+1:=⟨f - 1,by omega⟩
 have e1:eL (.mk 3 0 s false [] [] [])++r=34::(s.data.toList.flatMap qc++34::r):=by
  unfold eL
  rw[showE_3 rfl]
  show (quoteS s).data.toList++r=_
  unfold quoteS
  rw[txt_data];simp
 rw[e1]
 simp only[rd,eat_yes,rdQ_q,Option.map_some,txt_toList]
 rfl
theorem low_no {c:UInt8} (h:lowB c=true):digB c=false∧alnum c=true:=by
 unfold alnum
 rw[h]
 refine ⟨?_,by simp⟩
 unfold lowB at h;unfold digB
 simp only[Bool.and_eq_true,decide_eq_true_eq] at h
 simp only[Bool.and_eq_false_iff,decide_eq_false_iff_not]
 omega
theorem HA_var {s:ByteArray} (hs:fineS s=true):HA (.mk 4 0 s false [] [] []):=by
 refine ⟨1,fun f hf r hr=> ?_⟩
 obtain ⟨g,rfl⟩: ∃ g,f=g+1:=⟨f - 1,by omega⟩
 have e1:eL (.mk 4 0 s false [] [] [])=s.data.toList:=by unfold eL;rw[showE_4 rfl];rfl
 have w:=wd_app (fine_al hs).1 hr
 have kw:=fine_word hs
 have n1:s.data.toList≠[116,114,117,101]:=fun e=>kw ⟨#[116,114,117,101]⟩ (by simp[wordsA]) (by rw[←txt_toList s,e];rfl)
 have n2:s.data.toList≠[102,97,108,115,101]:=fun e=>kw ⟨#[102,97,108,115,101]⟩ (by simp[wordsA]) (by rw[←txt_toList s,e];rfl)
 have n3:s.data.toList≠[99,97,108,108]:=fun e=>kw ⟨#[99,97,108,108]⟩ (by simp[wordsA]) (by rw[←txt_toList s,e];rfl)
 obtain ⟨_,c,t,hc,hl⟩:=fine_al hs
 obtain ⟨d1,al⟩:=low_no hl
 obtain ⟨a1,a2,a3⟩:=word_no (s:=t++r) al
 have hd:(s.data.toList++r)=c::(t++r):=by rw[hc];rfl
 rw[e1]
 simp only[rd,w,n1,n2,n3,if_false,txt_toList]
 rw[hd]
 simp only[a1,a2,a3,List.head?_cons,Option.map_some,d1,Option.getD_some,Bool.false_eq_true,if_false]
 rfl
theorem HA_bool {n:Int} (hn:n=0∨n=1):HA (.mk 2 n no false [] [] []):=by
 refine ⟨1,fun f hf r hr=> ?_⟩
 obtain ⟨g,rfl⟩: ∃ g,f=g+1:=⟨f - 1,by omega⟩
 have w1:=wd_app (w:=[116,114,117,101]) (u:=r) (by decide) hr
 have w2:=wd_app (w:=[102,97,108,115,101]) (u:=r) (by decide) hr
 rcases hn with rfl|rfl
 ·have e1:eL (.mk 2 0 no false [] [] [])=[102,97,108,115,101]:=rfl
  obtain ⟨a1,a2,a3⟩:=word_no (c:=102) (s:=[97,108,115,101]++r) (by decide)
  have n1:([102,97,108,115,101]:List UInt8)≠[116,114,117,101]:=by decide
  have d1:digB 102=false:=by decide
  rw[e1]
  simp only[rd,w2,n1,if_false,if_true]
  simp only[List.cons_append,List.nil_append] at a1 a2 a3 ⊢
  simp only[a1,a2,a3,List.head?_cons,Option.map_some,d1,Option.getD_some,Bool.false_eq_true,if_false]
  rfl
 ·have e1:eL (.mk 2 1 no false [] [] [])=[116,114,117,101]:=rfl
  obtain ⟨a1,a2,a3⟩:=word_no (c:=116) (s:=[114,117,101]++r) (by decide)
  have d1:digB 116=false:=by decide
  rw[e1]
  simp only[rd,w1,if_true]
  simp only[List.cons_append,List.nil_append] at a1 a2 a3 ⊢
  simp only[a1,a2,a3,List.head?_cons,Option.map_some,d1,Option.getD_some,Bool.false_eq_true,if_false]
  rfl
theorem HA_asc {x:GExp} {t:GTy} (ht:rightT t=true) (hx:HO x):HA (.mk 12 0 no false [t] [] [x]):=by
 obtain ⟨F,hx⟩:=hx
 refine ⟨F+1,fun f hf r hr=> ?_⟩
 obtain ⟨g,rfl⟩: ∃ g,f=g+1:=⟨f - 1,by omega⟩
 have e1:eL (.mk 12 0 no false [t] [] [x])++r=40::(eL x++(32::58::32::(shL t++(41::r)))):=by
  unfold eL
  rw[showE_12 (e:= .mk 12 0 no false [t] [] [x]) (x:=x) (t:=t) rfl rfl rfl]
  simp only[append_l,showT_l ht]
  show [40]++(showE x).data.toList++[32,58,32]++shL t++[41]++r=_
  simp
 have h1:=hx g (by omega) (32::58::32::(shL t++(41::r))) (F0_sp (by decide) (by decide) (by decide) (by decide) (by decide) (fun _ _ _ h=>absurd h (by decide)) (fun h=>absurd h (by decide)))
 have t1: ∀ z,eat [32,58,32] (32::58::32::z)=some z:=fun z=>by simp[eat]
 have h2:=rdT_sh (u:=41::r) ht ⟨by decide,fun h=>absurd h.1 (by decide)⟩
 rw[e1]
 simp only[rd,eat_no (show (34:UInt8)≠40 by decide),eat_no (show (123:UInt8)≠40 by decide),eat_no (show (41:UInt8)≠32 by decide),eat_yes,h1,Option.bind_some,t1,h2,Option.map_some]
 rfl
end Go.PE
namespace Go.PE
open Go Go.RowKit Go.Proofs
set_option linter.unusedVariables false
set_option linter.unusedSimpArgs false
set_option maxRecDepth 100000
def OF (F:Nat) (e:GExp):Prop:= ∀ f,F≤f→ ∀ r,F0 r→rd f .O (eL e++r)=some (([e],[]),r)
theorem OF_all: ∀ ks:List GExp,(∀ k∈ks,HO k)→ ∃ F,∀ k∈ks,OF F k
 |[],_=>⟨0,fun k hk=>absurd hk (by simp)⟩
 |k::ks,h=>by
  obtain ⟨F,h1⟩:=h k (by simp)
  obtain ⟨G,h2⟩:=OF_all ks fun x hx=>h x (by simp[hx])
  refine ⟨F+G,fun x hx f hf=> ?_⟩
  rcases List.mem_cons.1 hx with e|hx
  ·subst e;exact h1 f (by omega)
  ·exact h2 x hx f (by omega)
theorem f_44 (r:List UInt8):F0 (44::r):=f_of 44 r (by decide) (by decide) (by decide) (by decide)
theorem f_125 (r:List UInt8):F0 (125::r):=f_of 125 r (by decide) (by decide) (by decide) (by decide)
theorem e_44 (z:List UInt8):eat [44,32] (44::32::z)=some z:=by simp[eat]
theorem e_44n {c:UInt8} (z:List UInt8) (h:44≠c):eat [44,32] (c::z)=none:=by simp[eat,h]
theorem e_61 (z:List UInt8):eat [32,61,32] (32::61::32::z)=some z:=by simp[eat]
theorem L_ok {F:Nat}: ∀ (ks:List GExp) (ls:List ByteArray) (k:GExp) (l:ByteArray) (f:Nat) (r:List UInt8),fineS l=true→(∀ x∈ls,fineS x=true)→ls.length=ks.length→(∀ x∈k::ks,OF F x)→F+ks.length+1≤f→
  rd f .L (l.data.toList++(32::61::32::(eL k++(joinR [44,32] (fieldsE ls (ks.map showE))++125::r))))=some ((k::ks,l::ls),125::r)
 |[],[],k,l,f,r,hl,_,_,hk,hf=>by
  obtain ⟨g,rfl⟩: ∃ g,f=g+1:=⟨f - 1,by omega⟩
  have w:=wd_app (u:=32::61::32::(eL k++125::r)) (fine_al hl).1 (show alnum 32=false by decide)
  have h1:=hk k (by simp) g (by simpa using hf) (125::r) (f_125 r)
  simp only[List.map_nil,fieldsE,joinR,List.nil_append]
  simp only[rd,w,e_61,h1,Option.bind_some,e_44n _ (show (44:UInt8)≠125 by decide),txt_toList]
 |k2::ks,l2::ls,k,l,f,r,hl,hls,e,hk,hf=>by
  obtain ⟨g,rfl⟩: ∃ g,f=g+1:=⟨f - 1,by omega⟩
  rw[List.length_cons] at hf
  have ih:=L_ok (F:=F) ks ls k2 l2 g r (hls l2 (by simp)) (fun x hx=>hls x (by simp[hx])) (by simpa using e) (fun x hx=>hk x (by simp at hx ⊢;exact .inr hx)) (by omega)
  have e1:joinR [44,32] (fieldsE (l2::ls) ((k2::ks).map showE))++125::r=44::32::(l2.data.toList++(32::61::32::(eL k2++(joinR [44,32] (fieldsE ls (ks.map showE))++125::r)))):=by
   simp only[List.map_cons,fieldsE,joinR,append_l]
   simp[eL]
  rw[e1]
  generalize l2.data.toList++(32::61::32::(eL k2++(joinR [44,32] (fieldsE ls (ks.map showE))++125::r)))=z at*
  have w:=wd_app (u:=32::61::32::(eL k++44::32::z)) (fine_al hl).1 (show alnum 32=false by decide)
  have h1:=hk k (by simp) g (by omega) (44::32::z) (f_44 _)
  simp only[rd,w,e_61,h1,Option.bind_some,e_44,ih,txt_toList]
  rfl
 |[],_::_,_,_,_,_,_,_,e,_,_=>by simp at e
 |_::_,[],_,_,_,_,_,_,e,_,_=>by simp at e
theorem HA_rec {ls:List ByteArray} {ks:List GExp} (hl: ∀ l∈ls,fineS l=true) (len:ls.length=ks.length) (hk: ∀ k∈ks,HO k):HA (.mk 9 0 no false [] ls ks):=by
 obtain ⟨F,hF⟩:=OF_all ks hk
 refine ⟨F+ks.length+2,fun f hf r hr=> ?_⟩
 obtain ⟨g,rfl⟩: ∃ g,f=g+1:=⟨f - 1,by omega⟩
 have e1:eL (.mk 9 0 no false [] ls ks)++r=123::(joinL [44,32] (fieldsE ls (ks.map showE))++125::r):=by
  unfold eL
  rw[showE_9 rfl]
  simp only[append_l]
  show [123]++(commaS (fieldsE ls (ks.map showE))).data.toList++[125]++r=_
  unfold commaS
  rw[txt_data];simp
 rw[e1]
 match ks,ls,len with
 |[],[],_=>
  show rd (g+1) .A (123::125::r)=_
  simp only[rd,eat_no (show (34:UInt8)≠123 by decide),eat_yes]
  rfl
 |k::ks,l::ls,len=>
  have e2:joinL [44,32] (fieldsE (l::ls) ((k::ks).map showE))++125::r=l.data.toList++(32::61::32::(eL k++(joinR [44,32] (fieldsE ls (ks.map showE))++125::r))):=by
   simp only[List.map_cons,fieldsE,joinL,append_l]
   simp[eL]
  have h1:=L_ok (F:=F) ks ls k l g r (hl l (by simp)) (fun x hx=>hl x (by simp[hx])) (by simpa using len) hF (by simp at hf;omega)
  rw[e2]
  have hne:eat [125] (l.data.toList++(32::61::32::(eL k++(joinR [44,32] (fieldsE ls (ks.map showE))++125::r))))=none:=by
   obtain ⟨_,c,t,hc,hlo⟩:=fine_al (hl l (by simp))
   rw[hc,List.cons_append]
   exact eat_no fun e=>by subst e;revert hlo;decide
  simp only[rd,eat_no (show (34:UInt8)≠123 by decide),eat_yes,hne,h1,Option.bind_some,Option.map_some]
  rfl
theorem G_ok {F:Nat}: ∀ (ks:List GExp) (k:GExp) (f:Nat) (r:List UInt8),(∀ x∈k::ks,OF F x)→F+ks.length+1≤f→
  rd f .G (eL k++(joinR [44,32] (ks.map showE)++41::r))=some ((k::ks,[]),41::r)
 |[],k,f,r,hk,hf=>by
  obtain ⟨g,rfl⟩: ∃ g,f=g+1:=⟨f - 1,by omega⟩
  have h1:=hk k (by simp) g (by simpa using hf) (41::r) (f_41 r)
  simp only[List.map_nil,joinR,List.nil_append]
  simp only[rd,h1,Option.bind_some,e_44n _ (show (44:UInt8)≠41 by decide)]
 |k2::ks,k,f,r,hk,hf=>by
  obtain ⟨g,rfl⟩: ∃ g,f=g+1:=⟨f - 1,by omega⟩
  rw[List.length_cons] at hf
  have ih:=G_ok (F:=F) ks k2 g r (fun x hx=>hk x (by simp at hx ⊢;exact .inr hx)) (by omega)
  have e1:joinR [44,32] ((k2::ks).map showE)++41::r=44::32::(eL k2++(joinR [44,32] (ks.map showE)++41::r)):=by
   simp only[List.map_cons,joinR]
   simp[eL]
  rw[e1]
  generalize eL k2++(joinR [44,32] (ks.map showE)++41::r)=z at*
  have h1:=hk k (by simp) g (by omega) (44::32::z) (f_44 _)
  simp only[rd,h1,Option.bind_some,e_44,ih]
  rfl
theorem Ts_ok: ∀ (ts:List GTy) (t:GTy) (f:Nat) (r:List UInt8),(∀ x∈t::ts,rightT x=true)→ts.length+1≤f→
  rdTs f (shL t++(joinR [44,32] (ts.map showT)++93::r))=some (t::ts,93::r)
 |[],t,f,r,ht,hf=>by
  obtain ⟨g,rfl⟩: ∃ g,f=g+1:=⟨f - 1,by omega⟩
  have h1:=rdT_sh (u:=93::r) (ht t (by simp)) ⟨by decide,fun h=>absurd h.1 (by decide)⟩
  simp only[List.map_nil,joinR,List.nil_append]
  simp only[rdTs,h1,Option.bind_some,e_44n _ (show (44:UInt8)≠93 by decide)]
 |t2::ts,t,f,r,ht,hf=>by
  obtain ⟨g,rfl⟩: ∃ g,f=g+1:=⟨f - 1,by omega⟩
  rw[List.length_cons] at hf
  have ih:=Ts_ok ts t2 g r (fun x hx=>ht x (by simp at hx ⊢;exact .inr hx)) (by omega)
  have e1:joinR [44,32] ((t2::ts).map showT)++93::r=44::32::(shL t2++(joinR [44,32] (ts.map showT)++93::r)):=by
   simp only[List.map_cons,joinR]
   rw[showT_l (ht t2 (by simp))]
   simp
  rw[e1]
  generalize shL t2++(joinR [44,32] (ts.map showT)++93::r)=z at*
  have h1:=rdT_sh (u:=44::32::z) (ht t (by simp)) ⟨by decide,fun h=>absurd h.1 (by decide)⟩
  simp only[rdTs,h1,Option.bind_some,e_44,ih,Option.map_some]
def NX (e:GExp):Prop:= ∃ c t,eL e=c::t∧c≠41
theorem HA_call {s:ByteArray} {H:Bool} {ts:List GTy} {ks:List GExp} (hs:fineS s=true) (h0:H=false→ts=[]) (h1:H=true→1≤ts.length) (ok: ∀ t∈ts,rightT t=true) (hk: ∀ k∈ks,HO k) (nx: ∀ k∈ks,NX k):HA (.mk 13 0 s H ts [] ks):=by
 obtain ⟨F,hF⟩:=OF_all ks hk
 refine ⟨F+ks.length+ts.length+2,fun f hf r hr=> ?_⟩
 obtain ⟨g,rfl⟩: ∃ g,f=g+1:=⟨f - 1,by omega⟩
 have e1:eL (.mk 13 0 s H ts [] ks)++r=[99,97,108,108]++(32::(s.data.toList++((callS (.mk 13 0 s H ts [] ks)).data.toList++(40::(joinL [44,32] (ks.map showE)++41::r))))):=by
  unfold eL
  rw[showE_13 rfl]
  simp only[append_l]
  show [99,97,108,108,32]++s.data.toList++(callS (.mk 13 0 s H ts [] ks)).data.toList++[40]++(commaS (ks.map showE)).data.toList++[41]++r=_
  unfold commaS
  rw[txt_data];simp
 have w1: ∀ z,wd ([99,97,108,108]++(32::z))=([99,97,108,108],32::z):=fun z=>wd_app (by decide) (show alnum 32=false by decide)
 have n1:([99,97,108,108]:List UInt8)≠[116,114,117,101]:=by decide
 have n2:([99,97,108,108]:List UInt8)≠[102,97,108,115,101]:=by decide
 have d1:digB 99=false:=by decide
 obtain ⟨a1,a2,a3⟩:=word_no (c:=99) (s:=[97,108,108]++(32::(s.data.toList++((callS (.mk 13 0 s H ts [] ks)).data.toList++(40::(joinL [44,32] (ks.map showE)++41::r)))))) (by decide)
 have a1:eat [34] ([99,97,108,108]++(32::(s.data.toList++((callS (.mk 13 0 s H ts [] ks)).data.toList++(40::(joinL [44,32] (ks.map showE)++41::r))))))=none:=a1
 have a2:eat [123] ([99,97,108,108]++(32::(s.data.toList++((callS (.mk 13 0 s H ts [] ks)).data.toList++(40::(joinL [44,32] (ks.map showE)++41::r))))))=none:=a2
 have a3:eat [40] ([99,97,108,108]++(32::(s.data.toList++((callS (.mk 13 0 s H ts [] ks)).data.toList++(40::(joinL [44,32] (ks.map showE)++41::r))))))=none:=a3
 have hd: ∀ z,(([99,97,108,108]++(32::z):List UInt8).head?.map digB).getD false=false:=fun z=>by simp[d1]
 rw[e1]
 have tail: ∀ (h:Bool×List GTy×List UInt8),h=(H,ts,joinL [44,32] (ks.map showE)++41::r)→
   (match eat [41] h.2.2 with
    |some r3=>some (ex 13 0 s h.1 h.2.1 [] [],r3)
    |none=>(rd g .G h.2.2).bind fun b=>(eat [41] b.2).map fun r3=>(ex 13 0 s h.1 h.2.1 [] b.1.1,r3))=some (([.mk 13 0 s H ts [] ks],[]),r):=by
  rintro _ rfl
  match ks,nx,hF,hf with
  |[],_,_,_=>simp only[List.map_nil,joinL,List.nil_append,eat_yes];rfl
  |k::ks,nx,hF,hf=>
   have e3:joinL [44,32] ((k::ks).map showE)++41::r=eL k++(joinR [44,32] (ks.map showE)++41::r):=by
    simp only[List.map_cons,joinL];simp[eL]
   obtain ⟨c,t,hc,hn⟩:=nx k (by simp)
   have hne:eat [41] (eL k++(joinR [44,32] (ks.map showE)++41::r))=none:=by rw[hc,List.cons_append];exact eat_no (Ne.symm hn)
   have h2:=G_ok (F:=F) ks k g r hF (by simp at hf;omega)
   simp only[e3,hne,h2,Option.bind_some,eat_yes,Option.map_some]
   rfl
 generalize joinL [44,32] (ks.map showE)++41::r=z at*
 cases H with
 |false=>
  obtain rfl:=h0 rfl
  have ec:(callS (.mk 13 0 s false [] [] ks)).data.toList=[]:=rfl
  rw[ec] at a1 a2 a3 ⊢
  have w2:=wd_app (u:=40::z) (fine_al hs).1 (show alnum 40=false by decide)
  simp only[List.nil_append] at a1 a2 a3 ⊢
  simp only[rd,a1,a2,a3,hd,w1,n1,n2,if_true,if_false,Bool.false_eq_true,eat_yes,Option.bind_some,w2,eat_no (show (91:UInt8)≠40 by decide),Option.map_some,txt_toList]
  exact tail _ rfl
 |true=>
  match ts,h1 rfl,ok,hf,tail with
  |t::ts,_,ok,hf,tail=>
   have ec:(callS (.mk 13 0 s true (t::ts) [] ks)).data.toList++(40::z)=91::(shL t++(joinR [44,32] (ts.map showT)++93::40::z)):=by
    have:callS (.mk 13 0 s true (t::ts) [] ks)=⟨#[91]⟩++listT (t::ts)++⟨#[93]⟩:=rfl
    rw[this]
    unfold listT
    simp only[append_l,txt_data,List.map_cons,joinL,showT_l (ok t (by simp))]
    show [91]++(shL t++joinR [44,32] (ts.map showT))++[93]++40::z=_
    simp
   rw[ec] at a1 a2 a3 ⊢
   have h3:=Ts_ok ts t g (40::z) ok (by simp at hf;omega)
   have w2:=wd_app (u:=91::(shL t++(joinR [44,32] (ts.map showT)++93::40::z))) (fine_al hs).1 (show alnum 91=false by decide)
   have t1:eat [93,40] (93::40::z)=some z:=by simp[eat]
   simp only[rd,a1,a2,a3,hd,w1,n1,n2,if_true,if_false,Bool.false_eq_true,eat_yes,Option.bind_some,w2,h3,t1,Option.map_some,txt_toList]
   exact tail _ rfl
end Go.PE
