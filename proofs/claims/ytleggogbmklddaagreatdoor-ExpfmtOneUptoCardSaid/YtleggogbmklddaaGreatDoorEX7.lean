/-
  Expressions as texts, by the program. Conditions: each law's own.
-/
import Derived.Test.YtleggogbmklddaaGreatDoorEX6
import Derived.Test.YtleggogbmklddaaGreatDoorDX1
namespace Go.PE
open Go Go.RowKit Go.Proofs
set_option linter.unusedVariables false
set_option linter.unusedSimpArgs false
set_option maxRecDepth 100000
def Sm (s:ByteArray):Prop:=s.size≤1000000000
section
variable {ot:TypeId} {oz:EP}
theorem opP (n:Int) (S:St):cal (env ot oz) 10 [.int .i64 n] S=some (.str (opS n),S):=by
 (rw[w_plain (fn:=c10) rfl rfl (by simp only[go_sem]) rfl (by decide)];simp only[c10,c10_b,go_sem];repeat' ((first|rw[guardO_t]|rw[guardO_f]|rw[cw_bool]);split<;>rename_i h<;>(try rw[Bool.not_eq_true] at h)<;>(try simp only[go_sem, *])))<;>(try simp_all [opS])<;>(try omega)
theorem tightP (e:GExp) (S:St):cal (env ot oz) 89 [.agg (rExp e)] S=some (.int .i64 (tightE e),S):=by
 (rw[w_plain (fn:=c89) rfl rfl (by simp only[go_sem]) rfl (by decide)];simp only[c89,c89_b,go_sem];repeat' ((first|rw[guardO_t]|rw[guardO_f]|rw[cw_bool]);split<;>rename_i h<;>(try rw[Bool.not_eq_true] at h)<;>(try simp only[go_sem, *])))<;>(try simp_all [tightE,tightO])<;>(try omega)
theorem atP (e:GExp) (n:Int) (hs:Sm (showE e)) (h: ∀ S,cal (env ot oz) 23 [.agg (rExp e)] S=some (.str (showE e),S)) (S:St):cal (env ot oz) 45 [.agg (rExp e),.int .i64 n] S=some (.str (atS e (showE e) n),S):=by
 have t:=tightP (ot:=ot) (oz:=oz) e
 unfold Sm at hs
 have z1:=addS (a:=⟨#[40]⟩) (b:=showE e) (by have L:=lits;(try simp only[app_size]);omega)
 have z2:=addS (a:=⟨#[40]⟩++showE e) (b:=⟨#[41]⟩) (by have L:=lits;(try simp only[app_size]);omega)
 unfold atS
 cases q:decide (tightE e<n)<;>(rw[w_plain (fn:=c45) rfl rfl (by simp only[go_sem,t,h,q,↓z1,↓z2]) rfl (by decide)];simp only[c45,c45_b,go_sem,t,h,q,↓z1,↓z2];repeat' ((first|rw[guardO_t]|rw[guardO_f]|rw[cw_bool]);split<;>rename_i h<;>(try rw[Bool.not_eq_true] at h)<;>(try simp only[go_sem,t,h,q,↓z1,↓z2, *])))
theorem boundP_ (e:GExp) (hs:Sm (boundS e)) (ok: ∀ t∈e.Types,OkTy t∧bulkL (rTy t)≤1048576) (S:St):cal (env ot oz) 44 [.agg (rExp e)] S=some (.str (boundS e),S):=by
 unfold Sm boundS at hs
 unfold boundS
 match q:e.Types with
 |[]=>(rw[w_plain (fn:=c44) rfl rfl (by simp only[go_sem,q]) rfl (by decide)];simp only[c44,c44_b,go_sem,q];repeat' ((first|rw[guardO_t]|rw[guardO_f]|rw[cw_bool]);split<;>rename_i h<;>(try rw[Bool.not_eq_true] at h)<;>(try simp only[go_sem,q, *])))
 |t::l=>
  have o:=ok t (by simp[q])
  have c:=tshow (ot:=ot) (oz:=oz) t o.1 o.2
  rw[q] at hs
  simp only[app_size] at hs
  have z1:=addS (a:=e.Name) (b:=⟨#[58,32]⟩) (by have L:=lits;(try simp only[app_size]);omega)
  have z2:=addS (a:=e.Name++⟨#[58,32]⟩) (b:=showT t) (by have L:=lits;(try simp only[app_size]);omega)
  have hl:(((l.length+1:Nat):Int)==0)=false:=beq_eq_false_iff_ne.2 (by omega)
  have hl2:(0:Int)<((l.length+1:Nat):Int):=by omega
  (rw[w_plain (fn:=c44) rfl rfl (by simp only[go_sem,q,c,hl,hl2,↓z1,↓z2]) rfl (by decide)];simp only[c44,c44_b,go_sem,q,c,hl,hl2,↓z1,↓z2];repeat' ((first|rw[guardO_t]|rw[guardO_f]|rw[cw_bool]);split<;>rename_i h<;>(try rw[Bool.not_eq_true] at h)<;>(try simp only[go_sem,q,c,hl,hl2,↓z1,↓z2, *])))
end
theorem appP_obs2 {A B:List Ob} {w w':List Nat} {e:TypeId} {sz bytes:Nat} {g:Tag} {xs ys:List (List PV)} {v:PV} (h:appP ⟨A,w⟩ e sz bytes g xs ys=some (v,⟨A,w'⟩)):appP ⟨B,w⟩ e sz bytes g xs ys=some (v,⟨B,w'⟩):=by
 unfold appP at h ⊢
 split at h
 ·rename_i q;rw[if_pos q];injection h with h;injection h with h1 h2;injection h2 with _ h2;subst h1 h2;rfl
 ·rename_i q
  rw[if_neg q]
  split at h
  ·rename_i q2
   rw[if_pos q2]
   cases g with
   |ro=>cases h
   |own k e'=>
    simp only at h ⊢
    split at h
    ·rename_i q3;rw[if_pos q3];injection h with h;injection h with h1 h2;injection h2 with _ h2;subst h1 h2;rfl
    ·cases h
   |exact=>simp only at h ⊢;injection h with h;injection h with h1 h2;injection h2 with _ h2;subst h1 h2;rfl
   |null=>simp only at h ⊢;injection h with h;injection h with h1 h2;injection h2 with _ h2;subst h1 h2;rfl
  ·cases h
theorem nS_obs (S:St) (out:List ByteArray):(nS S out).obs=S.obs:=by unfold nS accS;split<;>rfl
theorem nS_mk (S:St) (out:List ByteArray):nS S out=⟨S.obs,(nS S out).own⟩:=by rw[←nS_obs S out]
theorem nStr_appO (O:List Ob) (S:St) (out:List ByteArray) (s:ByteArray) (h:out.length+1≤8000000000000):appP ⟨O,(nS S out).own⟩ 9 1 16 (nG S out) (out.map rStr) [[.str s]]=some (.sl (nG S (out++[s])) ((out++[s]).map rStr),⟨O,(nS S (out++[s])).own⟩):=by
 have:=nStr_app S out s h
 rw[nS_mk S out,nS_mk S (out++[s])] at this
 exact appP_obs2 this
theorem nOwn_nil (S:St):(nS S []).own=S.own:=rfl
theorem nOwn_ex (S:St) (out:List ByteArray): ∃ w,(nS S out).own=S.own++w:=by
 unfold nS accS
 split
 ·exact ⟨[],by simp⟩
 ·exact ⟨_,rfl⟩
theorem cal_known2 {E:Env} {f:FuncId} {F:List PV→St→Option (PV×St)} {args args':List PV} {S:St} (h:E.known f=some F) (ha:askD args=some args'):cal E f args S=F args' S:=by
 apply Option.ext
 intro x
 unfold cal
 rw[lim_some (cal_mono f args)]
 constructor
 ·rintro ⟨n,hn⟩
  cases n with
  |zero=>simp[lvl] at hn
  |succ n=>rw[call_known h ha] at hn;exact hn
 ·intro hx;exact ⟨1,by rw[call_known h ha];exact hx⟩
theorem joinS_comma (ts:List ByteArray):joinS ⟨#[44,32]⟩ ts=commaS ts:=by
 unfold joinS commaS txt
 congr 2
 have ht: ∀ ts:List ByteArray,Lib.joinTail [44,32] (ts.map (·.data.toList))=joinR [44,32] ts:=fun ts=>by
  induction ts with
  |nil=>rfl
  |cons t r ih=>
   unfold Lib.joinTail at ih ⊢
   simp only[List.map_cons,List.flatten_cons,joinR,←ih,List.append_assoc]
 cases ts with
 |nil=>rfl
 |cons t r=>rw[List.map_cons,Lib.join_cons,ht];rfl
section
variable {ot:TypeId} {oz:EP}
theorem joinP (ts:List ByteArray) (hl:ts.length≤1000) (hB:(commaS ts).size≤140737488355328) (g:Tag) (S:St):cal (env ot oz) 90 [.sl g (ts.map rStr),.str ⟨#[44,32]⟩] S=some (.str (commaS ts),S):=by
 rw[cal_known2 (F:=jnF) rfl (args':=[.sl .ro (ts.map rStr),.str ⟨#[44,32]⟩]) (by simp only[askD,sealL,sealW,rStr_sll,Option.map_some,Option.bind_some])]
 have h:rowStrs (ts.map rStr)=some ts:=rowStrs_map ts
 have h2:ts.length≤140737488355328:=by omega
 unfold jnF
 simp only[h,joinS_comma,h2,hB,and_self,if_true]
theorem kidsP (e:GExp) (ts:List ByteArray) (hl:e.Kids.length≤1000) (ht:ts.length=e.Kids.length) (f:FuncId) (caps:List PV) (hc: ∀ n d,sealL n d caps=some caps)
  (hB:(commaS ts).size≤140737488355328) (hp: ∀ (i:Nat) k t,e.Kids[i]?=some k→ts[i]?=some t→ ∀ S,cal (env ot oz) f ([.int .i64 (i:Int),.agg (rExp k)]++caps) S=some (.str t,S)) (S:St):
  cal (env ot oz) 47 [.agg (rExp e),.fn f [] caps] S=some (.str (commaS ts),S):=by
 have hl':Short e.Kids.length:=by unfold Short maxLen;omega
 have jn:=joinP (ot:=ot) (oz:=oz) ts (by omega) hB
 obtain ⟨ts',T,hI,hr⟩:=loopR (E:=(env ot oz)) (c:=c47_l0) e.Kids hl' (fun (n:Nat) _=>n+1)
  (fun i n ts1 T=> ∃ os,ts1=[(1,some (.fn f [] caps)),(5,some (.sl (nG S (ts.take i)) ((ts.take i).map rStr))),(9,some (.sl .ro (e.Kids.map rExp))),(10,some (.int .i64 (e.Kids.length:Int))),(11,some (.int .i64 (i:Int)))]∧T=⟨S.obs++os,(nS S (ts.take i)).own⟩)
  (fun i n k ts1 T h1 h2 h3 h4 hh=>by
   obtain ⟨os,rfl,rfl⟩:=hh
   have hi:i<ts.length:=by omega
   have hti:=List.getElem?_eq_getElem hi
   have c:=hp i k ts[i] h1 hti
   have htk:ts.take (i+1)=ts.take i++[ts[i]]:=by rw[List.take_add_one,hti];rfl
   have ap:=nStr_appO (S.obs++(os++[.cells 26 (rExp k)])) S (ts.take i) ts[i] (by rw[List.length_take];omega)
   simp only[List.cons_append,List.nil_append] at c
   refine ⟨_,_,⟨os++[.cells 26 (rExp k)],rfl,rfl⟩,fun fin st=> ?_⟩
   rw[htk]
   have g1: ∀ y,(S.obs++(os++[y]))[S.obs.length+os.length]?=some y:=fun y=>by simp
   have g2: ∀ y z,(S.obs++(os++[y])).set (S.obs.length+os.length) z=S.obs++(os++[z]):=fun y z=>by simp
   generalize ts[i]=t at*
   generalize ts.take i=tk at*
   (rw[c47_l0_w];simp only[c47_l0_b,c47_l0_a,go_sem,h1,h3,h4,c,ap,g1,g2];repeat' ((first|rw[guardO_t]|rw[guardO_f]|rw[cw_bool]);split<;>rename_i h<;>(try rw[Bool.not_eq_true] at h)<;>(try simp only[go_sem,c47_l0_a,h1,h3,h4,c,ap,g1,g2, *])))) 0 _ S ⟨[],by simp[nG_nil];rfl,by simp[nOwn_nil]⟩
 obtain ⟨os,rfl,rfl⟩:=hI
 rw[List.take_of_length_le (by omega)] at hr
 have ex: ∀ T fin st,run (env ot oz) fin st c47_l0 [(1,some (.fn f [] caps)),(5,some (.sl (nG S ts) (ts.map rStr))),(9,some (.sl .ro (e.Kids.map rExp))),(10,some (.int .i64 (e.Kids.length:Int))),(11,some (.int .i64 (e.Kids.length:Int)))] T=aft (env ot oz) fin st (.exit 0) [(1,some (.fn f [] caps)),(5,some (.sl (nG S ts) (ts.map rStr))),(9,some (.sl .ro (e.Kids.map rExp))),(10,some (.int .i64 (e.Kids.length:Int))),(11,some (.int .i64 (e.Kids.length:Int))),(12,some (.bool false))] T:=fun T fin st=>by
  (rw[c47_l0_w];simp only[c47_l0_b,c47_l0_a,go_sem];repeat' ((first|rw[guardO_t]|rw[guardO_f]|rw[cw_bool]);split<;>rename_i h<;>(try rw[Bool.not_eq_true] at h)<;>(try simp only[go_sem,c47_l0_a, *])))
 obtain ⟨w,hw⟩:=nOwn_ex S ts
 have cl:close S ⟨S.obs++os,(nS S ts).own⟩ (.str (commaS ts))=(.str (commaS ts),S):=by
  rw[hw,close_junk];simp[sealW]
 have hr:=fun fin st=>(hr fin st).trans (ex _ fin st)
 generalize (⟨S.obs++os,(nS S ts).own⟩:St)=T at*
 (rw[w_plain (fn:=c47) rfl rfl (by simp only[go_sem,hr,jn,cl,hc]) rfl (by decide)];simp only[c47,c47_b,go_sem,hr,jn,cl,hc];repeat' ((first|rw[guardO_t]|rw[guardO_f]|rw[cw_bool]);split<;>rename_i h<;>(try rw[Bool.not_eq_true] at h)<;>(try simp only[go_sem,hr,jn,cl,hc, *])))
end
end Go.PE
