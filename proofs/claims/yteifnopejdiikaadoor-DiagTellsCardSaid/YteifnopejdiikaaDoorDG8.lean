/-
  The diagnoses' text: by the program, and by the document. Conditions: each law's own.
-/
import Derived.Test.YteifnopejdiikaaDoorDG7
import Derived.Test.YteifnopejdiikaaDoorBW
namespace Go.PE
open Go Go.RowKit Go.Proofs
set_option linter.unusedVariables false
set_option linter.unusedSimpArgs false
set_option maxRecDepth 100000
def lineB (d:GDiag):ByteArray:=d.At.Def++⟨#[58]⟩++numS d.At.Node++⟨#[58]⟩++numS d.Code++⟨#[10]⟩
def textD (l:List GDiag):List UInt8:=l.flatMap fun d=>(lineB d).data.toList
theorem lineB_size (d:GDiag) (h:d.At.Def.size≤100):(lineB d).size≤150:=by
 have h1:=numS_21 d.At.Node
 have h2:=numS_21 d.Code
 have e1:(⟨#[58]⟩:ByteArray).size=1:=rfl
 have e2:(⟨#[10]⟩:ByteArray).size=1:=rfl
 unfold lineB
 simp only[app_size,e1,e2]
 omega
theorem lineB_ne (d:GDiag):(lineB d).data.toList≠[]:=by
 unfold lineB
 simp
section
variable {ot:TypeId} {oz:EP}
theorem digits15: ∀ (f n:Nat),n<10 ^ f→0<f→f≤100→n≤9223372036854775807→ ∀ S,cal (env ot oz) 44 [.int .i64 (n:Int)] S=some (.str (txt (digF f n)),S)
 |f+1,n,h,_,hf,hn,S=>by
  by_cases h10:n<10
  ·have lt:(n:Int)<10:=by omega
   have w1:IntKind.i64.wrap (48+(n:Int))=((48+n:Nat):Int):=by rw[wrap64 (by omega) (by omega)];omega
   have w2:IntKind.u8.wrap (((48+n:Nat):Int))=((48+n:Nat):Int):=IntWalk.u8_in _ (by omega)
   have bo:=byte_one (k:=48+n) (by omega)
   have e:(⟨[UInt8.ofNat (48+n)].toArray⟩:ByteArray)=txt (digF (f+1) n):=by rw[digF_one h10];rfl
   generalize txt (digF (f+1) n)=r at*
   generalize h48:48+n=m at*
   (rw[w_plain (fn:=c44) rfl rfl (by simp only[go_sem,lt,w1,w2,bo,e]) rfl (by decide)];simp only[c44,c44_b,go_sem,lt,w1,w2,bo,e])
  ·have ih:=digits15 f (n / 10) (by rw[Nat.pow_succ] at h;omega) (by
    cases f with
    |zero=>simp at h;omega
    |succ f=>omega) (by omega) (by omega)
   have nlt: ¬ (n:Int)<10:=by omega
   have w0:IntKind.i64.wrap ((n:Int).tdiv 10)=((n / 10:Nat):Int):=by
    rw[show (n:Int).tdiv 10=((n / 10:Nat):Int) from by rw[Int.tdiv_eq_ediv_of_nonneg (by omega)];omega]
    exact wrap_nat (by omega)
   have w3:(n:Int).tmod 10=((n % 10:Nat):Int):=by rw[Int.tmod_eq_emod_of_nonneg (by omega)];omega
   have w1:IntKind.i64.wrap (48+((n % 10:Nat):Int))=((48+n % 10:Nat):Int):=by rw[wrap64 (by omega) (by omega)];omega
   have w2:IntKind.u8.wrap (((48+n % 10:Nat):Int))=((48+n % 10:Nat):Int):=IntWalk.u8_in _ (by omega)
   have bo:=byte_one (k:=48+n % 10) (by omega)
   have z:=addB (a:=digF f (n / 10)) (s:=⟨[UInt8.ofNat (48+n % 10)].toArray⟩) (by have:=digF_len f (n / 10);simp[ByteArray.size];omega)
   have e:digF f (n / 10)++[UInt8.ofNat (48+n % 10)]=digF (f+1) n:=(digF_more h10).symm
   simp only[e] at z
   generalize txt (digF (f+1) n)=r at*
   generalize n % 10=q at*
   generalize n / 10=d at*
   (rw[w_plain (fn:=c44) rfl rfl (by simp only[go_sem,nlt,w0,w1,w2,w3,bo,ih,↓z]) rfl (by decide)];simp only[c44,c44_b,go_sem,nlt,w0,w1,w2,w3,bo,ih,↓z])
theorem number_w (n:Int) (h:In64 n) (S:St):cal (env ot oz) 31 [.int .i64 n] S=some (.str (numS n),S):=by
 obtain ⟨h1,h2⟩:=h
 by_cases h0:0≤n
 ·obtain ⟨k,rfl⟩:=Int.eq_ofNat_of_zero_le h0
  have ih:=digits15 (ot:=ot) (oz:=oz) 20 k (by omega) (by omega) (by omega) (by omega) S
  have e:txt (digF 20 k)=numS (k:Int):=by unfold numS numL;rw[if_neg (by omega)];rfl
  rw[e] at ih
  (rw[w_plain (fn:=c31) rfl rfl (by simp only[go_sem,ih]) rfl (by decide)];simp only[c31,c31_b,go_sem,ih];repeat' ((first|rw[guardO_t]|rw[guardO_f]|rw[cw_bool]);split<;>rename_i h<;>(try rw[Bool.not_eq_true] at h)<;>(try simp only[go_sem,ih, *])))
 ·by_cases h10: -10<n
  ·have ih:=digits15 (ot:=ot) (oz:=oz) 20 n.natAbs (by omega) (by omega) (by omega) (by omega) S
   have w:IntKind.i64.wrap (0 - n)=(n.natAbs:Int):=by rw[wrap64 (by omega) (by omega)];omega
   have e:(⟨#[45]⟩:ByteArray)++txt (digF 20 n.natAbs)=numS n:=by
    have:(⟨#[45]⟩:ByteArray)=txt [45]:=rfl
    rw[this,txt_append];unfold numS numL;rw[if_pos (by omega)];rfl
   have sz: ¬ (9223372036854775807:Int)<(((#[45]:Array UInt8).size+(txt (digF 20 n.natAbs)).size:Nat):Int):=by
    show ¬ (9223372036854775807:Int)<(((⟨#[45]⟩:ByteArray).size+(txt (digF 20 n.natAbs)).size:Nat):Int)
    have:=digF_len 20 n.natAbs
    rw[txt_size];simp[ByteArray.size];omega
   generalize txt (digF 20 n.natAbs)=t at*
   (rw[w_plain (fn:=c31) rfl rfl (by simp only[go_sem,h0,h10,ih,w,sz,e]) rfl (by decide)];simp only[c31,c31_b,go_sem,h0,h10,ih,w,sz,e];repeat' ((first|rw[guardO_t]|rw[guardO_f]|rw[cw_bool]);split<;>rename_i h<;>(try rw[Bool.not_eq_true] at h)<;>(try simp only[go_sem,h0,h10,ih,w,sz,e, *])))
  ·have ih:=digits15 (ot:=ot) (oz:=oz) 19 (n.natAbs / 10) (by omega) (by omega) (by omega) (by omega) S
   have ih2:=digits15 (ot:=ot) (oz:=oz) 1 (n.natAbs % 10) (by omega) (by omega) (by omega) (by omega) S
   have d1:n.tdiv 10= -((n.natAbs / 10:Nat):Int):=by
    have:n= -(n.natAbs:Int):=by omega
    rw[this,Int.neg_tdiv,Int.tdiv_eq_ediv_of_nonneg (by omega)];omega
   have d2:n.tmod 10= -((n.natAbs % 10:Nat):Int):=by
    have:n= -(n.natAbs:Int):=by omega
    rw[this,Int.neg_tmod,Int.tmod_eq_emod_of_nonneg (by omega)];omega
   have w1:IntKind.i64.wrap (n.tdiv 10)= -((n.natAbs / 10:Nat):Int):=by rw[d1,wrap64 (by omega) (by omega)]
   have w2:IntKind.i64.wrap (0 - (-((n.natAbs / 10:Nat):Int)))=((n.natAbs / 10:Nat):Int):=by rw[wrap64 (by omega) (by omega)];omega
   have w3:IntKind.i64.wrap (0 - (-((n.natAbs % 10:Nat):Int)))=((n.natAbs % 10:Nat):Int):=by rw[wrap64 (by omega) (by omega)];omega
   have p1:=digF_len 19 (n.natAbs / 10)
   have p2:=digF_len 1 (n.natAbs % 10)
   have e1:(⟨#[45]⟩:ByteArray)++txt (digF 19 (n.natAbs / 10))=txt (45::digF 19 (n.natAbs / 10)):=by
    have:(⟨#[45]⟩:ByteArray)=txt [45]:=rfl
    rw[this,txt_append];rfl
   have e2:txt (45::digF 19 (n.natAbs / 10))++txt (digF 1 (n.natAbs % 10))=numS n:=by
    rw[txt_append];unfold numS numL;rw[if_pos (by omega),digF_more (show ¬ n.natAbs<10 by omega),digF_one (f:=0) (show n.natAbs % 10<10 by omega)];rfl
   have s1: ¬ (9223372036854775807:Int)<(((#[45]:Array UInt8).size+(txt (digF 19 (n.natAbs / 10))).size:Nat):Int):=by
    show ¬ (9223372036854775807:Int)<(((⟨#[45]⟩:ByteArray).size+(txt (digF 19 (n.natAbs / 10))).size:Nat):Int)
    rw[txt_size];simp[ByteArray.size];omega
   have s2: ¬ (9223372036854775807:Int)<(((txt (45::digF 19 (n.natAbs / 10))).size+(txt (digF 1 (n.natAbs % 10))).size:Nat):Int):=by
    rw[txt_size,txt_size];simp;omega
   generalize txt (45::digF 19 (n.natAbs / 10))=t2 at*
   generalize txt (digF 19 (n.natAbs / 10))=t1 at*
   generalize txt (digF 1 (n.natAbs % 10))=t3 at*
   generalize n.natAbs / 10=a at*
   generalize n.natAbs % 10=b at*
   (rw[w_plain (fn:=c31) rfl rfl (by simp only[go_sem,h0,h10,ih,ih2,w1,w2,w3,d2,s1,s2,e1,e2]) rfl (by decide)];simp only[c31,c31_b,go_sem,h0,h10,ih,ih2,w1,w2,w3,d2,s1,s2,e1,e2];repeat' ((first|rw[guardO_t]|rw[guardO_f]|rw[cw_bool]);split<;>rename_i h<;>(try rw[Bool.not_eq_true] at h)<;>(try simp only[go_sem,h0,h10,ih,ih2,w1,w2,w3,d2,s1,s2,e1,e2, *])))
def BQ (S:St):List UInt8→List Ob→St
 |[],os=>B0 S os
 |b::bs,os=>BX S (b::bs) os
def BY (S:St):List UInt8→List Ob→St
 |[],os=>B0 S os
 |b::bs,os=>BZ S (b::bs) os
theorem bq_len (S:St) (bs:List UInt8) (os:List Ob):(BQ S bs os).obs.length=S.obs.length+1+os.length:=by cases bs;exact b0_len S os;exact bx_len S _ os
theorem bq_app (S:St) (bs:List UInt8) (os:List Ob) (o:Ob):(⟨(BQ S bs os).obs++[o],(BQ S bs os).own⟩:St)=BQ S bs (os++[o]):=by cases bs;exact b0_app S os o;exact bx_app S _ os o
theorem bq_get (S:St) (bs:List UInt8) (os:List Ob) (o:Ob):(BQ S bs (os++[o])).obs[S.obs.length+1+os.length]?=some o:=by cases bs;exact b0_get S os o;exact bx_get S _ os o
theorem bq_set (S:St) (bs:List UInt8) (os:List Ob) (o p:Ob):(⟨(BQ S bs (os++[o])).obs.set (S.obs.length+1+os.length) p,(BQ S bs (os++[o])).own⟩:St)=BQ S bs (os++[p]):=by cases bs;exact b0_set S os o p;exact bx_set S _ os o p
theorem ws_q (S:St) (bs:List UInt8) (os:List Ob) (s:ByteArray) (hs:s.data.toList≠[]) (hl:bs.length+s.size≤140737488355328):cal (env ot oz) 28 [.ref S.obs.length 0,.str s] (BQ S bs os)=some (.tup [.int .i64 (s.size:Int),.nilifc],BQ S (bs++s.data.toList) os):=by
 cases bs with
 |nil=>
  have:=ws0_w (ot:=ot) (oz:=oz) S os s (by simp at hl;exact hl)
  rw[List.nil_append]
  generalize s.data.toList=q at*
  cases q with
  |nil=>exact absurd rfl hs
  |cons c q=>exact this
 |cons c q=>exact ws_w S (c::q) os s hl
theorem str_q (S:St) (bs:List UInt8) (os:List Ob) (hl:bs.length≤140737488355328):cal (env ot oz) 30 [.ref S.obs.length 0] (BQ S bs os)=some (.str (txt bs),BY S bs os):=by
 cases bs with
 |nil=>exact str0_w S os
 |cons c q=>exact strX_w S _ os hl
theorem close_y (S:St) (bs:List UInt8) (os:List Ob) (s:ByteArray):close S (BY S bs os) (.str s)=(.str s,S):=by
 cases bs with
 |nil=>exact closeB0 S os (plain_str _)
 |cons c q=>exact closeBZ S _ os (plain_str _)
theorem line_adds (d:GDiag) (h:d.At.Def.size≤100):binP .add (.str d.At.Def) (.str ⟨#[58]⟩)=some (.str (d.At.Def++⟨#[58]⟩))∧binP .add (.str (d.At.Def++⟨#[58]⟩)) (.str (numS d.At.Node))=some (.str (d.At.Def++⟨#[58]⟩++numS d.At.Node))∧
  binP .add (.str (d.At.Def++⟨#[58]⟩++numS d.At.Node)) (.str ⟨#[58]⟩)=some (.str (d.At.Def++⟨#[58]⟩++numS d.At.Node++⟨#[58]⟩))∧binP .add (.str (d.At.Def++⟨#[58]⟩++numS d.At.Node++⟨#[58]⟩)) (.str (numS d.Code))=some (.str (d.At.Def++⟨#[58]⟩++numS d.At.Node++⟨#[58]⟩++numS d.Code))∧
  binP .add (.str (d.At.Def++⟨#[58]⟩++numS d.At.Node++⟨#[58]⟩++numS d.Code)) (.str ⟨#[10]⟩)=some (.str (lineB d)):=by
 have h1:=numS_21 d.At.Node
 have h2:=numS_21 d.Code
 have e1:(⟨#[58]⟩:ByteArray).size=1:=rfl
 have e2:(⟨#[10]⟩:ByteArray).size=1:=rfl
 refine ⟨addS ?_,addS ?_,addS ?_,addS ?_,addS ?_⟩<;>simp only[app_size,e1,e2]<;>omega
def tI (l:List GDiag) (S:St) (i:Nat) (bs:List UInt8) (ts:Tmps) (T:St):Prop:= ∃ os,ts=[(3,some (.ref S.obs.length 0)),(6,some (.sl .ro (l.map rDiag))),(7,some (.int .i64 (l.length:Int))),(8,some (.int .i64 (i:Int)))]∧T=BQ S bs os∧bs.length≤i*150
theorem text_l (l:List GDiag) (hl:l.length≤1000) (ho: ∀ d∈l,OkDiag d) (hn: ∀ d∈l,d.At.Def.size≤100) (S:St): ∃ os,(textD l).length≤l.length*150∧ ∀ fin st,run (env ot oz) fin st c19_l0 [(3,some (.ref S.obs.length 0)),(6,some (.sl .ro (l.map rDiag))),(7,some (.int .i64 (l.length:Int))),(8,some (.int .i64 0))] (BQ S [] [])=
  aft (env ot oz) fin st (.exit 0) [(3,some (.ref S.obs.length 0)),(6,some (.sl .ro (l.map rDiag))),(7,some (.int .i64 (l.length:Int))),(8,some (.int .i64 (l.length:Int))),(9,some (.bool false))] (BQ S (textD l) os):=by
 obtain ⟨ts,T,hI,hr⟩:=loopR (E:=(env ot oz)) (c:=c19_l0) l (by unfold Short maxLen;omega) (fun bs d=>bs++(lineB d).data.toList) (tI l S)
  (fun i bs d ts T h1 h2 h3 h4 hI=>by
   obtain ⟨os,rfl,rfl,hb⟩:=hI
   have hil:=getElem?_lt h1
   have hd:=lineB_size d (hn d h2)
   have hs:=size_data (lineB d)
   obtain ⟨a1,a2,a3,a4,a5⟩:=line_adds d (hn d h2)
   have i1:=itoa_w (ot:=ot) (oz:=oz) d.At.Node (ho d h2).At.Node
   have i2:=itoa_w (ot:=ot) (oz:=oz) d.Code (ho d h2).Code
   have w1:=fun os=>ws_q (ot:=ot) (oz:=oz) S bs os (lineB d) (lineB_ne d) (by omega)
   have bl:=bq_len S
   have ba:=bq_app S
   have bg:=bq_get S
   have be:=bq_set S
   generalize lineB d=e at*
   refine ⟨_,_,⟨os++[.cells 31 (rDiag d)],rfl,rfl,by rw[List.length_append];omega⟩,fun fin st=> ?_⟩
   (rw[c19_l0_w];simp only[c19_l0_b,c19_l0_a,go_sem,h1,h3,h4,i1,i2,↓a1,↓a2,↓a3,↓a4,↓a5,w1,bl,ba,bg,be];repeat' ((first|rw[guardO_t]|rw[guardO_f]|rw[cw_bool]);split<;>rename_i h<;>(try rw[Bool.not_eq_true] at h)<;>(try simp only[go_sem,c19_l0_a,h1,h3,h4,i1,i2,↓a1,↓a2,↓a3,↓a4,↓a5,w1,bl,ba,bg,be, *])))) [] _ (BQ S [] []) ⟨[],rfl,rfl,by simp⟩
 obtain ⟨os,rfl,rfl,hb⟩:=hI
 have hf: ∀ (m:List GDiag) (o:List UInt8),m.foldl (fun bs d=>bs++(lineB d).data.toList) o=o++textD m:=by
  intro m
  induction m with
  |nil=>intro o;simp[textD]
  |cons a m ih=>intro o;rw[List.foldl_cons,ih];simp[textD]
 rw[hf,List.nil_append] at hb
 rw[hf,List.nil_append] at hr
 refine ⟨os,hb,fun fin st=> ?_⟩
 have:=hr fin st
 simp only[Int.cast_ofNat_Int] at this
 rw[this]
 generalize BQ S (textD l) os=T at*
 (rw[c19_l0_w];simp only[c19_l0_b,c19_l0_a,go_sem];repeat' ((first|rw[guardO_t]|rw[guardO_f]|rw[cw_bool]);split<;>rename_i h<;>(try rw[Bool.not_eq_true] at h)<;>(try simp only[go_sem,c19_l0_a, *])))
theorem textP (l:List GDiag) (hl:l.length≤1000) (ho: ∀ d∈l,OkDiag d) (hn: ∀ d∈l,d.At.Def.size≤100) (S:St):cal (env ot oz) 19 [.sl .ro (l.map rDiag)] S=some (.str (txt (textD l)),S):=by
 obtain ⟨os,hb,f⟩:=text_l (ot:=ot) (oz:=oz) l hl ho hn S
 have s1:=str_q (ot:=ot) (oz:=oz) S (textD l) os (by omega)
 have cl:=close_y S (textD l) os (txt (textD l))
 have b0:(⟨S.obs++[.cells 64 [.nilp,.sl .null []]],S.own⟩:St)=BQ S [] []:=rfl
 generalize txt (textD l)=r at*
 generalize textD l=x at*
 (rw[w_plain (fn:=c19) rfl rfl (by simp only[go_sem,b0,f,s1,cl]) rfl (by decide)];simp only[c19,c19_b,go_sem,b0,f,s1,cl];repeat' ((first|rw[guardO_t]|rw[guardO_f]|rw[cw_bool]);split<;>rename_i h<;>(try rw[Bool.not_eq_true] at h)<;>(try simp only[go_sem,b0,f,s1,cl, *])))
theorem text24 (l:List GDiag) (hl:l.length≤1000) (ho: ∀ d∈l,OkDiag d) (hn: ∀ d∈l,d.At.Def.size≤100) (S:St):cal (env ot oz) 20 [.sl .ro (l.map rDiag)] S=some (.str (txt (textD l)),S):=by
 have f:=fun fin st=>loopF (E:=(env ot oz)) (c:=c20_l0) l (by unfold Short maxLen;omega) (fun i bs=>[(0,some (.sl .ro (l.map rDiag))),(3,some (.str (txt bs))),(4,some (.int .i64 (i:Int)))]) (fun _ _=>S) (fun bs d=>bs++(lineB d).data.toList) (fun i bs=>bs.length≤i*150) fin st
  (fun i bs d h1 h2 h3 h4 hI=>by
   have hil:=getElem?_lt h1
   have hd:=lineB_size d (hn d h2)
   have hs:=size_data (lineB d)
   refine ⟨by rw[List.length_append];omega, ?_⟩
   have n1:=number_w (ot:=ot) (oz:=oz) d.At.Node (ho d h2).At.Node
   have n2:=number_w (ot:=ot) (oz:=oz) d.Code (ho d h2).Code
   have k1:=numS_21 d.At.Node
   have k2:=numS_21 d.Code
   have hdn:=hn d h2
   have e1:(⟨#[58]⟩:ByteArray).size=1:=rfl
   have e2:(⟨#[10]⟩:ByteArray).size=1:=rfl
   have ts:=txt_size bs
   have a1:binP .add (.str (txt bs)) (.str d.At.Def)=some (.str (txt bs++d.At.Def)):=addS (by omega)
   have a2:binP .add (.str (txt bs++d.At.Def)) (.str ⟨#[58]⟩)=some (.str (txt bs++d.At.Def++⟨#[58]⟩)):=addS (by simp only[app_size,e1];omega)
   have a3:binP .add (.str (txt bs++d.At.Def++⟨#[58]⟩)) (.str (numS d.At.Node))=some (.str (txt bs++d.At.Def++⟨#[58]⟩++numS d.At.Node)):=addS (by simp only[app_size,e1];omega)
   have a4:binP .add (.str (txt bs++d.At.Def++⟨#[58]⟩++numS d.At.Node)) (.str ⟨#[58]⟩)=some (.str (txt bs++d.At.Def++⟨#[58]⟩++numS d.At.Node++⟨#[58]⟩)):=addS (by simp only[app_size,e1];omega)
   have a5:binP .add (.str (txt bs++d.At.Def++⟨#[58]⟩++numS d.At.Node++⟨#[58]⟩)) (.str (numS d.Code))=some (.str (txt bs++d.At.Def++⟨#[58]⟩++numS d.At.Node++⟨#[58]⟩++numS d.Code)):=addS (by simp only[app_size,e1];omega)
   have a6:binP .add (.str (txt bs++d.At.Def++⟨#[58]⟩++numS d.At.Node++⟨#[58]⟩++numS d.Code)) (.str ⟨#[10]⟩)=some (.str (txt (bs++(lineB d).data.toList))):=by
    rw[addS (by simp only[app_size,e1,e2];omega),←txt_append,txt_toList]
    unfold lineB
    simp only[ByteArray.append_assoc]
   (rw[c20_l0_w];simp only[c20_l0_b,c20_l0_a,go_sem,h1,h3,h4,n1,n2,↓a1,↓a2,↓a3,↓a4,↓a5,↓a6];repeat' ((first|rw[guardO_t]|rw[guardO_f]|rw[cw_bool]);split<;>rename_i h<;>(try rw[Bool.not_eq_true] at h)<;>(try simp only[go_sem,c20_l0_a,h1,h3,h4,n1,n2,↓a1,↓a2,↓a3,↓a4,↓a5,↓a6, *])))) l 0 [] rfl (by simp)
 have hf: ∀ (m:List GDiag) (o:List UInt8),m.foldl (fun bs d=>bs++(lineB d).data.toList) o=o++textD m:=by
  intro m
  induction m with
  |nil=>intro o;simp[textD]
  |cons a m ih=>intro o;rw[List.foldl_cons,ih];simp[textD]
 have g:=fun fin st=>(f fin st).2
 simp only[hf,List.nil_append,Nat.zero_add,Int.cast_ofNat_Int] at g
 have t0:(txt []:ByteArray)=⟨#[]⟩:=rfl
 rw[t0] at g
 have hx: ∀ fin st s,run (env ot oz) fin st c20_l0 [(0,some (.sl .ro (l.map rDiag))),(3,some (s)),(4,some (.int .i64 (l.length:Int)))] S=aft (env ot oz) fin st (.exit 0) [(0,some (.sl .ro (l.map rDiag))),(3,some (s)),(4,some (.int .i64 (l.length:Int))),(8,some (.bool false))] S:=fun fin st s=>by
  (rw[c20_l0_w];simp only[c20_l0_b,c20_l0_a,go_sem];repeat' ((first|rw[guardO_t]|rw[guardO_f]|rw[cw_bool]);split<;>rename_i h<;>(try rw[Bool.not_eq_true] at h)<;>(try simp only[go_sem,c20_l0_a, *])))
 generalize txt (textD l)=r at*
 (rw[w_plain (fn:=c20) rfl rfl (by simp only[go_sem,g,hx]) rfl (by decide)];simp only[c20,c20_b,go_sem,g,hx];repeat' ((first|rw[guardO_t]|rw[guardO_f]|rw[cw_bool]);split<;>rename_i h<;>(try rw[Bool.not_eq_true] at h)<;>(try simp only[go_sem,g,hx, *])))
end
end Go.PE
