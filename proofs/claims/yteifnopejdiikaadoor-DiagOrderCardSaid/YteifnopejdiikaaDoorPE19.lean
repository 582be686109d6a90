/-
  The evaluator without fuel: what it comes to with enough of it, as equations. Conditions: each law's own.
-/
import Derived.Test.YteifnopejdiikaaDoorPX
namespace Go.PE
open Go Go.RowKit
set_option linter.unusedVariables false
set_option linter.unusedSimpArgs false
structure EP where
 t:Nat→TypeId
 z:Nat→Nat×Nat
 v:Nat→Value
section
variable {α β:Type}
noncomputable def lim (F:Nat→Option α):Option α:=by
 classical exact if h: ∃ x,∃ n,F n=some x then some (Classical.choose h) else none
def Mono (F:Nat→Option α):Prop:= ∀ n x,F n=some x→F (n+1)=some x
theorem Mono.le {F:Nat→Option α} (h:Mono F) {n m:Nat} (hm:n≤m) {x:α} (hx:F n=some x):F m=some x:=by
 induction hm with
 |refl=>exact hx
 |step _ ih=>exact h _ _ ih
theorem Mono.one {F:Nat→Option α} (h:Mono F) {n m:Nat} {x y:α} (hx:F n=some x) (hy:F m=some y):x=y:=by
 have h1:=h.le (Nat.le_max_left n m) hx
 have h2:=h.le (Nat.le_max_right n m) hy
 rw[h1] at h2;exact Option.some.inj h2
theorem lim_some {F:Nat→Option α} (h:Mono F) {x:α}:lim F=some x↔ ∃ n,F n=some x:=by
 classical
 unfold lim
 split
 ·rename_i hx
  have hc:=Classical.choose_spec hx
  constructor
  ·intro e;injection e with e;rw[←e];exact hc
  ·rintro ⟨n,hn⟩
   obtain ⟨m,hm⟩:=hc
   rw[h.one hm hn]
 ·rename_i hx
  constructor
  ·intro e;cases e
  ·rintro ⟨n,hn⟩;exact absurd ⟨x,n,hn⟩ hx
theorem lim_congr {F G:Nat→Option α} (hF:Mono F) (hG:Mono G) (h1: ∀ n x,F n=some x→ ∃ m,G m=some x) (h2: ∀ n x,G n=some x→ ∃ m,F m=some x):lim F=lim G:=by
 apply Option.ext
 intro x
 rw[lim_some hF,lim_some hG]
 exact ⟨fun ⟨n,hn⟩=>h1 n x hn,fun ⟨n,hn⟩=>h2 n x hn⟩
theorem lim_ext {F G:Nat→Option α} (h: ∀ n,F n=G n):lim F=lim G:=by rw[funext h]
theorem Mono.shift {F:Nat→Option α} (h:Mono F):Mono fun n=>F (n+1):=fun n x hx=>h _ _ hx
theorem lim_shift {F:Nat→Option α} (h:Mono F):lim (fun n=>F (n+1))=lim F:=
 lim_congr h.shift h (fun n x hx=>⟨n+1,hx⟩) (fun n x hx=>⟨n,h _ _ hx⟩)
theorem mono_const (a:Option α):Mono fun _=>a:=fun _ _ h=>h
theorem lim_const (a:Option α):lim (fun _=>a)=a:=by
 apply Option.ext
 intro x
 rw[lim_some (mono_const a)]
 exact ⟨fun ⟨_,h⟩=>h,fun h=>⟨0,h⟩⟩
end
inductive Fw where
 |seq (b:EC)
 |block (id:Nat)
 |again (c:EC)
 |rnd (l:Nat) (bd:EC)
 |dfr (h:FuncId) (args:List PV)
def konN (E:Env) (fin:Kont (PV×St)) (n:Nat):List Fw→Kont (PV×St)
 |[]=>fin
 | .seq b::st=>fun x ts S=>match x with
  | .normal=>(lvl E n).ev b ts S (konN E fin n st)
  |x=>konN E fin n st x ts S
 | .block id::st=>fun x ts S=>match x with
  | .exit id'=>if id'=id then konN E fin n st .normal ts S else konN E fin n st (.exit id') ts S
  |x=>konN E fin n st x ts S
 | .again c::st=>fun x ts S=>match x with
  | .normal=>(lvl E n).ev c ts S (konN E fin n st)
  |x=>konN E fin n st x ts S
 | .rnd l bd::st=>fun x ts S=>match x with
  | .normal=>match S.obs[l]? with
   |some (.loop r)=>if r.st=0 then (setLoop S l 1 r.pend).bind fun S'=>(lvl E n).ev bd ts S' (konN E fin n st) else none
   |_=>none
  |_=>none
 | .dfr h args::st=>fun x ts S=>match x with
  | .exit _=>none
  | .pan v=>(dcl E (lvl E n) h args (some v) S).bind fun S'=>konN E fin n st .ret ts S'
  |_=>(dcl E (lvl E n) h args none S).bind fun S'=>konN E fin n st .ret ts S'
theorem dcl_succ {E:Env} {n:Nat} {h:FuncId} {args:List PV} {pv:Option PV} {S S':St} (hv:dcl E (lvl E n) h args pv S=some S'):dcl E (lvl E (n+1)) h args pv S=some S':=
 dcl_le (lvl_succ E n).1 (lvl_succ E n).2 hv
theorem konN_succ (E:Env) (fin:Kont (PV×St)) (n:Nat): ∀ (st:List Fw) (y:EX) (ts:Tmps) (S:St) (x:PV×St),konN E fin n st y ts S=some x→konN E fin (n+1) st y ts S=some x
 |[],y,ts,S,x,h=>h
 | .seq b::st,y,ts,S,x,h=>by
  cases y with
  |normal=>exact (lvl_succ E n).2 b ts S _ _ x (konN_succ E fin n st) h
  |exit id=>exact konN_succ E fin n st (.exit id) ts S x h
  |ret=>exact konN_succ E fin n st .ret ts S x h
  |pan v=>exact konN_succ E fin n st (.pan v) ts S x h
 | .again b::st,y,ts,S,x,h=>by
  cases y with
  |normal=>exact (lvl_succ E n).2 b ts S _ _ x (konN_succ E fin n st) h
  |exit id=>exact konN_succ E fin n st (.exit id) ts S x h
  |ret=>exact konN_succ E fin n st .ret ts S x h
  |pan v=>exact konN_succ E fin n st (.pan v) ts S x h
 | .block id::st,y,ts,S,x,h=>by
  cases y with
  |normal=>exact konN_succ E fin n st .normal ts S x h
  |ret=>exact konN_succ E fin n st .ret ts S x h
  |pan v=>exact konN_succ E fin n st (.pan v) ts S x h
  |exit id'=>
   simp only[konN] at h ⊢
   split at h
   ·rename_i e;rw[if_pos e];exact konN_succ E fin n st .normal ts S x h
   ·rename_i e;rw[if_neg e];exact konN_succ E fin n st (.exit id') ts S x h
 | .rnd l bd::st,y,ts,S,x,h=>by
  cases y<;>simp only[konN] at h ⊢ <;>try (cases h;done)
  split at h
  ·split at h
   ·rename_i hst
    rw[if_pos hst]
    simp only[Option.bind_eq_some_iff] at h ⊢
    obtain ⟨S',h1,h2⟩:=h
    exact ⟨S',h1,(lvl_succ E n).2 _ _ _ _ _ _ (konN_succ E fin n st) h2⟩
   ·cases h
  ·cases h
 | .dfr hf args::st,y,ts,S,x,h=>by
  cases y<;>simp only[konN] at h ⊢ <;>try (cases h;done)
  all_goals
   simp only[Option.bind_eq_some_iff] at h ⊢
   obtain ⟨S',h1,h2⟩:=h
   exact ⟨S',dcl_succ h1,konN_succ E fin n st _ _ _ _ h2⟩
noncomputable def run (E:Env) (fin:Kont (PV×St)) (st:List Fw) (c:EC) (ts:Tmps) (S:St):Option (PV×St):=lim fun n=>(lvl E n).ev c ts S (konN E fin n st)
noncomputable def aft (E:Env) (fin:Kont (PV×St)) (st:List Fw) (x:EX) (ts:Tmps) (S:St):Option (PV×St):=lim fun n=>konN E fin n st x ts S
noncomputable def panc (E:Env) (f:FuncId) (args:List PV) (S:St):Option (PV×St):=lim fun n=>(lvl E n).pan f args S
noncomputable def cal (E:Env) (f:FuncId) (args:List PV) (S:St):Option (PV×St):=lim fun n=>(lvl E n).call f args S
section
variable {E:Env} {fin:Kont (PV×St)} {st:List Fw} {ts:Tmps} {S:St}
theorem run_mono (c:EC):Mono fun n=>(lvl E n).ev c ts S (konN E fin n st):=fun n x h=>(lvl_succ E n).2 c ts S _ _ x (konN_succ E fin n st) h
theorem aft_mono (x:EX):Mono fun n=>konN E fin n st x ts S:=fun n y h=>konN_succ E fin n st x ts S y h
theorem panc_mono (f:FuncId) (args:List PV):Mono fun n=>(lvl E n).pan f args S:=fun n x h=>(lvl_succ3 E n).2.2 f args S x h
theorem cal_mono (f:FuncId) (args:List PV):Mono fun n=>(lvl E n).call f args S:=fun n x h=>(lvl_succ E n).1 f args S x h
noncomputable def stepCw (E:Env) (fin:Kont (PV×St)) (st:List Fw) (a b:EC) (ts:Tmps) (S:St):Option PV→Option (PV×St)
 |some (.bool t)=>if t=true then run E fin st a ts S else run E fin st b ts S
 |_=>none
noncomputable def stepRw (E:Env) (fin:Kont (PV×St)) (st:List Fw) (ks:Option (List Nat)):Option (Tmps×St)→Option (PV×St)
 |some (ts,S)=>aft E fin st .normal (sel ks ts) S
 |none=>none
end
section
variable {E:Env} {fin:Kont (PV×St)} {st:List Fw} {ts:Tmps} {S:St}
theorem w_skip:run E fin st .skip ts S=aft E fin st .normal ts S:=by
 unfold run aft
 rw[←lim_shift (run_mono .skip),←lim_shift (aft_mono .normal)]
 rfl
theorem w_exit {id:Nat}:run E fin st (.exit id) ts S=aft E fin st (.exit id) ts S:=by
 unfold run aft
 rw[←lim_shift (run_mono (.exit id)),←lim_shift (aft_mono (.exit id))]
 rfl
theorem w_ret:run E fin st .ret ts S=aft E fin st .ret ts S:=by
 unfold run aft
 rw[←lim_shift (run_mono .ret),←lim_shift (aft_mono .ret)]
 rfl
theorem w_seq {a b:EC}:run E fin st (.seq a b) ts S=run E fin (.seq b::st) a ts S:=by
 unfold run
 rw[←lim_shift (run_mono _),←lim_shift (run_mono a)]
 rfl
theorem w_block {id:Nat} {c:EC}:run E fin st (.block id c) ts S=run E fin (.block id::st) c ts S:=by
 unfold run
 rw[←lim_shift (run_mono _),←lim_shift (run_mono c)]
 rfl
theorem w_cond {c:EOpd} {a b:EC}:run E fin st (.cond c a b) ts S=stepCw E fin st a b ts S (c.val E.G ts):=by
 have key: ∀ n,(lvl E (n+1)).ev (.cond c a b) ts S (konN E fin (n+1) st)=match c.val E.G ts with
   |some (.bool t)=>if t then (lvl E (n+1)).ev a ts S (konN E fin (n+1) st) else (lvl E (n+1)).ev b ts S (konN E fin (n+1) st)
   |_=>none:=fun n=>rfl
 unfold run
 rw[←lim_shift (run_mono (.cond c a b)),lim_ext key]
 cases c.val E.G ts with
 |none=>exact lim_const none
 |some v=>
  cases v with
  |bool t=>
   simp only[stepCw]
   cases t with
   |true=>simp only[if_true];exact lim_shift (run_mono a)
   |false=>simp only[Bool.false_eq_true,if_false];exact lim_shift (run_mono b)
  |_=>exact lim_const none
theorem lev_k (E:Env): ∀ (n:Nat) (e:EC) (ts:Tmps) (S:St) (K K':Kont (PV×St)) (x:PV×St),(∀ y ts S x,K y ts S=some x→K' y ts S=some x)→(lvl E n).ev e ts S K=some x→(lvl E n).ev e ts S K'=some x
 |0,e,ts,S,K,K',x,hK,h=>by simp[lvl] at h
 |n+1,e,ts,S,K,K',x,hK,h=>ev_mono (fun _ _ _ _ h=>h) (fun _ _ _ _ h=>h) (lvl_excl E n) (fun e ts S K K' x hK h=>lev_k E n e ts S K K' x hK h) e hK h
theorem w_loop {ks:Option (List Nat)} {c:EC}:run E fin st (.loop ks c) ts S=run E fin (.again (.loop ks c)::st) c (sel ks ts) S:=by
 unfold run
 rw[←lim_shift (run_mono (.loop ks c))]
 have key: ∀ n,(lvl E (n+1)).ev (.loop ks c) ts S (konN E fin (n+1) st)=(lvl E (n+1)).ev c (sel ks ts) S (fun x ts S=>match x with| .normal=>(lvl E n).ev (.loop ks c) ts S (konN E fin (n+1) st)|x=>konN E fin (n+1) st x ts S):=fun n=>rfl
 refine lim_congr (run_mono _).shift (run_mono c) (fun n x h=>⟨n+1, ?_⟩) (fun n x h=>⟨n, ?_⟩)
 ·simp only[key] at h
  refine lev_k E (n+1) c _ S _ _ x (fun y ts S x hx=> ?_) h
  cases y with
  |normal=>exact (lvl_succ E n).2 _ ts S _ _ x (fun _ _ _ _ h=>h) hx
  |_=>exact hx
 ·simp only[key]
  refine (lvl_succ E n).2 c _ S _ _ x (fun y ts S x hx=> ?_) h
  cases y with
  |normal=>exact lev_k E n _ ts S _ _ x (konN_succ E fin n st) hx
  |_=>exact konN_succ E fin n st _ ts S x hx
theorem cal_le (n:Nat):CallLe (lvl E n).call (cal E):=fun f a S x h=>(lim_some (cal_mono f a)).2 ⟨n,h⟩
theorem panc_le (n:Nat):CallLe (lvl E n).pan (panc E):=fun f a S x h=>(lim_some (panc_mono f a)).2 ⟨n,h⟩
theorem cal_excl:Excl (cal E) (panc E):=fun f a S x y h1 h2=>by
 obtain ⟨n,hn⟩:=(lim_some (panc_mono f a)).1 h1
 obtain ⟨m,hm⟩:=(lim_some (cal_mono f a)).1 h2
 exact lvl_excl E (n+m) f a S x y (pan_mono (Nat.le_add_right _ _) hn) (call_mono (Nat.le_add_left _ _) hm)
theorem evOp_cal {G:Glob} {ts:Tmps} {S:St} {e:EOp} {x:PV×St} (he:evOp G (cal E) ts S e=some x): ∃ m,evOp G (lvl E m).call ts S e=some x:=by
 cases e with
 |call f args=>
  simp only[evOp] at he ⊢
  split at he
  ·exact (lim_some (cal_mono _ _)).1 he
  ·exact (lim_some (cal_mono _ _)).1 he
  ·cases he
 |callM f args=>
  simp only[evOp] at he ⊢
  split at he
  ·exact (lim_some (cal_mono _ _)).1 he
  ·cases he
 |_=>exact ⟨0,he⟩
theorem panOp_cal {G:Glob} {ts:Tmps} {S:St} {e:EOp} {x:PV×St} (he:panOp G (panc E) ts S e=some x): ∃ m,panOp G (lvl E m).pan ts S e=some x:=by
 cases e with
 |call f args=>
  simp only[panOp] at he ⊢
  split at he
  ·exact (lim_some (panc_mono _ _)).1 he
  ·cases he
 |_=>exact ⟨0,he⟩
theorem evOps_cal {G:Glob}: ∀ {l:List EI} {ts:Tmps} {S:St} {x:Tmps×St},evOps G (cal E) l ts S=some x→ ∃ n,evOps G (lvl E n).call l ts S=some x
 |[],ts,S,x,h=>⟨0,h⟩
 |i::r,ts,S,x,h=>by
  simp only[evOps] at h ⊢
  split at h
  ·split at h
   ·rename_i v S' he
    split at h
    ·cases h
    ·rename_i hq
     obtain ⟨n,hn⟩:=evOps_cal h
     have hm:=evOp_cal he
     obtain ⟨m,hm⟩:=hm
     have h1:CallLe (lvl E n).call (lvl E (n+m)).call:=fun _ _ _ _ h=>call_mono (Nat.le_add_right _ _) h
     have h2:CallLe (lvl E m).call (lvl E (n+m)).call:=fun _ _ _ _ h=>call_mono (Nat.le_add_left _ _) h
     refine ⟨n+m, ?_⟩
     rw[evOp_mono h2 hm]
     simp only
     rw[if_neg hq]
     exact evOps_mono h1 hn
   ·cases h
  ·exact evOps_cal h
  ·cases h
theorem evPan_cal {G:Glob}: ∀ {l:List EI} {ts:Tmps} {S:St} {x:PV×St},evPan G (cal E) (panc E) l ts S=some x→ ∃ n,evPan G (lvl E n).call (lvl E n).pan l ts S=some x
 |[],ts,S,x,h=>by simp[evPan] at h
 |i::r,ts,S,x,h=>by
  simp only[evPan] at h ⊢
  split at h
  ·split at h
   ·rename_i v S' he
    split at h
    ·cases h
    ·rename_i hq
     obtain ⟨n,hn⟩:=evPan_cal h
     obtain ⟨m,hm⟩:=evOp_cal he
     have h1:CallLe (lvl E n).call (lvl E (n+m)).call:=fun _ _ _ _ h=>call_mono (Nat.le_add_right _ _) h
     have h1':CallLe (lvl E n).pan (lvl E (n+m)).pan:=fun _ _ _ _ h=>pan_mono (Nat.le_add_right _ _) h
     have h2:CallLe (lvl E m).call (lvl E (n+m)).call:=fun _ _ _ _ h=>call_mono (Nat.le_add_left _ _) h
     refine ⟨n+m, ?_⟩
     rw[evOp_mono h2 hm]
     simp only
     rw[if_neg hq]
     exact evPan_mono h1 h1' (lvl_excl E _) hn
   ·split at h
    ·rename_i hpn
     obtain ⟨m,hm⟩:=panOp_cal h
     refine ⟨m, ?_⟩
     rw[panOp_no (lvl_excl E m) hm]
     simp only[hpn,if_true]
     exact hm
    ·cases h
  ·exact evPan_cal h
  ·cases h
noncomputable def stepPw (E:Env) (fin:Kont (PV×St)) (st:List Fw) (ops:List EI) (ts0:Tmps) (S0:St) (ks:Option (List Nat)):Option (Tmps×St)→Option (PV×St)
 |some (ts,S)=>aft E fin st .normal (sel ks ts) S
 |none=>match evPan E.G (cal E) (panc E) ops ts0 S0 with
  |some (v,S)=>aft E fin st (.pan v) (dropT ops ts0) S
  |none=>none
theorem w_regP {id:Nat} {ops:List EI} {dr:Bool} {ks:Option (List Nat)}:run E fin st (.regP id ops dr ks) ts S=stepPw E fin st ops ts S ks (evOps E.G (cal E) ops ts S):=by
 have key: ∀ n,(lvl E (n+1)).ev (.regP id ops dr ks) ts S (konN E fin (n+1) st)=match evOps E.G (lvl E n).call ops ts S with
   |some (ts',S')=>konN E fin (n+1) st .normal (sel ks ts') S'
   |none=>match evPan E.G (lvl E n).call (lvl E n).pan ops ts S with
    |some (v,S')=>konN E fin (n+1) st (.pan v) (dropT ops ts) S'
    |none=>none:=fun n=>rfl
 unfold run
 rw[←lim_shift (run_mono (.regP id ops dr ks)),lim_ext key]
 have hm:=(run_mono (E:=E) (fin:=fin) (st:=st) (ts:=ts) (S:=S) (.regP id ops dr ks)).shift
 simp only[key] at hm
 have hall: ∀ n y,evOps E.G (lvl E n).call ops ts S=some y→evOps E.G (cal E) ops ts S=some y:=fun n y hy=>evOps_mono (cal_le n) hy
 have hallp: ∀ n y,evPan E.G (lvl E n).call (lvl E n).pan ops ts S=some y→evPan E.G (cal E) (panc E) ops ts S=some y:=fun n y hy=>evPan_mono (cal_le n) (panc_le n) cal_excl hy
 cases h:evOps E.G (cal E) ops ts S with
 |some x=>
  obtain ⟨ts',S'⟩:=x
  obtain ⟨N,hN⟩:=evOps_cal h
  simp only[stepPw,aft]
  refine lim_congr hm (aft_mono .normal) (fun n x hx=> ?_) (fun n x hx=>⟨n+N, ?_⟩)
  ·split at hx
   ·rename_i a b hab
    have:=hall n _ hab
    rw[h] at this;injection this with this;injection this with e1 e2;subst e1 e2
    exact ⟨n+1,hx⟩
   ·split at hx
    ·rename_i v S2 hp
     have:=evPan_no cal_excl (hallp n _ hp)
     rw[h] at this;cases this
    ·cases hx
  ·rw[evOps_mono (fun _ _ _ _ h=>call_mono (Nat.le_add_left N n) h) hN]
   exact (aft_mono .normal).le (by omega) hx
 |none=>
  simp only[stepPw]
  have hno: ∀ n,evOps E.G (lvl E n).call ops ts S=none:=fun n=>by
   cases h1:evOps E.G (lvl E n).call ops ts S with
   |none=>rfl
   |some x=>rw[hall n x h1] at h;cases h
  simp only[hno] at hm ⊢
  cases hp:evPan E.G (cal E) (panc E) ops ts S with
  |none=>
   have: ∀ n,evPan E.G (lvl E n).call (lvl E n).pan ops ts S=none:=fun n=>by
    cases h1:evPan E.G (lvl E n).call (lvl E n).pan ops ts S with
    |none=>rfl
    |some x=>rw[hallp n x h1] at hp;cases hp
   simp only[this]
   exact lim_const none
  |some x=>
   obtain ⟨v,S'⟩:=x
   obtain ⟨N,hN⟩:=evPan_cal hp
   simp only[aft]
   refine lim_congr hm (aft_mono (.pan v)) (fun n x hx=> ?_) (fun n x hx=>⟨n+N, ?_⟩)
   ·split at hx
    ·rename_i a b hab
     have:=hallp n _ hab
     rw[hp] at this;injection this with this;injection this with e1 e2;subst e1 e2
     exact ⟨n+1,hx⟩
    ·cases hx
   ·rw[evPan_mono (fun _ _ _ _ h=>call_mono (Nat.le_add_left N n) h) (fun _ _ _ _ h=>pan_mono (Nat.le_add_left N n) h) (lvl_excl E _) hN]
    exact (aft_mono (.pan v)).le (by omega) hx
theorem w_reg {id:Nat} {ops:List EI} {dr:Bool} {ks:Option (List Nat)}:run E fin st (.reg id ops dr ks) ts S=stepRw E fin st ks (evOps E.G (cal E) ops ts S):=by
 have key: ∀ n,(lvl E (n+1)).ev (.reg id ops dr ks) ts S (konN E fin (n+1) st)=match evOps E.G (lvl E n).call ops ts S with
   |some (ts',S')=>konN E fin (n+1) st .normal (sel ks ts') S'
   |none=>none:=fun n=>rfl
 unfold run
 rw[←lim_shift (run_mono (.reg id ops dr ks)),lim_ext key]
 cases h:evOps E.G (cal E) ops ts S with
 |none=>
  have: ∀ n,evOps E.G (lvl E n).call ops ts S=none:=fun n=>by
   cases h1:evOps E.G (lvl E n).call ops ts S with
   |none=>rfl
   |some x=>rw[evOps_mono (cal_le n) h1] at h;cases h
  simp only[this,stepRw]
  exact lim_const none
 |some x=>
  obtain ⟨ts',S'⟩:=x
  obtain ⟨N,hN⟩:=evOps_cal h
  simp only[stepRw,aft]
  have hall: ∀ n y,evOps E.G (lvl E n).call ops ts S=some y→y=(ts',S'):=fun n y hy=>by
   have:=evOps_mono (cal_le n) hy;rw[h] at this;exact (Option.some.inj this).symm
  refine lim_congr (fun n x hx=> ?_) (aft_mono .normal) (fun n x hx=> ?_) (fun n x hx=>⟨n+N, ?_⟩)
  ·have:=(run_mono (E:=E) (fin:=fin) (st:=st) (ts:=ts) (S:=S) (.reg id ops dr ks)) (n+1) x (by simp only[key];exact hx)
   simp only[key] at this;exact this
  ·split at hx
   ·rename_i a b hab
    have:=hall n _ hab
    injection this with e1 e2;subst e1 e2
    exact ⟨n+1,hx⟩
   ·cases hx
  ·rw[evOps_mono (fun _ _ _ _ h=>call_mono (Nat.le_add_left N n) h) hN]
   exact (aft_mono .normal).le (by omega) hx
theorem w_call {f:FuncId} {fn:EFn} {args args':List PV} (h:E.known f=none) (ht:E.tab f=some fn) (ha:askD args=some args') (hl:args.length=fn.np) (hn:fn.np≤fn.ntmps) (hd:fn.dfr=none:=by rfl):
  cal E f args S=run E (endF S fn.res) [] fn.body (frameOf 0 args') S:=by
 unfold cal run
 rw[←lim_shift (cal_mono f args),←finish_end]
 refine lim_ext fun n=> ?_
 simp only[lvl,h,ht,hl,hn,and_self,if_true,ha,Option.bind_some,lvlB,hd]
 rfl
theorem w_known {f:FuncId} {F:List PV→St→Option (PV×St)} {args args':List PV} (h:E.known f=some F) (ha:askD args=some args'):cal E f args S=F args' S:=by
 unfold cal
 rw[←lim_shift (cal_mono f args)]
 simp only[lvl,h,ha,Option.bind_some]
 exact lim_const _
theorem cal_ask {f:FuncId} {args args':List PV} (ha:askD args=some args') (ha':askD args'=some args') (hl:args'.length=args.length) (hf:f≠yid:=by decide):cal E f args S=cal E f args' S:=by
 unfold cal
 rw[←lim_shift (cal_mono f args),←lim_shift (cal_mono f args')]
 refine lim_ext fun n=> ?_
 simp only[lvl,ha,ha',hl,if_neg hf]
theorem cal_ev {f:FuncId} {args:List PV} {r:PV} {S':St} (h:cal E f args S=some (r,S')):Ev E f args S r S':=by
 obtain ⟨n,hn⟩:=(lim_some (cal_mono f args)).1 h
 exact ⟨n,fun m hm=>call_mono hm hn⟩
theorem cal_at {n:Nat} {f:FuncId} {args:List PV} {x:PV×St} (h:(lvl E n).call f args S=some x):cal E f args S=some x:=(lim_some (cal_mono f args)).2 ⟨n,h⟩
theorem a_nil_n:aft E fin [] .normal ts S=fin .normal ts S:=by unfold aft;exact lim_const _
theorem a_nil_r:aft E fin [] .ret ts S=fin .ret ts S:=by unfold aft;exact lim_const _
theorem a_nil_p {v:PV}:aft E fin [] (.pan v) ts S=fin (.pan v) ts S:=by unfold aft;exact lim_const _
theorem a_seq_p {b:EC} {v:PV}:aft E fin (.seq b::st) (.pan v) ts S=aft E fin st (.pan v) ts S:=rfl
theorem a_again_p {b:EC} {v:PV}:aft E fin (.again b::st) (.pan v) ts S=aft E fin st (.pan v) ts S:=rfl
theorem a_block_p {id:Nat} {v:PV}:aft E fin (.block id::st) (.pan v) ts S=aft E fin st (.pan v) ts S:=rfl
theorem a_seq_n {b:EC}:aft E fin (.seq b::st) .normal ts S=run E fin st b ts S:=rfl
theorem a_seq_e {b:EC} {id:Nat}:aft E fin (.seq b::st) (.exit id) ts S=aft E fin st (.exit id) ts S:=rfl
theorem a_seq_r {b:EC}:aft E fin (.seq b::st) .ret ts S=aft E fin st .ret ts S:=rfl
theorem a_again_n {b:EC}:aft E fin (.again b::st) .normal ts S=run E fin st b ts S:=rfl
theorem a_again_e {b:EC} {id:Nat}:aft E fin (.again b::st) (.exit id) ts S=aft E fin st (.exit id) ts S:=rfl
theorem a_again_r {b:EC}:aft E fin (.again b::st) .ret ts S=aft E fin st .ret ts S:=rfl
theorem a_block_n {id:Nat}:aft E fin (.block id::st) .normal ts S=aft E fin st .normal ts S:=rfl
theorem a_block_r {id:Nat}:aft E fin (.block id::st) .ret ts S=aft E fin st .ret ts S:=rfl
theorem a_block_e {id id':Nat}:aft E fin (.block id::st) (.exit id') ts S=if id'=id then aft E fin st .normal ts S else aft E fin st (.exit id') ts S:=by
 unfold aft
 by_cases h:id'=id
 ·simp only[konN,h,if_true]
 ·simp only[konN,if_neg h]
theorem pw_some {ops:List EI} {ts0:Tmps} {S0:St} {ks:Option (List Nat)}:stepPw E fin st ops ts0 S0 ks (some (ts,S))=aft E fin st .normal (sel ks ts) S:=rfl
theorem rw_some {ks:Option (List Nat)}:stepRw E fin st ks (some (ts,S))=aft E fin st .normal (sel ks ts) S:=rfl
theorem cw_true {a b:EC}:stepCw E fin st a b ts S (some (.bool true))=run E fin st a ts S:=by simp[stepCw]
theorem cw_false {a b:EC}:stepCw E fin st a b ts S (some (.bool false))=run E fin st b ts S:=by simp[stepCw]
theorem cw_bool {a b:EC} {t:Bool}:stepCw E fin st a b ts S (some (.bool t))=if t=true then run E fin st a ts S else run E fin st b ts S:=rfl
end
end Go.PE
