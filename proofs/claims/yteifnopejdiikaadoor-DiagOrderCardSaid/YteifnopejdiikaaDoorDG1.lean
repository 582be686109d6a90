/-
  Lists in order, each entry once: by sorting and by putting one behind the other. Plain lists; no conditions.
-/
namespace Go.PE
set_option linter.unusedVariables false
set_option linter.unusedSimpArgs false
set_option linter.unusedSectionVars false
section
variable {α:Type} [DecidableEq α] (lt:α→α→Bool)
def insO (x:α):List α→List α
 |[]=>[x]
 |y::r=>if lt y x then y::insO x r else x::y::r
def srtO:List α→List α
 |[]=>[]
 |x::r=>insO lt x (srtO r)
def cmpO:List α→List α
 |[]=>[]
 |[x]=>[x]
 |x::y::r=>if x=y then cmpO (y::r) else x::cmpO (y::r)
def putO (x:α):List α→List α
 |[]=>[x]
 |y::r=>if lt y x then y::putO x r else if y=x then y::r else x::y::r
structure Ord:Prop where
 irr: ∀ a,lt a a=false
 tr: ∀ a b c,lt a b=true→lt b c=true→lt a c=true
 tot: ∀ a b,lt a b=false→lt b a=false→a=b
variable {lt}
theorem insO_perm (x:α): ∀ l,(insO lt x l).Perm (x::l)
 |[]=> .refl _
 |y::r=>by
  unfold insO
  split
  ·exact ((insO_perm x r).cons y).trans (.swap x y r)
  ·exact .refl _
theorem srtO_perm: ∀ l,(srtO lt l).Perm l
 |[]=> .refl _
 |x::r=>(insO_perm x _).trans ((srtO_perm r).cons x)
def LeO (lt:α→α→Bool) (a b:α):Prop:=lt b a=false
theorem Ord.le_tr (h:Ord lt) {a b c:α} (h1:LeO lt a b) (h2:LeO lt b c):LeO lt a c:=by
 unfold LeO at*
 cases q:lt c a with
 |false=>rfl
 |true=>
  cases q2:lt b c with
  |true=>rw[h.tr b c a q2 q] at h1;cases h1
  |false=>
   have:=h.tot b c q2 h2
   subst this;rw[h1] at q;cases q
theorem Ord.asym (h:Ord lt) {a b:α} (h1:lt a b=true):lt b a=false:=by
 cases q:lt b a with
 |false=>rfl
 |true=>have:=h.tr a b a h1 q;rw[h.irr a] at this;cases this
theorem insO_sorted (h:Ord lt) (x:α): ∀ l,l.Pairwise (LeO lt)→(insO lt x l).Pairwise (LeO lt)
 |[],_=>by simp[insO]
 |y::r,hp=>by
  unfold insO
  rw[List.pairwise_cons] at hp
  split
  ·rename_i q
   rw[List.pairwise_cons]
   refine ⟨fun z hz=> ?_,insO_sorted h x r hp.2⟩
   rcases List.mem_cons.1 ((insO_perm x r).mem_iff.1 hz) with e|hz
   ·subst e;exact h.asym q
   ·exact hp.1 z hz
  ·rename_i q
   rw[Bool.not_eq_true] at q
   rw[List.pairwise_cons]
   refine ⟨fun z hz=> ?_,List.pairwise_cons.2 hp⟩
   rcases List.mem_cons.1 hz with e|hz
   ·subst e;exact q
   ·exact h.le_tr (b:=y) q (hp.1 z hz)
theorem srtO_sorted (h:Ord lt): ∀ l,(srtO lt l).Pairwise (LeO lt)
 |[]=> .nil
 |x::r=>insO_sorted h x _ (srtO_sorted h r)
theorem sorted_one (h:Ord lt) {l m:List α} (hl:l.Pairwise (LeO lt)) (hm:m.Pairwise (LeO lt)) (hp:l.Perm m):l=m:=
 List.Perm.eq_of_pairwise (le:=LeO lt) (fun a b _ _ h1 h2=>h.tot a b h2 h1) hl hm hp
theorem cmpO_mem: ∀ (l:List α) (a:α),a∈cmpO l↔a∈l
 |[],a=>by simp[cmpO]
 |[x],a=>by simp[cmpO]
 |x::y::r,a=>by
  unfold cmpO
  split
  ·rename_i e;subst e
   rw[cmpO_mem (x::r) a];simp
  ·rw[List.mem_cons,cmpO_mem (y::r) a,List.mem_cons (b:=x)]
theorem cmpO_strict (h:Ord lt): ∀ l:List α,l.Pairwise (LeO lt)→(cmpO l).Pairwise fun a b=>lt a b=true
 |[],_=>by simp[cmpO]
 |[x],_=>by simp[cmpO]
 |x::y::r,hp=>by
  rw[List.pairwise_cons] at hp
  unfold cmpO
  split
  ·exact cmpO_strict h (y::r) hp.2
  ·rename_i e
   rw[List.pairwise_cons]
   refine ⟨fun z hz=> ?_,cmpO_strict h (y::r) hp.2⟩
   rw[cmpO_mem] at hz
   have hy:lt x y=true:=by
    cases q:lt x y with
    |true=>rfl
    |false=>exact absurd (h.tot x y q (hp.1 y (by simp))) e
   rcases List.mem_cons.1 hz with e2|hz
   ·subst e2;exact hy
   ·cases q:lt x z with
    |true=>rfl
    |false=>
     have h1:LeO lt y z:=(List.pairwise_cons.1 hp.2).1 z hz
     have:=h.tot x z q (hp.1 z (by simp[hz]))
     subst this
     unfold LeO at h1
     rw[hy] at h1;cases h1
theorem putO_mem (x:α): ∀ (l:List α) (a:α),a∈putO lt x l↔a=x∨a∈l
 |[],a=>by simp[putO]
 |y::r,a=>by
  unfold putO
  split
  ·rw[List.mem_cons,putO_mem x r a,List.mem_cons]
   constructor
   ·rintro (h|h|h)<;>simp[h]
   ·rintro (h|h|h)<;>simp[h]
  ·split
   ·rename_i e;subst e;simp
   ·simp
theorem putO_strict (h:Ord lt) (x:α): ∀ l:List α,(l.Pairwise fun a b=>lt a b=true)→(putO lt x l).Pairwise fun a b=>lt a b=true
 |[],_=>by simp[putO]
 |y::r,hp=>by
  have hp':=List.pairwise_cons.1 hp
  unfold putO
  split
  ·rename_i q
   rw[List.pairwise_cons]
   refine ⟨fun z hz=> ?_,putO_strict h x r hp'.2⟩
   rw[putO_mem] at hz
   rcases hz with e|hz
   ·subst e;exact q
   ·exact hp'.1 z hz
  ·rename_i q
   rw[Bool.not_eq_true] at q
   split
   ·exact hp
   ·rename_i e
    have hxy:lt x y=true:=by
     cases q2:lt x y with
     |true=>rfl
     |false=>exact absurd (h.tot y x q q2) e
    rw[List.pairwise_cons]
    refine ⟨fun z hz=> ?_,hp⟩
    rcases List.mem_cons.1 hz with e|hz
    ·subst e;exact hxy
    ·exact h.tr x y z hxy (hp'.1 z hz)
def allO (lt:α→α→Bool) (l:List α):List α:=l.foldl (fun o x=>putO lt x o) []
theorem fold_mem: ∀ (l o:List α) (a:α),a∈l.foldl (fun o x=>putO lt x o) o↔a∈l∨a∈o
 |[],o,a=>by simp
 |x::l,o,a=>by
  rw[List.foldl_cons,fold_mem l _ a,putO_mem,List.mem_cons]
  constructor
  ·rintro (h|h|h)<;>simp[h]
  ·rintro ((h|h)|h)<;>simp[h]
theorem fold_strict (h:Ord lt): ∀ (l o:List α),(o.Pairwise fun a b=>lt a b=true)→(l.foldl (fun o x=>putO lt x o) o).Pairwise fun a b=>lt a b=true
 |[],o,ho=>ho
 |x::l,o,ho=>by rw[List.foldl_cons];exact fold_strict h l _ (putO_strict h x o ho)
theorem allO_mem {l:List α} {a:α}:a∈allO lt l↔a∈l:=by unfold allO;rw[fold_mem];simp
theorem allO_strict (h:Ord lt) (l:List α):(allO lt l).Pairwise fun a b=>lt a b=true:=fold_strict h l [] .nil
theorem strict_one (h:Ord lt) {l m:List α} (hl:l.Pairwise fun a b=>lt a b=true) (hm:m.Pairwise fun a b=>lt a b=true) (he: ∀ a,a∈l↔a∈m):l=m:=by
 have nd: ∀ l:List α,(l.Pairwise fun a b=>lt a b=true)→l.Nodup:=fun l hl=>hl.imp fun {a b} hab e=>by subst e;rw[h.irr a] at hab;cases hab
 have hp:l.Perm m:=(List.perm_ext_iff_of_nodup (nd l hl) (nd m hm)).2 he
 have w: ∀ l:List α,(l.Pairwise fun a b=>lt a b=true)→l.Pairwise (LeO lt):=fun l hl=>hl.imp fun {a b} hab=>h.asym hab
 exact sorted_one h (w l hl) (w m hm) hp
theorem all_sort (h:Ord lt) (l:List α):cmpO (srtO lt l)=allO lt l:=by
 refine strict_one h (cmpO_strict h _ (srtO_sorted h l)) (allO_strict h l) fun a=> ?_
 rw[cmpO_mem,(srtO_perm l).mem_iff,allO_mem]
theorem allO_perm (h:Ord lt) {l m:List α} (he: ∀ a,a∈l↔a∈m):allO lt l=allO lt m:=
 strict_one h (allO_strict h l) (allO_strict h m) fun a=>by rw[allO_mem,allO_mem,he]
theorem allO_self (h:Ord lt) {l:List α} (hl:l.Pairwise fun a b=>lt a b=true):allO lt l=l:=
 strict_one h (allO_strict h l) hl fun a=>allO_mem
theorem putO_take (x:α): ∀ (n:Nat) (l:List α),(putO lt x (l.take n)).take n=(putO lt x l).take n
 |0,l=>by simp
 |n+1,[]=>by simp
 |n+1,y::r=>by
  rw[List.take_succ_cons]
  unfold putO
  split
  ·rw[List.take_succ_cons,List.take_succ_cons,putO_take x n r]
  ·split
   ·rw[List.take_succ_cons,List.take_succ_cons,List.take_take,Nat.min_self]
   ·rw[List.take_succ_cons,List.take_succ_cons]
    cases n with
    |zero=>simp
    |succ n=>rw[List.take_succ_cons,List.take_succ_cons,List.take_take];congr 2;rw[Nat.min_eq_left (by omega)]
theorem all_add (h:Ord lt) (n:Nat) (l:List α) (x:α):(allO lt ((allO lt l).take n++[x])).take n=(allO lt (l++[x])).take n:=by
 have e1: ∀ m:List α,(m.Pairwise fun a b=>lt a b=true)→allO lt (m++[x])=putO lt x m:=fun m hm=>by
  unfold allO
  rw[List.foldl_append]
  have:=allO_self h hm
  unfold allO at this
  rw[this];rfl
 have e2:allO lt (l++[x])=putO lt x (allO lt l):=by unfold allO;rw[List.foldl_append];rfl
 rw[e1 _ ((allO_strict h l).sublist (List.take_sublist n _)),e2,putO_take]
theorem take_strict {l:List α} (n:Nat) (hl:l.Pairwise fun a b=>lt a b=true):(l.take n).Pairwise fun a b=>lt a b=true:=hl.sublist (List.take_sublist n l)
end
end Go.PE
