/-
  Taking away what stands beside its like, in place: slices.Compact over diagnoses. Conditions: each law's own.
-/
import Derived.Test.YteifnopejdiikaaDoorDG2
namespace Go.PE
open Go Go.RowKit Go.Proofs
set_option linter.unusedVariables false
set_option linter.unusedSimpArgs false
set_option maxRecDepth 100000
theorem cells_at {xs:List GDiag} {i:Nat} {x:GDiag} (h:xs[i]?=some x):((xs.flatMap rDiag).drop (i*3)).take 3=rDiag x∧3≤(xs.flatMap rDiag).length - i*3:=by
 induction xs generalizing i with
 |nil=>simp at h
 |cons a l ih=>
  rw[List.flatMap_cons]
  cases i with
  |zero=>
   simp only[List.getElem?_cons_zero,Option.some.injEq] at h
   subst h
   refine ⟨?_,by rw[List.length_append,rDiag_len];omega⟩
   rw[Nat.zero_mul,List.drop_zero,List.take_left' (rDiag_len a)]
  |succ i=>
   obtain ⟨h1,h2⟩:=ih (by simpa using h)
   have e:(i+1)*3=(rDiag a).length+i*3:=by rw[rDiag_len];omega
   refine ⟨by rw[e,←List.drop_drop,List.drop_left];exact h1,by rw[List.length_append,rDiag_len];omega⟩
theorem set_cells: ∀ (xs:List GDiag) (k:Nat) (x:GDiag),k<xs.length→setRow (xs.flatMap rDiag) (k*3) (rDiag x)=(xs.set k x).flatMap rDiag
 |[],k,x,h=>by simp at h
 |a::l,0,x,h=>by
  rw[List.flatMap_cons,List.set_cons_zero,List.flatMap_cons,setRow_spec _ _ _ (by rw[List.length_append,rDiag_len,rDiag_len];omega)]
  simp[rDiag_len,List.drop_append]
 |a::l,k+1,x,h=>by
  have ih:=set_cells l k x (by simpa using h)
  rw[List.flatMap_cons,List.set_cons_succ,List.flatMap_cons,←ih]
  have hk:k<l.length:=by simpa using h
  have hl:(l.flatMap rDiag).length=l.length*3:=dflat_len l
  rw[setRow_spec _ _ _ (by rw[List.length_append,rDiag_len,rDiag_len,hl];omega),setRow_spec _ _ _ (by rw[rDiag_len,hl];omega)]
  have e:(k+1)*3=(rDiag a).length+k*3:=by rw[rDiag_len];omega
  have e2:(k+1)*3+(rDiag x).length=(rDiag a).length+(k*3+(rDiag x).length):=by rw[e];omega
  have t1:(rDiag a).take (3+k*3)=rDiag a:=List.take_of_length_le (by rw[rDiag_len];omega)
  have t2:(rDiag a).drop (3+(k*3+3))=[]:=List.drop_eq_nil_of_le (by rw[rDiag_len];omega)
  rw[e2,e,List.take_append,List.drop_append]
  simp[rDiag_len,t1,t2]
section
variable {ot:TypeId} {oz:EP}
theorem c1_step (l n i:Nat) (x y:GDiag) (t:TypeId) (cs:List PV) (T:St) (hT:T.obs[l]?=some (.row t cs)) (h0:1≤i) (hi:i<n) (hn:n≤1000000000) (hx:(cs.drop (i*3)).take 3=rDiag x∧3≤cs.length - i*3) (hy:(cs.drop ((i - 1)*3)).take 3=rDiag y∧3≤cs.length - (i - 1)*3) (hs:sameD x y=false) (fin:Kont (PV×St)) (st:List Fw):
  run (env ot oz) fin st c23_l1 [(0,some (.msl l 0 n 3)),(3,some (.int .i64 (i:Int)))] T=run (env ot oz) fin st c23_l1 [(0,some (.msl l 0 n 3)),(3,some (.int .i64 ((i+1:Nat):Int)))] T:=by
 have lt:=lt_yes hi
 have w1:IntKind.i64.wrap ((i:Int) - 1)=((i - 1:Nat):Int):=by rw[wrap64 (by omega) (by omega)];omega
 have w2:=wrap_succ hi (by omega)
 have b1:(i:Int)<(n:Int):=by omega
 have b2:((i - 1:Nat):Int)<(n:Int):=by omega
 have q:=eqD x y
 obtain ⟨x1,x2⟩:=hx
 obtain ⟨y1,y2⟩:=hy
 (rw[c23_l1_w];simp only[c23_l1_b,c23_l1_a,go_sem,hT,lt,w1,w2,b1,b2,x1,x2,y1,y2,↓q,hs];repeat' ((first|rw[guardO_t]|rw[guardO_f]|rw[cw_bool]);split<;>rename_i h<;>(try rw[Bool.not_eq_true] at h)<;>(try simp only[go_sem,c23_l1_a,hT,lt,w1,w2,b1,b2,x1,x2,y1,y2,↓q,hs, *])))
theorem c1_end (l n:Nat) (T:St) (fin:Kont (PV×St)) (st:List Fw):
  run (env ot oz) fin st c23_l1 [(0,some (.msl l 0 n 3)),(3,some (.int .i64 (n:Int)))] T=aft (env ot oz) fin st (.exit 0) [(0,some (.msl l 0 n 3)),(3,some (.int .i64 (n:Int))),(13,some (.bool false))] T:=by
 (rw[c23_l1_w];simp only[c23_l1_b,c23_l1_a,go_sem];repeat' ((first|rw[guardO_t]|rw[guardO_f]|rw[cw_bool]);split<;>rename_i h<;>(try rw[Bool.not_eq_true] at h)<;>(try simp only[go_sem,c23_l1_a, *])))
theorem c0_end (l n k0:Nat) (k:Nat) (T:St) (fin:Kont (PV×St)) (st:List Fw):
  run (env ot oz) fin st c23_l0 [(0,some (.msl l 0 n 3)),(3,some (.int .i64 (k:Int))),(4,some (.msl l (k0*3) (n - k0) 3)),(5,some (.int .i64 ((n - k0:Nat):Int)))] T=aft (env ot oz) fin st (.exit 2) [(0,some (.msl l 0 n 3)),(3,some (.int .i64 (k:Int))),(4,some (.msl l (k0*3) (n - k0) 3)),(5,some (.int .i64 ((n - k0:Nat):Int))),(32,some (.bool false))] T:=by
 (rw[c23_l0_w];simp only[c23_l0_b,c23_l0_a,go_sem];repeat' ((first|rw[guardO_t]|rw[guardO_f]|rw[cw_bool]);split<;>rename_i h<;>(try rw[Bool.not_eq_true] at h)<;>(try simp only[go_sem,c23_l0_a, *])))
theorem c0_same (l n k0 k m:Nat) (x y:GDiag) (t:TypeId) (cs:List PV) (T:St) (hT:T.obs[l]?=some (.row t cs)) (h0:k0+1≤m) (hi:m<n) (hn:n≤1000000000) (hx:(cs.drop (m*3)).take 3=rDiag x∧3≤cs.length - m*3) (hy:(cs.drop ((m - 1)*3)).take 3=rDiag y∧3≤cs.length - (m - 1)*3) (hs:sameD x y=true) (fin:Kont (PV×St)) (st:List Fw):
  run (env ot oz) fin st c23_l0 [(0,some (.msl l 0 n 3)),(3,some (.int .i64 (k:Int))),(4,some (.msl l (k0*3) (n - k0) 3)),(5,some (.int .i64 ((m - k0:Nat):Int)))] T=run (env ot oz) fin st c23_l0 [(0,some (.msl l 0 n 3)),(3,some (.int .i64 (k:Int))),(4,some (.msl l (k0*3) (n - k0) 3)),(5,some (.int .i64 ((m+1 - k0:Nat):Int)))] T:=by
 have lt:=lt_yes (i:=m - k0) (n:=n - k0) (by omega)
 have w1:IntKind.i64.wrap (((m - k0:Nat):Int) - 1)=((m - 1 - k0:Nat):Int):=by rw[wrap64 (by omega) (by omega)];omega
 have w2:IntKind.i64.wrap (((m - k0:Nat):Int)+1)=((m+1 - k0:Nat):Int):=by rw[wrap64 (by omega) (by omega)];omega
 have b1:((m - k0:Nat):Int)<((n - k0:Nat):Int):=by omega
 have b2:((m - 1 - k0:Nat):Int)<((n - k0:Nat):Int):=by omega
 have o1:k0*3+(m - k0)*3=m*3:=by omega
 have o2:k0*3+(m - 1 - k0)*3=(m - 1)*3:=by omega
 have q:=eqD x y
 obtain ⟨x1,x2⟩:=hx
 obtain ⟨y1,y2⟩:=hy
 (rw[c23_l0_w];simp only[c23_l0_b,c23_l0_a,go_sem,hT,lt,w1,w2,b1,b2,o1,o2,x1,x2,y1,y2,↓q,hs];repeat' ((first|rw[guardO_t]|rw[guardO_f]|rw[cw_bool]);split<;>rename_i h<;>(try rw[Bool.not_eq_true] at h)<;>(try simp only[go_sem,c23_l0_a,hT,lt,w1,w2,b1,b2,o1,o2,x1,x2,y1,y2,↓q,hs, *])))
theorem c0_other (l n k0 k m:Nat) (x y:GDiag) (t:TypeId) (cs:List PV) (T:St) (hT:T.obs[l]?=some (.row t cs)) (h0:k0+1≤m) (hi:m<n) (hk:k<n) (hn:n≤1000000000) (hx:(cs.drop (m*3)).take 3=rDiag x∧3≤cs.length - m*3) (hy:(cs.drop ((m - 1)*3)).take 3=rDiag y∧3≤cs.length - (m - 1)*3) (hc:k*3+3≤cs.length) (hs:sameD x y=false) (fin:Kont (PV×St)) (st:List Fw):
  run (env ot oz) fin st c23_l0 [(0,some (.msl l 0 n 3)),(3,some (.int .i64 (k:Int))),(4,some (.msl l (k0*3) (n - k0) 3)),(5,some (.int .i64 ((m - k0:Nat):Int)))] T=run (env ot oz) fin st c23_l0 [(0,some (.msl l 0 n 3)),(3,some (.int .i64 ((k+1:Nat):Int))),(4,some (.msl l (k0*3) (n - k0) 3)),(5,some (.int .i64 ((m+1 - k0:Nat):Int)))] {T with obs:=T.obs.set l (.row t (setRow cs (k*3) (rDiag x)))}:=by
 have lt:=lt_yes (i:=m - k0) (n:=n - k0) (by omega)
 have w1:IntKind.i64.wrap (((m - k0:Nat):Int) - 1)=((m - 1 - k0:Nat):Int):=by rw[wrap64 (by omega) (by omega)];omega
 have w2:IntKind.i64.wrap (((m - k0:Nat):Int)+1)=((m+1 - k0:Nat):Int):=by rw[wrap64 (by omega) (by omega)];omega
 have w3:=wrap_succ hk (by omega)
 have b1:((m - k0:Nat):Int)<((n - k0:Nat):Int):=by omega
 have b2:((m - 1 - k0:Nat):Int)<((n - k0:Nat):Int):=by omega
 have b3:(k:Int)<(n:Int):=by omega
 have o1:k0*3+(m - k0)*3=m*3:=by omega
 have o2:k0*3+(m - 1 - k0)*3=(m - 1)*3:=by omega
 have q:=eqD x y
 obtain ⟨x1,x2⟩:=hx
 obtain ⟨y1,y2⟩:=hy
 (rw[c23_l0_w];simp only[c23_l0_b,c23_l0_a,go_sem,hT,lt,w1,w2,w3,b1,b2,b3,o1,o2,x1,x2,y1,y2,hc,↓q,hs];repeat' ((first|rw[guardO_t]|rw[guardO_f]|rw[cw_bool]);split<;>rename_i h<;>(try rw[Bool.not_eq_true] at h)<;>(try simp only[go_sem,c23_l0_a,hT,lt,w1,w2,w3,b1,b2,b3,o1,o2,x1,x2,y1,y2,hc,↓q,hs, *])))
end
end Go.PE
