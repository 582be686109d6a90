/-
  All diagnoses, in order, each once: by the document; one more; are two lists the same. Conditions: each law's own.
-/
import Derived.Test.YteifnopejdiikaaDoorDG5
namespace Go.PE
open Go Go.RowKit Go.Proofs
set_option linter.unusedVariables false
set_option linter.unusedSimpArgs false
set_option maxRecDepth 100000
section
variable {ot:TypeId} {oz:EP}
theorem rDiag_lds {G:Glob} {call:CallFn} {ts:Tmps} {S0 S1:St} {n:Option Nat} {r:List EI} {v:PV} {b:Bool} {d:GDiag} (h:look ts 3=some (.at_ (rDiag d))):
  stepO G call n ⟨.lds [(some 3,.tmp 3)],b⟩ r ts S0 (some (v,S1))=evOps G call r (put ts n (some v)) S1:=by
 have e:(rDiag d).take 3=rDiag d:=List.take_of_length_le (by rw[rDiag_len];omega)
 refine stepO_lds ⟨⟨.agg (rDiag d), ?_, ?_⟩,trivial⟩<;>
  simp only[rdE,EOpd.val,h,Option.bind_some,derefP,rowOf,rDiag_len,Nat.le_refl,if_true,e]
theorem cloneK (l:List GDiag) (hl:l.length≤1000000000) (S:St): ∃ g' w',cal (env ot oz) 24 [.sl .ro (l.map rDiag)] S=some (.sl g' (l.map rDiag),⟨S.obs,S.own++w'⟩)∧GrowD S.own w' g' l:=by
 have ha:askD [.sl .ro (l.map rDiag)]=some [.sl .ro (l.map rDiag)]:=by simp only[go_sem]
 rw[cal_known (F:=clF) rfl (args':=[.sl .ro (l.map rDiag)]) ha]
 unfold clF
 rw[ha]
 cases l with
 |nil=>exact ⟨.exact,[],by simp,.inl rfl⟩
 |cons x l=>
  obtain ⟨g1,w1,a1,k1⟩:=growD_app S.obs S.own [] .exact [] (x::l) (.inl rfl) (by simp at hl ⊢;omega)
  refine ⟨g1,w1, ?_,k1⟩
  simp only[List.append_nil,List.map_nil,List.nil_append] at a1
  simpa using a1
theorem addD (l:List GDiag) (x:GDiag) (hl:l.length≤999999999) (S:St):cal (env ot oz) 8 [.sl .ro (l.map rDiag),.agg (rDiag x)] S=some (.sl .ro ((allD (l++[x])).map rDiag),S):=by
 obtain ⟨g1,w1,a1,k1⟩:=cloneK (ot:=ot) (oz:=oz) l (by omega) S
 obtain ⟨g2,w2,a2,k2⟩:=growD_app S.obs S.own w1 g1 l [x] k1 (by simp;omega)
 have c:=allP (ot:=ot) (oz:=oz) (l++[x]) (by simp;omega)
 have c': ∀ g T,cal (env ot oz) 7 [.sl g ((l++[x]).map rDiag)] T=some (.sl .ro ((allD (l++[x])).map rDiag),T):=fun g T=>cal_tag1 (c T) (plainLL_map fun x _=>rDiag_plain x)
 simp only[List.map_append,List.map_cons,List.map_nil,List.nil_append,List.append_nil] at a1 a2 c'
 have cl:=growD_close S [] w2 .ro (allD (l++[x]))
 simp only[List.append_nil] at cl
 generalize allD (l++[x])=r at*
 (rw[w_plain (fn:=c8) rfl rfl (by simp only[go_sem,a1,a2,c',cl,rDiag_lds (d:=x)]) rfl (by decide)];simp only[c8,c8_b,go_sem,a1,a2,c',cl,rDiag_lds (d:=x)];repeat' ((first|rw[guardO_t]|rw[guardO_f]|rw[cw_bool]);split<;>rename_i h<;>(try rw[Bool.not_eq_true] at h)<;>(try simp only[go_sem,a1,a2,c',cl,rDiag_lds (d:=x), *])))
end
end Go.PE
