/-
  Rows added; words apart: the plain laws.
-/
import Derived.Test.YtbiaoohodjoojaaGreatKit
import Derived.Test.YtbiaoohodjoojaaGreatPlains
namespace Go.Proofs.YtbiaoohodjoojaaGreat
open Go.RowKit Fld
set_option linter.unusedVariables false
set_option linter.unusedSimpArgs false

noncomputable def sumG (A B:List GF) (I:Nat):List GF:=(List.range I).map fun i=>A.getD i 0+B.getD i 0
theorem sumG_len (A B:List GF) (I:Nat):(sumG A B I).length=I:=by simp [sumG]
theorem sumG_succ (A B:List GF) (I:Nat):sumG A B (I+1)=sumG A B I ++ [A.getD I 0+B.getD I 0]:=by simp [sumG,List.range_succ]
noncomputable def alikeN (u v:Nat→GF) (I:Nat):Nat:=((List.range I).filter fun i=>decide (u i=v i)).length
theorem alikeN_succ (u v:Nat→GF) (I:Nat):alikeN u v (I+1)=if u I=v I then alikeN u v I+1 else alikeN u v I:=by
 unfold alikeN
 rw [List.range_succ,List.filter_append,List.length_append]
 by_cases h:u I=v I <;> simp [h]
theorem alike_few {xs x y:List GF} (hn:xs.Nodup) (hl:x.length=y.length) (h:x.length≤alikeN (fun i=>ev x (xs.getD i 0)) (fun i=>ev y (xs.getD i 0)) xs.length):x=y:=by
 have hp:(((List.range xs.length).filter fun i=>decide (ev x (xs.getD i 0)=ev y (xs.getD i 0))).map fun i=>xs.getD i 0).Nodup:=by
  refine List.pairwise_map.2 ((List.nodup_range.filter _).imp_of_mem fun {a b} ha hb hne e=>hne ?_)
  have ha':=List.mem_range.1 (List.mem_filter.1 ha).1
  have hb':=List.mem_range.1 (List.mem_filter.1 hb).1
  exact getD_inj hn ha' hb' e
 refine ev_inj hp hl (by rw [List.length_map];exact h) fun z hz=>?_
 obtain ⟨i,hi,rfl⟩:=List.mem_map.1 hz
 exact of_decide_eq_true (List.mem_filter.1 hi).2
theorem sumG_get (A B:List GF) {I i:Nat} (h:i < I):(sumG A B I).getD i 0=A.getD i 0+B.getD i 0:=by
 rw [sumG,List.getD_eq_getElem?_getD,List.getElem?_map,List.getElem?_range h]
 rfl
theorem getD_ge {l:List GF} {i:Nat} (h:l.length≤i):l.getD i 0=0:=by
 rw [List.getD_eq_getElem?_getD,List.getElem?_eq_none h]
 rfl
theorem sumG_all (A B:List GF) (K i:Nat):(sumG A B K).getD i 0=(fullG A K).getD i 0+(fullG B K).getD i 0:=by
 rcases Nat.lt_or_ge i K with h | h
 ·rw [sumG_get A B h,fullG_get A h,fullG_get B h]
 ·rw [getD_ge (by rw [sumG_len];exact h),getD_ge (by rw [fullG_len];exact h),getD_ge (by rw [fullG_len];exact h),addz]
theorem ev_rowF_add {f g h:Nat→GF} {n:Nat} (e:∀ i,i < n→h i=f i+g i) (x:GF):ev (rowF h n) x=ev (rowF f n) x+ev (rowF g n) x:=by
 rw [ev_sm,ev_sm,ev_sm,rowF_len,rowF_len,rowF_len,← sm_add]
 refine sm_congr fun i hi=>?_
 rw [rowF_get _ hi,rowF_get _ hi,rowF_get _ hi,e i hi]
 exact dam _ _ _
end Go.Proofs.YtbiaoohodjoojaaGreat
