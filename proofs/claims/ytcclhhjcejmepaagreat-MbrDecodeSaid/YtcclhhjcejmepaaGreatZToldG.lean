/-
  Shares that nodes tell, some of them made others: the plain laws.
  starfishkit.Some, where as many as there are may be told: which numbers these are.
  Rows of rows of bytes that are read; rows of nodes' bytes, each in memory of its own.
  starfishkit.Told: shares that nodes tell, some of them made others.
  The first bytes of symbols that are told; whose shares are others: plain laws.
-/
import Derived.Test.YtcclhhjcejmepaaGreatZOwnSyG
import Derived.Test.YtcclhhjcejmepaaGreatZKit
import Derived.Test.YtcclhhjcejmepaaGreatZPlains
import Derived.Test.YtcclhhjcejmepaaGreatZWeRefs
import Derived.Test.YtcclhhjcejmepaaGreatZRefsA
import Derived.Test.YtcclhhjcejmepaaGreatZSyG
/- Shares that nodes tell, some of them made others: the plain laws. -/
set_option maxRecDepth 100000
set_option maxHeartbeats 8000000
namespace Go.Proofs.YtcclhhjcejmepaaGreat
open Go.RowKit Fld
set_option linter.unusedVariables false
set_option linter.unusedSimpArgs false

def bad (D:List (List GF)) (s:Sy):Bool:=decide (s.d ≠ D.getD s.node.toNat [])
def othT (D:List (List GF)) (l:List Sy) (j:Nat):List Int:=(l.filter fun s=>decide (s.node=(j:Int)) && bad D s).map fun _=>(j:Int)
def oth (D:List (List GF)) (l:List Sy):Nat→List Int
 | 0=>[]
 | n+1=>oth D l n ++ othT D l n
theorem othT_nil (D:List (List GF)) (j:Nat) (l:List Sy):othT D (l.take 0) j=[]:=rfl
theorem othT_succ {D:List (List GF)} {l:List Sy} {I j:Nat} {s:Sy} (hs:l[I]? = some s):othT D (l.take (I+1)) j=if (decide (s.node=(j:Int)) && bad D s)=true then othT D (l.take I) j ++ [(j:Int)] else othT D (l.take I) j:=by
 unfold othT
 rw [List.take_add_one,hs,List.filter_append,List.map_append]
 by_cases h:(decide (s.node=(j:Int)) && bad D s)=true
 ·rw [if_pos h]
  simp only [Option.toList_some,List.filter_cons,List.filter_nil]
  rw [if_pos h]
  rfl
 ·rw [if_neg h]
  simp only [Option.toList_some,List.filter_cons,List.filter_nil]
  rw [if_neg h]
  simp
theorem othT_len (D:List (List GF)) (l:List Sy) (j:Nat):(othT D l j).length≤l.length:=by
 unfold othT
 rw [List.length_map]
 exact List.length_filter_le _ _
theorem filter_add {α:Type} (p q r:α→Bool) (h:∀ x,r x=(p x || q x)) (hn:∀ x,(p x && q x)=false):∀ l:List α,(l.filter r).length=(l.filter p).length+(l.filter q).length
 | []=>rfl
 | x :: l=>by
  have ih:=filter_add p q r h hn l
  have h1:=h x
  have h2:=hn x
  cases hp:p x <;> cases hq:q x <;> rw [hp,hq] at h1 h2 <;> simp at h1 h2 <;> simp [List.filter_cons,hp,hq,h1,ih] <;> omega
theorem oth_cnt (D:List (List GF)) (l:List Sy):∀ n,(oth D l n).length=(l.filter fun s=>decide (0≤s.node∧s.node < (n:Int)) && bad D s).length
 | 0=>by
  rw [show oth D l 0=[] from rfl]
  have:(l.filter fun s=>decide (0≤s.node∧s.node < ((0:Nat):Int)) && bad D s)=[]:=List.filter_eq_nil_iff.2 fun s _=>by
   have:¬ (0≤s.node∧s.node < ((0:Nat):Int)):=by omega
   rw [decide_eq_false this,Bool.false_and]
   simp
  rw [this]
  rfl
 | n+1=>by
  rw [show oth D l (n+1)=oth D l n ++ othT D l n from rfl,List.length_append,oth_cnt D l n]
  unfold othT
  rw [List.length_map]
  refine (filter_add _ _ _ (fun s=>?_) (fun s=>?_) l).symm
  ·have:(0≤s.node∧s.node < ((n+1:Nat):Int))↔(0≤s.node∧s.node < (n:Int)) ∨ s.node=(n:Int):=by omega
   rw [decide_eq_decide.2 this,Bool.decide_or]
   cases decide (0≤s.node∧s.node < (n:Int)) <;> cases decide (s.node=(n:Int)) <;> cases bad D s <;> rfl
  ·by_cases h:s.node=(n:Int)
   ·have:¬ (0≤s.node∧s.node < (n:Int)):=by omega
    simp only [decide_eq_false this]
    simp
   ·simp only [decide_eq_false h]
    simp
theorem filter_imp_len {α:Type} {p q:α→Bool} (h:∀ x,p x=true→q x=true):∀ l:List α,(l.filter p).length≤(l.filter q).length
 | []=>Nat.le_refl _
 | x :: l=>by
  have ih:=filter_imp_len h l
  cases hp:p x
  ·cases hq:q x <;> simp [List.filter_cons,hp,hq] <;> omega
  ·simp [List.filter_cons,hp,h x hp];exact ih
theorem oth_len (D:List (List GF)) (l:List Sy) (n:Nat):(oth D l n).length≤(l.filter (bad D)).length:=by
 rw [oth_cnt]
 exact filter_imp_len (fun s h=>by simp only [Bool.and_eq_true] at h;exact h.2) l
theorem oth_mem {D:List (List GF)} {l:List Sy} {x:Int}:∀ {n:Nat},x ∈ oth D l n↔∃ s ∈ l,s.node=x∧(0≤x∧x < (n:Int))∧bad D s=true
 | 0=>by
  constructor
  ·intro h;cases h
  ·rintro ⟨s,_,_,h,_⟩;omega
 | n+1=>by
  rw [show oth D l (n+1)=oth D l n ++ othT D l n from rfl,List.mem_append,oth_mem]
  unfold othT
  rw [List.mem_map]
  constructor
  ·rintro (⟨s,h1,h2,h3,h4⟩ | ⟨s,h1,rfl⟩)
   ·exact ⟨s,h1,h2,by omega,h4⟩
   ·rw [List.mem_filter,Bool.and_eq_true,decide_eq_true_eq] at h1
    exact ⟨s,h1.1,h1.2.1,by omega,h1.2.2⟩
  ·rintro ⟨s,h1,h2,h3,h4⟩
   by_cases h:x < (n:Int)
   ·exact .inl ⟨s,h1,h2,by omega,h4⟩
   ·exact .inr ⟨s,by rw [List.mem_filter,Bool.and_eq_true,decide_eq_true_eq];exact ⟨h1,by omega,h4⟩,by omega⟩
theorem othT_one {D:List (List GF)} {l:List Sy} (h:(Sy.nodes l).Nodup) (j:Nat):(othT D l j).length≤1:=by
 unfold othT
 rw [List.length_map]
 induction l with
 | nil=>simp
 | cons s l ih =>
  unfold Sy.nodes at h
  rw [List.map_cons,List.nodup_cons] at h
  by_cases hp:(decide (s.node=(j:Int)) && bad D s)=true
  ·have hz:(l.filter fun s=>decide (s.node=(j:Int)) && bad D s)=[]:=List.filter_eq_nil_iff.2 fun t ht hb=>by
    simp only [Bool.and_eq_true,decide_eq_true_eq] at hb hp
    exact h.1 (List.mem_map.2 ⟨t,ht,by rw [hb.1,hp.1]⟩)
   rw [List.filter_cons_of_pos (p:=fun s=>decide (s.node=(j:Int)) && bad D s) hp,hz]
   simp
  ·rw [List.filter_cons_of_neg (p:=fun s=>decide (s.node=(j:Int)) && bad D s) hp]
   exact ih h.2
theorem oth_rise {D:List (List GF)} {l:List Sy} (h:(Sy.nodes l).Nodup):∀ n,(oth D l n).Pairwise (· < ·)
 | 0=>List.Pairwise.nil
 | n+1=>by
  rw [show oth D l (n+1)=oth D l n ++ othT D l n from rfl,List.pairwise_append]
  refine ⟨oth_rise h n,?_,fun a ha b hb=>?_⟩
  ·have h1:=othT_one (D:=D) h n
   match e:othT D l n with
   | []=>exact List.Pairwise.nil
   | [x]=>exact List.pairwise_singleton _ _
   | x :: y :: r=>rw [e] at h1;simp at h1
  ·obtain ⟨s,_,_,h3,_⟩:=oth_mem.1 ha
   unfold othT at hb
   obtain ⟨t,_,rfl⟩:=List.mem_map.1 hb
   omega
end Go.Proofs.YtcclhhjcejmepaaGreat
/- starfishkit.Some, where as many as there are may be told: which numbers these are. -/
namespace Go.Proofs.YtcclhhjcejmepaaGreat
open Go.RowKit Fld
set_option linter.unusedVariables false
set_option linter.unusedSimpArgs false

end Go.Proofs.YtcclhhjcejmepaaGreat
/- Rows of rows of bytes that are read; rows of nodes' bytes, each in memory of its own. -/
namespace Go.Proofs.YtcclhhjcejmepaaGreat
open Go.RowKit Fld
set_option linter.unusedVariables false
set_option linter.unusedSimpArgs false

def Ro.cells (s:Ro):List Value:=[s.v]
theorem Ro.cells_length (s:Ro):s.cells.length=1:=rfl
structure RoAll (w:World) (v:Value) (l:List Ro):Prop where
 rd:SRd 1 Ro.cells w v l
 each:∀ s ∈ l,GRd w s.v s.d
theorem RoAll.below {w w':World} {v:Value} {l:List Ro} (h:RoAll w v l) (hb:Below w.heap.size w w'):RoAll w' v l:=⟨h.rd.below hb,fun s hs=>(h.each s hs).below hb⟩
theorem OwnR.all {w:World} {B:Nat} {v:Value} {l:List Ro} (h:OwnR w B v l) (he:∀ s ∈ l,GRd w s.v s.d):RoAll w v l :=
 ⟨SRd.of_owns Ro.cells_length (by omega) (by
  have:flatS Ro.cells l=l.map Ro.v:=by
   unfold flatS
   induction l with
   | nil=>rfl
   | cons s l ih=>rw [List.flatMap_cons,List.map_cons];exact congrArg (s.v :: ·) (List.flatMap_singleton' (l.map Ro.v) ▸ by rw [List.flatMap_map];rfl)
  rw [this]
  exact h),he⟩
structure TRow (w:World) (B:Nat) (V:Value) (l:List Sy):Prop where
 own:SyOwn w B V l
 view:∀ s ∈ l,∃ b,s.a=some ⟨b,0,none⟩∧s.d.length≤s.cp∧View w b s.d.length (fun i=>s.d.getD i 0)
 dist:(l.map Sy.a).Nodup
theorem TRow.nil (w:World) (B:Nat):TRow w B (.slice none 0 0) []:=⟨SyOwn.nil _ _,by simp,by simp⟩
theorem TRow.below {w w':World} {B:Nat} {V:Value} {l:List Sy} (h:TRow w B V l) (hb:Below w.heap.size w w'):TRow w' B V l :=
 ⟨h.own.below hb,fun s hs=>by obtain ⟨b,h1,h2,h3⟩:=h.view s hs;exact ⟨b,h1,h2,h3.below hb⟩,h.dist⟩
theorem TRow.app {W w3:World} {B:Nat} {V v1:Value} {l:List Sy} {s:Sy} (h:TRow W B V l) (ho:SyOwn w3 B v1 (l ++ [s])) (hk:Kp V.ownBlock.toList W w3) {b:Nat} (hb:s.a=some ⟨b,0,none⟩) (hc:s.d.length≤s.cp) (hv:View W b s.d.length (fun i=>s.d.getD i 0)) (hV:V.ownBlock ≠ some b) (hn:∀ t ∈ l,t.a ≠ s.a):TRow w3 B v1 (l ++ [s]):=by
 refine ⟨ho,fun t ht=>?_,?_⟩
 ·rcases List.mem_append.1 ht with ht | ht
  ·obtain ⟨c,h1,h2,h3⟩:=h.view t ht
   refine ⟨c,h1,h2,h3.kp hk fun hm=>?_⟩
   have:=(h.own.new t ht _ h1).2.1
   cases e:V.ownBlock with
   | none=>rw [e] at hm;simp at hm
   | some x=>rw [e] at hm this;simp at hm;exact this (by rw [hm])
  ·simp only [List.mem_singleton] at ht
   subst ht
   refine ⟨b,hb,hc,hv.kp hk fun hm=>?_⟩
   cases e:V.ownBlock with
   | none=>rw [e] at hm;simp at hm
   | some x=>rw [e] at hm hV;simp at hm;exact hV (by rw [hm])
 ·rw [List.map_append,List.nodup_append]
  refine ⟨h.dist,by simp,fun a ha c hc' e=>?_⟩
  obtain ⟨t,ht,rfl⟩:=List.mem_map.1 ha
  simp only [List.map_cons,List.map_nil,List.mem_singleton] at hc'
  exact hn t ht (e.trans hc')
theorem nodup_ne {α β:Type} {f:α→β} {l:List α} (h:(l.map f).Nodup) {i j:Nat} {s t:α} (hi:l[i]? = some s) (hj:l[j]? = some t) (hij:i ≠ j):f s ≠ f t:=fun e=>by
 have h1:(l.map f)[i]? = some (f s):=by rw [List.getElem?_map,hi];rfl
 have h2:(l.map f)[j]? = some (f t):=by rw [List.getElem?_map,hj];rfl
 obtain ⟨a1,b1⟩:=List.getElem?_eq_some_iff.1 h1
 obtain ⟨a2,b2⟩:=List.getElem?_eq_some_iff.1 h2
 have hp:=List.pairwise_iff_getElem.1 h
 rcases Nat.lt_or_gt_of_ne hij with hlt | hlt
 ·exact hp i j a1 a2 hlt (b1.trans (e.trans b2.symm))
 ·exact hp j i a2 a1 hlt (b2.trans (e.symm.trans b1.symm))
theorem flatS_set {l:List Sy} {r:Nat} {s s':Sy} (hs:l[r]? = some s) (hc:Sy.cells s'=Sy.cells s):flatS Sy.cells (l.set r s')=flatS Sy.cells l:=by
 unfold flatS
 rw [List.flatMap_def,List.flatMap_def,List.map_set,hc]
 congr 1
 refine List.ext_getElem? fun i=>?_
 rw [List.getElem?_set]
 split
 ·rename_i e
  subst e
  rw [List.getElem?_map,hs]
  have:=(List.getElem?_eq_some_iff.1 hs).1
  simp [this]
 ·rfl
theorem TRow.wr {w w':World} {B:Nat} {V:Value} {l:List Sy} (h:TRow w B V l) {r b:Nat} {s:Sy} (hs:l[r]? = some s) (hb:s.a=some ⟨b,0,none⟩) (hk:Kp [b] w w') {d:List GF} (hd:d.length=s.d.length) (hv:View w' b s.d.length (fun i=>d.getD i 0)):TRow w' B V (l.set r ⟨s.node,s.a,s.cp,d⟩):=by
 have hm:=List.mem_of_getElem? hs
 have hnew:=h.own.new s hm _ hb
 obtain ⟨b',hb',hcp,-⟩:=h.view s hm
 have hcell:Sy.cells ⟨s.node,s.a,s.cp,d⟩=Sy.cells s:=by unfold Sy.cells;simp only [];rw [hd]
 have hrl:=(List.getElem?_eq_some_iff.1 hs).1
 have hrow:∀ t ∈ l.set r ⟨s.node,s.a,s.cp,d⟩,t=⟨s.node,s.a,s.cp,d⟩ ∨ t ∈ l∧t.a ≠ s.a:=fun t ht=>by
  obtain ⟨i,hi⟩:=List.mem_iff_getElem?.1 ht
  rw [List.getElem?_set] at hi
  by_cases e:r=i
  ·subst e
   rw [if_pos rfl,if_pos hrl] at hi
   exact .inl (Option.some.inj hi).symm
  ·rw [if_neg e] at hi
   exact .inr ⟨List.mem_of_getElem? hi,nodup_ne h.dist hi hs (fun e2=>e e2.symm)⟩
 have hview:∀ t ∈ l.set r ⟨s.node,s.a,s.cp,d⟩,∃ c,t.a=some ⟨c,0,none⟩∧t.d.length≤t.cp∧View w' c t.d.length (fun i=>t.d.getD i 0):=fun t ht=>by
  rcases hrow t ht with rfl | ⟨ht,hne⟩
  ·refine ⟨b,hb,by rw [hd];exact hcp,?_⟩
   simp only []
   rw [hd]
   exact hv
  ·obtain ⟨c,h1,h2,h3⟩:=h.view t ht
   refine ⟨c,h1,h2,h3.kp hk fun hx=>?_⟩
   simp only [List.mem_singleton] at hx
   rw [h1,hb,hx] at hne
   exact hne rfl
 refine ⟨⟨?_,fun t ht=>?_,fun t ht a ha=>?_⟩,hview,?_⟩
 ·unfold OwnS
  rw [List.length_set,flatS_set hs hcell]
  exact OwnS.kp h.own.row hk fun k hk2 hm2=>by
   simp only [List.mem_singleton] at hm2
   subst hm2
   exact hnew.2.1 hk2
 ·obtain ⟨c,h1,h2,h3⟩:=hview t ht
  unfold Sy.rd
  rw [h1]
  exact View.list h3 rfl h2
 ·have hsz:=hk.size
  rcases hrow t ht with rfl | ⟨ht,-⟩
  ·have:=h.own.new s hm a ha
   exact ⟨this.1,this.2.1,by omega⟩
  ·have:=h.own.new t ht a ha
   exact ⟨this.1,this.2.1,by omega⟩
 ·have:(l.set r ⟨s.node,s.a,s.cp,d⟩).map Sy.a=l.map Sy.a:=by
   rw [List.map_set]
   refine List.ext_getElem? fun i=>?_
   rw [List.getElem?_set]
   split
   ·rename_i e
    subst e
    rw [List.getElem?_map,hs,List.length_map,if_pos hrl]
    rfl
   ·rfl
  rw [this]
  exact h.dist
end Go.Proofs.YtcclhhjcejmepaaGreat
/- starfishkit.Told: shares that nodes tell, some of them made others. -/
namespace Go.Proofs.YtcclhhjcejmepaaGreat
open Go.RowKit Fld
set_option linter.unusedVariables false
set_option linter.unusedSimpArgs false

theorem TRow.mono {w:World} {B B':Nat} {V:Value} {l:List Sy} (h:TRow w B V l) (hb:B'≤B):TRow w B' V l:=⟨h.own.mono hb,h.view,h.dist⟩
theorem dAt {S:List Ro} {x:Nat} {s:Ro} (h:S[x]? = some s):(S.map Ro.d).getD x []=s.d:=by
 rw [List.getD_eq_getElem?_getD,List.getElem?_map,h];rfl
end Go.Proofs.YtcclhhjcejmepaaGreat
/- The first bytes of symbols that are told; whose shares are others: plain laws. -/
namespace Go.Proofs.YtcclhhjcejmepaaGreat
open Go.RowKit Fld
set_option linter.unusedVariables false
set_option linter.unusedSimpArgs false

noncomputable def ysL (l:List Sy):List GF:=l.map fun s=>s.d.getD 0 0
theorem ysL_len (l:List Sy):(ysL l).length=l.length:=by simp [ysL]
theorem nodes_at {l:List Sy} {i:Nat} {s:Sy} (h:l[i]? = some s):(Sy.nodes l).getD i 0=s.node:=by
 rw [Sy.nodes,List.getD_eq_getElem?_getD,List.getElem?_map,h];rfl
theorem ysL_at {l:List Sy} {i:Nat} {s:Sy} (h:l[i]? = some s):(ysL l).getD i 0=s.d.getD 0 0:=by
 rw [ysL,List.getD_eq_getElem?_getD,List.getElem?_map,h];rfl
end Go.Proofs.YtcclhhjcejmepaaGreat
