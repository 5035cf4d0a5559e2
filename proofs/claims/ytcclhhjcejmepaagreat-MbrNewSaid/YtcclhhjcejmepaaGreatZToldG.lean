/-
  Shares that nodes tell, some of them made others: the plain laws.
  starfishkit.Some, where as many as there are may be told: which numbers these are.
  Rows of rows of bytes that are read; rows of nodes' bytes, each in memory of its own.
  starfishkit.Told: shares that nodes tell, some of them made others.
  The first bytes of symbols that are told; whose shares are others: plain laws.
-/
import Derived.Test.YtcclhhjcejmepaaGreatZOwnSyG
import Derived.Test.YtcclhhjcejmepaaGreatZKit
import Derived.Test.YtcclhhjcejmepaaGreatZPlains
import Derived.Test.YtcclhhjcejmepaaGreatZWeRefs
import Derived.Test.YtcclhhjcejmepaaGreatZRefsA
import Derived.Test.YtcclhhjcejmepaaGreatZSyG
/- Shares that nodes tell, some of them made others: the plain laws. -/
namespace Go.Proofs.YtcclhhjcejmepaaGreat
open Go.RowKit Fld
set_option linter.unusedVariables false
set_option linter.unusedSimpArgs false

def smL (bs n:Nat):List Nat:=(List.range n).filter fun i=>decide (i < 64) && bs.testBit i
theorem smL_succ (bs n:Nat):smL bs (n+1)=if (decide (n < 64) && bs.testBit n)=true then smL bs n ++ [n] else smL bs n:=by
 unfold smL
 rw [List.range_succ,List.filter_append]
 by_cases h:(decide (n < 64) && bs.testBit n)=true
 ·rw [if_pos h]
  simp only [List.filter_cons,List.filter_nil]
  rw [if_pos h]
 ·rw [if_neg h]
  simp only [List.filter_cons,List.filter_nil]
  rw [if_neg h,List.append_nil]
theorem smL_stop {bs m:Nat} (h:64≤m):∀ k,smL bs (m+k)=smL bs m
 | 0=>rfl
 | k+1=>by
  rw [← Nat.add_assoc,smL_succ,if_neg (by simp;intro h2;omega),smL_stop h k]
theorem smL_rise (bs n:Nat):RiseTo n (smL bs n):=by
 refine ⟨?_,fun x hx=>List.mem_range.1 (List.mem_filter.1 hx).1⟩
 exact List.Pairwise.filter _ List.pairwise_lt_range
theorem smL_len (bs n:Nat):(smL bs n).length≤n:=(smL_rise bs n).len
def tlL (tu:Bool) (l:List Nat):List Nat:=if tu then l.reverse else l
theorem tlL_len (tu:Bool) (l:List Nat):(tlL tu l).length=l.length:=by cases tu <;> simp [tlL]
theorem tlL_mem (tu:Bool) (l:List Nat) (x:Nat):x ∈ tlL tu l↔x ∈ l:=by cases tu <;> simp [tlL]
theorem tlL_nodup (tu:Bool) {l:List Nat} (h:l.Nodup):(tlL tu l).Nodup:=by
 cases tu
 ·exact h
 ·exact List.pairwise_reverse.2 (h.imp fun h e=>h e.symm)

def bad (D:List (List GF)) (s:Sy):Bool:=decide (s.d ≠ D.getD s.node.toNat [])
def othT (D:List (List GF)) (l:List Sy) (j:Nat):List Int:=(l.filter fun s=>decide (s.node=(j:Int)) && bad D s).map fun _=>(j:Int)
def oth (D:List (List GF)) (l:List Sy):Nat→List Int
 | 0=>[]
 | n+1=>oth D l n ++ othT D l n
theorem othT_nil (D:List (List GF)) (j:Nat) (l:List Sy):othT D (l.take 0) j=[]:=rfl
theorem othT_succ {D:List (List GF)} {l:List Sy} {I j:Nat} {s:Sy} (hs:l[I]? = some s):othT D (l.take (I+1)) j=if (decide (s.node=(j:Int)) && bad D s)=true then othT D (l.take I) j ++ [(j:Int)] else othT D (l.take I) j:=by
 unfold othT
 rw [List.take_add_one,hs,List.filter_append,List.map_append]
 by_cases h:(decide (s.node=(j:Int)) && bad D s)=true
 ·rw [if_pos h]
  simp only [Option.toList_some,List.filter_cons,List.filter_nil]
  rw [if_pos h]
  rfl
 ·rw [if_neg h]
  simp only [Option.toList_some,List.filter_cons,List.filter_nil]
  rw [if_neg h]
  simp
theorem othT_len (D:List (List GF)) (l:List Sy) (j:Nat):(othT D l j).length≤l.length:=by
 unfold othT
 rw [List.length_map]
 exact List.length_filter_le _ _
theorem filter_add {α:Type} (p q r:α→Bool) (h:∀ x,r x=(p x || q x)) (hn:∀ x,(p x && q x)=false):∀ l:List α,(l.filter r).length=(l.filter p).length+(l.filter q).length
 | []=>rfl
 | x :: l=>by
  have ih:=filter_add p q r h hn l
  have h1:=h x
  have h2:=hn x
  cases hp:p x <;> cases hq:q x <;> rw [hp,hq] at h1 h2 <;> simp at h1 h2 <;> simp [List.filter_cons,hp,hq,h1,ih] <;> omega
theorem oth_cnt (D:List (List GF)) (l:List Sy):∀ n,(oth D l n).length=(l.filter fun s=>decide (0≤s.node∧s.node < (n:Int)) && bad D s).length
 | 0=>by
  rw [show oth D l 0=[] from rfl]
  have:(l.filter fun s=>decide (0≤s.node∧s.node < ((0:Nat):Int)) && bad D s)=[]:=List.filter_eq_nil_iff.2 fun s _=>by
   have:¬ (0≤s.node∧s.node < ((0:Nat):Int)):=by omega
   rw [decide_eq_false this,Bool.false_and]
   simp
  rw [this]
  rfl
 | n+1=>by
  rw [show oth D l (n+1)=oth D l n ++ othT D l n from rfl,List.length_append,oth_cnt D l n]
  unfold othT
  rw [List.length_map]
  refine (filter_add _ _ _ (fun s=>?_) (fun s=>?_) l).symm
  ·have:(0≤s.node∧s.node < ((n+1:Nat):Int))↔(0≤s.node∧s.node < (n:Int)) ∨ s.node=(n:Int):=by omega
   rw [decide_eq_decide.2 this,Bool.decide_or]
   cases decide (0≤s.node∧s.node < (n:Int)) <;> cases decide (s.node=(n:Int)) <;> cases bad D s <;> rfl
  ·by_cases h:s.node=(n:Int)
   ·have:¬ (0≤s.node∧s.node < (n:Int)):=by omega
    simp only [decide_eq_false this]
    simp
   ·simp only [decide_eq_false h]
    simp
theorem filter_imp_len {α:Type} {p q:α→Bool} (h:∀ x,p x=true→q x=true):∀ l:List α,(l.filter p).length≤(l.filter q).length
 | []=>Nat.le_refl _
 | x :: l=>by
  have ih:=filter_imp_len h l
  cases hp:p x
  ·cases hq:q x <;> simp [List.filter_cons,hp,hq] <;> omega
  ·simp [List.filter_cons,hp,h x hp];exact ih
theorem oth_len (D:List (List GF)) (l:List Sy) (n:Nat):(oth D l n).length≤(l.filter (bad D)).length:=by
 rw [oth_cnt]
 exact filter_imp_len (fun s h=>by simp only [Bool.and_eq_true] at h;exact h.2) l
theorem oth_mem {D:List (List GF)} {l:List Sy} {x:Int}:∀ {n:Nat},x ∈ oth D l n↔∃ s ∈ l,s.node=x∧(0≤x∧x < (n:Int))∧bad D s=true
 | 0=>by
  constructor
  ·intro h;cases h
  ·rintro ⟨s,_,_,h,_⟩;omega
 | n+1=>by
  rw [show oth D l (n+1)=oth D l n ++ othT D l n from rfl,List.mem_append,oth_mem]
  unfold othT
  rw [List.mem_map]
  constructor
  ·rintro (⟨s,h1,h2,h3,h4⟩ | ⟨s,h1,rfl⟩)
   ·exact ⟨s,h1,h2,by omega,h4⟩
   ·rw [List.mem_filter,Bool.and_eq_true,decide_eq_true_eq] at h1
    exact ⟨s,h1.1,h1.2.1,by omega,h1.2.2⟩
  ·rintro ⟨s,h1,h2,h3,h4⟩
   by_cases h:x < (n:Int)
   ·exact .inl ⟨s,h1,h2,by omega,h4⟩
   ·exact .inr ⟨s,by rw [List.mem_filter,Bool.and_eq_true,decide_eq_true_eq];exact ⟨h1,by omega,h4⟩,by omega⟩
theorem othT_one {D:List (List GF)} {l:List Sy} (h:(Sy.nodes l).Nodup) (j:Nat):(othT D l j).length≤1:=by
 unfold othT
 rw [List.length_map]
 induction l with
 | nil=>simp
 | cons s l ih =>
  unfold Sy.nodes at h
  rw [List.map_cons,List.nodup_cons] at h
  by_cases hp:(decide (s.node=(j:Int)) && bad D s)=true
  ·have hz:(l.filter fun s=>decide (s.node=(j:Int)) && bad D s)=[]:=List.filter_eq_nil_iff.2 fun t ht hb=>by
    simp only [Bool.and_eq_true,decide_eq_true_eq] at hb hp
    exact h.1 (List.mem_map.2 ⟨t,ht,by rw [hb.1,hp.1]⟩)
   rw [List.filter_cons_of_pos (p:=fun s=>decide (s.node=(j:Int)) && bad D s) hp,hz]
   simp
  ·rw [List.filter_cons_of_neg (p:=fun s=>decide (s.node=(j:Int)) && bad D s) hp]
   exact ih h.2
theorem oth_rise {D:List (List GF)} {l:List Sy} (h:(Sy.nodes l).Nodup):∀ n,(oth D l n).Pairwise (· < ·)
 | 0=>List.Pairwise.nil
 | n+1=>by
  rw [show oth D l (n+1)=oth D l n ++ othT D l n from rfl,List.pairwise_append]
  refine ⟨oth_rise h n,?_,fun a ha b hb=>?_⟩
  ·have h1:=othT_one (D:=D) h n
   match e:othT D l n with
   | []=>exact List.Pairwise.nil
   | [x]=>exact List.pairwise_singleton _ _
   | x :: y :: r=>rw [e] at h1;simp at h1
  ·obtain ⟨s,_,_,h3,_⟩:=oth_mem.1 ha
   unfold othT at hb
   obtain ⟨t,_,rfl⟩:=List.mem_map.1 hb
   omega
theorem filter_set_le {α:Type} (p:α→Bool) (x:α):∀ (l:List α) (r:Nat),((l.set r x).filter p).length≤(l.filter p).length+1
 | [],r=>by simp
 | y :: l,0=>by
  rw [List.set_cons_zero]
  cases hx:p x <;> cases hy:p y <;> simp [List.filter_cons,hx,hy] <;> omega
 | y :: l,r+1=>by
  have ih:=filter_set_le p x l r
  rw [List.set_cons_succ]
  cases hy:p y <;> simp [List.filter_cons,hy] <;> omega
structure ToldIs (D:List (List GF)) (t:Nat) (l:List Sy) (zs:List Int):Prop where
 good:GoodP D.length (Sy.nodes l)
 len:∀ s ∈ l,s.d.length=(D.getD s.node.toNat []).length
 rise:zs.Pairwise (· < ·)
 mem:∀ x,x ∈ zs↔∃ s ∈ l,s.node=x∧s.d ≠ D.getD s.node.toNat []
 few:zs.length≤t
theorem ToldIs.of {D:List (List GF)} {t:Nat} {l:List Sy} (h1:GoodP D.length (Sy.nodes l)) (h2:∀ s ∈ l,s.d.length=(D.getD s.node.toNat []).length) (h3:(l.filter (bad D)).length≤t):ToldIs D t l (oth D l D.length):=by
 refine ⟨h1,h2,oth_rise h1.2 _,fun x=>?_,Nat.le_trans (oth_len _ _ _) h3⟩
 rw [oth_mem]
 constructor
 ·rintro ⟨s,hs,h4,h5,h6⟩
  unfold bad at h6
  exact ⟨s,hs,h4,of_decide_eq_true h6⟩
 ·rintro ⟨s,hs,h4,h5⟩
  have:=h1.1 _ (List.mem_map.2 ⟨s,hs,h4⟩)
  exact ⟨s,hs,h4,this,decide_eq_true h5⟩
end Go.Proofs.YtcclhhjcejmepaaGreat
/- starfishkit.Some, where as many as there are may be told: which numbers these are. -/
namespace Go.Proofs.YtcclhhjcejmepaaGreat
open Go.RowKit Fld
set_option linter.unusedVariables false
set_option linter.unusedSimpArgs false

def KSomeNPost (bs n:Nat) (w:World) (e:Ending) (w':World):Prop :=
 ∃ v,e=.returned v∧OwnZ w' w.heap.size v (intsOf (smL bs n))∧Below w.heap.size w w'
set_option maxRecDepth 100000 in
set_option maxHeartbeats 2000000 in
theorem ksomen_any (bs n:Nat) (w:World) (hbs:bs < 18446744073709551616) (hn:n≤1000000) :
  Calls Tryz.prog 68 #[.int .u64 bs,.int .i64 n,.int .i64 n] w (KSomeNPost bs n w):=by
 obtain ⟨i0,hi,hz0,hz1,hz2⟩:=info_parts i64_info
 have HBIT:=Lib.hid (fun I=>u64_bit bs I hbs)
 clear hbs
 go_enter Tryz.func68,Tryz.ntmps68
 go_wp2
 go_loopg [7,8] n (fun gk l i wr=>∃ (V:Value) (I L:Nat),V=l∧I≤n∧gk=n - I∧i=.int .i64 I∧(smL bs I).length=L∧L≤I∧Hid (OwnZ wr w.heap.size V (intsOf (smL bs I)))∧Hid (Below w.heap.size w wr))
 case atStart=>exact ⟨_,0,0,rfl,by omega,rfl,rfl,rfl,by omega,Lib.hid (OwnZ.nil _ _),Lib.hid (Below.refl _ _)⟩
 case round =>
  obtain ⟨V,I,L,rfl,hI,rfl,rfl,hL,hLm,HO,HB⟩:=hrel
  have HL:=Lib.hid hL
  have hof:=HO.out.rd.form
  rw [intsOf_len,hL] at hof
  obtain ⟨va,vc,rfl⟩:=hof
  clear hL
  by_cases hlt:I < n
  ·by_cases h64:I < 64
   ·have hlm:L < n:=by omega
    have hbit:=HBIT.out I
    have hown:wr.ownsRow w.heap.size 3 1 (.slice va L vc) L ((intsOf (smL bs I)).map (Value.int .i64)):=by have:=HO.out;unfold OwnZ at this;rwa [intsOf_len,HL.out] at this
    have hs:=HB.out.size
    cases ht:bs.testBit I
    ·rw [ht] at hbit
     have hsm:smL bs (I+1)=smL bs I:=by rw [smL_succ,ht];simp
     have HO3:Hid (OwnZ wr w.heap.size (.slice va L vc) (intsOf (smL bs (I+1)))):=Lib.hid (by rw [hsm];exact HO.out)
     have HL3:Hid ((smL bs (I+1)).length=L):=Lib.hid (by rw [hsm];exact HL.out)
     clear ht hown hsm
     go_wp2
     go_roundg (n - (I+1))
     case measure=>omega
     case rel=>exact ⟨_,I+1,L,rfl,by omega,rfl,by go_num,HL3.out,by omega,HO3,HB⟩
    ·rw [ht] at hbit
     have hsm:smL bs (I+1)=smL bs I ++ [I]:=by rw [smL_succ,ht,decide_eq_true h64];simp
     have HSM:=Lib.hid hsm
     clear ht hsm
     go_wp2_with (at_builtin;refine wpList_append_own _ rfl _ _ 44 rfl w.heap.size 3 i0 (.int .i64 0) 1 8 Tryz.underlying44 hi hz0 hz1 hz2 rfl (by decide) _ _ _ rfl (hown.alloc _) ⟨wr.heap.size,0,none⟩ 1 1 [.int .i64 (I:Nat)] rfl rfl (cell_one_new _ _ _) (by simp [Value.oneCell']) (by unfold maxLen;omega) (by omega) (by simp;omega) ?_;intro v1 w3 hown1 hgrow1 _)
     have HO3:Hid (OwnZ w3 w.heap.size v1 (intsOf (smL bs (I+1)))):=Lib.hid (by
      unfold OwnZ
      rw [intsOf_len,HSM.out,List.length_append,HL.out]
      simpa [intsOf] using hown1)
     have HB3:Hid (Below w.heap.size w w3):=Lib.hid ((HB.out.alloc hs _).grown hgrow1 (by simp;omega) (fun b hb=>(hown.lt b hb).1))
     have HL3:Hid ((smL bs (I+1)).length=L+1):=Lib.hid (by rw [HSM.out,List.length_append,HL.out];rfl)
     clear hown hown1 hgrow1
     go_roundg (n - (I+1))
     case measure=>omega
     case rel=>exact ⟨_,I+1,L+1,rfl,by omega,rfl,by go_num,HL3.out,by omega,HO3,HB3⟩
   ·have h64':¬ (I:Int) < 64:=by omega
    have HFIN:Hid (KSomeNPost bs n w (.returned (.slice va L vc)) wr):=Lib.hid ⟨_,rfl,by
     obtain ⟨k,rfl⟩:∃ k,n=I+k:=⟨n - I,by omega⟩
     rw [smL_stop (by omega)]
     exact HO.out,HB.out⟩
    go_wp2
    go_ret
    exact HFIN.out
  ·obtain rfl:I=n:=by omega
   have hlt':¬ (I:Int) < (I:Int):=by omega
   have HFIN:Hid (KSomeNPost bs I w (.returned (.slice va L vc)) wr):=Lib.hid ⟨_,rfl,HO.out,HB.out⟩
   go_wp2
   go_ret
   exact HFIN.out
end Go.Proofs.YtcclhhjcejmepaaGreat
/- Rows of rows of bytes that are read; rows of nodes' bytes, each in memory of its own. -/
namespace Go.Proofs.YtcclhhjcejmepaaGreat
open Go.RowKit Fld
set_option linter.unusedVariables false
set_option linter.unusedSimpArgs false

def Ro.cells (s:Ro):List Value:=[s.v]
theorem Ro.cells_length (s:Ro):s.cells.length=1:=rfl
structure RoAll (w:World) (v:Value) (l:List Ro):Prop where
 rd:SRd 1 Ro.cells w v l
 each:∀ s ∈ l,GRd w s.v s.d
theorem RoAll.below {w w':World} {v:Value} {l:List Ro} (h:RoAll w v l) (hb:Below w.heap.size w w'):RoAll w' v l:=⟨h.rd.below hb,fun s hs=>(h.each s hs).below hb⟩
theorem OwnR.all {w:World} {B:Nat} {v:Value} {l:List Ro} (h:OwnR w B v l) (he:∀ s ∈ l,GRd w s.v s.d):RoAll w v l :=
 ⟨SRd.of_owns Ro.cells_length (by omega) (by
  have:flatS Ro.cells l=l.map Ro.v:=by
   unfold flatS
   induction l with
   | nil=>rfl
   | cons s l ih=>rw [List.flatMap_cons,List.map_cons];exact congrArg (s.v :: ·) (List.flatMap_singleton' (l.map Ro.v) ▸ by rw [List.flatMap_map];rfl)
  rw [this]
  exact h),he⟩
structure TRow (w:World) (B:Nat) (V:Value) (l:List Sy):Prop where
 own:SyOwn w B V l
 view:∀ s ∈ l,∃ b,s.a=some ⟨b,0,none⟩∧s.d.length≤s.cp∧View w b s.d.length (fun i=>s.d.getD i 0)
 dist:(l.map Sy.a).Nodup
theorem TRow.nil (w:World) (B:Nat):TRow w B (.slice none 0 0) []:=⟨SyOwn.nil _ _,by simp,by simp⟩
theorem TRow.below {w w':World} {B:Nat} {V:Value} {l:List Sy} (h:TRow w B V l) (hb:Below w.heap.size w w'):TRow w' B V l :=
 ⟨h.own.below hb,fun s hs=>by obtain ⟨b,h1,h2,h3⟩:=h.view s hs;exact ⟨b,h1,h2,h3.below hb⟩,h.dist⟩
theorem TRow.app {W w3:World} {B:Nat} {V v1:Value} {l:List Sy} {s:Sy} (h:TRow W B V l) (ho:SyOwn w3 B v1 (l ++ [s])) (hk:Kp V.ownBlock.toList W w3) {b:Nat} (hb:s.a=some ⟨b,0,none⟩) (hc:s.d.length≤s.cp) (hv:View W b s.d.length (fun i=>s.d.getD i 0)) (hV:V.ownBlock ≠ some b) (hn:∀ t ∈ l,t.a ≠ s.a):TRow w3 B v1 (l ++ [s]):=by
 refine ⟨ho,fun t ht=>?_,?_⟩
 ·rcases List.mem_append.1 ht with ht | ht
  ·obtain ⟨c,h1,h2,h3⟩:=h.view t ht
   refine ⟨c,h1,h2,h3.kp hk fun hm=>?_⟩
   have:=(h.own.new t ht _ h1).2.1
   cases e:V.ownBlock with
   | none=>rw [e] at hm;simp at hm
   | some x=>rw [e] at hm this;simp at hm;exact this (by rw [hm])
  ·simp only [List.mem_singleton] at ht
   subst ht
   refine ⟨b,hb,hc,hv.kp hk fun hm=>?_⟩
   cases e:V.ownBlock with
   | none=>rw [e] at hm;simp at hm
   | some x=>rw [e] at hm hV;simp at hm;exact hV (by rw [hm])
 ·rw [List.map_append,List.nodup_append]
  refine ⟨h.dist,by simp,fun a ha c hc' e=>?_⟩
  obtain ⟨t,ht,rfl⟩:=List.mem_map.1 ha
  simp only [List.map_cons,List.map_nil,List.mem_singleton] at hc'
  exact hn t ht (e.trans hc')
theorem nodup_ne {α β:Type} {f:α→β} {l:List α} (h:(l.map f).Nodup) {i j:Nat} {s t:α} (hi:l[i]? = some s) (hj:l[j]? = some t) (hij:i ≠ j):f s ≠ f t:=fun e=>by
 have h1:(l.map f)[i]? = some (f s):=by rw [List.getElem?_map,hi];rfl
 have h2:(l.map f)[j]? = some (f t):=by rw [List.getElem?_map,hj];rfl
 obtain ⟨a1,b1⟩:=List.getElem?_eq_some_iff.1 h1
 obtain ⟨a2,b2⟩:=List.getElem?_eq_some_iff.1 h2
 have hp:=List.pairwise_iff_getElem.1 h
 rcases Nat.lt_or_gt_of_ne hij with hlt | hlt
 ·exact hp i j a1 a2 hlt (b1.trans (e.trans b2.symm))
 ·exact hp j i a2 a1 hlt (b2.trans (e.symm.trans b1.symm))
theorem flatS_set {l:List Sy} {r:Nat} {s s':Sy} (hs:l[r]? = some s) (hc:Sy.cells s'=Sy.cells s):flatS Sy.cells (l.set r s')=flatS Sy.cells l:=by
 unfold flatS
 rw [List.flatMap_def,List.flatMap_def,List.map_set,hc]
 congr 1
 refine List.ext_getElem? fun i=>?_
 rw [List.getElem?_set]
 split
 ·rename_i e
  subst e
  rw [List.getElem?_map,hs]
  have:=(List.getElem?_eq_some_iff.1 hs).1
  simp [this]
 ·rfl
theorem TRow.wr {w w':World} {B:Nat} {V:Value} {l:List Sy} (h:TRow w B V l) {r b:Nat} {s:Sy} (hs:l[r]? = some s) (hb:s.a=some ⟨b,0,none⟩) (hk:Kp [b] w w') {d:List GF} (hd:d.length=s.d.length) (hv:View w' b s.d.length (fun i=>d.getD i 0)):TRow w' B V (l.set r ⟨s.node,s.a,s.cp,d⟩):=by
 have hm:=List.mem_of_getElem? hs
 have hnew:=h.own.new s hm _ hb
 obtain ⟨b',hb',hcp,-⟩:=h.view s hm
 have hcell:Sy.cells ⟨s.node,s.a,s.cp,d⟩=Sy.cells s:=by unfold Sy.cells;simp only [];rw [hd]
 have hrl:=(List.getElem?_eq_some_iff.1 hs).1
 have hrow:∀ t ∈ l.set r ⟨s.node,s.a,s.cp,d⟩,t=⟨s.node,s.a,s.cp,d⟩ ∨ t ∈ l∧t.a ≠ s.a:=fun t ht=>by
  obtain ⟨i,hi⟩:=List.mem_iff_getElem?.1 ht
  rw [List.getElem?_set] at hi
  by_cases e:r=i
  ·subst e
   rw [if_pos rfl,if_pos hrl] at hi
   exact .inl (Option.some.inj hi).symm
  ·rw [if_neg e] at hi
   exact .inr ⟨List.mem_of_getElem? hi,nodup_ne h.dist hi hs (fun e2=>e e2.symm)⟩
 have hview:∀ t ∈ l.set r ⟨s.node,s.a,s.cp,d⟩,∃ c,t.a=some ⟨c,0,none⟩∧t.d.length≤t.cp∧View w' c t.d.length (fun i=>t.d.getD i 0):=fun t ht=>by
  rcases hrow t ht with rfl | ⟨ht,hne⟩
  ·refine ⟨b,hb,by rw [hd];exact hcp,?_⟩
   simp only []
   rw [hd]
   exact hv
  ·obtain ⟨c,h1,h2,h3⟩:=h.view t ht
   refine ⟨c,h1,h2,h3.kp hk fun hx=>?_⟩
   simp only [List.mem_singleton] at hx
   rw [h1,hb,hx] at hne
   exact hne rfl
 refine ⟨⟨?_,fun t ht=>?_,fun t ht a ha=>?_⟩,hview,?_⟩
 ·unfold OwnS
  rw [List.length_set,flatS_set hs hcell]
  exact OwnS.kp h.own.row hk fun k hk2 hm2=>by
   simp only [List.mem_singleton] at hm2
   subst hm2
   exact hnew.2.1 hk2
 ·obtain ⟨c,h1,h2,h3⟩:=hview t ht
  unfold Sy.rd
  rw [h1]
  exact View.list h3 rfl h2
 ·have hsz:=hk.size
  rcases hrow t ht with rfl | ⟨ht,-⟩
  ·have:=h.own.new s hm a ha
   exact ⟨this.1,this.2.1,by omega⟩
  ·have:=h.own.new t ht a ha
   exact ⟨this.1,this.2.1,by omega⟩
 ·have:(l.set r ⟨s.node,s.a,s.cp,d⟩).map Sy.a=l.map Sy.a:=by
   rw [List.map_set]
   refine List.ext_getElem? fun i=>?_
   rw [List.getElem?_set]
   split
   ·rename_i e
    subst e
    rw [List.getElem?_map,hs,List.length_map,if_pos hrl]
    rfl
   ·rfl
  rw [this]
  exact h.dist
end Go.Proofs.YtcclhhjcejmepaaGreat
/- starfishkit.Told: shares that nodes tell, some of them made others. -/
namespace Go.Proofs.YtcclhhjcejmepaaGreat
open Go.RowKit Fld
set_option linter.unusedVariables false
set_option linter.unusedSimpArgs false

def ToldPost (tu:Bool) (bs t:Nat) (S:List Ro) (w:World) (e:Ending) (w':World):Prop :=
 ∃ v1 v2 l zs,e=.returned (.tuple #[v1,v2])∧SyOwn w' w.heap.size v1 l∧OwnZ w' w.heap.size v2 zs∧Below w.heap.size w w'∧Sy.nodes l=intsOf (tlL tu (smL bs S.length))∧ToldIs (S.map Ro.d) t l zs
def ToldRPost (tu:Bool) (bs t:Nat) (S:List Ro) (w:World) (e:Ending) (w':World):Prop :=
 ∃ v1 v2 l zs,e=.returned (.tuple #[v1,v2])∧TRow w' w.heap.size v1 l∧OwnZ w' w.heap.size v2 zs∧Below w.heap.size w w'∧Sy.nodes l=intsOf (tlL tu (smL bs S.length))∧ToldIs (S.map Ro.d) t l zs
theorem TRow.mono {w:World} {B B':Nat} {V:Value} {l:List Sy} (h:TRow w B V l) (hb:B'≤B):TRow w B' V l:=⟨h.own.mono hb,h.view,h.dist⟩
theorem dAt {S:List Ro} {x:Nat} {s:Ro} (h:S[x]? = some s):(S.map Ro.d).getD x []=s.d:=by
 rw [List.getD_eq_getElem?_getD,List.getElem?_map,h];rfl
theorem dAt_len {S:List Ro} {n:Nat} (h:∀ s ∈ S,s.d.length≤n) (x:Nat):((S.map Ro.d).getD x []).length≤n:=by
 cases e:S[x]? with
 | none =>
  rw [List.getD_eq_getElem?_getD,List.getElem?_map,e]
  exact Nat.zero_le _
 | some s =>
  rw [dAt e]
  exact h s (List.mem_of_getElem? e)
theorem tl_good (tu:Bool) (bs n:Nat):GoodP n (intsOf (tlL tu (smL bs n))):=by
 refine ⟨fun x hx=>?_,?_⟩
 ·obtain ⟨y,hy,rfl⟩:=List.mem_map.1 hx
  have:=(smL_rise bs n).2 y ((tlL_mem tu _ y).1 hy)
  omega
 ·refine List.pairwise_map.2 ((tlL_nodup tu (smL_rise bs n).nodup).imp fun {a b} hab=>?_)
  intro e
  exact hab (by omega)
set_option maxRecDepth 100000 in
set_option maxHeartbeats 8000000 in
theorem toldR_any (sv:Value) (S:List Ro) (bs t:Nat) (tu:Bool) (ta tb:Value) (As Bs:List GF) (w:World) (h:RoAll w sv S) (hl:S.length≤1000) (hdl:∀ s ∈ S,s.d.length≤1000000) (hbs:bs < 18446744073709551616) (ha:GRd w ta As) (hb:GRd w tb Bs) (ht:t≤1000000) :
  Calls Tryz.prog 31 #[sv,.int .u64 bs,.bool tu,ta,tb,.int .i64 t] w (ToldRPost tu bs t S w):=by
 obtain ⟨ash,csh,rfl⟩:=h.rd.form
 obtain ⟨aa,ca,rfl,hca⟩:=ha.form
 obtain ⟨ab,cb,rfl,hcb⟩:=hb.form
 obtain ⟨N,hN⟩:∃ N,S.length=N:=⟨_,rfl⟩
 obtain ⟨LA,hLA⟩:∃ LA,As.length=LA:=⟨_,rfl⟩
 obtain ⟨LB,hLB⟩:∃ LB,Bs.length=LB:=⟨_,rfl⟩
 have HS:=Lib.hid h
 have HN:=Lib.hid hN
 have HA:=Lib.hid ha
 have HBB:=Lib.hid hb
 have HLA:=Lib.hid hLA
 have HLB:=Lib.hid hLB
 have HDL:=Lib.hid hdl
 unfold ToldRPost
 rw [hN] at HS hl ⊢
 rw [hLA] at HA ⊢
 rw [hLB] at HBB ⊢
 have HSM:=Lib.hid (ksomen_any bs N w hbs (by omega))
 clear h ha hb hN hLA hLB hca hcb hbs hdl
 have hnl:=smL_len bs N
 have hrise:=smL_rise bs N
 unfold KSomeNPost at HSM
 obtain ⟨ls,hls⟩:∃ ls,smL bs N=ls:=⟨_,rfl⟩
 have hgood:=tl_good tu bs N
 rw [hls] at HSM hnl hrise hgood ⊢
 obtain ⟨NN,hNN⟩:∃ NN,ls.length=NN:=⟨_,rfl⟩
 have HNN:=Lib.hid hNN
 have HRI:=Lib.hid hrise
 have HGO:=Lib.hid hgood
 rw [hNN] at hnl
 clear hls hNN hrise hgood
 go_enter Tryz.func31,Tryz.ntmps31
 go_wp2_with fail
 refine HSM.out.mono ?_
 rintro e w1 ⟨lv,rfl,hlv,hb1⟩
 have hlf:=hlv.rd.form
 rw [intsOf_len,HNN.out] at hlf
 obtain ⟨av,cv,rfl⟩:=hlf
 have HLV:=Lib.hid hlv.rd
 have HB1:=Lib.hid hb1
 have hs1:=hb1.size
 clear hlv hb1 HSM
 go_wp2
 go_loopg [15,16] NN (fun gk p i wr=>∃ (V:Value) (l:List Sy) (I:Nat),V=p∧I≤NN∧gk=NN - I∧i=.int .i64 I∧Hid (TRow wr w1.heap.size V l)∧Hid (Below w1.heap.size w1 wr)∧Hid (Sy.nodes l=intsOf ((tlL tu ls).take I))∧Hid (∀ s ∈ l,s.d=(S.map Ro.d).getD s.node.toNat []))
 case atStart=>exact ⟨_,[],0,rfl,by omega,rfl,rfl,Lib.hid (TRow.nil _ _),Lib.hid (Below.refl _ _),Lib.hid rfl,Lib.hid (by simp)⟩
 case round =>
  obtain ⟨V,l,I,rfl,hI,rfl,rfl,HT,HB,HND,HDD⟩:=hrel
  have hsr:=HB.out.size
  by_cases hlt:I < NN
  ·obtain ⟨x,hx⟩:∃ x,(tlL tu ls)[I]? = some x:=⟨_,List.getElem?_eq_getElem (by rw [tlL_len,HNN.out];exact hlt)⟩
   have hxn:x < N:=HRI.out.2 x ((tlL_mem tu ls x).1 (List.mem_of_getElem? hx))
   obtain ⟨y,hy⟩:∃ y,ls[I]? = some y:=⟨_,List.getElem?_eq_getElem (by rw [HNN.out];exact hlt)⟩
   have hyi:(intsOf ls)[I]? = some (y:Int):=by rw [intsOf,List.getElem?_map,hy];rfl
   obtain ⟨-,-,bl,ol,rfl,hbl,-⟩:=IRd.cell HLV.out hyi
   have cy:=IRd.cells (HLV.out.below HB.out) I y hyi
   obtain ⟨R,hR⟩:∃ R,NN - 1 - I=R:=⟨_,rfl⟩
   obtain ⟨N1,hN1⟩:∃ N1,NN - 1=N1:=⟨_,rfl⟩
   have e1:(NN:Int) - 1=(N1:Int):=by omega
   have e2:IntKind.i64.wrap (N1:Int)=(N1:Int):=IntWalk.i64_in _ (by omega)
   have e3:(N1:Int) - (I:Int)=(R:Int):=by omega
   have e4:IntKind.i64.wrap (R:Int)=(R:Int):=IntWalk.i64_in _ (by omega)
   obtain ⟨s,hs⟩:∃ s,S[x]? = some s:=⟨_,List.getElem?_eq_getElem (by rw [HN.out];exact hxn)⟩
   have hbw:Below w.heap.size w wr:=HB1.out.trans (HB.out.mono HB1.out.size)
   obtain ⟨-,-,bsh,osh,rfl,hbsh,hat⟩:=SRd.at (HS.out.below hbw).rd hs
   have cs:wr.cell? ⟨bsh,osh+x,none⟩=some (.slice s.a s.d.length s.cp):=by simpa [Ro.v] using hat 0 _ rfl
   have hsrd:GRd wr (.slice s.a s.d.length s.cp) s.d:=(HS.out.below hbw).each s (List.mem_of_getElem? hs)
   obtain ⟨st,capc,w3,hcv1,hcv2,hcc,hvw,hb3⟩:=own_copy wr hsrd
   have hll:l.length≤1000:=by
    have:=congrArg List.length HND.out
    rw [intsOf_len,List.length_take] at this
    simp [Sy.nodes] at this
    omega
   have hlo:w1.heap.size≤wr.heap.size:=hsr
   have hT3:=HT.out.below hb3
   have hnewa:∀ t ∈ l,t.a ≠ some ⟨wr.heap.size,0,none⟩:=fun t ht e=>by
    have:=(HT.out.own.new t ht _ e).2.2
    simp at this
   have hVne:V.ownBlock ≠ some wr.heap.size:=fun e=>by have:=(HT.out.own.row.lt _ e).2;simp at this
   obtain ⟨v1,w6,hap,ho1,hk1,hb6,-⟩:=app_sy (W:=w3) (s:=⟨x,some ⟨wr.heap.size,0,none⟩,capc,s.d⟩) hT3.own (View.list hvw rfl hcc) (fun a ha=>by
    cases ha
    exact ⟨hlo,hVne,hvw.1⟩) (by omega) (by have:=hb3.size;omega) (ad:=w3.heap.size) rfl
   have HT6:Hid (TRow w6 w1.heap.size v1 (l ++ [⟨x,some ⟨wr.heap.size,0,none⟩,capc,s.d⟩])):=Lib.hid (hT3.app ho1 hk1 (b:=wr.heap.size) rfl hcc hvw hVne hnewa)
   have HB6:Hid (Below w1.heap.size w1 w6):=Lib.hid (HB.out.trans ((hb3.mono hsr).trans hb6))
   have HND6:Hid (Sy.nodes (l ++ [⟨x,some ⟨wr.heap.size,0,none⟩,capc,s.d⟩])=intsOf ((tlL tu ls).take (I+1))):=Lib.hid (by
    rw [Sy.nodes,List.map_append,List.take_add_one,hx,show l.map Sy.node=_ from HND.out]
    simp [intsOf])
   have HDD6:Hid (∀ q ∈ l ++ [(⟨x,some ⟨wr.heap.size,0,none⟩,capc,s.d⟩:Sy)],q.d=(S.map Ro.d).getD q.node.toNat []):=Lib.hid (fun q hq=>by
    rcases List.mem_append.1 hq with hq | hq
    ·exact HDD.out q hq
    ·simp only [List.mem_singleton] at hq
     rw [hq]
     exact (dAt hs).symm)
   obtain ⟨m,hm⟩:∃ m,s.d.length=m:=⟨_,rfl⟩
   simp only [] at hap
   rw [hm] at cs hcv1 hcv2 hap
   have i1:(0:Int)≤(I:Int)∧(I:Int) < (NN:Int):=by omega
   have i2:(0:Int)≤(R:Int)∧(R:Int) < (NN:Int):=by omega
   have i3:(0:Int)≤(x:Int)∧(x:Int) < (N:Int):=by omega
   cases tu
   ·obtain rfl:x=y:=by
     have:=hx.symm.trans hy
     exact Option.some.inj this
    clear hx hy hyi hat hs hsrd hbw hb3 hvw ho1 hk1 hb6 hm hR hN1 hT3 hnewa hVne hll
    go_wp2_with (at_builtin;refine wpList_append rfl _ _ _ rfl rfl rfl hap ?_)
    go_roundg (NN - (I+1))
    case measure=>omega
    case rel=>exact ⟨_,_,I+1,rfl,by omega,rfl,by go_num,HT6,HB6,HND6,HDD6⟩
   ·have hxr:ls[R]? = some x:=by
     have:ls.reverse[I]? = some x:=hx
     rw [List.getElem?_reverse (by rw [HNN.out];exact hlt),HNN.out,hR] at this
     exact this
    have hxi:(intsOf ls)[R]? = some (x:Int):=by rw [intsOf,List.getElem?_map,hxr];rfl
    have cx:=IRd.cells (HLV.out.below HB.out) R x hxi
    clear hx hy hyi hxr hxi hat hs hsrd hbw hb3 hvw ho1 hk1 hb6 hm hR hN1 hT3 hnewa hVne hll
    go_wp2_with (at_builtin;refine wpList_append rfl _ _ _ rfl rfl rfl hap ?_)
    go_roundg (NN - (I+1))
    case measure=>omega
    case rel=>exact ⟨_,_,I+1,rfl,by omega,rfl,by go_num,HT6,HB6,HND6,HDD6⟩
  ·obtain rfl:I=NN:=by omega
   obtain ⟨w2,rfl⟩:∃ w2:World,w2=wr:=⟨_,rfl⟩
   have hll:l.length=I:=by
    have:=congrArg List.length HND.out
    rw [intsOf_len,List.length_take,tlL_len,HNN.out] at this
    simpa [Sy.nodes] using this
   have HLL:=Lib.hid hll
   have hvf:=HT.out.own.row.rd.form
   rw [hll] at hvf
   obtain ⟨a0,c0,rfl⟩:=hvf
   have HT2:=HT
   have hnd:Sy.nodes l=intsOf (tlL tu ls):=by
    have:=HND.out
    rwa [List.take_of_length_le (by rw [tlL_len,HNN.out];exact Nat.le_refl _)] at this
   have HND2:=Lib.hid hnd
   have hbd:(l.filter (bad (S.map Ro.d))).length≤0:=by
    rw [List.filter_eq_nil_iff.2 fun s hs=>by rw [bad,HDD.out s hs];simp]
    exact Nat.le_refl _
   have HLN:Hid (∀ s ∈ l,s.d.length=((S.map Ro.d).getD s.node.toNat []).length):=Lib.hid fun s hs=>by rw [← HDD.out s hs]
   have HBD:=Lib.hid hbd
   have HB2:=HB
   clear hbd hnd hll HT HND HDD HB hlt hI
   go_wp2
   go_loopg [18] t (fun gk i wr=>∃ (J:Nat) (l:List Sy),J≤t∧gk=t - J∧i=.int .i64 J∧Hid (TRow wr w1.heap.size (.slice a0 I c0) l)∧Hid (Below w1.heap.size w1 wr)∧Hid (Sy.nodes l=intsOf (tlL tu ls))∧Hid (∀ s ∈ l,s.d.length=((S.map Ro.d).getD s.node.toNat []).length)∧Hid ((l.filter (bad (S.map Ro.d))).length≤J)∧Hid (l.length=I))
   case atStart=>exact ⟨0,l,by omega,rfl,rfl,HT2,HB2,HND2,HLN,HBD,HLL⟩
   case round =>
    clear HT2 HB2 HND2 HLN HBD HLL
    obtain ⟨J,l,hJ,rfl,rfl,HT,HB,HND,HLN,HBD,HLL⟩:=hrel
    have hsr2:=HB.out.size
    by_cases hall:J < LA∧J < LB∧J < t∧0 < I
    ·obtain ⟨q1,q2,q3,q4⟩:=hall
     have q1':(J:Int) < (LA:Int):=by omega
     have q2':(J:Int) < (LB:Int):=by omega
     have q3':(J:Int) < (t:Int):=by omega
     have q4':(0:Int) < (I:Int):=by omega
     have hbw:Below w.heap.size w wr:=HB1.out.trans (HB.out.mono HB1.out.size)
     obtain ⟨c,hc,-⟩:=at_get (l:=As) (i:=J) (by rw [HLA.out];exact q1)
     obtain ⟨d,hd,-⟩:=at_get (l:=Bs) (i:=J) (by rw [HLB.out];exact q2)
     obtain ⟨bA,oA,rfl,hbA,-⟩:=HA.out.at hc
     obtain ⟨bB,oB,rfl,hbB,-⟩:=HBB.out.at hd
     obtain ⟨_,_,e,-,k1⟩:=(HA.out.below hbw).at hc
     cases e
     obtain ⟨_,_,e,-,k2⟩:=(HBB.out.below hbw).at hd
     cases e
     have hcl:=c.lt
     have hdl:=d.lt
     obtain ⟨x,hx⟩:∃ t,c.n=t:=⟨_,rfl⟩
     obtain ⟨y,hy⟩:∃ t,d.n=t:=⟨_,rfl⟩
     rw [hx] at k1 hcl
     rw [hy] at k2 hdl
     obtain ⟨r,hr⟩:∃ r,x % I=r:=⟨_,rfl⟩
     have hrJ:r < I:=by rw [← hr];exact Nat.mod_lt _ (by omega)
     have z1:(x:Int) % (I:Int)=(r:Int):=by rw [← hr];rfl
     have z2:Int.tmod (x:Int) (I:Int)=(r:Int):=by rw [Int.tmod_eq_emod_of_nonneg (by omega),z1]
     have z3:IntKind.i64.wrap (r:Int)=(r:Int):=IntWalk.i64_in _ (by omega)
     have z4:¬ (I:Int)=0:=by omega
     have z5:¬ I=0:=by omega
     have z6:((I:Int) == 0)=false:=by simp;omega
     have z7:(I:Int) ≠ 0:=by omega
     have hcv:IntKind.i64.wrap (x:Int)=(x:Int):=IntWalk.i64_in _ (by omega)
     obtain ⟨s,hs⟩:∃ s,l[r]? = some s:=⟨_,List.getElem?_eq_getElem (by rw [HLL.out];exact hrJ)⟩
     obtain ⟨b,hb,hcap,hv⟩:=HT.out.view s (List.mem_of_getElem? hs)
     obtain ⟨-,-,bv,ov,rfl,hbv,hat⟩:=SRd.at HT.out.own.row.rd hs
     have cv1:wr.cell? ⟨bv,ov+r * 2+1,none⟩=some (.slice s.a s.d.length s.cp):=hat 1 _ rfl
     rw [hb] at cv1
     obtain ⟨M,hM⟩:∃ M,s.d.length=M:=⟨_,rfl⟩
     have hM1:M≤1000000:=by
      rw [← hM,HLN.out s (List.mem_of_getElem? hs)]
      exact dAt_len HDL.out _
     rw [hM] at cv1 hv hcap
     have hbn:=HT.out.own.new s (List.mem_of_getElem? hs) _ hb
     have i1:(0:Int)≤(J:Int)∧(J:Int) < (LA:Int):=by omega
     have i2:(0:Int)≤(J:Int)∧(J:Int) < (LB:Int):=by omega
     have i3:(0:Int)≤(r:Int)∧(r:Int) < (I:Int):=by omega
     obtain ⟨w4,hw4⟩:∃ w4:World,w4=wr:=⟨_,rfl⟩
     have HV:=Lib.hid hv
     have HSR:=Lib.hid (And.intro hs (And.intro hb hM))
     have HDY:=Lib.hid (And.intro hd hy)
     obtain ⟨f,hf⟩:∃ f:Nat→GF,f=fun i=>s.d.getD i 0:=⟨_,rfl⟩
     rw [← hf] at HV
     have HF:=Lib.hid hf
     have hbl1:w1.heap.size≤b:=hbn.1
     have hbl2:b < wr.heap.size:=hbn.2.2
     have HBW:=Lib.hid hbw
     clear hc hd hx hy hr hs hb hv hat hM hbn hbw hf hcap
     go_wp2
     clear k1
     subst hw4
     go_loopg [20] M (fun gk i wr=>∃ (E:Nat),E≤M∧gk=M - E∧i=.int .i64 E∧Hid (View wr b M (fun i=>if i < E then f i+d else f i))∧Hid (Kp [b] w4 wr))
     case atStart=>exact ⟨0,by omega,rfl,rfl,Lib.hid (HV.out.congr fun j hj=>by rw [if_neg (by omega)]),Lib.hid (Kp.refl _ _)⟩
     case round =>
      obtain ⟨E,hE,rfl,rfl,HVR,HKR⟩:=hrel
      have hsr3:=HKR.out.size
      by_cases hltE:E < M
      ·have cE:=(HVR.out.2 E hltE).1
       simp only [Nat.lt_irrefl,if_false] at cE
       have kB:=(HKR.out.cell (p:=⟨bB,oB+J,none⟩) (by have:=HBW.out.size;simp only [];omega) (by simp;omega)).trans k2
       have hxor:=GF.u8_xor (f E) d
       obtain ⟨fn,hfn⟩:∃ fn,(f E).n=fn:=⟨_,rfl⟩
       obtain ⟨zn,hzn⟩:∃ zn,(f E+d).n=zn:=⟨_,rfl⟩
       rw [hfn,HDY.out.2,hzn] at hxor
       rw [hfn] at cE
       have hvs:=HVR.out.set hltE (f E+d)
       rw [hzn] at hvs
       have HVN:Hid (View (wr.setCell ⟨b,E,none⟩ (.int .u8 (zn:Nat))) b M (fun i=>if i < E+1 then f i+d else f i)):=Lib.hid (hvs.congr fun j hj=>by
        by_cases h1:j=E
        ·subst h1
         rw [if_pos rfl,if_pos (by omega)]
        ·by_cases h2:j < E
         ·rw [if_neg h1,if_pos h2,if_pos (by omega)]
         ·rw [if_neg h1,if_neg h2,if_neg (by omega)])
       have HKN:Hid (Kp [b] w4 (wr.setCell ⟨b,E,none⟩ (.int .u8 (zn:Nat)))):=Lib.hid (HKR.out.setCell (.inl (by simp)) _)
       have hbr:=HVR.out.1
       have fE:=(HVR.out.2 E hltE).2
       obtain ⟨kp,hkp⟩:∃ kp:Nat→Bool,∀ j,kp j=true↔j < w1.heap.size:=⟨fun j=>decide (j < w1.heap.size),by simp⟩
       have hk2:kp bB=true:=(hkp _).2 (by omega)
       have HKP:=Lib.hid hkp
       have j1:(0:Int)≤(E:Int)∧(E:Int) < (M:Int):=by omega
       clear hkp hfn hzn hvs k2
       go_upto_region 17 with fail
       have hgr:=fun (w0 W:World) (p:Addr) (hp:(fun j=>kp j=true) p.block)=>graft_cell (w0:=w0) (keep:=(fun j=>kp j=true)) W hp
       refine wp_region_tree (fun j=>kp j=true) [5,12] (.sq [0,1,2,3,4,6,7,8,9,5,10,11,12] .done) (by kernel_rfl) (by kernel_rfl) ?_
       simp only [Tr.sq,List.foldr_cons,List.foldr_nil,slimTr,slimStep,Oper.slim,List.contains_cons,List.contains_nil,Option.map_none,Option.map_some,List.getElem?_toArray,List.getElem?_cons_zero,List.getElem?_cons_succ,Option.bind_some,beq_self_eq_true,Bool.or_false,Nat.reduceBEq,Nat.reduceAdd,Nat.zero_add]
       repeat' first | ((with_reducible refine wpSlimT_id ?_);first | (with_reducible refine wpSlimT_done ?_) | ((with_reducible refine wpSlimT_step (fun K hK=>?_));go_simp;first | (refine hK _ _ ?_;clear hK K) | (refine ⟨by (intro kk hkk;first | (simp (disch:=(simp;omega)) only [hp_drew,hp_drewN,hp_alloc,hp_set];done) | (simp [hp_drew,hp_drewN,hp_alloc_if,hkk];done) | (have hkk2:=(HKP.out kk).1 hkk;simp (disch:=(first | omega | (simp;omega))) only [hp_drew,hp_drewN,hp_alloc,hp_set];done)),hK _ _ ?_⟩;clear hK K))) | fail
       clear hgr
       go_wp2
       go_roundg (M - (E+1))
       case measure=>omega
       case rel=>exact ⟨E+1,by omega,rfl,by go_num,by first | exact HVN | exact Lib.hid HVN.out.drew,by first | exact HKN | exact Lib.hid HKN.out.drew⟩
      ·obtain rfl:E=M:=by omega
       obtain ⟨w5,rfl⟩:∃ w5:World,w5=wr:=⟨_,rfl⟩
       obtain ⟨hs,hb,hM⟩:=HSR.out
       have hvn:View w5 b s.d.length (fun i=>(s.d.map (·+d)).getD i 0):=by
        rw [hM]
        refine HVR.out.congr fun j hj=>?_
        rw [if_pos hj,HF.out]
        show s.d.getD j 0+d=_
        rw [List.getD_eq_getElem?_getD,List.getD_eq_getElem?_getD,List.getElem?_map,List.getElem?_eq_getElem (by omega)]
        rfl
       have HT5:Hid (TRow w5 w1.heap.size (.slice (some ⟨bv,ov,none⟩) I c0) (l.set r ⟨s.node,s.a,s.cp,s.d.map (·+d)⟩)):=Lib.hid (HT.out.wr hs hb HKR.out (by simp) hvn)
       have HB5:Hid (Below w1.heap.size w1 w5):=Lib.hid (HB.out.trans (HKR.out.below (by omega) (by simp;omega)))
       have HND5:Hid (Sy.nodes (l.set r ⟨s.node,s.a,s.cp,s.d.map (·+d)⟩)=intsOf (tlL tu ls)):=Lib.hid (by
        rw [← HND.out]
        unfold Sy.nodes
        rw [List.map_set]
        refine List.ext_getElem? fun i=>?_
        rw [List.getElem?_set]
        split
        ·rename_i e
         subst e
         rw [List.getElem?_map,hs,List.length_map,if_pos (List.getElem?_eq_some_iff.1 hs).1]
         rfl
        ·rfl)
       have HLN5:Hid (∀ q ∈ l.set r ⟨s.node,s.a,s.cp,s.d.map (·+d)⟩,q.d.length=((S.map Ro.d).getD q.node.toNat []).length):=Lib.hid (fun q hq=>by
        rcases List.mem_or_eq_of_mem_set hq with hq | rfl
        ·exact HLN.out q hq
        ·simp only [List.length_map]
         exact HLN.out s (List.mem_of_getElem? hs))
       have HBD5:Hid (((l.set r ⟨s.node,s.a,s.cp,s.d.map (·+d)⟩).filter (bad (S.map Ro.d))).length≤J+1):=Lib.hid (Nat.le_trans (filter_set_le _ _ _ _) (by have:=HBD.out;omega))
       have HLL5:Hid ((l.set r ⟨s.node,s.a,s.cp,s.d.map (·+d)⟩).length=I):=Lib.hid (by rw [List.length_set];exact HLL.out)
       clear hs hb hM hvn HT HB HND HLN HBD HLL HVR HKR
       go_wp2
       go_roundg (t - (J+1))
       case measure=>omega
       case rel=>exact ⟨J+1,_,by omega,rfl,by go_num,HT5,HB5,HND5,HLN5,HBD5,HLL5⟩
    ·obtain ⟨p1,hp1⟩:∃ p,decide (J < LA)=p:=⟨_,rfl⟩
     obtain ⟨p2,hp2⟩:∃ p,decide (J < LB)=p:=⟨_,rfl⟩
     obtain ⟨p3,hp3⟩:∃ p,decide (J < t)=p:=⟨_,rfl⟩
     obtain ⟨p4,hp4⟩:∃ p,decide (0 < I)=p:=⟨_,rfl⟩
     have hpq:(((p1 && p2) && p3) && p4)=false:=by
      rw [← hp1,← hp2,← hp3,← hp4,← Bool.decide_and,← Bool.decide_and,← Bool.decide_and]
      exact decide_eq_false (fun h=>hall ⟨h.1.1.1,h.1.1.2,h.1.2,h.2⟩)
     obtain ⟨w5,rfl⟩:∃ w5:World,w5=wr:=⟨_,rfl⟩
     have hfew:(l.filter (bad (S.map Ro.d))).length≤t:=Nat.le_trans HBD.out hJ
     have HTI:Hid (ToldIs (S.map Ro.d) t l (oth (S.map Ro.d) l N)):=Lib.hid (by
      have:=ToldIs.of (D:=S.map Ro.d) (t:=t) (l:=l) (by rw [List.length_map,HN.out,HND.out];exact HGO.out) HLN.out hfew
      rwa [List.length_map,HN.out] at this)
     have HB05:Hid (Below w.heap.size w w5):=Lib.hid (HB1.out.trans (HB.out.mono HB1.out.size))
     have hs5:=HB05.out.size
     clear hall hfew HBD HLN
     go_upto_region 11 with fail
     refine wp_region_units (.step 0 (.step 1 (.step 2 (.step 3 (.step 4 (.unit 4 true (.step 5 (.step 6 (.step 7 (.step 8 .done)))) 9 8 (.step 10 (.unit 10 true (.step 11 (.step 12 (.step 13 .done))) 14 13 (.step 15 (.unit 15 true (.step 16 (.step 17 (.step 18 .done))) 19 18 .done)))))))))) (by kernel_rfl) (by kernel_rfl) ?_
     simp only [mkUT,dstOf,bare,Oper.slim,List.contains_cons,List.contains_nil,Option.map_none,Option.map_some,List.getElem?_toArray,List.getElem?_cons_zero,List.getElem?_cons_succ,Option.bind_some,beq_self_eq_true,Bool.or_false,Nat.reduceBEq,Nat.reduceAdd,Nat.zero_add,Option.getD_some,Option.isSome_some,Option.isSome_none,Bool.false_and,Bool.true_and,Bool.false_eq_true,if_false,if_true,Option.some_beq_some,Option.some_beq_none,Option.none_beq_some,reduceCtorEq,ite_true,ite_false]
     repeat ((with_reducible refine wpUT_step (fun K hK=>?_));go_simp;first | (refine hK _ _ ?_;clear hK K) | (refine ⟨by (intro kk hkk;first | exact hkk.elim | (simp (disch:=(simp;omega)) only [hp_drew,hp_drewN,hp_alloc,hp_set];done) | (simp [hp_drew,hp_drewN,hp_alloc_if,hkk];done) | (have hkk2:=(HKP.out kk).1 hkk;simp (disch:=(first | omega | (simp;omega))) only [hp_drew,hp_drewN,hp_alloc,hp_set];done)),hK _ _ ?_⟩;clear hK K))
     refine wpUT_unit (x:=?_) (by rfl) ?_ ?_
     rotate_left
     ·intro hgd
      repeat ((with_reducible refine wpUT_step (fun K hK=>?_));go_simp;first | (refine hK _ _ ?_;clear hK K) | (refine ⟨by (intro kk hkk;first | exact hkk.elim | (simp (disch:=(simp;omega)) only [hp_drew,hp_drewN,hp_alloc,hp_set];done) | (simp [hp_drew,hp_drewN,hp_alloc_if,hkk];done) | (have hkk2:=(HKP.out kk).1 hkk;simp (disch:=(first | omega | (simp;omega))) only [hp_drew,hp_drewN,hp_alloc,hp_set];done)),hK _ _ ?_⟩;clear hK K))
      exact wpUT_done ⟨by rfl,rfl⟩
     intro js
     simp only [UT.dsts,junk,SOp.dst,Option.toList_some,Option.toList_none,List.cons_append,List.nil_append,List.append_nil,cond_true,cond_false]
     repeat ((with_reducible refine wpUT_step (fun K hK=>?_));go_simp;first | (refine hK _ _ ?_;clear hK K) | (refine ⟨by (intro kk hkk;first | exact hkk.elim | (simp (disch:=(simp;omega)) only [hp_drew,hp_drewN,hp_alloc,hp_set];done) | (simp [hp_drew,hp_drewN,hp_alloc_if,hkk];done) | (have hkk2:=(HKP.out kk).1 hkk;simp (disch:=(first | omega | (simp;omega))) only [hp_drew,hp_drewN,hp_alloc,hp_set];done)),hK _ _ ?_⟩;clear hK K))
     refine wpUT_unit (x:=?_) (by rfl) ?_ ?_
     rotate_left
     ·intro hgd
      repeat ((with_reducible refine wpUT_step (fun K hK=>?_));go_simp;first | (refine hK _ _ ?_;clear hK K) | (refine ⟨by (intro kk hkk;first | exact hkk.elim | (simp (disch:=(simp;omega)) only [hp_drew,hp_drewN,hp_alloc,hp_set];done) | (simp [hp_drew,hp_drewN,hp_alloc_if,hkk];done) | (have hkk2:=(HKP.out kk).1 hkk;simp (disch:=(first | omega | (simp;omega))) only [hp_drew,hp_drewN,hp_alloc,hp_set];done)),hK _ _ ?_⟩;clear hK K))
      exact wpUT_done ⟨by rfl,rfl⟩
     intro js
     simp only [UT.dsts,junk,SOp.dst,Option.toList_some,Option.toList_none,List.cons_append,List.nil_append,List.append_nil,cond_true,cond_false]
     repeat ((with_reducible refine wpUT_step (fun K hK=>?_));go_simp;first | (refine hK _ _ ?_;clear hK K) | (refine ⟨by (intro kk hkk;first | exact hkk.elim | (simp (disch:=(simp;omega)) only [hp_drew,hp_drewN,hp_alloc,hp_set];done) | (simp [hp_drew,hp_drewN,hp_alloc_if,hkk];done) | (have hkk2:=(HKP.out kk).1 hkk;simp (disch:=(first | omega | (simp;omega))) only [hp_drew,hp_drewN,hp_alloc,hp_set];done)),hK _ _ ?_⟩;clear hK K))
     refine wpUT_unit (x:=?_) (by rfl) ?_ ?_
     rotate_left
     ·intro hgd
      repeat ((with_reducible refine wpUT_step (fun K hK=>?_));go_simp;first | (refine hK _ _ ?_;clear hK K) | (refine ⟨by (intro kk hkk;first | exact hkk.elim | (simp (disch:=(simp;omega)) only [hp_drew,hp_drewN,hp_alloc,hp_set];done) | (simp [hp_drew,hp_drewN,hp_alloc_if,hkk];done) | (have hkk2:=(HKP.out kk).1 hkk;simp (disch:=(first | omega | (simp;omega))) only [hp_drew,hp_drewN,hp_alloc,hp_set];done)),hK _ _ ?_⟩;clear hK K))
      exact wpUT_done ⟨by rfl,rfl⟩
     intro js
     simp only [UT.dsts,junk,SOp.dst,Option.toList_some,Option.toList_none,List.cons_append,List.nil_append,List.append_nil,cond_true,cond_false]
     try go_simp
     refine wpUT_done ?_
     try go_simp
     go_wp2
     clear hp1 hp2 hp3 hp4 hpq
     go_loopg [21,22] N (fun gk p i wr=>∃ (V:Value) (j:Nat),V=p∧j≤N∧gk=N - j∧i=.int .i64 j∧Hid (OwnZ wr w5.heap.size V (oth (S.map Ro.d) l j))∧Hid (Below w5.heap.size w5 wr))
     case atStart=>exact ⟨_,0,rfl,by omega,rfl,rfl,Lib.hid (OwnZ.nil _ _),Lib.hid (Below.refl _ _)⟩
     case round =>
      obtain ⟨V,j,rfl,hj,rfl,rfl,HO,HB6⟩:=hrel
      have hsr6:=HB6.out.size
      by_cases hltj:j < N
      ·have HLEN:Hid ((oth (S.map Ro.d) l j).length≤1000):=Lib.hid (Nat.le_trans (oth_len _ _ _) (Nat.le_trans (List.length_filter_le _ _) (by rw [HLL.out];omega)))
       go_wp2
       go_loopg [21,23] I (fun gk p i wr=>∃ (V:Value) (E:Nat),V=p∧E≤I∧gk=I - E∧i=.int .i64 E∧Hid (OwnZ wr w5.heap.size V (oth (S.map Ro.d) l j ++ othT (S.map Ro.d) (l.take E) j))∧Hid (Below w5.heap.size w5 wr))
       case atStart=>exact ⟨_,0,rfl,by omega,rfl,rfl,by rw [othT_nil,List.append_nil];exact HO,HB6⟩
       case round =>
        clear HO HB6 hsr6
        obtain ⟨V,E,rfl,hE,rfl,rfl,HO,HB6⟩:=hrel
        have hsr6:=HB6.out.size
        by_cases hltE:E < I
        ·obtain ⟨s,hs⟩:∃ s,l[E]? = some s:=⟨_,List.getElem?_eq_getElem (by rw [HLL.out];exact hltE)⟩
         obtain ⟨q,hq⟩:∃ q,S[j]? = some q:=⟨_,List.getElem?_eq_getElem (by rw [HN.out];exact hltj)⟩
         have hbw:Below w.heap.size w wr:=HB05.out.trans (HB6.out.mono HB05.out.size)
         have hTR:=HT.out.below HB6.out
         obtain ⟨-,-,bv,ov,rfl,hbv,hat⟩:=SRd.at hTR.own.row.rd hs
         have d0:wr.cell? ⟨bv,ov+E * 2,none⟩=some (.int .i64 s.node):=hat 0 _ rfl
         have d1:wr.cell? ⟨bv,ov+E * 2+1,none⟩=some (.slice s.a s.d.length s.cp):=hat 1 _ rfl
         obtain ⟨-,-,bq,oq,rfl,hbq,hatq⟩:=SRd.at (HS.out.below hbw).rd hq
         have d2:wr.cell? ⟨bq,oq+j,none⟩=some (.slice q.a q.d.length q.cp):=by simpa [Ro.v] using hatq 0 _ rfl
         have r1:GRd wr (.slice s.a s.d.length s.cp) s.d:=hTR.own.each s (List.mem_of_getElem? hs)
         have r2:GRd wr (.slice q.a q.d.length q.cp) q.d:=(HS.out.below hbw).each q (List.mem_of_getElem? hq)
         have v1:=BytesRd.conv (GRd.below r1 (Below.refl _ _).drew)
         have v2:=BytesRd.conv (GRd.below r2 (Below.refl _ _).drew)
         have hst:strOf (s.d.map GF.n)=strOf (q.d.map GF.n)↔s.d=q.d:=(strOf_inj r1.1 r2.1).trans ⟨fun e=>mapn_inj e,fun e=>by rw [e]⟩
         obtain ⟨st1,hst1⟩:∃ st,strOf (s.d.map GF.n)=st:=⟨_,rfl⟩
         obtain ⟨st2,hst2⟩:∃ st,strOf (q.d.map GF.n)=st:=⟨_,rfl⟩
         rw [hst1] at v1 hst
         rw [hst2] at v2 hst
         have hot:=othT_succ (D:=S.map Ro.d) (j:=j) hs
         have HBD:Hid (Below w5.heap.size w5 wr.drew):=Lib.hid HB6.out.drew
         obtain ⟨x,hx⟩:∃ x,s.node=x:=⟨_,rfl⟩
         rw [hx] at d0
         obtain ⟨kp,hkp⟩:∃ kp:Nat→Bool,∀ j,kp j=true↔j < wr.heap.size:=⟨fun j=>decide (j < wr.heap.size),by simp⟩
         have k1:kp bv=true:=(hkp _).2 hbv
         have k2:kp bq=true:=(hkp _).2 hbq
         have HKP:=Lib.hid hkp
         have i1:(0:Int)≤(E:Int)∧(E:Int) < (I:Int):=by omega
         have i2:(0:Int)≤(j:Int)∧(j:Int) < (N:Int):=by omega
         have hbq2:bad (S.map Ro.d) s=decide (s.d ≠ (S.map Ro.d).getD s.node.toNat []):=rfl
         have HLT:=Lib.hid hltE
         by_cases hxj:x=(j:Int)
         ·have hdj:(S.map Ro.d).getD s.node.toNat []=q.d:=by rw [hx,hxj,Int.toNat_natCast];exact dAt hq
          rw [hdj] at hbq2
          rw [hx] at hot
          subst hxj
          by_cases hss:st1=st2
          ·subst hss
           have hbf:bad (S.map Ro.d) s=false:=by rw [hbq2,decide_eq_false (not_not_intro (hst.1 rfl))]
           have HO2:Hid (OwnZ wr.drew w5.heap.size V (oth (S.map Ro.d) l j ++ othT (S.map Ro.d) (l.take (E+1)) j)):=Lib.hid (by
            rw [hot,hbf,if_neg (by simp)]
            exact HO.out)
           clear hkp hx hs hq hTR hat hatq r1 r2 hst hst1 hst2 hot hbq2 hdj hbf hbw
           go_upto_region 25 with fail
           have hgr:=fun (w0 W:World) (p:Addr) (hp:(fun j=>kp j=true) p.block)=>graft_cell (w0:=w0) (keep:=(fun j=>kp j=true)) W hp
           refine wp_region_tree (fun j=>kp j=true) [13,18] (.sq [0,1,2,3,4,5,6,7,8,9,10,11,12,14,15,16,17] (.fork 13 (.sq [18,19,20] .done) 18 (.sq [13,19,20] .done))) (by kernel_rfl) (by kernel_rfl) ?_
           simp only [Tr.sq,List.foldr_cons,List.foldr_nil,slimTr,slimStep,Oper.slim,List.contains_cons,List.contains_nil,Option.map_none,Option.map_some,List.getElem?_toArray,List.getElem?_cons_zero,List.getElem?_cons_succ,Option.bind_some,beq_self_eq_true,Bool.or_false,Nat.reduceBEq,Nat.reduceAdd,Nat.zero_add]
           repeat' first | ((with_reducible refine wpSlimT_id ?_);first | (with_reducible refine wpSlimT_done ?_) | (with_reducible refine wpSlimT_fork ?_ ?_) | ((with_reducible refine wpSlimT_step (fun K hK=>?_));go_simp;first | (refine hK _ _ ?_;clear hK K) | (refine ⟨by (intro kk hkk;first | (simp (disch:=(simp;omega)) only [hp_drew,hp_drewN,hp_alloc,hp_set];done) | (simp [hp_drew,hp_drewN,hp_alloc_if,hkk];done) | (have hkk2:=(HKP.out kk).1 hkk;simp (disch:=(first | omega | (simp;omega))) only [hp_drew,hp_drewN,hp_alloc,hp_set];done)),hK _ _ ?_⟩;clear hK K))) | fail
           all_goals clear hgr
           all_goals go_wp2
           all_goals go_roundg (I - (E+1))
           all_goals first
            | omega
            | exact Nat.sub_lt_sub_left HLT.out (Nat.lt_succ_self E)
            | exact ⟨_,E+1,rfl,HLT.out,rfl,by go_num,HO2,HBD⟩
          ·have hsl:¬ st1.data.toList=st2.data.toList:=fun e=>hss (by
            have e2:st1.data=st2.data:=Array.toList_inj.1 e
            cases st1;cases st2;simp only at e2;rw [e2])
           have hb1:(st1.data.toList == st2.data.toList)=false:=by simpa using hsl
           have hb2:(st1.toList == st2.toList)=false:=by rw [ByteArray.toList_eq,ByteArray.toList_eq];exact hb1
           have hbf:bad (S.map Ro.d) s=true:=hbq2.trans (decide_eq_true (show s.d ≠ q.d from fun e=>hss (hst.2 e)))
           obtain ⟨v1',w6,hap,ho1,-,hb6,-⟩:=app_int (W:=wr.drew) (j:Int) HO.out (by
            have:=HLEN.out
            have:=othT_len (S.map Ro.d) (l.take E) j
            rw [List.length_take] at this
            rw [List.length_append]
            omega) (by simpa using HB6.out.size) (ad:=wr.heap.size) rfl
           have HO6:Hid (OwnZ w6 w5.heap.size v1' (oth (S.map Ro.d) l j ++ othT (S.map Ro.d) (l.take (E+1)) j)):=Lib.hid (by
            rw [hot,hbf,if_pos (by simp),← List.append_assoc]
            exact ho1)
           have HB7:Hid (Below w5.heap.size w5 w6):=Lib.hid (HBD.out.trans hb6)
           clear hkp hx hs hq hTR hat hatq r1 r2 hst hst1 hst2 hot hbq2 hdj hbf hss ho1 hb6 hbw
           go_upto_region 25 with fail
           have hgr:=fun (w0 W:World) (p:Addr) (hp:(fun j=>kp j=true) p.block)=>graft_cell (w0:=w0) (keep:=(fun j=>kp j=true)) W hp
           refine wp_region_tree (fun j=>kp j=true) [13,18] (.sq [0,1,2,3,4,5,6,7,8,9,10,11,12,14,15,16,17] (.fork 13 (.sq [18,19,20] .done) 18 (.sq [13,19,20] .done))) (by kernel_rfl) (by kernel_rfl) ?_
           simp only [Tr.sq,List.foldr_cons,List.foldr_nil,slimTr,slimStep,Oper.slim,List.contains_cons,List.contains_nil,Option.map_none,Option.map_some,List.getElem?_toArray,List.getElem?_cons_zero,List.getElem?_cons_succ,Option.bind_some,beq_self_eq_true,Bool.or_false,Nat.reduceBEq,Nat.reduceAdd,Nat.zero_add]
           repeat' first | ((with_reducible refine wpSlimT_id ?_);first | (with_reducible refine wpSlimT_done ?_) | (with_reducible refine wpSlimT_fork ?_ ?_) | ((with_reducible refine wpSlimT_step (fun K hK=>?_));go_simp;first | (refine hK _ _ ?_;clear hK K) | (refine ⟨by (intro kk hkk;first | (simp (disch:=(simp;omega)) only [hp_drew,hp_drewN,hp_alloc,hp_set];done) | (simp [hp_drew,hp_drewN,hp_alloc_if,hkk];done) | (have hkk2:=(HKP.out kk).1 hkk;simp (disch:=(first | omega | (simp;omega))) only [hp_drew,hp_drewN,hp_alloc,hp_set];done)),hK _ _ ?_⟩;clear hK K))) | fail
           all_goals clear hgr
           all_goals go_wp2_with (at_builtin;refine wpList_append rfl _ _ _ rfl rfl rfl hap ?_)
           all_goals go_roundg (I - (E+1))
           all_goals first
            | omega
            | exact Nat.sub_lt_sub_left HLT.out (Nat.lt_succ_self E)
            | exact ⟨_,E+1,rfl,HLT.out,rfl,by go_num,HO6,HB7⟩
         ·have HO2:Hid (OwnZ wr.drew w5.heap.size V (oth (S.map Ro.d) l j ++ othT (S.map Ro.d) (l.take (E+1)) j)):=Lib.hid (by
           rw [hot,hx,decide_eq_false hxj,Bool.false_and,if_neg (by simp)]
           exact HO.out)
          clear hkp hx hs hq hTR hat hatq r1 r2 hst hst1 hst2 hot hbq2 hbw
          go_upto_region 25 with fail
          have hgr:=fun (w0 W:World) (p:Addr) (hp:(fun j=>kp j=true) p.block)=>graft_cell (w0:=w0) (keep:=(fun j=>kp j=true)) W hp
          refine wp_region_tree (fun j=>kp j=true) [13,18] (.sq [0,1,2,3,4,5,6,7,8,9,10,11,12,14,15,16,17] (.fork 13 (.sq [18,19,20] .done) 18 (.sq [13,19,20] .done))) (by kernel_rfl) (by kernel_rfl) ?_
          simp only [Tr.sq,List.foldr_cons,List.foldr_nil,slimTr,slimStep,Oper.slim,List.contains_cons,List.contains_nil,Option.map_none,Option.map_some,List.getElem?_toArray,List.getElem?_cons_zero,List.getElem?_cons_succ,Option.bind_some,beq_self_eq_true,Bool.or_false,Nat.reduceBEq,Nat.reduceAdd,Nat.zero_add]
          repeat' first | ((with_reducible refine wpSlimT_id ?_);first | (with_reducible refine wpSlimT_done ?_) | (with_reducible refine wpSlimT_fork ?_ ?_) | ((with_reducible refine wpSlimT_step (fun K hK=>?_));go_simp;first | (refine hK _ _ ?_;clear hK K) | (refine ⟨by (intro kk hkk;first | (simp (disch:=(simp;omega)) only [hp_drew,hp_drewN,hp_alloc,hp_set];done) | (simp [hp_drew,hp_drewN,hp_alloc_if,hkk];done) | (have hkk2:=(HKP.out kk).1 hkk;simp (disch:=(first | omega | (simp;omega))) only [hp_drew,hp_drewN,hp_alloc,hp_set];done)),hK _ _ ?_⟩;clear hK K))) | fail
          all_goals clear hgr
          all_goals go_wp2
          all_goals go_roundg (I - (E+1))
          all_goals first
           | omega
           | exact Nat.sub_lt_sub_left HLT.out (Nat.lt_succ_self E)
           | exact ⟨_,E+1,rfl,HLT.out,rfl,by go_num,HO2,HBD⟩
        ·obtain rfl:E=I:=by omega
         have HO2:Hid (OwnZ wr w5.heap.size V (oth (S.map Ro.d) l (j+1))):=Lib.hid (by
          have:=HO.out
          rwa [List.take_of_length_le (by rw [HLL.out];exact Nat.le_refl _)] at this)
         go_wp2
         go_roundg (N - (j+1))
         case measure=>omega
         case rel=>exact ⟨_,j+1,rfl,by omega,rfl,by go_num,HO2,HB6⟩
      ·obtain rfl:j=N:=by omega
       have HP:Hid (TRow wr w.heap.size (.slice a0 I c0) l∧OwnZ wr w.heap.size V (oth (S.map Ro.d) l j)∧Below w.heap.size w wr):=Lib.hid ⟨(HT.out.below HB6.out).mono HB1.out.size,HO.out.mono (by omega),HB05.out.trans (HB6.out.mono HB05.out.size)⟩
       go_wp2
       go_ret2
       exact ⟨_,_,l,_,rfl,HP.out.1,HP.out.2.1,HP.out.2.2,HND.out,HTI.out⟩
theorem told_any (sv:Value) (S:List Ro) (bs t:Nat) (tu:Bool) (ta tb:Value) (As Bs:List GF) (w:World) (h:RoAll w sv S) (hl:S.length≤1000) (hdl:∀ s ∈ S,s.d.length≤1000000) (hbs:bs < 18446744073709551616) (ha:GRd w ta As) (hb:GRd w tb Bs) (ht:t≤1000000) :
  Calls Tryz.prog 31 #[sv,.int .u64 bs,.bool tu,ta,tb,.int .i64 t] w (ToldPost tu bs t S w) :=
 (toldR_any sv S bs t tu ta tb As Bs w h hl hdl hbs ha hb ht).mono fun e w' ⟨v1,v2,l,zs,h1,h2,h3⟩=>⟨v1,v2,l,zs,h1,h2.own,h3⟩
end Go.Proofs.YtcclhhjcejmepaaGreat
/- The first bytes of symbols that are told; whose shares are others: plain laws. -/
namespace Go.Proofs.YtcclhhjcejmepaaGreat
open Go.RowKit Fld
set_option linter.unusedVariables false
set_option linter.unusedSimpArgs false

noncomputable def ysL (l:List Sy):List GF:=l.map fun s=>s.d.getD 0 0
theorem ysL_len (l:List Sy):(ysL l).length=l.length:=by simp [ysL]
theorem nodes_at {l:List Sy} {i:Nat} {s:Sy} (h:l[i]? = some s):(Sy.nodes l).getD i 0=s.node:=by
 rw [Sy.nodes,List.getD_eq_getElem?_getD,List.getElem?_map,h];rfl
theorem ysL_at {l:List Sy} {i:Nat} {s:Sy} (h:l[i]? = some s):(ysL l).getD i 0=s.d.getD 0 0:=by
 rw [ysL,List.getD_eq_getElem?_getD,List.getElem?_map,h];rfl
theorem one_of {d:List GF} (h:d.length=1):d=[d.getD 0 0]:=by
 match d,h with
 | [x],_=>rfl
theorem wr_told {xs P:List GF} {D:List (List GF)} {l:List Sy} {zs:List Int} {t:Nat} (hDl:D.length=xs.length) (hD:∀ i,i < xs.length→D.getD i []=[ev P (xs.getD i 0)]) (h:ToldIs D t l zs):wrS xs (Sy.nodes l) (ysL l) P=zs:=by
 have hg:=h.good
 have h1:∀ (i:Nat) (s:Sy),l[i]? = some s→s.d=[s.d.getD 0 0]∧D.getD s.node.toNat []=[ev P (xs.getD s.node.toNat 0)]:=fun i s hs=>by
  have hm:=List.mem_of_getElem? hs
  have hn:=hg.1 s.node (List.mem_map.2 ⟨s,hm,rfl⟩)
  have e:=hD s.node.toNat (by omega)
  have hl:=h.len s hm
  rw [e] at hl
  exact ⟨one_of hl,e⟩
 refine strict_eq (riseI_lt (wrP_nodup _ _ hg.2)) h.rise fun x=>?_
 rw [wrS,riseI_mem,h.mem]
 unfold wrP wrI
 rw [List.mem_map]
 constructor
 ·rintro ⟨i,hi,rfl⟩
  rw [List.mem_filter,List.mem_range,pts_len,decide_eq_true_eq] at hi
  have hil:i < l.length:=by simpa [Sy.nodes] using hi.1
  obtain ⟨s,hs⟩:∃ s,l[i]? = some s:=⟨_,List.getElem?_eq_getElem hil⟩
  obtain ⟨e1,e2⟩:=h1 i s hs
  have h2:=hi.2
  rw [pts_get _ hi.1,nodes_at hs,ysL_at hs] at h2
  refine ⟨s,List.mem_of_getElem? hs,(nodes_at hs).symm,fun e=>h2 ?_⟩
  rw [e1,e2] at e
  exact ((List.cons.inj e).1).symm
 ·rintro ⟨s,hm,rfl,hne⟩
  obtain ⟨i,hs⟩:=List.mem_iff_getElem?.1 hm
  obtain ⟨e1,e2⟩:=h1 i s hs
  have hil:=(List.getElem?_eq_some_iff.1 hs).1
  refine ⟨i,?_,nodes_at hs⟩
  have hip:i < (Sy.nodes l).length:=by simpa [Sy.nodes] using hil
  rw [List.mem_filter,List.mem_range,pts_len,decide_eq_true_eq]
  refine ⟨hip,?_⟩
  rw [pts_get _ hip,nodes_at hs,ysL_at hs]
  intro e
  exact hne (by rw [e1,e2,e])
theorem told_good {D:List (List GF)} {l:List Sy} {zs:List Int} {t N sz:Nat} {not:Int} (hDl:D.length=N) (hD:∀ i,i < N→(D.getD i []).length=sz) (h:ToldIs D t l zs) (hnot:not ∉ Sy.nodes l):SyGood N not sz l:=by
 have hg:=h.good
 rw [hDl] at hg
 refine ⟨hg,fun s hs=>⟨fun e=>hnot (List.mem_map.2 ⟨s,hs,e⟩),?_⟩⟩
 have hn:=hg.1 s.node (List.mem_map.2 ⟨s,hs,rfl⟩)
 rw [h.len s hs,hD _ (by omega)]
end Go.Proofs.YtcclhhjcejmepaaGreat
