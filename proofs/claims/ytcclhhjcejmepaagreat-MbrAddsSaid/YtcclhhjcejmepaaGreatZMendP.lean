/-
  What words of which some are wrong are answered with: the one answer that there is.
  What others tell of a node's share, some of it falsely: plain laws, and where the rows lie. (For chapters 09 and 10.)
  What Repair answers: the one answer that there is.
-/
import Derived.Test.YtcclhhjcejmepaaGreatZWeRefs
import Derived.Test.YtcclhhjcejmepaaGreatZWk
import Derived.Test.YtcclhhjcejmepaaGreatZToldG
import Derived.Test.YtcclhhjcejmepaaGreatZKit
import Derived.Test.YtcclhhjcejmepaaGreatZMat
import Derived.Test.YtcclhhjcejmepaaGreatZMbRep
import Derived.Test.YtcclhhjcejmepaaGreatZPlainM
/- What words of which some are wrong are answered with: the one answer that there is. -/
namespace Go.Proofs.YtcclhhjcejmepaaGreat
open Go.RowKit Fld
set_option linter.unusedVariables false
set_option linter.unusedSimpArgs false

def WeIs (xs:List GF) (k:Nat) (ps:List Int) (ys:List GF) (t:Int) (c:Int) (m:List GF) (zs:List Int):Prop :=
 (¬ (GoodP xs.length ps∧ps.length=ys.length) ∨ t < 0)∧c=2∧m=[]∧zs=[] ∨
 ((GoodP xs.length ps∧ps.length=ys.length)∧0≤t)∧((ps.length:Int) < (k:Int)+2 * t∧c=70∧m=[]∧zs=[] ∨
  (k:Int)+2 * t≤(ps.length:Int)∧(c=0∧WeTells xs k ps ys t.toNat (some m)∧zs=wrS xs ps ys m ∨ c=80∧WeTells xs k ps ys t.toNat none∧m=[]∧zs=[]))
theorem WeIs.one {xs:List GF} {k:Nat} {ps:List Int} {ys:List GF} {t c c':Int} {m m':List GF} {zs zs':List Int} (hn:xs.Nodup) (h:WeIs xs k ps ys t c m zs) (h':WeIs xs k ps ys t c' m' zs'):c=c'∧m=m'∧zs=zs':=by
 have key:((GoodP xs.length ps∧ps.length=ys.length)∧0≤t)→(k:Int)+2 * t≤(ps.length:Int)→∀ o o',WeTells xs k ps ys t.toNat o→WeTells xs k ps ys t.toNat o'→o=o':=fun hg hk o o' h1 h2 =>
  weTells_one hn hg.1.1 (by omega) h1 h2
 rcases h with ⟨h1,rfl,rfl,rfl⟩ | ⟨h1,⟨h2,rfl,rfl,rfl⟩ | ⟨h2,⟨rfl,h3,rfl⟩ | ⟨rfl,h3,rfl,rfl⟩⟩⟩ <;> rcases h' with ⟨g1,rfl,rfl,rfl⟩ | ⟨g1,⟨g2,rfl,rfl,rfl⟩ | ⟨g2,⟨rfl,g3,rfl⟩ | ⟨rfl,g3,rfl,rfl⟩⟩⟩
 all_goals first
  | exact ⟨rfl,rfl,rfl⟩
  | (exfalso;exact h1.elim (fun h=>h g1.1) (fun h=>by have:=g1.2;omega))
  | (exfalso;exact g1.elim (fun h=>h h1.1) (fun h=>by have:=h1.2;omega))
  | omega
  | (cases key h1 h2 _ _ h3 g3;exact ⟨rfl,rfl,rfl⟩)
  | (cases key h1 h2 _ _ h3 g3)
theorem WeAns.is {B:Nat} {xs:List GF} {k:Nat} {ps:List Int} {ys:List GF} {t:Int} {e:Ending} {w':World} (h:WeAns B xs k ps ys t e w'):∃ c m zs v1 v2,e=.returned (.tuple #[v1,v2,.int .i64 c])∧WeIs xs k ps ys t c m zs∧OwnG w' B v1 m∧RdZ w' B v2 zs:=by
 have hnz:RdZ w' B (.slice none 0 0) []:=RdZ.of_own (OwnZ.nil _ _)
 rcases h with ⟨h1,rfl⟩ | ⟨h1,⟨h2,rfl⟩ | ⟨h2,⟨m,v1,v2,rfl,h3,h4,h5⟩ | ⟨rfl,h3⟩⟩⟩
 ·exact ⟨2,[],[],_,_,rfl,.inl ⟨h1,rfl,rfl,rfl⟩,OwnG.nil _ _,hnz⟩
 ·exact ⟨70,[],[],_,_,rfl,.inr ⟨h1,.inl ⟨h2,rfl,rfl,rfl⟩⟩,OwnG.nil _ _,hnz⟩
 ·exact ⟨0,m,_,v1,v2,rfl,.inr ⟨h1,.inr ⟨h2,.inl ⟨rfl,h3,rfl⟩⟩⟩,h4,h5⟩
 ·exact ⟨80,[],[],_,_,rfl,.inr ⟨h1,.inr ⟨h2,.inr ⟨rfl,h3,rfl,rfl⟩⟩⟩,OwnG.nil _ _,hnz⟩
theorem WeIs.len {xs:List GF} {k:Nat} {ps:List Int} {ys:List GF} {t c:Int} {m:List GF} {zs:List Int} (h:WeIs xs k ps ys t c m zs) (hl:ps.length≤100000):zs.length≤100000:=by
 rcases h with ⟨h1,rfl,rfl,rfl⟩ | ⟨h1,⟨h2,rfl,rfl,rfl⟩ | ⟨h2,⟨rfl,h3,rfl⟩ | ⟨rfl,h3,rfl,rfl⟩⟩⟩
 ·exact Nat.zero_le _
 ·exact Nat.zero_le _
 ·have:=h3.2
  omega
 ·exact Nat.zero_le _
end Go.Proofs.YtcclhhjcejmepaaGreat
/- What others tell of a node's share, some of it falsely: plain laws, and where the rows lie. (For chapters 09 and 10.) -/
namespace Go.Proofs.YtcclhhjcejmepaaGreat
open Go.RowKit Fld
set_option linter.unusedVariables false
set_option linter.unusedSimpArgs false

theorem u64_bit0 (m k:Nat) (hm:m < 18446744073709551616):(bits .and .u64 ((m:Int) / 2 ^ k) 1 == 0)=!m.testBit k:=by
 have h:((m:Int) / 2 ^ k)=((m / 2 ^ k:Nat):Int):=by simp
 have h2:m / 2 ^ k < 18446744073709551616:=Nat.lt_of_le_of_lt (Nat.div_le_self _ _) hm
 have h3:=bits_and_u64_nat (m / 2 ^ k) 1 h2 (by omega)
 rw [h]
 rw [show ((1:Nat):Int)=1 from rfl] at h3
 rw [h3,Nat.and_one_is_mod,Nat.testBit_eq_decide_div_mod_eq]
 by_cases hh:m / 2 ^ k % 2=1
 ·simp [hh]
 ·have:m / 2 ^ k % 2=0:=by omega
  simp [this]
theorem View.one (W:World) (b:GF) {y:Nat} (hy:b.n=y):View (W.alloc (.cells #[.int .u8 (y:Nat)] 5)) W.heap.size 1 (fun i=>[b].getD i 0):=by
 subst hy
 have hh:(W.alloc (.cells #[.int .u8 (b.n:Nat)] 5)).heap[W.heap.size]? = some (.cells #[.int .u8 (b.n:Nat)] 5 (0,0)):=heap_newA _ _
 refine ⟨by simp,fun j hj=>?_⟩
 obtain rfl:j=0:=by omega
 exact ⟨cell_of_heap hh rfl,free_of_heap hh 0⟩
theorem sh_at {w:World} {B N ga oa c5 n1:Nat} {D:List (List GF)} {S:List Ro} (h:ShAll w B (.slice (some ⟨ga,oa,none⟩) N c5) D S) (hd:D.length=N) {i:Nat} (hi:i < N) {f:List GF} (hf:D.getD i []=f) (hn:f.length=n1):∃ a c,w.cell? ⟨ga,oa+i,none⟩=some (.slice a n1 c)∧GRd w (.slice a n1 c) f∧∀ A,a=some A→B≤A.block:=by
 have hsl:S.length=N:=by have:=congrArg List.length h.eq;simpa [hd] using this
 obtain ⟨s,hs⟩:∃ s,S[i]? = some s:=⟨_,List.getElem?_eq_getElem (by rw [hsl];exact hi)⟩
 have hsd:s.d=f:=by
  have:=congrArg (·.getD i []) h.eq
  rw [hf,List.getD_eq_getElem?_getD,List.getElem?_map,hs] at this
  exact this
 obtain ⟨-,-,b,o,e,-,hat⟩:=SRd.at h.all.rd hs
 cases e
 have h1:=hat 0 _ rfl
 have h2:=h.all.each s (List.mem_of_getElem? hs)
 unfold Ro.v at h1 h2
 rw [hsd,hn] at h1 h2
 exact ⟨s.a,s.cp,by simpa using h1,h2,h.new s (List.mem_of_getElem? hs)⟩
def rowF' (n:Nat) (f:Nat→List GF):List (List GF):=(List.range n).map f
def askL (j bs I:Nat):List Nat:=(List.range I).filter fun i=>decide (i ≠ j) && bs.testBit i
theorem askL_no {j bs I:Nat} (h:I=j ∨ bs.testBit I=false):askL j bs (I+1)=askL j bs I:=by
 unfold askL
 rw [List.range_succ,List.filter_append,List.filter_cons_of_neg,List.filter_nil,List.append_nil]
 rcases h with h | h
 ·simp [h]
 ·simp [h]
theorem askL_yes {j bs I:Nat} (h:I ≠ j) (h2:bs.testBit I=true):askL j bs (I+1)=askL j bs I ++ [I]:=by
 unfold askL
 rw [List.range_succ,List.filter_append,List.filter_cons_of_pos,List.filter_nil]
 simp [h,h2]
theorem askL_mem {j bs I x:Nat}:x ∈ askL j bs I↔x < I∧x ≠ j∧bs.testBit x=true:=by
 unfold askL
 rw [List.mem_filter,List.mem_range]
 simp
theorem askL_rise (j bs I:Nat):(askL j bs I).Pairwise (· < ·):=List.pairwise_lt_range.filter _
theorem askL_len (j bs I:Nat):(askL j bs I).length≤I:=Nat.le_trans (List.length_filter_le _ _) (by simp)
theorem ask_good {j bs n:Nat}:GoodP n (intsOf (askL j bs n))∧(j:Int) ∉ intsOf (askL j bs n):=by
 refine ⟨⟨fun x hx=>?_,?_⟩,fun hm=>?_⟩
 ·obtain ⟨y,hy,rfl⟩:=List.mem_map.1 hx
  have:=(askL_mem.1 hy).1
  omega
 ·refine List.pairwise_map.2 ((askL_rise j bs n).imp fun {a b} hab=>?_)
  intro e
  omega
 ·obtain ⟨y,hy,e⟩:=List.mem_map.1 hm
  have:=(askL_mem.1 hy).2.1
  omega
theorem mend_told {j bs n t:Nat} {xs p:List GF} {l:List Sy} (hx:xs.length=n) (hn:Sy.nodes l=intsOf (askL j bs n)) (hl:∀ s ∈ l,s.d.length=1) (hb:(l.filter (bad (rowF' n fun i=>[ev p (xs.getD i 0)]))).length≤t) :
  wrS xs (Sy.nodes l) (ysL l) p=Sy.nodes (l.filter (bad (rowF' n fun i=>[ev p (xs.getD i 0)])))∧(Sy.nodes (l.filter (bad (rowF' n fun i=>[ev p (xs.getD i 0)])))).length≤t∧SyGood n (j:Int) 1 l:=by
 obtain ⟨D,hD⟩:∃ D,rowF' n (fun i=>[ev p (xs.getD i 0)])=D:=⟨_,rfl⟩
 rw [hD] at hb ⊢
 have hDl:D.length=n:=by rw [← hD];simp [rowF']
 have hDg:∀ i,i < n→D.getD i []=[ev p (xs.getD i 0)]:=fun i hi=>by
  rw [← hD,rowF',List.getD_eq_getElem?_getD,List.getElem?_map,List.getElem?_range hi]
  rfl
 have hg:=ask_good (j:=j) (bs:=bs) (n:=n)
 rw [← hn] at hg
 have hti:ToldIs D t l (Sy.nodes (l.filter (bad D))):=by
  refine ⟨by rw [hDl];exact hg.1,fun s hs=>?_,?_,fun x=>?_,by rw [Sy.nodes,List.length_map];exact hb⟩
  ·have:=hg.1.1 s.node (List.mem_map.2 ⟨s,hs,rfl⟩)
   rw [hl s hs,hDg _ (by omega)]
   rfl
  ·have h1:(Sy.nodes l).Pairwise (· < ·):=by
    rw [hn]
    exact List.pairwise_map.2 ((askL_rise j bs n).imp fun {a b} hab=>by omega)
   exact h1.sublist (List.Sublist.map _ List.filter_sublist)
  ·unfold Sy.nodes
   rw [List.mem_map]
   constructor
   ·rintro ⟨s,hs,e⟩
    obtain ⟨h1,h2⟩:=List.mem_filter.1 hs
    exact ⟨s,h1,e,of_decide_eq_true h2⟩
   ·rintro ⟨s,hs,e,h⟩
    exact ⟨s,List.mem_filter.2 ⟨hs,decide_eq_true h⟩,e⟩
 exact ⟨wr_told (by rw [hDl,hx]) (fun i hi=>hDg i (by omega)) hti,hti.few,told_good hDl (fun i hi=>by rw [hDg i hi];rfl) hti hg.2⟩
end Go.Proofs.YtcclhhjcejmepaaGreat
/- What Repair answers: the one answer that there is. -/
namespace Go.Proofs.YtcclhhjcejmepaaGreat
open Go.RowKit Fld
set_option linter.unusedVariables false
set_option linter.unusedSimpArgs false

def MbRIs (n d:Nat) (xs:List GF) (to_:Int) (l:List Sy) (t:Int) (c:Int) (m:List GF) (zs:List Int):Prop :=
 ¬ (((0≤to_∧to_ < (n:Int))∧0≤t)∧SyGood n to_ 1 l)∧c=2∧m=[]∧zs=[] ∨
 (((0≤to_∧to_ < (n:Int))∧0≤t)∧SyGood n to_ 1 l)∧WeIs xs d (Sy.nodes l) (ysL l) t c m zs
theorem MbRIs.one {n d:Nat} {xs:List GF} {to_:Int} {l:List Sy} {t c c':Int} {m m':List GF} {zs zs':List Int} (hn:xs.Nodup) (h:MbRIs n d xs to_ l t c m zs) (h':MbRIs n d xs to_ l t c' m' zs'):c=c'∧m=m'∧zs=zs':=by
 rcases h with ⟨h1,rfl,rfl,rfl⟩ | ⟨h1,h2⟩ <;> rcases h' with ⟨g1,rfl,rfl,rfl⟩ | ⟨g1,g2⟩
 ·exact ⟨rfl,rfl,rfl⟩
 ·exact absurd g1 h1
 ·exact absurd h1 g1
 ·exact h2.one hn g2
theorem MbRepIs.is {B n d:Nat} {xs:List GF} {to_:Int} {l:List Sy} {t:Int} {e:Ending} {w':World} (h:MbRepIs B n d xs to_ l t e w'):∃ c m zs v1 v2,e=.returned (.tuple #[v1,v2,.int .i64 c])∧MbRIs n d xs to_ l t c m zs∧OwnG w' B v1 m∧RdZ w' B v2 zs:=by
 have hnz:RdZ w' B (.slice none 0 0) []:=RdZ.of_own (OwnZ.nil _ _)
 rcases h with ⟨h1,rfl⟩ | ⟨h1,h2⟩
 ·exact ⟨2,[],[],_,_,rfl,.inl ⟨h1,rfl,rfl,rfl⟩,OwnG.nil _ _,hnz⟩
 ·obtain ⟨c,m,zs,v1,v2,he,hi,h3,h4⟩:=h2.is
  exact ⟨c,m,zs,v1,v2,he,.inr ⟨h1,hi⟩,h3,h4⟩
theorem MbRIs.len {n d:Nat} {xs:List GF} {to_:Int} {l:List Sy} {t c:Int} {m:List GF} {zs:List Int} (h:MbRIs n d xs to_ l t c m zs) (hl:l.length≤100000):zs.length≤100000:=by
 rcases h with ⟨h1,rfl,rfl,rfl⟩ | ⟨h1,h2⟩
 ·exact Nat.zero_le _
 ·exact h2.len (by rw [Sy.nodes,List.length_map];exact hl)
theorem mb_mend {n d K t j bs:Nat} {xs M:List GF} {l:List Sy} (hx:xs.length=n) (hj:j < n) (hn:Sy.nodes l=intsOf (askL j bs n)) (hl:∀ s ∈ l,s.d.length=1) (hb:(l.filter (bad (rowF' n fun i=>[ev (mShare K d M (xs.getD j 0)) (xs.getD i 0)]))).length≤t) :
  (d+2 * t≤l.length→MbRIs n d xs (j:Int) l (t:Int) 0 (mShare K d M (xs.getD j 0)) (Sy.nodes (l.filter (bad (rowF' n fun i=>[ev (mShare K d M (xs.getD j 0)) (xs.getD i 0)]))))) ∧
  (l.length < d+2 * t→MbRIs n d xs (j:Int) l (t:Int) 70 [] []):=by
 obtain ⟨h1,h2,h3⟩:=mend_told (p:=mShare K d M (xs.getD j 0)) hx hn hl hb
 have hg:GoodP xs.length (Sy.nodes l)∧(Sy.nodes l).length=(ysL l).length:=⟨by rw [hx];exact h3.1,by simp [Sy.nodes,ysL]⟩
 have hnl:(Sy.nodes l).length=l.length:=by simp [Sy.nodes]
 refine ⟨fun hk=>.inr ⟨⟨⟨⟨by omega,by omega⟩,by omega⟩,h3⟩,.inr ⟨⟨hg,by omega⟩,.inr ⟨by omega,.inl ⟨rfl,⟨mShare_len _ _ _ _,?_⟩,h1.symm⟩⟩⟩⟩,fun hk=>.inr ⟨⟨⟨⟨by omega,by omega⟩,by omega⟩,h3⟩,.inr ⟨⟨hg,by omega⟩,.inl ⟨by omega,rfl,rfl,rfl⟩⟩⟩⟩
 rw [h1]
 exact h2
end Go.Proofs.YtcclhhjcejmepaaGreat
