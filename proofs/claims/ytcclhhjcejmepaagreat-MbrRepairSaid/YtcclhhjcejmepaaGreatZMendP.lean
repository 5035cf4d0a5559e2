/-
  What words of which some are wrong are answered with: the one answer that there is.
  What others tell of a node's share, some of it falsely: plain laws, and where the rows lie. (For chapters 09 and 10.)
  What Repair answers: the one answer that there is.
-/
import Derived.Test.YtcclhhjcejmepaaGreatZWeRefs
import Derived.Test.YtcclhhjcejmepaaGreatZWk
import Derived.Test.YtcclhhjcejmepaaGreatZToldG
import Derived.Test.YtcclhhjcejmepaaGreatZKit
import Derived.Test.YtcclhhjcejmepaaGreatZMat
import Derived.Test.YtcclhhjcejmepaaGreatZMbRep
import Derived.Test.YtcclhhjcejmepaaGreatZPlainM
/- What words of which some are wrong are answered with: the one answer that there is. -/
namespace Go.Proofs.YtcclhhjcejmepaaGreat
open Go.RowKit Fld
set_option linter.unusedVariables false
set_option linter.unusedSimpArgs false

def WeIs (xs:List GF) (k:Nat) (ps:List Int) (ys:List GF) (t:Int) (c:Int) (m:List GF) (zs:List Int):Prop :=
 (¬ (GoodP xs.length ps∧ps.length=ys.length) ∨ t < 0)∧c=2∧m=[]∧zs=[] ∨
 ((GoodP xs.length ps∧ps.length=ys.length)∧0≤t)∧((ps.length:Int) < (k:Int)+2 * t∧c=70∧m=[]∧zs=[] ∨
  (k:Int)+2 * t≤(ps.length:Int)∧(c=0∧WeTells xs k ps ys t.toNat (some m)∧zs=wrS xs ps ys m ∨ c=80∧WeTells xs k ps ys t.toNat none∧m=[]∧zs=[]))
theorem WeIs.one {xs:List GF} {k:Nat} {ps:List Int} {ys:List GF} {t c c':Int} {m m':List GF} {zs zs':List Int} (hn:xs.Nodup) (h:WeIs xs k ps ys t c m zs) (h':WeIs xs k ps ys t c' m' zs'):c=c'∧m=m'∧zs=zs':=by
 have key:((GoodP xs.length ps∧ps.length=ys.length)∧0≤t)→(k:Int)+2 * t≤(ps.length:Int)→∀ o o',WeTells xs k ps ys t.toNat o→WeTells xs k ps ys t.toNat o'→o=o':=fun hg hk o o' h1 h2 =>
  weTells_one hn hg.1.1 (by omega) h1 h2
 rcases h with ⟨h1,rfl,rfl,rfl⟩ | ⟨h1,⟨h2,rfl,rfl,rfl⟩ | ⟨h2,⟨rfl,h3,rfl⟩ | ⟨rfl,h3,rfl,rfl⟩⟩⟩ <;> rcases h' with ⟨g1,rfl,rfl,rfl⟩ | ⟨g1,⟨g2,rfl,rfl,rfl⟩ | ⟨g2,⟨rfl,g3,rfl⟩ | ⟨rfl,g3,rfl,rfl⟩⟩⟩
 all_goals first
  | exact ⟨rfl,rfl,rfl⟩
  | (exfalso;exact h1.elim (fun h=>h g1.1) (fun h=>by have:=g1.2;omega))
  | (exfalso;exact g1.elim (fun h=>h h1.1) (fun h=>by have:=h1.2;omega))
  | omega
  | (cases key h1 h2 _ _ h3 g3;exact ⟨rfl,rfl,rfl⟩)
  | (cases key h1 h2 _ _ h3 g3)
theorem WeAns.is {B:Nat} {xs:List GF} {k:Nat} {ps:List Int} {ys:List GF} {t:Int} {e:Ending} {w':World} (h:WeAns B xs k ps ys t e w'):∃ c m zs v1 v2,e=.returned (.tuple #[v1,v2,.int .i64 c])∧WeIs xs k ps ys t c m zs∧OwnG w' B v1 m∧RdZ w' B v2 zs:=by
 have hnz:RdZ w' B (.slice none 0 0) []:=RdZ.of_own (OwnZ.nil _ _)
 rcases h with ⟨h1,rfl⟩ | ⟨h1,⟨h2,rfl⟩ | ⟨h2,⟨m,v1,v2,rfl,h3,h4,h5⟩ | ⟨rfl,h3⟩⟩⟩
 ·exact ⟨2,[],[],_,_,rfl,.inl ⟨h1,rfl,rfl,rfl⟩,OwnG.nil _ _,hnz⟩
 ·exact ⟨70,[],[],_,_,rfl,.inr ⟨h1,.inl ⟨h2,rfl,rfl,rfl⟩⟩,OwnG.nil _ _,hnz⟩
 ·exact ⟨0,m,_,v1,v2,rfl,.inr ⟨h1,.inr ⟨h2,.inl ⟨rfl,h3,rfl⟩⟩⟩,h4,h5⟩
 ·exact ⟨80,[],[],_,_,rfl,.inr ⟨h1,.inr ⟨h2,.inr ⟨rfl,h3,rfl,rfl⟩⟩⟩,OwnG.nil _ _,hnz⟩
theorem WeIs.len {xs:List GF} {k:Nat} {ps:List Int} {ys:List GF} {t c:Int} {m:List GF} {zs:List Int} (h:WeIs xs k ps ys t c m zs) (hl:ps.length≤100000):zs.length≤100000:=by
 rcases h with ⟨h1,rfl,rfl,rfl⟩ | ⟨h1,⟨h2,rfl,rfl,rfl⟩ | ⟨h2,⟨rfl,h3,rfl⟩ | ⟨rfl,h3,rfl,rfl⟩⟩⟩
 ·exact Nat.zero_le _
 ·exact Nat.zero_le _
 ·have:=h3.2
  omega
 ·exact Nat.zero_le _
end Go.Proofs.YtcclhhjcejmepaaGreat
/- What others tell of a node's share, some of it falsely: plain laws, and where the rows lie. (For chapters 09 and 10.) -/
namespace Go.Proofs.YtcclhhjcejmepaaGreat
open Go.RowKit Fld
set_option linter.unusedVariables false
set_option linter.unusedSimpArgs false

theorem View.one (W:World) (b:GF) {y:Nat} (hy:b.n=y):View (W.alloc (.cells #[.int .u8 (y:Nat)] 5)) W.heap.size 1 (fun i=>[b].getD i 0):=by
 subst hy
 have hh:(W.alloc (.cells #[.int .u8 (b.n:Nat)] 5)).heap[W.heap.size]? = some (.cells #[.int .u8 (b.n:Nat)] 5 (0,0)):=nwA _ _
 refine ⟨by simp,fun j hj=>?_⟩
 obtain rfl:j=0:=by omega
 exact ⟨cOH hh rfl,fOH hh 0⟩
end Go.Proofs.YtcclhhjcejmepaaGreat
/- What Repair answers: the one answer that there is. -/
namespace Go.Proofs.YtcclhhjcejmepaaGreat
open Go.RowKit Fld
set_option linter.unusedVariables false
set_option linter.unusedSimpArgs false

def MbRIs (n d:Nat) (xs:List GF) (to_:Int) (l:List Sy) (t:Int) (c:Int) (m:List GF) (zs:List Int):Prop :=
 ¬ (((0≤to_∧to_ < (n:Int))∧0≤t)∧SyGood n to_ 1 l)∧c=2∧m=[]∧zs=[] ∨
 (((0≤to_∧to_ < (n:Int))∧0≤t)∧SyGood n to_ 1 l)∧WeIs xs d (Sy.nodes l) (ysL l) t c m zs
theorem MbRIs.one {n d:Nat} {xs:List GF} {to_:Int} {l:List Sy} {t c c':Int} {m m':List GF} {zs zs':List Int} (hn:xs.Nodup) (h:MbRIs n d xs to_ l t c m zs) (h':MbRIs n d xs to_ l t c' m' zs'):c=c'∧m=m'∧zs=zs':=by
 rcases h with ⟨h1,rfl,rfl,rfl⟩ | ⟨h1,h2⟩ <;> rcases h' with ⟨g1,rfl,rfl,rfl⟩ | ⟨g1,g2⟩
 ·exact ⟨rfl,rfl,rfl⟩
 ·exact absurd g1 h1
 ·exact absurd h1 g1
 ·exact h2.one hn g2
theorem MbRepIs.is {B n d:Nat} {xs:List GF} {to_:Int} {l:List Sy} {t:Int} {e:Ending} {w':World} (h:MbRepIs B n d xs to_ l t e w'):∃ c m zs v1 v2,e=.returned (.tuple #[v1,v2,.int .i64 c])∧MbRIs n d xs to_ l t c m zs∧OwnG w' B v1 m∧RdZ w' B v2 zs:=by
 have hnz:RdZ w' B (.slice none 0 0) []:=RdZ.of_own (OwnZ.nil _ _)
 rcases h with ⟨h1,rfl⟩ | ⟨h1,h2⟩
 ·exact ⟨2,[],[],_,_,rfl,.inl ⟨h1,rfl,rfl,rfl⟩,OwnG.nil _ _,hnz⟩
 ·obtain ⟨c,m,zs,v1,v2,he,hi,h3,h4⟩:=h2.is
  exact ⟨c,m,zs,v1,v2,he,.inr ⟨h1,hi⟩,h3,h4⟩
theorem MbRIs.len {n d:Nat} {xs:List GF} {to_:Int} {l:List Sy} {t c:Int} {m:List GF} {zs:List Int} (h:MbRIs n d xs to_ l t c m zs) (hl:l.length≤100000):zs.length≤100000:=by
 rcases h with ⟨h1,rfl,rfl,rfl⟩ | ⟨h1,h2⟩
 ·exact Nat.zero_le _
 ·exact h2.len (by rw [Sy.nodes,List.length_map];exact hl)
end Go.Proofs.YtcclhhjcejmepaaGreat
