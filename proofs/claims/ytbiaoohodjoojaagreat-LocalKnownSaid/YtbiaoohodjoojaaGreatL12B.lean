/-
  What shares are answered with: the one answer that there is.
  Rows of nodes' bytes that read alike are answered alike.
-/
import Derived.Test.YtbiaoohodjoojaaGreatLocDG
import Derived.Test.YtbiaoohodjoojaaGreatR12B
import Derived.Test.YtbiaoohodjoojaaGreatNearG
/- What shares are answered with: the one answer that there is. -/
namespace Go.Proofs.YtbiaoohodjoojaaGreat
open Go.RowKit Fld
set_option linter.unusedVariables false
set_option linter.unusedSimpArgs false

def LDecIs (xs:List GF) (n r d:Nat) (l:List Sy) (t:Int) (c:Int) (m:List GF) (zs:List Int):Prop :=
 (t < 0 ∨ ¬ SyGood n (-1) 1 l)∧c=2∧m=[]∧zs=[] ∨
 (0≤t∧SyGood n (-1) 1 l)∧((l.length:Int) < ((d * (r+1) - 1:Nat):Int)+2 * t∧c=70∧m=[]∧zs=[] ∨
  ((d * (r+1) - 1:Nat):Int)+2 * t≤(l.length:Int)∧(c=0∧LTell xs r d (Sy.nodes l) (ysL l) t.toNat (some m)∧zs=wrS xs (Sy.nodes l) (ysL l) (polyL r d m) ∨
   c=80∧LTell xs r d (Sy.nodes l) (ysL l) t.toNat none∧m=[]∧zs=[]))
theorem nodes_len' (l:List Sy):(Sy.nodes l).length=l.length:=by simp [Sy.nodes]
theorem LDecIs.one {xs:List GF} {n r d:Nat} {l:List Sy} {t c c':Int} {m m':List GF} {zs zs':List Int} (hr:0 < r) (hx:xs.length=n) (hn:xs.Nodup) (h:LDecIs xs n r d l t c m zs) (h':LDecIs xs n r d l t c' m' zs'):c=c'∧m=m'∧zs=zs':=by
 have key:(0≤t∧SyGood n (-1) 1 l)→((d * (r+1) - 1:Nat):Int)+2 * t≤(l.length:Int)→∀ o o',LTell xs r d (Sy.nodes l) (ysL l) t.toNat o→LTell xs r d (Sy.nodes l) (ysL l) t.toNat o'→o=o':=fun hg hk o o' h1 h2 =>
  LTell.one hr hn (by rw [hx];exact hg.2.1) (by rw [nodes_len'];omega) h1 h2
 rcases h with ⟨h1,rfl,rfl,rfl⟩ | ⟨h1,⟨h2,rfl,rfl,rfl⟩ | ⟨h2,⟨rfl,h3,rfl⟩ | ⟨rfl,h3,rfl,rfl⟩⟩⟩ <;> rcases h' with ⟨g1,rfl,rfl,rfl⟩ | ⟨g1,⟨g2,rfl,rfl,rfl⟩ | ⟨g2,⟨rfl,g3,rfl⟩ | ⟨rfl,g3,rfl,rfl⟩⟩⟩
 all_goals first
  | exact ⟨rfl,rfl,rfl⟩
  | (exfalso;exact h1.elim (fun h=>by have:=g1.1;omega) (fun h=>h g1.2))
  | (exfalso;exact g1.elim (fun h=>by have:=h1.1;omega) (fun h=>h h1.2))
  | omega
  | (cases key h1 h2 _ _ h3 g3;exact ⟨rfl,rfl,rfl⟩)
  | (cases key h1 h2 _ _ h3 g3)
theorem LDecAns.is {B:Nat} {xs:List GF} {n r d:Nat} {l:List Sy} {t:Int} {e:Ending} {w':World} (h:LDecAns B xs n r d l t e w'):∃ c m zs v1 v2,e=.returned (.tuple #[v1,v2,.int .i64 c])∧LDecIs xs n r d l t c m zs∧OwnG w' B v1 m∧RdZ w' B v2 zs:=by
 have hnz:RdZ w' B (.slice none 0 0) []:=RdZ.of_own (OwnZ.nil _ _)
 rcases h with ⟨h1,rfl⟩ | ⟨h1,⟨h2,rfl⟩ | ⟨h2,⟨m,v1,v2,rfl,h3,h4,h5⟩ | ⟨rfl,h3⟩⟩⟩
 ·exact ⟨2,[],[],_,_,rfl,.inl ⟨h1,rfl,rfl,rfl⟩,OwnG.nil _ _,hnz⟩
 ·exact ⟨70,[],[],_,_,rfl,.inr ⟨h1,.inl ⟨h2,rfl,rfl,rfl⟩⟩,OwnG.nil _ _,hnz⟩
 ·exact ⟨0,m,_,v1,v2,rfl,.inr ⟨h1,.inr ⟨h2,.inl ⟨rfl,h3,rfl⟩⟩⟩,h4,h5⟩
 ·exact ⟨80,[],[],_,_,rfl,.inr ⟨h1,.inr ⟨h2,.inr ⟨rfl,h3,rfl,rfl⟩⟩⟩,OwnG.nil _ _,hnz⟩
theorem RDecAns12.is {B:Nat} {xs:List GF} {n r d:Nat} {l:List Sy} {t:Int} {e:Ending} {w':World} (h:RDecAns12 B xs n r d l t e w'):∃ c m zs v1 v2,e=.returned (.tuple #[v1,v2,.int .i64 c])∧LDecIs xs n r d l t c m zs∧(GRd w' v1 m∧∀ b,v1.ownBlock=some b→B≤b)∧RdZ w' B v2 zs:=by
 have hnz:RdZ w' B (.slice none 0 0) []:=RdZ.of_own (OwnZ.nil _ _)
 rcases h with ⟨h1,rfl⟩ | ⟨h1,⟨h2,rfl⟩ | ⟨h2,⟨m,v1,v2,rfl,h3,h4,h5⟩ | ⟨rfl,h3⟩⟩⟩
 ·exact ⟨2,[],[],_,_,rfl,.inl ⟨h1,rfl,rfl,rfl⟩,⟨(OwnG.nil _ 0).rd,fun b hb=>by simp [Value.ownBlock] at hb⟩,hnz⟩
 ·exact ⟨70,[],[],_,_,rfl,.inr ⟨h1,.inl ⟨h2,rfl,rfl,rfl⟩⟩,⟨(OwnG.nil _ 0).rd,fun b hb=>by simp [Value.ownBlock] at hb⟩,hnz⟩
 ·exact ⟨0,m,_,v1,v2,rfl,.inr ⟨h1,.inr ⟨h2,.inl ⟨rfl,h3,rfl⟩⟩⟩,h4,h5⟩
 ·exact ⟨80,[],[],_,_,rfl,.inr ⟨h1,.inr ⟨h2,.inr ⟨rfl,h3,rfl,rfl⟩⟩⟩,⟨(OwnG.nil _ 0).rd,fun b hb=>by simp [Value.ownBlock] at hb⟩,hnz⟩
theorem LDecIs.len {xs:List GF} {n r d:Nat} {l:List Sy} {t c:Int} {m:List GF} {zs:List Int} (h:LDecIs xs n r d l t c m zs) (hl:l.length≤100000):zs.length≤100000:=by
 rcases h with ⟨h1,rfl,rfl,rfl⟩ | ⟨h1,⟨h2,rfl,rfl,rfl⟩ | ⟨h2,⟨rfl,h3,rfl⟩ | ⟨rfl,h3,rfl,rfl⟩⟩⟩
 ·exact Nat.zero_le _
 ·exact Nat.zero_le _
 ·have:=h3.2
  omega
 ·exact Nat.zero_le _
end Go.Proofs.YtbiaoohodjoojaaGreat
/- Rows of nodes' bytes that read alike are answered alike. -/
namespace Go.Proofs.YtbiaoohodjoojaaGreat
open Go.RowKit Fld
set_option linter.unusedVariables false
set_option linter.unusedSimpArgs false

def Sy.sk (s:Sy):Sy:=⟨s.node,none,0,s.d⟩
theorem map_sk {l l':List Sy} (h1:Sy.nodes l'=Sy.nodes l) (h2:l'.map Sy.d=l.map Sy.d):l'.map Sy.sk=l.map Sy.sk:=by
 refine List.ext_getElem? fun i=>?_
 have e1:=congrArg (·[i]?) h1
 have e2:=congrArg (·[i]?) h2
 simp only [Sy.nodes,List.getElem?_map] at e1 e2
 rw [List.getElem?_map,List.getElem?_map]
 cases h:l'[i]? <;> cases g:l[i]? <;> rw [h,g] at e1 e2 <;> simp at e1 e2 <;> simp [Sy.sk,e1,e2]
theorem sk_nodes (l:List Sy):Sy.nodes (l.map Sy.sk)=Sy.nodes l:=by simp [Sy.nodes,Sy.sk,Function.comp_def]
theorem sk_ysL (l:List Sy):ysL (l.map Sy.sk)=ysL l:=by simp [ysL,Sy.sk,Function.comp_def]
theorem sk_atL (xs:List GF) (l:List Sy):atL xs (l.map Sy.sk)=atL xs l:=by simp [atL,Sy.sk,Function.comp_def]
theorem sk_len (l:List Sy):(l.map Sy.sk).length=l.length:=by simp
theorem sk_good {N:Nat} {not:Int} {sz:Nat} {l:List Sy}:SyGood N not sz (l.map Sy.sk)↔SyGood N not sz l:=by
 unfold SyGood
 rw [sk_nodes]
 refine and_congr_right fun _=>⟨fun h s hs=>h (Sy.sk s) (List.mem_map.2 ⟨s,hs,rfl⟩),fun h s hs=>?_⟩
 obtain ⟨t,ht,rfl⟩:=List.mem_map.1 hs
 exact h t ht
theorem sk_nearL (r t:Nat) (l:List Sy):nearL r t (l.map Sy.sk)=(nearL r t l).map Sy.sk:=by
 unfold nearL
 rw [List.filter_map]
 rfl
theorem sk_near {r t N:Nat} {xs:List GF} {l:List Sy} {b:GF} {c:Int}:NearIs r t N xs (l.map Sy.sk) b c↔NearIs r t N xs l b c:=by
 unfold NearIs
 rw [sk_good,sk_nearL,sk_len,sk_ysL,sk_atL]
theorem sk_nearZ {r N:Nat} {tz:Int} {xs:List GF} {l:List Sy} {b:GF} {c:Int}:NearZ r tz N xs (l.map Sy.sk) b c↔NearZ r tz N xs l b c:=by
 unfold NearZ
 simp only [sk_near]
theorem sk_rep {xs:List GF} {n r d:Nat} {tz t:Int} {l:List Sy} {b:GF} {c:Int}:LRepIs xs n r d tz (l.map Sy.sk) t b c↔LRepIs xs n r d tz l t b c:=by
 unfold LRepIs
 rw [sk_good,sk_len,sk_nodes,sk_ysL]
theorem sk_dec {xs:List GF} {n r d:Nat} {l:List Sy} {t c:Int} {m:List GF} {zs:List Int}:LDecIs xs n r d (l.map Sy.sk) t c m zs↔LDecIs xs n r d l t c m zs:=by
 unfold LDecIs
 rw [sk_good,sk_len,sk_nodes,sk_ysL]
end Go.Proofs.YtbiaoohodjoojaaGreat
