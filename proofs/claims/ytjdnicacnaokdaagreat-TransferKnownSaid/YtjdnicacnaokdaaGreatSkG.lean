/-
  Rows of nodes' bytes that read alike are answered alike (transfer).
  Shares of a message, one byte of one of them another one: the plain law.
-/
import Derived.Test.YtjdnicacnaokdaaGreatTrDec2
import Derived.Test.YtjdnicacnaokdaaGreatTrRepG
import Derived.Test.YtjdnicacnaokdaaGreatToldG
/- Rows of nodes' bytes that read alike are answered alike (transfer). -/
namespace Go.Proofs.YtjdnicacnaokdaaGreat
open Go.RowKit Fld
set_option linter.unusedVariables false
set_option linter.unusedSimpArgs false

def Sy.sk (s:Sy):Sy:=⟨s.node,none,0,s.d⟩
theorem map_sk {l l':List Sy} (h1:Sy.nodes l'=Sy.nodes l) (h2:l'.map Sy.d=l.map Sy.d):l'.map Sy.sk=l.map Sy.sk:=by
 refine List.ext_getElem? fun i=>?_
 have e1:=congrArg (·[i]?) h1
 have e2:=congrArg (·[i]?) h2
 simp only [Sy.nodes,List.getElem?_map] at e1 e2
 rw [List.getElem?_map,List.getElem?_map]
 cases h:l'[i]? <;> cases g:l[i]? <;> rw [h,g] at e1 e2 <;> simp at e1 e2 <;> simp [Sy.sk,e1,e2]
theorem sk_nodes (l:List Sy):Sy.nodes (l.map Sy.sk)=Sy.nodes l:=by simp [Sy.nodes,Sy.sk,Function.comp_def]
theorem sk_len (l:List Sy):(l.map Sy.sk).length=l.length:=by simp
theorem sk_all {P:Sy→Prop} (hP:∀ s,P (Sy.sk s)↔P s) {l:List Sy}:(∀ s ∈ l.map Sy.sk,P s)↔∀ s ∈ l,P s:=by
 constructor
 ·exact fun h s hs=>(hP s).1 (h _ (List.mem_map.2 ⟨s,hs,rfl⟩))
 ·intro h s hs
  obtain ⟨t,ht,rfl⟩:=List.mem_map.1 hs
  exact (hP t).2 (h t ht)
theorem sk_ex {P:Sy→Prop} (hP:∀ s,P (Sy.sk s)↔P s) {l:List Sy}:(∃ s,s ∈ l.map Sy.sk∧P s)↔∃ s,s ∈ l∧P s:=by
 constructor
 ·rintro ⟨s,hs,h⟩
  obtain ⟨t,ht,rfl⟩:=List.mem_map.1 hs
  exact ⟨t,ht,(hP t).1 h⟩
 ·rintro ⟨s,hs,h⟩
  exact ⟨_,List.mem_map.2 ⟨s,hs,rfl⟩,(hP s).2 h⟩
theorem sk_good {N:Nat} {not:Int} {sz:Nat} {l:List Sy}:SyGood N not sz (l.map Sy.sk)↔SyGood N not sz l:=by
 unfold SyGood
 rw [sk_nodes]
 exact and_congr_right fun _=>sk_all (fun s=>Iff.rfl)
theorem sk_tell {n B:Nat} {xs:List GF} {l:List Sy} {o:Option (List GF)}:TrTell n B xs (l.map Sy.sk) o↔TrTell n B xs l o:=by
 cases o with
 | some m=>exact and_congr_right fun _=>sk_all (fun s=>Iff.rfl)
 | none=>exact forall_congr' fun m=>imp_congr_right fun _=>not_congr (sk_all (fun s=>Iff.rfl))
theorem sk_trep {n:Nat} {to_:Int} {l:List Sy} {o:List GF} {c:Int}:TrRepIs n to_ (l.map Sy.sk) o c↔TrRepIs n to_ l o c:=by
 unfold TrRepIs
 rw [sk_good,sk_len]
 refine or_congr Iff.rfl (and_congr_right fun _=>or_congr Iff.rfl (and_congr_right fun _=>and_congr_right fun _=>and_congr_right fun _=>forall_congr' fun p=>imp_congr_right fun _=>?_))
 exact sk_ex (fun s=>Iff.rfl)
def TrDecIs (n k:Nat) (xs:List GF) (l:List Sy) (c:Int) (m:List GF):Prop :=
 ¬ SyGood n (-1) (n - 1) l∧c=2∧m=[] ∨
 SyGood n (-1) (n - 1) l∧(l.length < k∧c=70∧m=[] ∨ k≤l.length∧(c=0∧TrTell n (trB n k) xs l (some m) ∨ c=80∧m=[]∧TrTell n (trB n k) xs l none))
theorem sk_trdec {n k:Nat} {xs:List GF} {l:List Sy} {c:Int} {m:List GF}:TrDecIs n k xs (l.map Sy.sk) c m↔TrDecIs n k xs l c m:=by
 unfold TrDecIs
 rw [sk_good,sk_len,sk_tell,sk_tell]
theorem TrDecIs.one {n k:Nat} {xs:List GF} {l:List Sy} {c c':Int} {m m':List GF} (hx:xs.Nodup) (hxl:xs.length=eN n) (h:TrDecIs n k xs l c m) (h':TrDecIs n k xs l c' m'):c=c'∧m=m':=by
 have key:SyGood n (-1) (n - 1) l→k≤l.length→∀ o o',TrTell n (trB n k) xs l o→TrTell n (trB n k) xs l o'→o=o':=fun hg hk o o' h1 h2=>TrTell.one hx hxl hg.1 hk h1 h2
 rcases h with ⟨h1,rfl,rfl⟩ | ⟨h1,⟨h2,rfl,rfl⟩ | ⟨h2,⟨rfl,h3⟩ | ⟨rfl,rfl,h3⟩⟩⟩ <;> rcases h' with ⟨g1,rfl,rfl⟩ | ⟨g1,⟨g2,rfl,rfl⟩ | ⟨g2,⟨rfl,g3⟩ | ⟨rfl,rfl,g3⟩⟩⟩
 all_goals first
  | exact ⟨rfl,rfl⟩
  | (exfalso;exact h1 g1)
  | (exfalso;exact g1 h1)
  | omega
  | (cases key h1 h2 _ _ h3 g3;exact ⟨rfl,rfl⟩)
  | (cases key h1 h2 _ _ h3 g3)
theorem TrDecAns.is {B:Nat} {xs:List GF} {n k:Nat} {l:List Sy} {e:Ending} {w':World} (h:TrDecAns B xs n k l e w'):∃ c m v,e=.returned (.tuple #[v,.int .i64 c])∧TrDecIs n k xs l c m∧GRd w' v m∧∀ b,v.ownBlock=some b→B≤b:=by
 have hnil:GRd w' (.slice none 0 0) []∧∀ b,(Value.slice none 0 0).ownBlock=some b→B≤b:=⟨(OwnG.nil _ 0).rd,fun b hb=>by simp [Value.ownBlock] at hb⟩
 rcases h with ⟨h1,rfl⟩ | ⟨h1,⟨h2,rfl⟩ | ⟨h2,⟨m,v,rfl,h3,h4,h5⟩ | ⟨rfl,h3⟩⟩⟩
 ·exact ⟨2,[],_,rfl,.inl ⟨h1,rfl,rfl⟩,hnil⟩
 ·exact ⟨70,[],_,rfl,.inr ⟨h1,.inl ⟨h2,rfl,rfl⟩⟩,hnil⟩
 ·exact ⟨0,m,v,rfl,.inr ⟨h1,.inr ⟨h2,.inl ⟨rfl,h3⟩⟩⟩,h4,h5⟩
 ·exact ⟨80,[],_,rfl,.inr ⟨h1,.inr ⟨h2,.inr ⟨rfl,rfl,h3⟩⟩⟩,hnil⟩
end Go.Proofs.YtjdnicacnaokdaaGreat
/- Shares of a message, one byte of one of them another one: the plain law. -/
namespace Go.Proofs.YtjdnicacnaokdaaGreat
open Go.RowKit Fld
set_option linter.unusedVariables false
set_option linter.unusedSimpArgs false

theorem told_tr {n k:Nat} {xs M:List GF} {l:List Sy} {zs:List Int} (hn:1≤n) (hM:M.length=trB n k) (h:ToldIs ((List.range n).map (trSh n xs M)) 0 l zs):SyGood n (-1) (n - 1) l∧TrTell n (trB n k) xs l (some M):=by
 have hg:=h.good
 rw [List.length_map,List.length_range] at hg
 have hz:zs=[]:=List.eq_nil_of_length_eq_zero (Nat.le_zero.1 h.few)
 have hd:∀ s ∈ l,s.d=trSh n xs M s.node.toNat:=fun s hs=>by
  have h1:=hg.1 _ (List.mem_map.2 ⟨s,hs,rfl⟩)
  have h2:s.d=((List.range n).map (trSh n xs M)).getD s.node.toNat []:=Classical.byContradiction fun hne=>by
   have:=(h.mem s.node).2 ⟨s,hs,rfl,hne⟩
   rw [hz] at this
   cases this
  rw [h2,List.getD_eq_getElem?_getD,List.getElem?_map,List.getElem?_range (by omega)]
  rfl
 refine ⟨⟨hg,fun s hs=>⟨fun e=>?_,by rw [hd s hs,trSh_len]⟩⟩,hM,hd⟩
 have h1:=hg.1 _ (List.mem_map.2 ⟨s,hs,rfl⟩)
 omega
theorem nodes_set {l:List Sy} {r:Nat} {s:Sy} (hs:l[r]? = some s) (a:Option Addr) (c:Nat) (d:List GF):Sy.nodes (l.set r ⟨s.node,a,c,d⟩)=Sy.nodes l:=by
 refine List.ext_getElem? fun i=>?_
 rw [Sy.nodes,Sy.nodes,List.getElem?_map,List.getElem?_map,List.getElem?_set]
 split
 ·rename_i e
  subst e
  have:=(List.getElem?_eq_some_iff.1 hs).1
  rw [if_pos this,hs]
  rfl
 ·rfl
theorem set_mem {l:List Sy} {r:Nat} {t s:Sy} (h:t ∈ l.set r s):t=s ∨ t ∈ l:=by
 rcases List.mem_or_eq_of_mem_set h with h | h
 ·exact .inr h
 ·exact .inl h
theorem good_set {n:Nat} {not:Int} {sz r:Nat} {l:List Sy} {s:Sy} (hg:SyGood n not sz l) (hs:l[r]? = some s) (a:Option Addr) (c:Nat) {d:List GF} (hd:d.length=s.d.length):SyGood n not sz (l.set r ⟨s.node,a,c,d⟩):=by
 refine ⟨by rw [nodes_set hs];exact hg.1,fun t ht=>?_⟩
 rcases set_mem ht with rfl | ht
 ·have:=hg.2 s (List.mem_of_getElem? hs)
  exact ⟨this.1,by rw [hd];exact this.2⟩
 ·exact hg.2 t ht
theorem set_same {d:List GF} {p:Nat} {y:GF} (hy:d.getD p 0=y) (hp:p < d.length):d.set p y=d:=by
 refine List.ext_getElem? fun i=>?_
 rw [List.getElem?_set]
 split
 ·rename_i e
  subst e
  rw [List.getD_eq_getElem?_getD,List.getElem?_eq_getElem hp] at hy
  rw [List.getElem?_eq_getElem hp]
  exact congrArg some hy.symm
 ·rfl
theorem set_other {d:List GF} {p:Nat} {y:GF} (hy:y ≠ d.getD p 0) (hp:p < d.length):d.set p y ≠ d:=fun e=>by
 have:=congrArg (fun l=>l.getD p 0) e
 simp only [List.getD_eq_getElem?_getD,List.getElem?_set,if_pos hp] at this
 simp at this
 exact hy (by rw [List.getD_eq_getElem?_getD];simpa using this)
theorem tell_other {n k r p:Nat} {xs M b:List GF} {l:List Sy} {s:Sy} {a:Option Addr} {cp:Nat} {y:GF} {c:Int} (hx:xs.Nodup) (hxl:xs.length=eN n) (hg:SyGood n (-1) (n - 1) l) (hM:TrTell n (trB n k) xs l (some M)) (hs:l[r]? = some s) (hp:p < n - 1) (hy:y ≠ s.d.getD p 0) (hk:k≤l.length) (h:TrDecIs n k xs (l.set r ⟨s.node,a,cp,s.d.set p y⟩) c b):c=80 ∨ c=0∧l.length=k∧b ≠ M:=by
 have hsl:=(hg.2 s (List.mem_of_getElem? hs)).2
 have hg':SyGood n (-1) (n - 1) (l.set r ⟨s.node,a,cp,s.d.set p y⟩):=good_set hg hs a cp (by rw [List.length_set])
 have hr:=(List.getElem?_eq_some_iff.1 hs).1
 rcases h with ⟨h1,-,-⟩ | ⟨-,⟨h2,-,-⟩ | ⟨-,⟨rfl,h3⟩ | ⟨rfl,-,-⟩⟩⟩
 ·exact absurd hg' h1
 ·rw [List.length_set] at h2;omega
 ·have hbM:b ≠ M:=by
   rintro rfl
   have e1:=h3.2 ⟨s.node,a,cp,s.d.set p y⟩ (List.mem_of_getElem? (i:=r) (by rw [List.getElem?_set,if_pos rfl,if_pos hr]))
   exact set_other hy (by omega) (e1.trans (hM.2 s (List.mem_of_getElem? hs)).symm)
  refine .inr ⟨rfl,?_,hbM⟩
  by_cases hlk:l.length=k
  ·exact hlk
  ·exfalso
   have hmem:∀ t ∈ l.eraseIdx r,∃ i,i ≠ r∧l[i]? = some t:=fun t ht=>List.mem_eraseIdx_iff_getElem?.1 ht
   have hge:GoodP n (Sy.nodes (l.eraseIdx r)):=by
    have hsub:(Sy.nodes (l.eraseIdx r)).Sublist (Sy.nodes l):=(List.eraseIdx_sublist l r).map Sy.node
    exact ⟨fun x hx=>hg.1.1 x (hsub.subset hx),hg.1.2.sublist hsub⟩
   have hke:k≤(l.eraseIdx r).length:=by rw [List.length_eraseIdx,if_pos hr];omega
   have t1:TrTell n (trB n k) xs (l.eraseIdx r) (some M):=⟨hM.1,fun t ht=>by
    obtain ⟨i,hi,ht⟩:=hmem t ht
    exact hM.2 t (List.mem_of_getElem? ht)⟩
   have t2:TrTell n (trB n k) xs (l.eraseIdx r) (some b):=⟨h3.1,fun t ht=>by
    obtain ⟨i,hi,ht⟩:=hmem t ht
    exact h3.2 t (List.mem_of_getElem? (i:=i) (by rw [List.getElem?_set,if_neg (fun e=>hi e.symm)];exact ht))⟩
   exact hbM (Option.some.inj (TrTell.one hx hxl hge hke t2 t1))
 ·exact .inl rfl
theorem tell_same {n k r p:Nat} {xs:List GF} {l:List Sy} {s:Sy} {y:GF} {c:Int} {b:List GF} (hg:SyGood n (-1) (n - 1) l) (hs:l[r]? = some s) (hp:p < n - 1) (hy:s.d.getD p 0=y) (h:TrDecIs n k xs (l.set r ⟨s.node,s.a,s.cp,s.d.set p y⟩) c b):TrDecIs n k xs l c b:=by
 have hsl:=(hg.2 s (List.mem_of_getElem? hs)).2
 rw [set_same hy (by omega)] at h
 have:l.set r ⟨s.node,s.a,s.cp,s.d⟩=l:=by
  refine List.ext_getElem? fun i=>?_
  rw [List.getElem?_set]
  split
  ·rename_i e
   subst e
   rw [if_pos ((List.getElem?_eq_some_iff.1 hs).1),hs]
  ·rfl
 rwa [this] at h
end Go.Proofs.YtjdnicacnaokdaaGreat
