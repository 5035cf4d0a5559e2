/-
  The places that are seen.
  Whether a row holds a place that may not be taken.
  What the symbols of a word tell: the one message, or none.
  A word's symbols decoded.
-/
import Derived.Test.YtnjbkfeihbcalaaGreatZAts
import Derived.Test.YtnjbkfeihbcalaaGreatZPM
import Derived.Test.YtnjbkfeihbcalaaGreatZSol
import Derived.Deep.DeepCutAuto
import Derived.Deep.CutBlock
/- The places that are seen. -/
namespace Go.Proofs.YtnjbkfeihbcalaaGreat
open Go.RowKit Fld Go.Shelf
set_option linter.unusedVariables false
set_option linter.unusedSimpArgs false

def badP (N:Nat) (S:Nat→Bool) (i:Int):Bool:=decide (i < 0) || decide ((N:Int)≤i) || S i.toNat
def seeP (N:Nat) (S:Nat→Bool) (i:Int):Nat→Bool:=if badP N S i=true then S else fun j=>if j=i.toNat then true else S j
end Go.Proofs.YtnjbkfeihbcalaaGreat
/- Whether a row holds a place that may not be taken. -/
namespace Go.Proofs.YtnjbkfeihbcalaaGreat
open Go.RowKit Fld Go.Shelf
set_option linter.unusedVariables false
set_option linter.unusedSimpArgs false

def seeL (N:Nat) (S:Nat→Bool) (l:List Int):Nat→Bool:=l.foldl (seeP N) S
def IdxD (N sb:Nat) (S:Nat→Bool) (l:List Int) (w:World) (e:Ending) (w':World):Prop :=
 ∃ r:Int,e=.returned (.int .i64 r)∧Kp [sb] w w'∧((r=-1∧∀ (i:Nat) x,l[i]? = some x→badP N (seeL N S (l.take i)) x=false) ∨ ∃ I:Nat,r=I∧I < l.length∧∀ x,l[I]? = some x→badP N (seeL N S (l.take I)) x=true)
def ConD (N sb:Nat) (S:Nat→Bool) (l:List Int) (w:World) (e:Ending) (w':World):Prop :=
 ∃ b:Bool,e=.returned (.bool b)∧Kp [sb] w w'∧(b=false→∀ (i:Nat) x,l[i]? = some x→badP N (seeL N S (l.take i)) x=false)∧(b=true→∃ (i:Nat) (x:Int),l[i]? = some x∧badP N (seeL N S (l.take i)) x=true)
end Go.Proofs.YtnjbkfeihbcalaaGreat
/- What the symbols of a word tell: the one message, or none. -/
namespace Go.Proofs.YtnjbkfeihbcalaaGreat
open Go.RowKit Fld
set_option linter.unusedVariables false
set_option linter.unusedSimpArgs false

theorem IRd.kp {S:List Nat} {w w':World} {v:Value} {l:List Int} (h:IRd w v l) (hk:Kp S w w') (ha:Apart v S):IRd w' v l:=by
 obtain ⟨a,cap,rfl,h2,h3⟩:=h
 refine ⟨a,cap,rfl,h2,fun hne=>?_⟩
 obtain ⟨b,o,rfl,h5,h6⟩:=h3 hne
 exact ⟨b,o,rfl,Nat.lt_of_lt_of_le h5 hk.size,fun i c hi j u hj=>(hk.cell (p:=⟨b,o+i * 1+j,none⟩) h5 (ha b rfl)).trans (h6 i c hi j u hj)⟩
def GoodP (N:Nat) (l:List Int):Prop:=(∀ x ∈ l,0≤x∧x < (N:Int))∧l.Nodup
theorem good_from (N:Nat):∀ (l:List Int) (S:Nat→Bool),(∀ (i:Nat) x,l[i]? = some x→badP N (seeL N S (l.take i)) x=false)↔(∀ x ∈ l,0≤x∧x < (N:Int)∧S x.toNat=false)∧l.Nodup
 | [],S=>by simp
 | a :: l,S=>by
  have e0:(badP N S a=false)↔0≤a∧a < (N:Int)∧S a.toNat=false:=by
   simp only [badP,Bool.or_eq_false_iff,decide_eq_false_iff_not]
   constructor
   ·rintro ⟨⟨h1,h2⟩,h3⟩;exact ⟨by omega,by omega,h3⟩
   ·rintro ⟨h1,h2,h3⟩;exact ⟨⟨by omega,by omega⟩,h3⟩
  constructor
  ·intro h
   have h0:=h 0 a rfl
   have ha:=e0.1 (by simpa [seeL] using h0)
   have hS:seeP N S a=fun j=>if j=a.toNat then true else S j:=by unfold seeP;rw [if_neg (by rw [e0.2 ha];simp)]
   have ih:=(good_from N l (seeP N S a)).1 fun i x hx=>h (i+1) x (by simpa using hx)
   rw [hS] at ih
   refine ⟨fun x hx=>?_,List.nodup_cons.2 ⟨fun hm=>?_,ih.2⟩⟩
   ·rcases List.mem_cons.1 hx with rfl | hx
    ·exact ha
    ·obtain ⟨h1,h2,h3⟩:=ih.1 x hx
     refine ⟨h1,h2,?_⟩
     simp only [] at h3
     by_cases e:x.toNat=a.toNat
     ·rw [if_pos e] at h3;cases h3
     ·rwa [if_neg e] at h3
   ·obtain ⟨h1,h2,h3⟩:=ih.1 a hm
    simp at h3
  ·rintro ⟨h1,h2⟩ i x hx
   have ha:=h1 a (by simp)
   have hS:seeP N S a=fun j=>if j=a.toNat then true else S j:=by unfold seeP;rw [if_neg (by rw [e0.2 ha];simp)]
   have hn:=List.nodup_cons.1 h2
   cases i with
   | zero =>
    obtain rfl:a=x:=by simpa using hx
    simpa [seeL] using e0.2 ha
   | succ i =>
    have:=(good_from N l (seeP N S a)).2 ⟨fun y hy=>by
     obtain ⟨g1,g2,g3⟩:=h1 y (by simp [hy])
     refine ⟨g1,g2,?_⟩
     rw [hS]
     have hne:y ≠ a:=fun e=>hn.1 (e ▸ hy)
     simp only []
     rw [if_neg (by omega)]
     exact g3,hn.2⟩ i x (by simpa using hx)
    simpa [seeL] using this
theorem good_iff (N:Nat) (l:List Int):(∀ (i:Nat) x,l[i]? = some x→badP N (seeL N (fun _=>false) (l.take i)) x=false)↔GoodP N l:=by
 rw [good_from]
 simp [GoodP]

def ptsOf {F:Type} [Fld F] (xs:List F) (ps:List Int):List F:=ps.map fun p=>xs.getD p.toNat 0
theorem getD_inj {F:Type} [Fld F] {xs:List F} (hn:xs.Nodup) {i j:Nat} (hi:i < xs.length) (hj:j < xs.length) (h:xs.getD i 0=xs.getD j 0):i=j:=by
 rw [List.getD_eq_getElem?_getD,List.getElem?_eq_getElem hi,List.getD_eq_getElem?_getD,List.getElem?_eq_getElem hj] at h
 simp only [Option.getD_some] at h
 rcases Nat.lt_trichotomy i j with e | e | e
 ·exact absurd h (List.pairwise_iff_getElem.1 hn i j hi hj e)
 ·exact e
 ·exact absurd h.symm (List.pairwise_iff_getElem.1 hn j i hj hi e)
theorem pts_nodup {F:Type} [Fld F] {xs:List F} (hn:xs.Nodup) {ps:List Int} (hg:GoodP xs.length ps):(ptsOf xs ps).Nodup:=by
 obtain ⟨h1,h2⟩:=hg
 unfold ptsOf
 refine List.pairwise_map.2 (h2.imp_of_mem fun {a b} ha hb hne e=>hne ?_)
 obtain ⟨a1,a2⟩:=h1 a ha
 obtain ⟨b1,b2⟩:=h1 b hb
 have:=getD_inj hn (i:=a.toNat) (j:=b.toNat) (by omega) (by omega) e
 omega
def Fits {F:Type} [Fld F] (xs:List F) (k:Nat) (ps:List Int) (ys m:List F):Prop:=m.length=k∧∀ i,i < ps.length→ev m (xs.getD (ps.getD i 0).toNat 0)=ys.getD i 0
theorem met_fits {F:Type} [Fld F] {xs:List F} {k:Nat} {ps:List Int} {ys m:List F} (hm:m.length=k) :
  MetS ps.length k 1 (fun i c=>pw (xs.getD (ps.getD i 0).toNat 0) c) (fun i _=>ys.getD i 0) (fun c=>m.getD c 0) (dlt 0)↔Fits xs k ps ys m:=by
 unfold MetS Fits
 have e:∀ i,eqn k 1 (fun i c=>pw (xs.getD (ps.getD i 0).toNat 0) c) (fun i _=>ys.getD i 0) (fun c=>m.getD c 0) (dlt 0) i=0↔ev m (xs.getD (ps.getD i 0).toNat 0)=ys.getD i 0:=by
  intro i
  rw [eqn_iff,sm_dlt (by omega:0 < 1) (fun _=>ys.getD i 0),ev_sm,hm,sm_congr (fun c _=>mulC (pw (xs.getD (ps.getD i 0).toNat 0) c) (m.getD c 0))]
 exact ⟨fun h=>⟨hm,fun i hi=>(e i).1 (h i hi)⟩,fun h i hi=>(e i).2 (h.2 i hi)⟩
theorem getD_rangeMap {F:Type} [Fld F] {k:Nat} (x:Nat→F) {c:Nat} (hc:c < k):((List.range k).map x).getD c 0=x c:=by
 rw [List.getD_eq_getElem?_getD,List.getElem?_map,List.getElem?_range hc]
 rfl
theorem no_kernel {F:Type} [Fld F] {xs:List F} {k:Nat} {ps:List Int} (hn:xs.Nodup) (hg:GoodP xs.length ps) (hk:k≤ps.length) {x:Nat→F} (h:∀ i,i < ps.length→sm k (fun c=>pw (xs.getD (ps.getD i 0).toNat 0) c * x c)=0):∀ c,c < k→x c=0:=by
 have hr:=roots_all (pts_nodup hn hg) (p:=(List.range k).map x) (by simp [ptsOf];omega) fun y hy=>by
  obtain ⟨p,hp,rfl⟩:=List.mem_map.1 hy
  obtain ⟨i,hi,rfl⟩:=List.mem_iff_getElem.1 hp
  have e1:=h i hi
  rw [show ps.getD i 0=ps[i] from by rw [List.getD_eq_getElem?_getD,List.getElem?_eq_getElem hi];rfl] at e1
  rw [ev_sm]
  refine Eq.trans ?_ e1
  simp only [List.length_map,List.length_range,Option.getD_some]
  refine sm_congr fun c hc=>?_
  rw [mulC,getD_rangeMap x hc]
 intro c hc
 exact hr (x c) (List.mem_map.2 ⟨c,List.mem_range.2 hc,rfl⟩)
end Go.Proofs.YtnjbkfeihbcalaaGreat
/- A word's symbols decoded. -/
namespace Go.Proofs.YtnjbkfeihbcalaaGreat
open Go.RowKit Fld Go.Shelf
set_option linter.unusedVariables false
set_option linter.unusedSimpArgs false

def DecPost (fb:Nat) (xs:List GF) (k:Nat) (ps:List Int) (ys:List GF) (w:World) (e:Ending) (w':World):Prop :=
  Kp [fb] w w'∧FOk w' fb ∧
  ((ps.length=ys.length→¬ GoodP xs.length ps)∧e=.returned (.tuple #[.slice none 0 0,.int .i64 2]) ∨
   (ps.length=ys.length∧GoodP xs.length ps)∧(ps.length < k∧e=.returned (.tuple #[.slice none 0 0,.int .i64 70]) ∨
    k≤ps.length∧((∃ g m,e=.returned (.tuple #[.slice (some ⟨g,0,none⟩) k k,.int .i64 0])∧w.heap.size≤g∧View w' g k (fun i=>m.getD i 0)∧Fits xs k ps ys m) ∨
      e=.returned (.tuple #[.slice none 0 0,.int .i64 71])∧∀ m,¬ Fits xs k ps ys m)))
theorem IRd.kp0 {S:List Nat} {w w':World} {v:Value} {l:List Int} (h:IRd w v l) (hk:Kp S w w') (hn:l=[] ∨ Apart v S):IRd w' v l:=by
  rcases hn with rfl | hn
  · obtain ⟨a,cap,h1,h2,h3⟩:=h
    exact ⟨a,cap,h1,h2,fun hne=>absurd rfl hne⟩
  · exact h.kp hk hn
def SolR (n R C:Nat) (A B:Nat→Nat→GF) (sv:Value) (ec:Int) (w':World):Prop :=
  (ec=0∧∃ g X,sv=.slice (some ⟨g,0,none⟩) C C∧n≤g∧View w' g C (fun j=>X j)∧MetS R C 1 A B X (dlt 0)) ∨
   (ec=51∧((∃ x:Nat→GF,(∃ k,k < C∧x k ≠ 0)∧∀ i,i < R→sm C (fun k=>A i k * x k)=0) ∨ ∀ x,¬ MetS R C 1 A B x (dlt 0)))
theorem SolR.kp {n R C:Nat} {A B:Nat→Nat→GF} {sv:Value} {ec:Int} {w w':World} (h:SolR n R C A B sv ec w) {S:List Nat} (hk:Kp S w w') (hS:∀ x ∈ S,x < n) {m:Nat} (hm:m≤n):SolR m R C A B sv ec w':=by
  rcases h with ⟨h1,g,X,h2,h3,h4,h5⟩ | h
  · exact .inl ⟨h1,g,X,h2,by omega,h4.kp hk (fun hx=>by have:=hS g hx;omega),h5⟩
  · exact .inr h
def SolD (fb R C:Nat) (A B:Nat→Nat→GF) (w:World) (e:Ending) (w':World):Prop :=
  ∃ (a b:Nat) (sa:Option Addr) (sn sc:Nat) (ec:Int),e=.returned (.tuple #[.agg #[.int .i64 a,.int .i64 b,.slice sa sn sc],.int .i64 ec])∧Kp [fb] w w'∧FOk w' fb∧SolR w.heap.size R C A B (.slice sa sn sc) ec w'
theorem sold_of {fb R C:Nat} {A B:Nat→Nat→GF} {w:World} {e:Ending} {w':World} (h:SolPost fb R C 1 A B w e w'):SolD fb R C A B w e w':=by
  obtain ⟨h1,h2,h3⟩:=h
  rcases h3 with ⟨g,X,rfl,hg,hv,hm⟩ | ⟨rfl,h4⟩
  · refine ⟨C,1,_,_,_,0,rfl,h1,h2,.inl ⟨rfl,g,fun j=>X j 0,by rw [Nat.mul_one],hg,?_,?_⟩⟩
    · rw [Nat.mul_one] at hv
      exact hv.congr fun j hj=>by have:=flat_at (by omega:0 < 1) X j 0 (by omega);simpa using this
    · refine (hm _ _).2 fun k hk=>?_
      rw [sm_dlt (by omega:0 < 1) (fun l=>X k l)]
  · refine ⟨0,0,_,_,_,51,rfl,h1,h2,.inr ⟨rfl,?_⟩⟩
    rcases h4 with h | ⟨l,hl,h⟩
    · exact .inl h
    · obtain rfl:l=0:=by omega
      exact .inr h
theorem store3_kp (w:World) (b:Nat) (v0 v1 v2:Value):Kp [b] w (((w.setCell ⟨b,0,none⟩ v0).setCell ⟨b,1,none⟩ v1).setCell ⟨b,2,none⟩ v2) :=
  (((Kp.refl _ _).setCell (.inl (by simp)) _).setCell (.inl (by simp)) _).setCell (.inl (by simp)) _
theorem store3_heap {w:World} {b:Nat} {c0 c1 c2:Value} {t:TypeId} (h:w.heap[b]? = some (.cells #[c0,c1,c2] t (0,0))) (v0 v1 v2:Value) :
    (((w.setCell ⟨b,0,none⟩ v0).setCell ⟨b,1,none⟩ v1).setCell ⟨b,2,none⟩ v2).heap[b]? = some (.cells #[v0,v1,v2] t (0,0)) :=
  heap_set_same (heap_set_same (heap_set_same h 0 v0) 1 v1) 2 v2
theorem bool_info:(Tryz.prog.info? 4).map (fun i=>(i.zero,i.size,i.bytes))=some (some (.bool false),1,1):=by kernel_rfl
end Go.Proofs.YtnjbkfeihbcalaaGreat
