/-
  Rows of numbers that are written; the reference's next.
  The message that is looked for through all rising rows: the plain laws.
  Rows of ints that are read.
  What words that are wrong are answered with.
-/
import Derived.Test.YtnjbkfeihbcalaaGreatZPlains
import Derived.Test.YtnjbkfeihbcalaaGreatZKit
/- Rows of numbers that are written; the reference's next. -/
namespace Go.Proofs.YtnjbkfeihbcalaaGreat
open Go.RowKit Fld
set_option linter.unusedVariables false
set_option linter.unusedSimpArgs false

def ViewZ (w:World) (b N:Nat) (g:Nat→Nat):Prop:=b < w.heap.size∧∀ j,j < N→w.cell? ⟨b,j,none⟩=some (.int .i64 ((g j:Nat):Int))∧w.frozen? ⟨b,j,none⟩=false
theorem ViewZ.kp {S:List Nat} {w w':World} {b N:Nat} {g:Nat→Nat} (h:ViewZ w b N g) (hk:Kp S w w') (hn:b ∉ S):ViewZ w' b N g :=
 ⟨Nat.lt_of_lt_of_le h.1 hk.size,fun j hj=>⟨(hk.cell (p:=⟨b,j,none⟩) h.1 hn).trans (h.2 j hj).1,(hk.frozen (p:=⟨b,j,none⟩) h.1 hn).trans (h.2 j hj).2⟩⟩
theorem ViewZ.below {w w':World} {b N:Nat} {g:Nat→Nat} (h:ViewZ w b N g) (hb:Below w.heap.size w w'):ViewZ w' b N g:=h.kp (S:=[]) (Kp.of_below hb) (by simp)
theorem ViewZ.congr {w:World} {b N:Nat} {g g':Nat→Nat} (h:ViewZ w b N g) (e:∀ j,j < N→g j=g' j):ViewZ w b N g':=⟨h.1,fun j hj=>by rw [← e j hj];exact h.2 j hj⟩
theorem ViewZ.set {w:World} {b N:Nat} {g:Nat→Nat} (h:ViewZ w b N g) {i:Nat} (hi:i < N) (x:Nat):ViewZ (w.setCell ⟨b,i,none⟩ (.int .i64 (x:Int))) b N (fun j=>if j=i then x else g j):=by
 refine ⟨by simpa [World.setCell] using h.1,fun j hj=>?_⟩
 by_cases e:j=i
 ·subst e
  dsimp only
  rw [if_pos rfl]
  exact ⟨World.cell?_setCell_same _ _ _ (h.2 j hj).1,by rw [World.frozen?_setCell];exact (h.2 j hj).2⟩
 ·dsimp only
  rw [if_neg e]
  exact ⟨(World.cell?_setCell_other _ ⟨b,i,none⟩ ⟨b,j,none⟩ _ (by simp <;> omega)).trans (h.2 j hj).1,by rw [World.frozen?_setCell];exact (h.2 j hj).2⟩
theorem ViewZ.rd {w:World} {b N cap:Nat} {g:Nat→Nat} (h:ViewZ w b N g) (hc:N≤cap):IRd w (.slice (some ⟨b,0,none⟩) N cap) (rowN N g):=by
 have:=IRd.mk (w:=w) (b:=b) (o:=0) (cap:=cap) (l:=rowN N g) (by rw [rowN_len];exact hc) h.1 fun i x hi=>by
  have hiN:i < N:=by
   have:=(List.getElem?_eq_some_iff.1 hi).1
   rwa [rowN_len] at this
  rw [rowN_get hiN] at hi
  cases hi
  rw [Nat.zero_add]
  exact (h.2 i hiN).1
 rwa [rowN_len] at this
theorem OwnZ.view {w:World} {B k:Nat} {v:Value} {g:Nat→Nat} (h:OwnZ w B v (rowN k g)) (hk:0 < k):∃ b cap,v=.slice (some ⟨b,0,none⟩) k cap∧B≤b∧k≤cap∧ViewZ w b k g:=by
 have hl:(rowN k g).length=k:=rowN_len k g
 unfold OwnZ at h
 rw [hl] at h
 rcases h.2 with ⟨_,h2⟩ | ⟨b,cap,cur,rfl,h2,h3,h4,h5,h6,h7⟩
 ·omega
 ·refine ⟨b,cap,rfl,h2,h4,lt_of_heap h3,fun j hj=>⟨?_,by simp [World.frozen?,h3]⟩⟩
  have:=h.cells (g:=b) rfl j (.int .i64 ((g j:Nat):Int)) (by rw [List.getElem?_map,rowN_get hj];rfl)
  have e:(⟨b,0,none⟩:Addr).add j=⟨b,j,none⟩:=by unfold Addr.add;split <;> simp_all
  rwa [e] at this
end Go.Proofs.YtnjbkfeihbcalaaGreat
/- The message that is looked for through all rising rows: the plain laws. -/
namespace Go.Proofs.YtnjbkfeihbcalaaGreat
open Go.RowKit Fld
set_option linter.unusedVariables false
set_option linter.unusedSimpArgs false

section
variable {xs ys:List GF} {ps:List Int} {k t:Nat}
end
end Go.Proofs.YtnjbkfeihbcalaaGreat
/- Rows of ints that are read. -/
namespace Go.Proofs.YtnjbkfeihbcalaaGreat
open Go.RowKit Fld Go.Shelf Go.Sort
set_option linter.unusedVariables false
set_option linter.unusedSimpArgs false

structure RdZ (w:World) (B:Nat) (v:Value) (l:List Int):Prop where
 rd:IRd w v l
 lo:∀ k,v.ownBlock=some k→B≤k∧k < w.heap.size
theorem RdZ.kp {S:List Nat} {w w':World} {B:Nat} {v:Value} {l:List Int} (h:RdZ w B v l) (hk:Kp S w w') (hS:∀ x ∈ S,x < B):RdZ w' B v l :=
 ⟨IRd.kp h.rd hk fun k hk' hm=>by have:=(h.lo k hk').1;have:=hS k hm;omega,fun k hk'=>⟨(h.lo k hk').1,Nat.lt_of_lt_of_le (h.lo k hk').2 hk.size⟩⟩
theorem RdZ.below {w w':World} {B:Nat} {v:Value} {l:List Int} (h:RdZ w B v l) (hb:Go.RowKit.Below w.heap.size w w'):RdZ w' B v l:=h.kp (S:=[]) (Kp.of_below hb) (by simp)
theorem RdZ.mono {w:World} {B B':Nat} {v:Value} {l:List Int} (h:RdZ w B v l) (hb:B'≤B):RdZ w B' v l:=⟨h.rd,fun k hk=>⟨Nat.le_trans hb (h.lo k hk).1,(h.lo k hk).2⟩⟩
theorem RdZ.of_own {w:World} {B:Nat} {v:Value} {l:List Int} (h:OwnZ w B v l):RdZ w B v l:=⟨h.rd,fun k hk=>⟨(h.lt k hk).1,(h.lt k hk).2⟩⟩
theorem RdZ.nil (w:World) (B:Nat):RdZ w B (.slice none 0 0) []:=RdZ.of_own (OwnZ.nil w B)
end Go.Proofs.YtnjbkfeihbcalaaGreat
/- What words that are wrong are answered with. -/
namespace Go.Proofs.YtnjbkfeihbcalaaGreat
open Go.RowKit Fld
set_option linter.unusedVariables false
set_option linter.unusedSimpArgs false

theorem rowN_succ (J:Nat) (l:Nat→Nat):rowN (J+1) l=rowN J l ++ [((l J:Nat):Int)]:=by simp [rowN,List.range_succ]
end Go.Proofs.YtnjbkfeihbcalaaGreat
