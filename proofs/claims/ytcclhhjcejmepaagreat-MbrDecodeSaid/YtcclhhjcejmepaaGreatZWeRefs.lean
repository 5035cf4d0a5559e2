/-
  Rows of numbers that are written; the reference's next.
  The message that is looked for through all rising rows: the plain laws.
  Rows of ints that are read.
  What words that are wrong are answered with.
-/
import Derived.Test.YtcclhhjcejmepaaGreatZPlains
import Derived.Test.YtcclhhjcejmepaaGreatZKit
/- Rows of numbers that are written; the reference's next. -/
namespace Go.Proofs.YtcclhhjcejmepaaGreat
open Go.RowKit Fld
set_option linter.unusedVariables false
set_option linter.unusedSimpArgs false

def ViewZ (w:World) (b N:Nat) (g:Nat→Nat):Prop:=b < w.heap.size∧∀ j,j < N→w.cell? ⟨b,j,none⟩=some (.int .i64 ((g j:Nat):Int))∧w.frozen? ⟨b,j,none⟩=false
theorem ViewZ.kp {S:List Nat} {w w':World} {b N:Nat} {g:Nat→Nat} (h:ViewZ w b N g) (hk:Kp S w w') (hn:b ∉ S):ViewZ w' b N g :=
 ⟨Nat.lt_of_lt_of_le h.1 hk.size,fun j hj=>⟨(hk.cell (p:=⟨b,j,none⟩) h.1 hn).trans (h.2 j hj).1,(hk.frozen (p:=⟨b,j,none⟩) h.1 hn).trans (h.2 j hj).2⟩⟩
theorem ViewZ.below {w w':World} {b N:Nat} {g:Nat→Nat} (h:ViewZ w b N g) (hb:Below w.heap.size w w'):ViewZ w' b N g:=h.kp (S:=[]) (Kp.of_below hb) (by simp)
theorem ViewZ.congr {w:World} {b N:Nat} {g g':Nat→Nat} (h:ViewZ w b N g) (e:∀ j,j < N→g j=g' j):ViewZ w b N g':=⟨h.1,fun j hj=>by rw [← e j hj];exact h.2 j hj⟩
theorem ViewZ.set {w:World} {b N:Nat} {g:Nat→Nat} (h:ViewZ w b N g) {i:Nat} (hi:i < N) (x:Nat):ViewZ (w.setCell ⟨b,i,none⟩ (.int .i64 (x:Int))) b N (fun j=>if j=i then x else g j):=by
 refine ⟨by simpa [World.setCell] using h.1,fun j hj=>?_⟩
 by_cases e:j=i
 ·subst e
  dsimp only
  rw [if_pos rfl]
  exact ⟨World.cell?_setCell_same _ _ _ (h.2 j hj).1,by rw [World.frozen?_setCell];exact (h.2 j hj).2⟩
 ·dsimp only
  rw [if_neg e]
  exact ⟨(World.cell?_setCell_other _ ⟨b,i,none⟩ ⟨b,j,none⟩ _ (by simp <;> omega)).trans (h.2 j hj).1,by rw [World.frozen?_setCell];exact (h.2 j hj).2⟩
theorem ViewZ.rd {w:World} {b N cap:Nat} {g:Nat→Nat} (h:ViewZ w b N g) (hc:N≤cap):IRd w (.slice (some ⟨b,0,none⟩) N cap) (rowN N g):=by
 have:=IRd.mk (w:=w) (b:=b) (o:=0) (cap:=cap) (l:=rowN N g) (by rw [rowN_len];exact hc) h.1 fun i x hi=>by
  have hiN:i < N:=by
   have:=(List.getElem?_eq_some_iff.1 hi).1
   rwa [rowN_len] at this
  rw [rowN_get hiN] at hi
  cases hi
  rw [Nat.zero_add]
  exact (h.2 i hiN).1
 rwa [rowN_len] at this
theorem OwnZ.view {w:World} {B k:Nat} {v:Value} {g:Nat→Nat} (h:OwnZ w B v (rowN k g)) (hk:0 < k):∃ b cap,v=.slice (some ⟨b,0,none⟩) k cap∧B≤b∧k≤cap∧ViewZ w b k g:=by
 have hl:(rowN k g).length=k:=rowN_len k g
 unfold OwnZ at h
 rw [hl] at h
 rcases h.2 with ⟨_,h2⟩ | ⟨b,cap,cur,rfl,h2,h3,h4,h5,h6,h7⟩
 ·omega
 ·refine ⟨b,cap,rfl,h2,h4,lOH h3,fun j hj=>⟨?_,by simp [World.frozen?,h3]⟩⟩
  have:=h.cells (g:=b) rfl j (.int .i64 ((g j:Nat):Int)) (by rw [List.getElem?_map,rowN_get hj];rfl)
  have e:(⟨b,0,none⟩:Addr).add j=⟨b,j,none⟩:=by unfold Addr.add;split <;> simp_all
  rwa [e] at this
end Go.Proofs.YtcclhhjcejmepaaGreat
/- The message that is looked for through all rising rows: the plain laws. -/
namespace Go.Proofs.YtcclhhjcejmepaaGreat
open Go.RowKit Fld
set_option linter.unusedVariables false
set_option linter.unusedSimpArgs false

noncomputable def rowP (ps:List Int) (r:Nat→Nat) (J:Nat):List Int:=(List.range J).map fun j=>ps.getD (r j) 0
noncomputable def rowY (ys:List GF) (r:Nat→Nat) (J:Nat):List GF:=rowF (fun j=>ys.getD (r j) 0) J
theorem rowP_len (ps:List Int) (r:Nat→Nat) (J:Nat):(rowP ps r J).length=J:=by simp [rowP]
theorem rowP_succ (ps:List Int) (r:Nat→Nat) (J:Nat):rowP ps r (J+1)=rowP ps r J ++ [ps.getD (r J) 0]:=by simp [rowP,List.range_succ]
theorem rowP_get (ps:List Int) (r:Nat→Nat) {J i:Nat} (h:i < J):(rowP ps r J).getD i 0=ps.getD (r i) 0:=by
 rw [rowP,List.getD_eq_getElem?_getD,List.getElem?_map,List.getElem?_range h]
 rfl
theorem rowP_congr {ps:List Int} {r r':Nat→Nat} {J:Nat} (h:∀ j,j < J→r j=r' j):rowP ps r J=rowP ps r' J:=by
 unfold rowP
 exact List.map_congr_left fun i hi=>by rw [h i (List.mem_range.1 hi)]
theorem rowY_congr {ys:List GF} {r r':Nat→Nat} {J:Nat} (h:∀ j,j < J→r j=r' j):rowY ys r J=rowY ys r' J:=by
 unfold rowY rowF
 exact List.map_congr_left fun i hi=>by rw [h i (List.mem_range.1 hi)]
theorem ris_inj {k n:Nat} {r:Nat→Nat} (h:Ris k n r) {i j:Nat} (hi:i < k) (hj:j < k) (e:r i=r j):i=j:=by
 rcases Nat.lt_trichotomy i j with h1 | h1 | h1
 ·have:=ris_add h i (j - i) (by omega)
  rw [show i+(j - i)=j by omega] at this
  omega
 ·exact h1
 ·have:=ris_add h j (i - j) (by omega)
  rw [show j+(i - j)=i by omega] at this
  omega
section
variable {xs ys:List GF} {ps:List Int} {k t:Nat}
theorem ris_good {N:Nat} {r:Nat→Nat} (hg:GoodP N ps) (h:Ris k ps.length r):GoodP N (rowP ps r k):=by
 refine ⟨fun x hx=>?_,List.pairwise_map.2 (List.nodup_range.imp_of_mem fun {a b} ha hb hne e=>hne ?_)⟩
 ·obtain ⟨j,hj,rfl⟩:=List.mem_map.1 hx
  refine hg.1 _ ?_
  rw [List.getD_eq_getElem?_getD,List.getElem?_eq_getElem (h.1 j (List.mem_range.1 hj))]
  exact List.getElem_mem _
 ·have ha':=List.mem_range.1 ha
  have hb':=List.mem_range.1 hb
  exact ris_inj h ha' hb' (getI_inj hg.2 (h.1 a ha') (h.1 b hb') e)
theorem fits_rowP {r:Nat→Nat} {m:List GF}:Fits xs k (rowP ps r k) (rowY ys r k) m↔m.length=k∧∀ j,j < k→ev m (xs.getD (ps.getD (r j) 0).toNat 0)=ys.getD (r j) 0:=by
 unfold Fits
 rw [rowP_len]
 constructor
 ·rintro ⟨h1,h2⟩
  refine ⟨h1,fun j hj=>?_⟩
  have:=h2 j hj
  rw [rowP_get _ _ hj,rowY,rowF_get _ hj] at this
  exact this
 ·rintro ⟨h1,h2⟩
  refine ⟨h1,fun j hj=>?_⟩
  rw [rowP_get _ _ hj,rowY,rowF_get _ hj]
  exact h2 j hj
def FailR (xs:List GF) (ps:List Int) (ys:List GF) (k t:Nat) (r:Nat→Nat):Prop:=∀ m,Fits xs k (rowP ps r k) (rowY ys r k) m→¬ (wrS xs ps ys m).length≤t
theorem fail_congr {r r':Nat→Nat} (h:∀ j,j < k→r j=r' j) (hf:FailR xs ps ys k t r'):FailR xs ps ys k t r:=by
 intro m hm
 rw [rowP_congr h,rowY_congr h] at hm
 exact hf m hm
theorem fail_one {r:Nat→Nat} {m:List GF} (hn:xs.Nodup) (hg:GoodP xs.length ps) (h:Ris k ps.length r) (hm:Fits xs k (rowP ps r k) (rowY ys r k) m) (hw:¬ (wrS xs ps ys m).length≤t):FailR xs ps ys k t r:=by
 intro m' hm'
 rw [fits_one hn (ris_good hg h) (by rw [rowP_len];exact Nat.le_refl _) hm' hm]
 exact hw
theorem all_fail (hk:k+t≤ps.length) (h:∀ r,Ris k ps.length r→FailR xs ps ys k t r):WeTells xs k ps ys t none:=by
 intro m hm hw
 have hw':=hw
 rw [wrS_len] at hw'
 obtain ⟨r,hr,hf⟩:=right_ris hw' (by rw [pts_len];exact hk)
 rw [pts_len] at hr
 refine h r hr m (fits_rowP.2 ⟨hm,fun j hj=>?_⟩) hw
 have:=hf j hj
 rwa [pts_get xs (hr.1 j hj)] at this
end
end Go.Proofs.YtcclhhjcejmepaaGreat
/- Rows of ints that are read. -/
namespace Go.Proofs.YtcclhhjcejmepaaGreat
open Go.RowKit Fld Go.Shelf Go.Sort
set_option linter.unusedVariables false
set_option linter.unusedSimpArgs false

structure RdZ (w:World) (B:Nat) (v:Value) (l:List Int):Prop where
 rd:IRd w v l
 lo:∀ k,v.ownBlock=some k→B≤k∧k < w.heap.size
theorem RdZ.kp {S:List Nat} {w w':World} {B:Nat} {v:Value} {l:List Int} (h:RdZ w B v l) (hk:Kp S w w') (hS:∀ x ∈ S,x < B):RdZ w' B v l :=
 ⟨IRd.kp h.rd hk fun k hk' hm=>by have:=(h.lo k hk').1;have:=hS k hm;omega,fun k hk'=>⟨(h.lo k hk').1,Nat.lt_of_lt_of_le (h.lo k hk').2 hk.size⟩⟩
theorem RdZ.below {w w':World} {B:Nat} {v:Value} {l:List Int} (h:RdZ w B v l) (hb:Go.RowKit.Below w.heap.size w w'):RdZ w' B v l:=h.kp (S:=[]) (Kp.of_below hb) (by simp)
theorem RdZ.mono {w:World} {B B':Nat} {v:Value} {l:List Int} (h:RdZ w B v l) (hb:B'≤B):RdZ w B' v l:=⟨h.rd,fun k hk=>⟨Nat.le_trans hb (h.lo k hk).1,(h.lo k hk).2⟩⟩
theorem RdZ.of_own {w:World} {B:Nat} {v:Value} {l:List Int} (h:OwnZ w B v l):RdZ w B v l:=⟨h.rd,fun k hk=>⟨(h.lt k hk).1,(h.lt k hk).2⟩⟩
theorem RdZ.nil (w:World) (B:Nat):RdZ w B (.slice none 0 0) []:=RdZ.of_own (OwnZ.nil w B)
end Go.Proofs.YtcclhhjcejmepaaGreat
/- What words that are wrong are answered with. -/
namespace Go.Proofs.YtcclhhjcejmepaaGreat
open Go.RowKit Fld
set_option linter.unusedVariables false
set_option linter.unusedSimpArgs false

theorem rowN_succ (J:Nat) (l:Nat→Nat):rowN (J+1) l=rowN J l ++ [((l J:Nat):Int)]:=by simp [rowN,List.range_succ]
def WeAns (B:Nat) (xs:List GF) (k:Nat) (ps:List Int) (ys:List GF) (t:Int) (e:Ending) (w':World):Prop :=
 (¬ (GoodP xs.length ps∧ps.length=ys.length) ∨ t < 0)∧e=.returned (.tuple #[.slice none 0 0,.slice none 0 0,.int .i64 2]) ∨
 ((GoodP xs.length ps∧ps.length=ys.length)∧0≤t)∧((ps.length:Int) < (k:Int)+2 * t∧e=.returned (.tuple #[.slice none 0 0,.slice none 0 0,.int .i64 70]) ∨
  (k:Int)+2 * t≤(ps.length:Int)∧((∃ m v1 v2,e=.returned (.tuple #[v1,v2,.int .i64 0])∧WeTells xs k ps ys t.toNat (some m)∧OwnG w' B v1 m∧RdZ w' B v2 (wrS xs ps ys m)) ∨
   e=.returned (.tuple #[.slice none 0 0,.slice none 0 0,.int .i64 80])∧WeTells xs k ps ys t.toNat none))
theorem apart_nil (V:Value):Apart V (Value.slice none 0 0).ownBlock.toList:=fun k _ hm=>by simp [Value.ownBlock] at hm
theorem rowF_map (xs m:List GF):rowF (fun i=>ev m (xs.getD i 0)) xs.length=xs.map (ev m):=by
 refine List.ext_getElem (by simp [rowF]) fun i h1 h2=>?_
 rw [rowF_len] at h1
 simp [rowF,List.getElem?_eq_getElem h1]
end Go.Proofs.YtcclhhjcejmepaaGreat
