/-
  A share of what all others tell: plain laws.
  Is a node among those that tell? A copy of symbols.
  A copy of symbols: slices.Clone.
  The contract of slices.SortFunc at symbols, laid at this dump by the kit's tool.
  slices.SortFunc at symbols, by their nodes.
  A share, of what all others tell: the program's Repair.
-/
import Derived.Test.YtjdnicacnaokdaaGreatTrDecG
import Derived.Test.YtjdnicacnaokdaaGreatSyG
import Derived.Test.YtjdnicacnaokdaaGreatOwnSyG
import Derived.Shelf.SlGeneric
import Derived.Shelf.SlLaysF0
import Derived.Shelf.SlSortCmp.WholeK
import Derived.Shelf.SlSortCmp.NoneTotal
import Derived.Ground.SlgnProg
import Derived.Ground.SlgfProg
import Derived.Ground.SlsfProg
import Derived.Test.YtjdnicacnaokdaaGreatProg
/- A share of what all others tell: plain laws. -/
namespace Go.Proofs.YtjdnicacnaokdaaGreat
open Go.RowKit Fld
set_option linter.unusedVariables false
set_option linter.unusedSimpArgs false

theorem BelowPost.bool {p:Prop} {b:Bool} {w w':World} {e:Ending} (hb:b=true↔p) (h:BelowPost p w e w'):e=.returned (.bool b)∧Below w.heap.size w w':=by
 obtain ⟨c,rfl,h1,h2⟩:=h
 refine ⟨?_,h1⟩
 have:c=b:=by cases c <;> cases b <;> simp_all
 rw [this]
theorem bool_ex (p:Prop):∃ b:Bool,b=true↔p:=⟨@decide p (Classical.propDecidable p),by simp⟩
def TrRepIs (n:Nat) (to_:Int) (l:List Sy) (o:List GF) (c:Int):Prop :=
 ¬ ((0≤to_∧to_ < (n:Int))∧SyGood n to_ 1 l)∧o=[]∧c=2 ∨
 ((0≤to_∧to_ < (n:Int))∧SyGood n to_ 1 l)∧(l.length < n - 1∧o=[]∧c=70 ∨ n - 1≤l.length∧c=0∧o.length=n - 1∧∀ p,p < n - 1→∃ s ∈ l,s.node=(othN to_.toNat p:Int)∧o.getD p 0=s.d.getD 0 0)
theorem node_one {l:List Sy} (h:(Sy.nodes l).Nodup) {s t:Sy} (hs:s ∈ l) (ht:t ∈ l) (e:s.node=t.node):s=t:=by
 unfold Sy.nodes at h
 rw [List.nodup_iff_pairwise_ne,List.pairwise_map] at h
 obtain ⟨i,hi,rfl⟩:=List.getElem_of_mem hs
 obtain ⟨j,hj,rfl⟩:=List.getElem_of_mem ht
 rcases Nat.lt_trichotomy i j with hij | rfl | hij
 ·exact absurd e (List.pairwise_iff_getElem.1 h i j hi hj hij)
 ·rfl
 ·exact absurd e.symm (List.pairwise_iff_getElem.1 h j i hj hi hij)
theorem TrRepIs.one {n:Nat} {to_:Int} {l:List Sy} {o o':List GF} {c c':Int} (h:TrRepIs n to_ l o c) (h':TrRepIs n to_ l o' c'):o=o'∧c=c':=by
 rcases h with ⟨h1,h2,h3⟩ | ⟨h1,⟨h2,h3,h4⟩ | ⟨h2,h3,h4,h5⟩⟩ <;> rcases h' with ⟨k1,k2,k3⟩ | ⟨k1,⟨k2,k3,k4⟩ | ⟨k2,k3,k4,k5⟩⟩
 ·exact ⟨h2.trans k2.symm,h3.trans k3.symm⟩
 ·exact absurd k1 h1
 ·exact absurd k1 h1
 ·exact absurd h1 k1
 ·exact ⟨h3.trans k3.symm,h4.trans k4.symm⟩
 ·omega
 ·exact absurd h1 k1
 ·omega
 ·refine ⟨List.ext_getElem (by rw [h4,k4]) fun p hp hp'=>?_,h3.trans k3.symm⟩
  obtain ⟨s,hs,e1,e2⟩:=h5 p (by omega)
  obtain ⟨t,ht,e3,e4⟩:=k5 p (by omega)
  have:=node_one h1.2.1.2 hs ht (e1.trans e3.symm)
  subst this
  have g1:o[p]=o.getD p 0:=by rw [List.getD_eq_getElem?_getD,List.getElem?_eq_getElem hp];rfl
  have g2:o'[p]=o'.getD p 0:=by rw [List.getD_eq_getElem?_getD,List.getElem?_eq_getElem hp'];rfl
  rw [g1,g2,e2,e4]
theorem othN_mono {j p q:Nat} (h:p < q):othN j p < othN j q:=by unfold othN;split <;> split <;> omega
theorem others_all {n T:Nat} {l l':List Sy} (hT:T < n) (hg:SyGood n (T:Int) 1 l) (hl:n - 1≤l.length) (hp:l'.Perm l) (hs:(Sy.nodes l').Pairwise (·≤·)):Sy.nodes l'=(List.range (n - 1)).map fun p=>((othN T p:Nat):Int):=by
 have hpn:(Sy.nodes l').Perm (Sy.nodes l):=hp.map _
 have hnd:(Sy.nodes l').Nodup:=hpn.nodup_iff.2 hg.1.2
 refine strict_eq ?_ ?_ fun x=>?_
 ·rw [List.nodup_iff_pairwise_ne] at hnd
  exact (hs.and hnd).imp fun h=>by have:=h.1;have:=h.2;omega
 ·rw [List.pairwise_map]
  exact List.pairwise_lt_range.imp fun h=>by have:=othN_mono (j:=T) h;omega
 ·have hsub:∀ y ∈ Sy.nodes l,y ∈ (List.range (n - 1)).map fun p=>((othN T p:Nat):Int):=fun y hy=>by
   obtain ⟨s,hs,rfl⟩:=List.mem_map.1 hy
   have h1:=hg.1.1 s.node hy
   have h2:=(hg.2 s hs).1
   refine List.mem_map.2 ⟨plcN T s.node.toNat,List.mem_range.2 (plc_lt (by omega) (by omega) hT),?_⟩
   rw [oth_plc (by omega)]
   omega
  rw [hpn.mem_iff]
  refine ⟨hsub x,fun hx=>Classical.byContradiction fun hn=>?_⟩
  have h3:(x :: Sy.nodes l).Nodup:=List.nodup_cons.2 ⟨hn,hg.1.2⟩
  have h4:=h3.length_le_of_subset (l₂:=(List.range (n - 1)).map fun p=>((othN T p:Nat):Int)) fun y hy=>by
   rcases List.mem_cons.1 hy with rfl | hy
   ·exact hx
   ·exact hsub y hy
  rw [List.length_cons,List.length_map,List.length_range] at h4
  have:(Sy.nodes l).length=l.length:=by simp [Sy.nodes]
  omega
theorem rep_of {n T:Nat} {l l':List Sy} (hT:T < n) (hg:SyGood n (T:Int) 1 l) (hl:n - 1≤l.length) (hp:l'.Perm l) (hs:(Sy.nodes l').Pairwise (·≤·)):TrRepIs n (T:Int) l (l'.map fun s=>s.d.getD 0 0) 0:=by
 have hn:=others_all hT hg hl hp hs
 have hll:l'.length=n - 1:=by
  have:=congrArg List.length hn
  simpa [Sy.nodes] using this
 refine .inr ⟨⟨by omega,hg⟩,.inr ⟨hl,rfl,by rw [List.length_map,hll],fun p hpp=>?_⟩⟩
 have hpl:p < l'.length:=by omega
 refine ⟨l'[p],hp.mem_iff.1 (List.getElem_mem _),?_,?_⟩
 ·have:=congrArg (·[p]?) hn
  simp only [Sy.nodes,List.getElem?_map,List.getElem?_eq_getElem hpl,List.getElem?_range hpp,Option.map_some,Option.some.injEq] at this
  rw [this,Int.toNat_natCast]
 ·rw [List.getD_eq_getElem?_getD,List.getElem?_map,List.getElem?_eq_getElem hpl]
  rfl
def TrRepPost (n:Nat) (to_:Int) (l:List Sy) (w:World) (e:Ending) (w':World):Prop:=∃ v o c,e=.returned (.tuple #[v,.int .i64 c])∧TrRepIs n to_ l o c∧OwnG w' w.heap.size v o∧Below w.heap.size w w'
end Go.Proofs.YtjdnicacnaokdaaGreat
/- Is a node among those that tell? A copy of symbols. -/
namespace Go.Proofs.YtjdnicacnaokdaaGreat
open Go.RowKit Fld
set_option linter.unusedVariables false
set_option linter.unusedSimpArgs false

set_option maxHeartbeats 1000000 in
theorem trf_clos (w:World) (tb:Nat) (x to_:Int) (dv:Value) (hdv:∃ a n c,dv=.slice a n c) (h:w.cell? ⟨tb,0,none⟩=some (.int .i64 to_)) (hl:tb < w.heap.size) :
  Calls Tryz.prog 46 #[.agg #[.int .i64 x,dv],.pointer (some ⟨tb,0,none⟩)] w fun e w'=>e=.returned (.bool (decide (x=to_)))∧Below w.heap.size w w':=by
 obtain ⟨a,n,c,rfl⟩:=hdv
 by_cases hx:x=to_
 ·rw [decide_eq_true hx]
  subst hx
  go_enter Tryz.func46,Tryz.ntmps46
  go_wp2
  go_ret
  exact ⟨by simp,by (repeat' (first | (with_reducible exact RowKit.Below.refl _ _) | (with_reducible assumption) | (with_reducible refine RowKit.Below.drew ?_) | (with_reducible refine RowKit.Below.alloc ?_ ?_ _) | omega | (simp;done) | (simp;omega)))⟩
 ·rw [decide_eq_false hx]
  have hx2:(x == to_)=false:=by simpa using hx
  go_enter Tryz.func46,Tryz.ntmps46
  go_wp2
  go_ret
  exact ⟨by simp [hx],by (repeat' (first | (with_reducible exact RowKit.Below.refl _ _) | (with_reducible assumption) | (with_reducible refine RowKit.Below.drew ?_) | (with_reducible refine RowKit.Below.alloc ?_ ?_ _) | omega | (simp;done) | (simp;omega)))⟩
def trf_Idx (l:List Sy) (to_:Int) (w:World) (e:Ending) (w':World):Prop:=∃ r:Int,e=.returned (.int .i64 r)∧Below w.heap.size w w'∧((r=-1∧∀ s ∈ l,s.node ≠ to_) ∨ (0≤r∧∃ s ∈ l,s.node=to_))
set_option maxHeartbeats 2000000 in
theorem trf_index (w:World) (tb:Nat) (to_:Int) (v:Value) (l:List Sy) (h:SyRd w v l) (ht:w.cell? ⟨tb,0,none⟩=some (.int .i64 to_)) (hb:tb < w.heap.size) (hl:l.length≤1000000) :
  Calls Tryz.prog 64 #[v,.func (.func 46) #[] #[.pointer (some ⟨tb,0,none⟩)]] w (trf_Idx l to_ w):=by
 obtain ⟨a,cap,rfl⟩:=h.form
 obtain ⟨L,hL⟩:∃ L,l.length=L:=⟨_,rfl⟩
 have H:=Lib.hid h
 have HT:=Lib.hid ht
 have HL:=Lib.hid hL
 rw [hL] at H hl ⊢
 clear h ht hL
 go_enter Tryz.func64,Tryz.ntmps64
 go_wp2
 go_loopg [8] L (fun gk i wr=>∃ I:Nat,I≤L∧gk=L - I∧i=.int .i64 I∧Hid (∀ s ∈ l.take I,s.node ≠ to_)∧Hid (Below w.heap.size w wr))
 case atStart=>exact ⟨0,by omega,rfl,rfl,Lib.hid (by simp),Lib.hid (Below.refl _ _)⟩
 case round =>
  obtain ⟨I,hI,rfl,rfl,HN,HB⟩:=hrel
  have hs:=HB.out.size
  by_cases hlt:I < L
  ·obtain ⟨s,hs'⟩:∃ s,l[I]? = some s:=⟨_,List.getElem?_eq_getElem (by rw [HL.out];exact hlt)⟩
   obtain ⟨-,hcap,b,o,rfl,hb',hat⟩:=SRd.at (H.out.below HB.out) hs'
   have c0:wr.cell? ⟨b,o+I * 2,none⟩=some (.int .i64 s.node):=hat 0 _ rfl
   have c1:wr.cell? ⟨b,o+I * 2+1,none⟩=some (.slice s.a s.d.length s.cp):=hat 1 _ rfl
   obtain ⟨x,hx⟩:∃ x,s.node=x:=⟨_,rfl⟩
   obtain ⟨m,hm⟩:∃ m,s.d.length=m:=⟨_,rfl⟩
   rw [hx] at c0
   rw [hm] at c1
   have i1:(0:Int)≤(I:Int)∧(I:Int) < (L:Int):=by omega
   have HC:=Lib.hid (trf_clos wr tb x to_ (.slice s.a m s.cp) ⟨_,_,_,rfl⟩ ((HB.out.cell (p:=⟨tb,0,none⟩) hb).trans HT.out) (by omega))
   have HX:=Lib.hid (And.intro hs' hx)
   obtain ⟨q,hq⟩:∃ q,decide (x=to_)=q:=⟨_,rfl⟩
   rw [hq] at HC
   have HQ:=Lib.hid hq
   clear hat hs' hx hm hq
   cases q
   ·go_wp2_with fail
    refine HC.out.mono ?_
    rintro e w2 ⟨rfl,hb2⟩
    have HB2:=Lib.hid (HB.out.trans (hb2.mono hs))
    have HN2:Hid (∀ s ∈ l.take (I+1),s.node ≠ to_):=Lib.hid fun t ht=>by
     rw [List.take_add_one,HX.out.1] at ht
     rcases List.mem_append.1 ht with ht | ht
     ·exact HN.out t ht
     ·simp at ht
      subst ht
      rw [HX.out.2]
      exact of_decide_eq_false HQ.out
    clear hb2 HC
    go_wp2
    go_roundg (L - (I+1))
    case measure=>omega
    case rel=>exact ⟨I+1,by omega,rfl,by go_num,HN2,HB2⟩
   ·go_wp2_with fail
    refine HC.out.mono ?_
    rintro e w2 ⟨rfl,hb2⟩
    have HB2:=Lib.hid (HB.out.trans (hb2.mono hs))
    clear hb2 HC
    go_wp2
    go_ret
    exact ⟨(I:Int),rfl,HB2.out,.inr ⟨by omega,_,List.mem_of_getElem? HX.out.1,by rw [HX.out.2];exact of_decide_eq_true HQ.out⟩⟩
  ·obtain rfl:I=L:=by omega
   have hN:=HN.out
   rw [← HL.out,List.take_length] at hN
   have HN2:=Lib.hid hN
   clear hN
   go_wp2
   go_ret
   exact ⟨-1,rfl,HB.out,.inl ⟨rfl,HN2.out⟩⟩
set_option maxHeartbeats 1000000 in
theorem trf_contains (w:World) (tb:Nat) (to_:Int) (v:Value) (l:List Sy) (h:SyRd w v l) (ht:w.cell? ⟨tb,0,none⟩=some (.int .i64 to_)) (hb:tb < w.heap.size) (hl:l.length≤1000000) :
  Calls Tryz.prog 45 #[v,.func (.func 46) #[] #[.pointer (some ⟨tb,0,none⟩)]] w (BelowPost (∃ s ∈ l,s.node=to_) w):=by
 obtain ⟨a,cap,rfl⟩:=h.form
 have HI:=Lib.hid (trf_index w tb to_ _ l h ht hb hl)
 clear h ht
 go_enter Tryz.func45,Tryz.ntmps45
 go_wp2_with fail
 refine HI.out.mono ?_
 rintro e w2 ⟨r,rfl,hb2,hr⟩
 have HB2:=Lib.hid hb2
 have HR:=Lib.hid hr
 clear hb2 hr HI
 by_cases h0:0≤r
 ·have h1:r ≥ 0:=h0
  go_wp2
  go_ret
  refine ⟨true,by simp [h0],HB2.out,fun _=>?_,fun _=>rfl⟩
  rcases HR.out with ⟨h2,_⟩ | ⟨_,h2⟩
  ·omega
  ·exact h2
 ·have h1:¬ r ≥ 0:=by omega
  go_wp2
  go_ret
  refine ⟨false,by simp [h0],HB2.out,(fun h=>by cases h),fun ⟨s,hs,he⟩=>?_⟩
  rcases HR.out with ⟨_,h2⟩ | ⟨h2,_⟩
  ·exact absurd he (h2 s hs)
  ·omega
end Go.Proofs.YtjdnicacnaokdaaGreat
/- A copy of symbols: slices.Clone. -/
namespace Go.Proofs.YtjdnicacnaokdaaGreat
open Go.RowKit Fld
set_option linter.unusedVariables false
set_option linter.unusedSimpArgs false

set_option maxRecDepth 100000 in
set_option maxHeartbeats 2000000 in
theorem clone_sy (v:Value) (l:List Sy) (w:World) (h:SyRd w v l) (hl:l.length≤1000000) :
  Calls Tryz.prog 47 #[v] w fun e w'=>∃ v',e=.returned v'∧OwnS w' w.heap.size v' l∧Below w.heap.size w w':=by
 obtain ⟨a,cap,rfl⟩:=h.form
 have qT:∀ (w:World) (a:Option Addr) (n c n' c':Nat),(binOp .eql 43 (.slice a n c) (.slice none n' c')).run Tryz.prog w=.ok (.bool a.isNone) w:=fun w a n c n' c'=>Lib.run_eql_slice_nil w _ _ a n c n' c' Tryz.underlying43
 cases a with
 | none =>
  have hl0:l=[]:=by
   refine Classical.byContradiction fun hne=>?_
   obtain ⟨x,hx⟩:∃ x,l[0]? = some x:=⟨_,List.getElem?_eq_getElem (List.length_pos_iff.2 hne)⟩
   obtain ⟨-,-,b,o,e,_⟩:=h.at hx
   cases e
  subst hl0
  clear h
  go_enter Tryz.func47,Tryz.ntmps47
  go_wp2
  go_ret
  exact ⟨_,rfl,OwnS.nil _ _,Below.refl _ _⟩
 | some A =>
  obtain ⟨i0,hi,hz0,hz1,hz2⟩:=info_parts sy_info
  have HN:Hid (∀ (j:Nat) (u:Value),(flatS Sy.cells l)[j]? = some u→(w.alloc (.cells #[] 57)).cell? (A.add j)=some u):=Lib.hid (by
   have h2:=h.below ((Below.refl _ w).alloc (Nat.le_refl _) (.cells #[] 57))
   obtain ⟨ba,oa,ma⟩:=A
   rcases Nat.eq_zero_or_pos l.length with h0 | h0
   ·intro j u hj
    rw [List.eq_nil_of_length_eq_zero h0] at hj
    simp [flatS] at hj
   ·obtain ⟨x,hx⟩:∃ x,l[0]? = some x:=⟨_,List.getElem?_eq_getElem h0⟩
    obtain ⟨-,-,b,o,e,_⟩:=h2.at hx
    cases e
    have:=SRd.part Sy.cells_length (by decide) h2 0 l.length (by omega)
    simpa using this)
  have HO:Hid ((w.alloc (.cells #[] 57)).ownsRow w.heap.size 57 2 (.slice (some ⟨w.heap.size,0,none⟩) 0 0) 0 []):=Lib.hid (World.ownsRow_made w #[] 0 (Nat.le_refl _) (by unfold maxLen;omega) (by simp))
  have hgl:=flatS_length (n:=2) Sy.cells_length l
  have HGL:=Lib.hid hgl
  have HON:Hid (∀ u ∈ flatS Sy.cells l,u.oneCell'=true):=Lib.hid (by
   intro u hu
   unfold flatS at hu
   obtain ⟨s,-,hs⟩:=List.mem_flatMap.1 hu
   simp [Sy.cells] at hs
   rcases hs with rfl | rfl <;> rfl)
  clear h hgl
  go_enter Tryz.func47,Tryz.ntmps47
  go_wp2_with (at_builtin;refine wpList_append_own _ rfl (.tmp 5) (.tmp 6) 43 rfl w.heap.size 57 i0 (.agg #[.int .i64 0,.slice none 0 0]) 2 32 Tryz.underlying43 hi hz0 hz1 hz2 rfl (by decide) (.slice (some ⟨w.heap.size,0,none⟩) 0 0) 0 [] rfl HO.out _ _ _ (flatS Sy.cells l) rfl (by rw [HGL.out]) HN.out HON.out (by unfold maxLen;omega) (by omega) (by simp) ?_;intro v1 w3 hown1 hgrow1 _)
  go_ret
  refine ⟨_,rfl,by simpa [OwnS] using hown1,?_⟩
  exact ((Below.refl _ _).alloc (Nat.le_refl _) _).grown hgrow1 (by simp) (fun k hk=>by simp [Value.ownBlock] at hk;omega)
end Go.Proofs.YtjdnicacnaokdaaGreat
/- The contract of slices.SortFunc at symbols, laid at this dump by the kit's tool. -/
namespace Go.Proofs
open Go.Shelf
def Tryz.sortSy_ren:Go.Shelf.Ren:=⟨fun | 6=>48 | 15=>66 | 14=>65 | 28=>92 | 29=>93 | 20=>84 | 21=>85 | 22=>86 | 23=>87 | 24=>88 | 25=>89 | 26=>90 | 27=>91 | 46=>120 | 47=>121 | 48=>122 | 49=>123 | 50=>124 | 57=>139 | n=>n,fun | 22=>43 | 24=>57 | 25=>96 | 3=>3 | 39=>118 | 0=>0 | 53=>72 | 55=>51 | 4=>4 | 46=>140 | 45=>139 | 50=>144 | 5=>5 | 9=>9 | 66=>169 | 70=>173 | 76=>186 | 77=>187 | n=>n,fun | n=>n⟩
theorem Tryz.sortSy:Go.Proofs.SlLaysF0.n6 Tryz.prog Tryz.sortSy_ren:={
 mixed:=by kernel_rfl
 f6:=⟨Tryz.f48.name,by decide,Tryz.func48.trans (congrArg some (by kernel_rfl))⟩
 f14:=⟨Tryz.f65.name,by decide,Tryz.func65.trans (congrArg some (by kernel_rfl))⟩
 f15:=Tryz.func66.trans (congrArg some (by kernel_rfl))
 f20:=⟨Tryz.f84.name,by decide,Tryz.func84.trans (congrArg some (by kernel_rfl))⟩
 f21:=⟨Tryz.f85.name,by decide,Tryz.func85.trans (congrArg some (by kernel_rfl))⟩
 f22:=⟨Tryz.f86.name,by decide,Tryz.func86.trans (congrArg some (by kernel_rfl))⟩
 f23:=⟨Tryz.f87.name,by decide,Tryz.func87.trans (congrArg some (by kernel_rfl))⟩
 f24:=⟨Tryz.f88.name,by decide,Tryz.func88.trans (congrArg some (by kernel_rfl))⟩
 f25:=⟨Tryz.f89.name,by decide,Tryz.func89.trans (congrArg some (by kernel_rfl))⟩
 f26:=⟨Tryz.f90.name,by decide,Tryz.func90.trans (congrArg some (by kernel_rfl))⟩
 f27:=⟨Tryz.f91.name,by decide,Tryz.func91.trans (congrArg some (by kernel_rfl))⟩
 f28:=Tryz.func92.trans (congrArg some (by kernel_rfl))
 f29:=Tryz.func93.trans (congrArg some (by kernel_rfl))
 f46:=⟨Tryz.f120.name,by decide,Tryz.func120.trans (congrArg some (by kernel_rfl))⟩
 f47:=Tryz.func121.trans (congrArg some (by kernel_rfl))
 f48:=Tryz.func122.trans (congrArg some (by kernel_rfl))
 f49:=⟨Tryz.f123.name,by decide,Tryz.func123.trans (congrArg some (by kernel_rfl))⟩
 f50:=⟨Tryz.f124.name,by decide,Tryz.func124.trans (congrArg some (by kernel_rfl))⟩
 f57:=⟨Tryz.f139.name,by decide,Tryz.func139.trans (congrArg some (by kernel_rfl))⟩
 t0:=Tryz.underlying0
 a0:=Tryz.isAgg0
 z0:=Tryz.sizeOf0
 v0:=Tryz.zeroValue0
 t3:=Tryz.underlying3
 a3:=Tryz.isAgg3
 z3:=Tryz.sizeOf3
 v3:=Tryz.zeroValue3
 t4:=Tryz.underlying4
 a4:=Tryz.isAgg4
 z4:=Tryz.sizeOf4
 v4:=Tryz.zeroValue4
 t5:=Tryz.underlying5
 a5:=Tryz.isAgg5
 z5:=Tryz.sizeOf5
 v5:=Tryz.zeroValue5
 t9:=Tryz.underlying9
 a9:=Tryz.isAgg9
 z9:=Tryz.sizeOf9
 v9:=Tryz.zeroValue9
 t22:=Tryz.underlying43
 a22:=Tryz.isAgg43
 z22:=Tryz.sizeOf43
 v22:=Tryz.zeroValue43
 t25:=Tryz.underlying96
 a25:=Tryz.isAgg96
 z25:=Tryz.sizeOf96
 v25:=Tryz.zeroValue96
 t39:=Tryz.underlying118
 a39:=Tryz.isAgg118
 z39:=Tryz.sizeOf118
 v39:=Tryz.zeroValue118
 t45:=Tryz.underlying139
 a45:=Tryz.isAgg139
 z45:=Tryz.sizeOf139
 v45:=Tryz.zeroValue139
 t46:=Tryz.underlying140
 a46:=Tryz.isAgg140
 z46:=Tryz.sizeOf140
 v46:=Tryz.zeroValue140
 t50:=Tryz.underlying144
 a50:=Tryz.isAgg144
 z50:=Tryz.sizeOf144
 v50:=Tryz.zeroValue144
 t53:=Tryz.underlying72
 a53:=Tryz.isAgg72
 z53:=Tryz.sizeOf72
 v53:=Tryz.zeroValue72
 t55:=Tryz.underlying51
 a55:=Tryz.isAgg51
 z55:=Tryz.sizeOf51
 v55:=Tryz.zeroValue51
 t66:=Tryz.underlying169
 a66:=Tryz.isAgg169
 z66:=Tryz.sizeOf169
 v66:=Tryz.zeroValue169
 t70:=Tryz.underlying173
 a70:=Tryz.isAgg173
 z70:=Tryz.sizeOf173
 v70:=Tryz.zeroValue173
 t76:=Tryz.underlying186
 a76:=Tryz.isAgg186
 z76:=Tryz.sizeOf186
 v76:=Tryz.zeroValue186
 t77:=Tryz.underlying187
 a77:=Tryz.isAgg187
 z77:=Tryz.sizeOf187
 v77:=Tryz.zeroValue187 }
end Go.Proofs
/- slices.SortFunc at symbols, by their nodes. -/
namespace Go.Proofs.YtjdnicacnaokdaaGreat
open Go.RowKit Go.Shelf Go.Lib Go.Sort
set_option linter.unusedSimpArgs false
set_option linter.unusedVariables false

abbrev SyN:={ s:Sy // 0≤s.node∧s.node < 1000 }
instance:Inhabited SyN:=⟨⟨⟨0,none,0,[]⟩,by simp⟩⟩
def SyN.cells (x:SyN):List Value:=x.1.cells
theorem SyN.cells_length (x:SyN):x.cells.length=2:=rfl
def SyN.val (x:SyN):Value:=.agg x.cells.toArray
def cfSy (x y:SyN):Int:=x.1.node - y.1.node
theorem cfSy_neg (x y:SyN):(cfSy x y < 0)↔x.1.node < y.1.node:=by unfold cfSy;omega
theorem swoSy:SWO (ltOf cfSy) where
 irrefl x:=by unfold ltOf;rw [decide_eq_false_iff_not,cfSy_neg];omega
 trans x y z h1 h2:=by unfold ltOf at *;rw [decide_eq_true_iff,cfSy_neg] at *;omega
 ntrans x y z h1 h2:=by unfold ltOf at *;rw [decide_eq_false_iff_not,cfSy_neg] at *;omega
set_option maxHeartbeats 1000000 in
theorem byNode_any (x y:SyN) (W:World):Calls Tryz.prog 49 #[x.val,y.val] W fun e w'=>e=.returned (.int .i64 (cfSy x y))∧∃ q os',w'=grow (W.drewN q) os':=by
 obtain ⟨⟨xn,xa,xc,xd⟩,hx⟩:=x
 obtain ⟨⟨yn,ya,yc,yd⟩,hy⟩:=y
 simp only [SyN.val,SyN.cells,Sy.cells,cfSy]
 obtain ⟨L1,hL1⟩:∃ L,xd.length=L:=⟨_,rfl⟩
 obtain ⟨L2,hL2⟩:∃ L,yd.length=L:=⟨_,rfl⟩
 rw [hL1,hL2]
 obtain ⟨r,hr⟩:∃ r,xn - yn=r:=⟨_,rfl⟩
 have x2:IntKind.i64.wrap r=r:=IntWalk.i64_in _ (by simp at hx hy;omega)
 rw [hr]
 clear hL1 hL2 hx hy
 go_enter Tryz.func49,Tryz.ntmps49
 go_wp2
 go_ret
 refine ⟨rfl,?_⟩
 exact ⟨0,_,by rw [alloc_eq_grow,alloc_eq_grow,grow_grow];rfl⟩
theorem getElem!_ofN {l:List SyN} {i:Nat} {a:SyN} (h:l[i]? = some a):l.toArray[i]! = a:=by
 obtain ⟨hi,e⟩:=List.getElem?_eq_some_iff.1 h
 rw [getElem!_pos l.toArray i (by simpa using hi)]
 simpa using e
theorem cells_getN (c:SyN) (j:Nat) (hj:j < 2):c.cells[j]? = some (c.cells[j]!):=by
 rw [List.getElem!_eq_getElem?_getD,List.getElem?_eq_getElem (by rw [SyN.cells_length];exact hj)]
 rfl
theorem sort_gbN (w:World) (g m:Nat) (dk:Array SyN) (os:Array Obj):w.grownBy (sortWorldK SyN.cells 2 w g 0 m dk os) (some g):=by
 refine ⟨rfl,rfl,rfl,size_sortWorldK_c SyN.cells 2 w g 0 m dk os,fun k hk hne=>?_⟩
 unfold sortWorldK putRowK putRow mapBlock grow Sort.ahead
 simp only
 rw [Array.getElem?_append_left (by simpa using hk),Array.getElem?_modify,if_neg (fun e=>hne (by rw [e]))]
abbrev SNRd (w:World) (v:Value) (l:List SyN):Prop:=SRd 2 SyN.cells w v l
theorem row_of_holdsN {w:World} {g cap:Nat} {l:List SyN} (h:HoldsK SyN.cells 2 w g 0 l.toArray) (hc:l.length≤cap) (hg:g < w.heap.size):SNRd w (.slice (some ⟨g,0,none⟩) l.length cap) l:=by
 refine ⟨_,cap,rfl,hc,fun _=>⟨g,0,rfl,hg,fun i c hi j u hj=>?_⟩⟩
 have hil:i < l.length:=(List.getElem?_eq_some_iff.1 hi).1
 have hj8:j < 2:=by
  rcases Nat.lt_or_ge j 2 with h1 | h1
  ·exact h1
  ·rw [List.getElem?_eq_none (by rw [SyN.cells_length];exact h1)] at hj;cases hj
 have h1:=(h (i * 2+j) (by rw [size_flatK];simp;omega)).1
 rw [get_flatK _ _ _ _ (by simp;omega),show (i * 2+j) / 2=i by omega,show (i * 2+j) % 2=j by omega,getElem!_ofN hi] at h1
 rw [← Nat.add_assoc] at h1
 rw [h1,← hj,cells_getN c j hj8]
 rfl
theorem holds_of_rowN {w:World} {g cap:Nat} {l:List SyN} {cur:Array Value} {ty:TypeId} (h:SNRd w (.slice (some ⟨g,0,none⟩) l.length cap) l) (hw:w.heap[g]? = some (.cells cur ty)):HoldsK SyN.cells 2 w g 0 l.toArray:=by
 intro t ht
 rw [size_flatK] at ht
 have ht':t < l.length * 2:=by simpa using ht
 rw [get_flatK _ _ _ _ ht]
 obtain ⟨c,hc⟩:∃ c,l[t / 2]? = some c:=⟨_,List.getElem?_eq_getElem (by omega)⟩
 rw [getElem!_ofN hc]
 obtain ⟨a',cap',h1,h2,h3⟩:=h
 cases h1
 obtain ⟨b,o,h4,h5,h6⟩:=h3 (fun e=>by rw [e] at hc;simp at hc)
 cases h4
 refine ⟨?_,by unfold World.frozen?;simp [hw]⟩
 have:=h6 _ _ hc (t % 2) _ (cells_getN c (t % 2) (Nat.mod_lt _ (by omega)))
 rw [show 0+t / 2 * 2+t % 2=0+t by omega] at this
 exact this
theorem toN {l:List Sy} (h:∀ s ∈ l,0≤s.node∧s.node < 1000):∃ L:List SyN,L.map Subtype.val=l :=
 ⟨l.attach.map fun s=>⟨s.1,h s.1 s.2⟩,by simp⟩
theorem rd_toN {w:World} {v:Value} {L:List SyN}:SNRd w v L↔SyRd w v (L.map Subtype.val):=by
 unfold SNRd SyRd SRd
 rw [List.length_map]
 refine exists_congr fun a=>exists_congr fun cap=>and_congr_right fun _=>and_congr_right fun _=>?_
 constructor
 ·intro h hne
  obtain ⟨b,o,h1,h2,h3⟩:=h (fun e=>hne (by rw [e];rfl))
  refine ⟨b,o,h1,h2,fun i c hi j u hj=>?_⟩
  rw [List.getElem?_map] at hi
  cases e:L[i]? with
  | none=>rw [e] at hi;cases hi
  | some x =>
   rw [e] at hi
   cases hi
   exact h3 i x e j u hj
 ·intro h hne
  obtain ⟨b,o,h1,h2,h3⟩:=h (fun e=>hne (List.map_eq_nil_iff.1 e))
  exact ⟨b,o,h1,h2,fun i c hi j u hj=>h3 i c.1 (by rw [List.getElem?_map,hi];rfl) j u hj⟩
def SySortPost (v:Value) (l:List Sy) (B:Nat) (w:World) (e:Ending) (w':World):Prop:=e=.returned (.tuple #[])∧∃ l',l'.Perm l∧(Sy.nodes l').Pairwise (·≤·)∧SyRd w' v l'∧Below B w w'
theorem sortSy_any (v:Value) (l:List Sy) (B:Nat) (w:World) (ho:OwnS w B v l) (hl:l.length≤1000) (hB:B≤w.heap.size) (hn:∀ s ∈ l,0≤s.node∧s.node < 1000) :
  Calls Tryz.prog 48 #[v,.func (.func 49) #[] #[]] w (SySortPost v l B w):=by
 obtain ⟨L,rfl⟩:=toN hn
 have hrow:=rd_toN.2 ho.rd
 rw [List.length_map] at hl
 by_cases hne:L=[]
 ·subst hne
  obtain ⟨a,cap,rfl⟩:=hrow.form
  have hcon:=AnyF.slices_SortFunc_none { Tryz.sortSy with } a cap (.func (.func 49) #[] #[]) w
  change Calls Tryz.prog 48 _ _ _ at hcon
  refine hcon.mono ?_
  rintro e w' ⟨rfl,rfl⟩
  exact ⟨rfl,[],List.Perm.refl _,List.Pairwise.nil,rd_toN.1 hrow,Below.refl _ _⟩
 ·rcases ho.2 with ⟨_,h2⟩ | ⟨g,cap,cur,rfl,h2,h3,h4,h5,h6,h7⟩
  ·rw [List.length_map] at h2
   exact absurd (List.eq_nil_of_length_eq_zero h2) hne
  ·rw [List.length_map] at hrow ⊢
   have hH:=holds_of_rowN hrow h3
   have eg:∀ args w,(callFunc 49 args).run Tryz.prog w=.ok (.enter 49 args) w:=enters_of Tryz.func49 (by kernel_rfl) rfl
   have hcon:=AnyQ.slices_SortFunc Tryz.sortSy 2 Tryz.isAgg57 Tryz.sizeOf57 SyN.cells SyN.cells_length (fun x u hu=>by
    simp [SyN.cells,Sy.cells] at hu
    rcases hu with rfl | rfl <;> rfl) cfSy swoSy 49 #[] g 0 cap L.toArray w eg
    (fun m os dk hs x y=>byNode_any x y _) hH (lt_of_heap h3) (by simp;omega)
   change Calls Tryz.prog 48 _ _ _ at hcon
   have hcon':Calls Tryz.prog 48 #[.slice (some ⟨g,0,none⟩) L.length cap,.func (.func 49) #[] #[]] w _:=hcon
   refine hcon'.mono ?_
   rintro e w' ⟨rfl,d',m,os,hp,hs,rfl⟩
   obtain ⟨p1,p2,p3⟩:=hp
   have hsz:d'.size=L.length:=by rw [p1];simp
   have hperm:d'.toList.Perm L:=by
    have:=p3
    rw [show (d'.extract 0 L.toArray.size)=d' by simp [hsz.symm]] at this
    simpa using this
   have hlen:d'.toList.length=L.length:=by simpa using hsz
   refine ⟨rfl,d'.toList.map Subtype.val,hperm.map _,?_,?_,?_⟩
   ·unfold Sy.nodes
    rw [List.map_map,List.pairwise_map,List.pairwise_iff_getElem]
    intro i j hi hj hij
    have:=hs i j (Nat.zero_le _) hij (by simp at hj;simpa [hsz] using hj)
    rw [← Array.toArray_toList (xs:=d'),getElem!_ofN (List.getElem?_eq_getElem hi),getElem!_ofN (List.getElem?_eq_getElem hj)] at this
    unfold ltOf at this
    rw [decide_eq_false_iff_not,cfSy_neg] at this
    show d'.toList[i].1.node≤d'.toList[j].1.node
    omega
   ·have h8:=holdsK_sortWorldK_c SyN.cells 2 w g 0 L.toArray d' m os hH (lt_of_heap h3) (by rw [hsz];simp)
    have h9:=row_of_holdsN (l:=d'.toList) (cap:=cap) h8 (by rw [List.length_map] at h4;omega) (Nat.lt_of_lt_of_le (lt_of_heap h3) (size_sortWorldK_c SyN.cells 2 w g 0 m d' os))
    rw [hlen] at h9
    exact rd_toN.1 h9
   ·exact (Go.RowKit.Below.refl B w).grown (sort_gbN w g m d' os) hB (fun k hk=>by cases hk;exact h2)
end Go.Proofs.YtjdnicacnaokdaaGreat
/- A share, of what all others tell: the program's Repair. -/
namespace Go.Proofs.YtjdnicacnaokdaaGreat
open Go.RowKit Fld
set_option linter.unusedVariables false
set_option linter.unusedSimpArgs false

set_option maxRecDepth 100000 in
set_option maxHeartbeats 4000000 in
theorem trrep_any (w:World) (lb cb fb mb n k:Nat) (cv hv:Value) (to_:Int) (l:List Sy) (h:TrC w lb cb fb mb n k cv) (hn:1≤n∧n≤23) (hl:SyAll w hv l) (hll:l.length≤100) :
  Calls Tryz.prog 25 #[.pointer (some ⟨lb,0,none⟩),.int .i64 to_,hv] w (TrRepPost n to_ l w):=by
 obtain ⟨ah,ch,rfl⟩:=hl.rd.form
 obtain ⟨L,hL⟩:∃ L,l.length=L:=⟨_,rfl⟩
 obtain ⟨n1,hn1⟩:∃ n1,n - 1=n1:=⟨_,rfl⟩
 have x1:(n:Int) - 1=(n1:Int):=by omega
 have x2:IntKind.i64.wrap (n1:Int)=(n1:Int):=IntWalk.i64_in _ (by omega)
 have hlb:=lt_of_heap h.box
 have y0:=cell_of_heap h.box (j:=0) rfl
 obtain ⟨w1,hw1⟩:∃ w1,w1=w.alloc (.cells #[.int .i64 to_] 3):=⟨_,rfl⟩
 have hb1:Below w.heap.size w w1:=by rw [hw1];exact (Below.refl _ _).alloc (Nat.le_refl _) _
 have d0:w1.heap[w.heap.size]? = some (.cells #[.int .i64 to_] 3 (0,0)):=by rw [hw1];exact heap_newA _ _
 have z0:=cell_of_heap d0 (j:=0) rfl
 have l0:=lt_of_heap d0
 have y1:w1.cell? ⟨lb,0,none⟩=some (.int .i64 n):=(hb1.cell (p:=⟨lb,0,none⟩) hlb).trans y0
 have hlb1:lb < w1.heap.size:=Nat.lt_of_lt_of_le hlb hb1.size
 have HIS0:=tris_any w1 lb n to_ y1
 unfold NodePost at HIS0
 obtain ⟨b1,hbb1⟩:∃ b1,decide (0≤to_∧to_ < (n:Int))=b1:=⟨_,rfl⟩
 rw [hbb1] at HIS0
 have HIS:=Lib.hid HIS0
 obtain ⟨b2,hbb2⟩:=bool_ex (SyGood n (-1) 1 l)
 obtain ⟨b3,hbb3⟩:=bool_ex (∃ s ∈ l,s.node=to_)
 have HFIT0:=(trfit_any w1 lb n 1 _ l y1 hlb1 (hl.below hb1) (by omega) (by omega)).mono fun e w' h=>h.bool hbb2
 have HCF0:∀ W,Below w1.heap.size w1 W→Calls Tryz.prog 45 #[.slice ah l.length ch,.func (.func 46) #[] #[.pointer (some ⟨w.heap.size,0,none⟩)]] W fun e w'=>e=.returned (.bool b3)∧Below W.heap.size W w':=fun W hW =>
  (trf_contains W w.heap.size to_ _ l ((hl.below hb1).below hW).rd ((hW.cell (p:=⟨w.heap.size,0,none⟩) l0).trans z0) (Nat.lt_of_lt_of_le l0 hW.size) (by omega)).mono fun e w' h=>h.bool hbb3
 rw [hL] at HFIT0 HCF0
 rw [show ((1:Nat):Int)=1 from rfl] at HFIT0
 have HFIT:=Lib.hid HFIT0
 have HCF:=Lib.hid HCF0
 have hgood:(b1 && b2 && !b3)=true↔((0≤to_∧to_ < (n:Int))∧SyGood n to_ 1 l):=by
  simp only [Bool.and_eq_true,Bool.not_eq_true',← hbb1,hbb2,decide_eq_true_eq]
  have h3:b3=false↔¬ ∃ s ∈ l,s.node=to_:=by rw [← hbb3];simp
  rw [h3]
  constructor
  ·rintro ⟨⟨h1,h2⟩,h3⟩
   exact ⟨h1,h2.1,fun s hs=>⟨fun e=>h3 ⟨s,hs,e⟩,(h2.2 s hs).2⟩⟩
  ·rintro ⟨h1,h2⟩
   exact ⟨⟨h1,h2.1,fun s hs=>⟨by have:=h2.1.1 s.node (List.mem_map.2 ⟨s,hs,rfl⟩);omega,(h2.2 s hs).2⟩⟩,fun ⟨s,hs,e⟩=>(h2.2 s hs).1 e⟩
 have HGD:=Lib.hid hgood
 have HS:=Lib.hid hl
 have HB1:=Lib.hid hb1
 have HL:=Lib.hid (And.intro hL hn1)
 have HD0:=Lib.hid d0
 rw [hL] at HS hll ⊢
 clear h hl hL hn1 hb1 d0 HIS0 HFIT0 HCF0 hbb1 hbb2 hbb3 hgood
 go_enter Tryz.func25,Tryz.ntmps25
 go_upto_region 3 with fail
 rw [← hw1]
 clear hw1
 refine wp_region_units (.step 0 (.step 1 (.step 2 (.step 3 (.step 4 (.unit 4 false (.step 5 (.step 6 (.step 7 (.step 8 .done)))) 9 8 (.step 10 (.unit 10 false (.step 11 (.step 12 (.step 13 .done))) 14 13 (.step 15 .done))))))))) (by kernel_rfl) (by kernel_rfl) ?_
 simp only [mkUT,dstOf,bare,Oper.slim,List.contains_cons,List.contains_nil,Option.map_none,Option.map_some,List.getElem?_toArray,List.getElem?_cons_zero,List.getElem?_cons_succ,Option.bind_some,beq_self_eq_true,Bool.or_false,Nat.reduceBEq,Nat.reduceAdd,Nat.zero_add,Option.getD_some,Option.isSome_some,Option.isSome_none,Bool.false_and,Bool.true_and,Bool.false_eq_true,if_false,if_true,Option.some_beq_some,Option.some_beq_none,Option.none_beq_some,reduceCtorEq,ite_true,ite_false]
 repeat ((with_reducible refine wpUT_step (fun K hK=>?_));go_simp;first | (refine hK _ _ ?_;clear hK K) | (refine ⟨by (intro kk hkk;first | exact hkk.elim | (simp (disch:=(simp;omega)) only [hp_drew,hp_drewN,hp_alloc,hp_set];done) | (simp [hp_drew,hp_drewN,hp_alloc_if,hkk];done) | fail),hK _ _ ?_⟩;clear hK K)| (go_at_call 40;(with_reducible refine HIS.out.mono ?_);rintro e wc ⟨rfl,rfl⟩;refine ⟨_,rfl,(fun kk hkk=>hkk.elim),hK _ _ ?_⟩;clear hK K) | (go_at_call 44;(with_reducible refine HFIT.out.mono ?_);rintro e wc ⟨rfl,hbc⟩;refine ⟨_,rfl,(fun kk hkk=>hkk.elim),hK _ _ ?_⟩;clear hK K) | (go_at_call 45;(with_reducible refine (HCF.out _ hbu).mono ?_);rintro e wc ⟨rfl,hbc⟩;refine ⟨_,rfl,(fun kk hkk=>hkk.elim),hK _ _ ?_⟩;clear hK K))
 refine wpUT_unit_below (x:=?_) (by rfl) ?_ ?_
 rotate_left
 ·intro hgd
  repeat ((with_reducible refine wpUT_step (fun K hK=>?_));go_simp;first | (refine hK _ _ ?_;clear hK K) | (refine ⟨by (intro kk hkk;first | exact hkk.elim | (simp (disch:=(simp;omega)) only [hp_drew,hp_drewN,hp_alloc,hp_set];done) | (simp [hp_drew,hp_drewN,hp_alloc_if,hkk];done) | fail),hK _ _ ?_⟩;clear hK K)| (go_at_call 40;(with_reducible refine HIS.out.mono ?_);rintro e wc ⟨rfl,rfl⟩;refine ⟨_,rfl,(fun kk hkk=>hkk.elim),hK _ _ ?_⟩;clear hK K) | (go_at_call 44;(with_reducible refine HFIT.out.mono ?_);rintro e wc ⟨rfl,hbc⟩;refine ⟨_,rfl,(fun kk hkk=>hkk.elim),hK _ _ ?_⟩;clear hK K) | (go_at_call 45;(with_reducible refine (HCF.out _ hbu).mono ?_);rintro e wc ⟨rfl,hbc⟩;refine ⟨_,rfl,(fun kk hkk=>hkk.elim),hK _ _ ?_⟩;clear hK K))
  exact wpUT_done ⟨by rfl,by (repeat' (first | (with_reducible exact RowKit.Below.refl _ _) | (with_reducible assumption) | (with_reducible refine RowKit.Below.drew ?_) | (with_reducible refine RowKit.Below.alloc ?_ ?_ _) | omega | (simp;done) | (simp;omega)))⟩
 intro js wu hbu
 first | (have hbB:Below w1.heap.size w1 wu:=hbA.trans (hbu.mono hbA.size)) | (have hbA:Below w1.heap.size w1 wu:=hbu)
 simp only [UT.dsts,junk,SOp.dst,Option.toList_some,Option.toList_none,List.cons_append,List.nil_append,List.append_nil,cond_true,cond_false]
 repeat ((with_reducible refine wpUT_step (fun K hK=>?_));go_simp;first | (refine hK _ _ ?_;clear hK K) | (refine ⟨by (intro kk hkk;first | exact hkk.elim | (simp (disch:=(simp;omega)) only [hp_drew,hp_drewN,hp_alloc,hp_set];done) | (simp [hp_drew,hp_drewN,hp_alloc_if,hkk];done) | fail),hK _ _ ?_⟩;clear hK K)| (go_at_call 40;(with_reducible refine HIS.out.mono ?_);rintro e wc ⟨rfl,rfl⟩;refine ⟨_,rfl,(fun kk hkk=>hkk.elim),hK _ _ ?_⟩;clear hK K) | (go_at_call 44;(with_reducible refine HFIT.out.mono ?_);rintro e wc ⟨rfl,hbc⟩;refine ⟨_,rfl,(fun kk hkk=>hkk.elim),hK _ _ ?_⟩;clear hK K) | (go_at_call 45;(with_reducible refine (HCF.out _ hbu).mono ?_);rintro e wc ⟨rfl,hbc⟩;refine ⟨_,rfl,(fun kk hkk=>hkk.elim),hK _ _ ?_⟩;clear hK K))
 refine wpUT_unit_below (x:=?_) (by rfl) ?_ ?_
 rotate_left
 ·intro hgd
  repeat ((with_reducible refine wpUT_step (fun K hK=>?_));go_simp;first | (refine hK _ _ ?_;clear hK K) | (refine ⟨by (intro kk hkk;first | exact hkk.elim | (simp (disch:=(simp;omega)) only [hp_drew,hp_drewN,hp_alloc,hp_set];done) | (simp [hp_drew,hp_drewN,hp_alloc_if,hkk];done) | fail),hK _ _ ?_⟩;clear hK K)| (go_at_call 40;(with_reducible refine HIS.out.mono ?_);rintro e wc ⟨rfl,rfl⟩;refine ⟨_,rfl,(fun kk hkk=>hkk.elim),hK _ _ ?_⟩;clear hK K) | (go_at_call 44;(with_reducible refine HFIT.out.mono ?_);rintro e wc ⟨rfl,hbc⟩;refine ⟨_,rfl,(fun kk hkk=>hkk.elim),hK _ _ ?_⟩;clear hK K) | (go_at_call 45;(with_reducible refine (HCF.out _ hbu).mono ?_);rintro e wc ⟨rfl,hbc⟩;refine ⟨_,rfl,(fun kk hkk=>hkk.elim),hK _ _ ?_⟩;clear hK K))
  exact wpUT_done ⟨by rfl,by (repeat' (first | (with_reducible exact RowKit.Below.refl _ _) | (with_reducible assumption) | (with_reducible refine RowKit.Below.drew ?_) | (with_reducible refine RowKit.Below.alloc ?_ ?_ _) | omega | (simp;done) | (simp;omega)))⟩
 intro js wu hbu
 first | (have hbB:Below w1.heap.size w1 wu:=hbA.trans (hbu.mono hbA.size)) | (have hbA:Below w1.heap.size w1 wu:=hbu)
 simp only [UT.dsts,junk,SOp.dst,Option.toList_some,Option.toList_none,List.cons_append,List.nil_append,List.append_nil,cond_true,cond_false]
 repeat ((with_reducible refine wpUT_step (fun K hK=>?_));go_simp;first | (refine hK _ _ ?_;clear hK K) | (refine ⟨by (intro kk hkk;first | exact hkk.elim | (simp (disch:=(simp;omega)) only [hp_drew,hp_drewN,hp_alloc,hp_set];done) | (simp [hp_drew,hp_drewN,hp_alloc_if,hkk];done) | fail),hK _ _ ?_⟩;clear hK K)| (go_at_call 40;(with_reducible refine HIS.out.mono ?_);rintro e wc ⟨rfl,rfl⟩;refine ⟨_,rfl,(fun kk hkk=>hkk.elim),hK _ _ ?_⟩;clear hK K) | (go_at_call 44;(with_reducible refine HFIT.out.mono ?_);rintro e wc ⟨rfl,hbc⟩;refine ⟨_,rfl,(fun kk hkk=>hkk.elim),hK _ _ ?_⟩;clear hK K) | (go_at_call 45;(with_reducible refine (HCF.out _ hbu).mono ?_);rintro e wc ⟨rfl,hbc⟩;refine ⟨_,rfl,(fun kk hkk=>hkk.elim),hK _ _ ?_⟩;clear hK K))
 refine wpUT_done ?_
 have HBU:Hid (Below w.heap.size w wu):=Lib.hid (HB1.out.trans (hbB.mono HB1.out.size))
 have yu:=hbB.cell (p:=⟨lb,0,none⟩) hlb1
 rw [y1] at yu
 have hlu:=Nat.lt_of_lt_of_le hlb1 hbB.size
 have hgd:(!b1 || !b2 || b3)=!(b1 && b2 && !b3):=by cases b1 <;> cases b2 <;> cases b3 <;> rfl
 generalize hq:(!b1 || !b2 || b3)=q at *
 have HGQ:Hid (q=false↔((0≤to_∧to_ < (n:Int))∧SyGood n to_ 1 l)):=Lib.hid (by rw [← HGD.out,hgd];simp)
 clear hgd hq hbu hbA hbB HIS HFIT HCF HGD y0 y1 z0
 cases q
 case true =>
  go_wp2
  go_ret2
  exact ⟨_,[],2,rfl,.inl ⟨(fun hg=>absurd (HGQ.out.2 hg) (by simp)),rfl,rfl⟩,OwnG.nil _ _,HBU.out⟩
 case false =>
  have hg:=HGQ.out.1 (by trivial)
  obtain ⟨T,rfl⟩:∃ T:Nat,to_=(T:Int):=⟨to_.toNat,by omega⟩
  have HG:=Lib.hid hg
  clear hg HGQ
  by_cases hfew:L < n1
  ·go_wp2
   go_ret2
   exact ⟨_,[],70,rfl,.inr ⟨HG.out,.inl ⟨by rw [HL.out.1,HL.out.2];exact hfew,rfl,rfl⟩⟩,OwnG.nil _ _,HBU.out⟩
  have hmany:n1≤L:=by omega
  have hsw:=HBU.out.size
  have HCL0:=clone_sy _ l wu (HS.out.below HBU.out).rd (by rw [HL.out.1];omega)
  have HCL:=Lib.hid HCL0
  clear HCL0
  go_wp2_with fail
  refine HCL.out.mono ?_
  rintro e w3 ⟨v3,rfl,ho3,hb3⟩
  obtain ⟨a3,c3,rfl⟩:=ho3.rd.form
  have HST:=Lib.hid (sortSy_any _ l wu.heap.size w3 ho3 (by rw [HL.out.1];omega) hb3.size (fun s hs=>by have:=HG.out.2.1.1 s.node (List.mem_map.2 ⟨s,hs,rfl⟩);omega))
  rw [HL.out.1] at HST ⊢
  have HB3:=Lib.hid (HBU.out.trans (hb3.mono hsw))
  have hs3:=hb3.size
  clear ho3 hb3 HCL
  go_wp2_with fail
  refine HST.out.mono ?_
  rintro e w4 ⟨rfl,l',hperm,hsort,hrd,hb4⟩
  have HB4:Hid (Below w.heap.size w w4):=Lib.hid (HB3.out.trans (hb4.mono hsw))
  have hll':l'.length=L:=hperm.length_eq.trans HL.out.1
  have hrd':SyRd w4 (.slice a3 L c3) l':=hrd
  have HRD:=Lib.hid hrd'
  have HPM:=Lib.hid (And.intro hperm hsort)
  have HLL:=Lib.hid hll'
  have hs4:=HB4.out.size
  clear hperm hsort hrd hrd' hb4 hll' HST
  go_wp2
  go_loopg [9,46] L (fun gk p i wr=>∃ (V:Value) (I:Nat),V=p∧i=.int .i64 I∧I≤L∧gk=L - I∧Hid (OwnG wr w4.heap.size V ((l'.take I).map fun s=>s.d.getD 0 0))∧Hid (Below w4.heap.size w4 wr))
  case atStart=>exact ⟨_,0,rfl,rfl,by omega,rfl,Lib.hid (OwnG.nil _ _),Lib.hid (Below.refl _ _)⟩
  case round =>
   obtain ⟨V,I,rfl,rfl,hI,rfl,HO,HB⟩:=hrel
   have hsr:=HB.out.size
   by_cases hlt:I < L
   ·obtain ⟨s,hs⟩:∃ s,l'[I]? = some s:=⟨_,List.getElem?_eq_getElem (by rw [HLL.out];exact hlt)⟩
    have hmem:=HPM.out.1.mem_iff.1 (List.mem_of_getElem? hs)
    have hsl:=(HG.out.2.2 s hmem).2
    obtain ⟨-,hcap,b,o,e3,hb,hat⟩:=SRd.at (HRD.out.below HB.out) hs
    subst e3
    have c0:wr.cell? ⟨b,o+I * 2,none⟩=some (.int .i64 s.node):=hat 0 _ rfl
    have c1:wr.cell? ⟨b,o+I * 2+1,none⟩=some (.slice s.a s.d.length s.cp):=hat 1 _ rfl
    have hrd:GRd wr (.slice s.a s.d.length s.cp) s.d:=(HS.out.below (HB4.out.trans (HB.out.mono hs4))).each s hmem
    obtain ⟨y,hy,-⟩:=at_get (l:=s.d) (i:=0) (by rw [hsl];omega)
    obtain ⟨b2,o2,e2,-,-⟩:=hrd.at hy
    rw [e2] at c1 hrd
    have hd1:s.d=[s.d.getD 0 0]:=one_of hsl
    rw [hsl] at c1
    obtain ⟨w6,hw6⟩:∃ w6,w6=wr.alloc (.cells #[.int .i64 s.node,.slice (some ⟨b2,o2,none⟩) 1 s.cp] 57):=⟨_,rfl⟩
    have hb6:Below wr.heap.size wr w6:=by rw [hw6];exact (Below.refl _ _).alloc (Nat.le_refl _) _
    have hrd6:=hrd.below hb6
    rw [hsl] at hrd6
    obtain ⟨v1,w7,hap,ho7,hk7,hb7⟩:=app_rows (W:=w6) (HO.out.below hb6) hrd6 (by rw [List.length_map,List.length_take];omega) (by rw [hsl];omega) (by have:=hb6.size;omega)
    have HO7:Hid (OwnG w7 w4.heap.size v1 ((l'.take (I+1)).map fun s=>s.d.getD 0 0)):=Lib.hid (by
     rw [List.take_add_one,hs,List.map_append]
     show OwnG w7 w4.heap.size v1 (_ ++ [s.d.getD 0 0])
     rw [← hd1]
     exact ho7)
    have HB7:=Lib.hid ((HB.out.trans (hb6.mono hsr)).trans hb7)
    obtain ⟨x,hx⟩:∃ x,s.node=x:=⟨_,rfl⟩
    rw [hx] at c0 hw6
    have i1:(0:Int)≤(I:Int)∧(I:Int) < (L:Int):=by omega
    have g6:wr.heap.size < w6.heap.size:=by rw [hw6];simp
    have q1:w6.cell? ⟨wr.heap.size,1,none⟩=some (.slice (some ⟨b2,o2,none⟩) 1 s.cp):=by rw [hw6];exact cell_of_heap (heap_newA _ _) (j:=1) rfl
    rw [hw6] at hap
    clear hs hmem hsl hcap hat hrd hy e2 hd1 hb6 hrd6 ho7 hk7 hb7 hx hw6
    go_wp2_with (at_builtin;refine wpList_append rfl _ _ _ rfl rfl rfl hap ?_)
    go_roundg (L - (I+1))
    case measure=>omega
    case rel=>exact ⟨v1,I+1,rfl,by go_num,by omega,rfl,HO7,HB7⟩
   ·obtain rfl:I=L:=by omega
    have hO:=HO.out
    rw [← HLL.out,List.take_length] at hO
    have HP:Hid (TrRepIs n (T:Int) l (l'.map fun s=>s.d.getD 0 0) 0):=Lib.hid (rep_of (by have:=HG.out.1;omega) HG.out.2 (by rw [HL.out.1,HL.out.2];exact hmany) HPM.out.1 HPM.out.2)
    have HO2:=Lib.hid hO
    clear hO
    go_wp2
    go_ret2
    exact ⟨V,_,0,rfl,HP.out,HO2.out.mono hs4,HB4.out.trans (HB.out.mono hs4)⟩
end Go.Proofs.YtjdnicacnaokdaaGreat
