/-
  What nodes of a group tell: the plain laws.
  Whether a share is of a group.
  A node's share of its group's.
-/
import Derived.Test.YtbiaoohodjoojaaGreatLocA
import Derived.Test.YtbiaoohodjoojaaGreatSyG
import Derived.Test.YtbiaoohodjoojaaGreatToldG
import Derived.Test.YtbiaoohodjoojaaGreatOwnSyG
import Derived.Test.YtbiaoohodjoojaaGreatPolG
import Derived.Test.YtbiaoohodjoojaaGreatWeRefs
/- What nodes of a group tell: the plain laws. -/
namespace Go.Proofs.YtbiaoohodjoojaaGreat
open Go.RowKit Fld
set_option linter.unusedVariables false
set_option linter.unusedSimpArgs false

theorem grp_mem {r t x:Nat}:((x:Nat):Int) ∈ rowN r (grpF r t)↔x / (r+1)=t / (r+1)∧x ≠ t:=by
 obtain ⟨p,hp⟩:∃ p,t % (r+1)=p:=⟨_,rfl⟩
 obtain ⟨q,hq⟩:∃ q,t / (r+1)=q:=⟨_,rfl⟩
 have ht:t=(r+1) * q+p:=by rw [← hp,← hq];exact (Nat.div_add_mod t (r+1)).symm
 have hpr:p < r+1:=by rw [← hp];exact Nat.mod_lt _ (by omega)
 have hg:∀ k,grpF r t k=(r+1) * q+k+if p≤k then 1 else 0:=fun k=>by unfold grpF;rw [hp];omega
 rw [hq]
 unfold rowN
 rw [List.mem_map]
 constructor
 ·rintro ⟨k,hk,e⟩
  have hk:=List.mem_range.1 hk
  rw [hg] at e
  have e':x=(r+1) * q+(k+if p≤k then 1 else 0):=by omega
  refine ⟨?_,?_⟩
  ·rw [e',Nat.mul_add_div (by omega),Nat.div_eq_of_lt (by split <;> omega),Nat.add_zero]
  ·rw [e',ht]
   split <;> omega
 ·rintro ⟨h1,h2⟩
  have hx:x=(r+1) * q+x % (r+1):=by rw [← h1];exact (Nat.div_add_mod x (r+1)).symm
  have he:x % (r+1) < r+1:=Nat.mod_lt _ (by omega)
  generalize x % (r+1)=e at *
  by_cases h:e < p
  ·exact ⟨e,List.mem_range.2 (by omega),by rw [hg,if_neg (by omega)];omega⟩
  ·exact ⟨e - 1,List.mem_range.2 (by omega),by rw [hg,if_pos (by omega)];omega⟩
def inG (r t:Nat) (s:Sy):Bool:=decide (s.node.toNat / (r+1)=t / (r+1))
def nearL (r t:Nat) (l:List Sy):List Sy:=l.filter (inG r t)
noncomputable def atL (xs:List GF) (l:List Sy):List GF:=l.map fun s=>xs.getD s.node.toNat 0
theorem atL_pts (xs:List GF) (l:List Sy):atL xs l=ptsOf xs (Sy.nodes l):=by simp [atL,ptsOf,Sy.nodes]
theorem atL_len (xs:List GF) (l:List Sy):(atL xs l).length=l.length:=by simp [atL]
theorem nearL_succ {r t:Nat} {l:List Sy} {I:Nat} {s:Sy} (hs:l[I]? = some s):nearL r t (l.take (I+1))=if inG r t s then nearL r t (l.take I) ++ [s] else nearL r t (l.take I):=by
 unfold nearL
 rw [List.take_add_one,hs,List.filter_append]
 cases h:inG r t s <;> simp [h]
theorem nearL_sub (r t:Nat) (l:List Sy):List.Sublist (nearL r t l) l:=List.filter_sublist
theorem near_good {N r t:Nat} {not:Int} {sz:Nat} {l:List Sy} (h:SyGood N not sz l):GoodP N (Sy.nodes (nearL r t l)) :=
 ⟨fun x hx=>h.1.1 x ((List.Sublist.map _ (nearL_sub r t l)).mem hx),h.1.2.sublist (List.Sublist.map _ (nearL_sub r t l))⟩
theorem near_nodup {N r t:Nat} {not:Int} {sz:Nat} {l:List Sy} {xs:List GF} (h:SyGood N not sz l) (hx:xs.length=N) (hn:xs.Nodup):(atL xs (nearL r t l)).Nodup:=by
 rw [atL_pts]
 exact pts_nodup hn (by rw [hx];exact near_good h)
theorem near_len (r t:Nat) (l:List Sy):(nearL r t l).length≤l.length:=List.length_filter_le _ _
theorem thru_one {xs ys p q:List GF} (hn:xs.Nodup) (hp:Thru xs ys p) (hq:Thru xs ys q) (x:GF):ev p x=ev q x:=by
 rw [← padTo_ev p xs.length,← padTo_ev q xs.length]
 congr 1
 refine ev_inj hn (by rw [padTo_len _ hp.2.1,padTo_len _ hq.2.1]) (by rw [padTo_len _ hp.2.1];exact Nat.le_refl _) fun y hy=>?_
 obtain ⟨j,hj,rfl⟩:=List.mem_iff_getElem.1 hy
 have e:xs[j]=xs.getD j 0:=by rw [List.getD_eq_getElem?_getD,List.getElem?_eq_getElem hj];rfl
 rw [padTo_ev,padTo_ev,e,hp.2.2 j hj,hq.2.2 j hj]
def NearIs (r t N:Nat) (xs:List GF) (l:List Sy) (b:GF) (c:Int):Prop :=
 ¬ (t < N∧SyGood N (t:Int) 1 l)∧b=0∧c=2 ∨ (t < N∧SyGood N (t:Int) 1 l)∧((nearL r t l).length < r∧b=0∧c=70 ∨ r≤(nearL r t l).length∧c=0∧∃ p,Thru (atL xs (nearL r t l)) (ysL (nearL r t l)) p∧b=ev p (xs.getD t 0))
theorem near_same {r t N:Nat} {xs:List GF} {l:List Sy} {b b':GF} {c c':Int} (hx:xs.length=N) (hn:xs.Nodup) (h:NearIs r t N xs l b c) (h':NearIs r t N xs l b' c'):b=b'∧c=c':=by
 rcases h with ⟨h1,rfl,rfl⟩ | ⟨h1,⟨h2,rfl,rfl⟩ | ⟨h2,rfl,p,hp,rfl⟩⟩ <;> rcases h' with ⟨g1,rfl,rfl⟩ | ⟨g1,⟨g2,rfl,rfl⟩ | ⟨g2,rfl,q,hq,rfl⟩⟩
 ·exact ⟨rfl,rfl⟩
 ·exact absurd g1 h1
 ·exact absurd g1 h1
 ·exact absurd h1 g1
 ·exact ⟨rfl,rfl⟩
 ·omega
 ·exact absurd h1 g1
 ·omega
 ·exact ⟨thru_one (near_nodup h1.2 hx hn) hp hq _,rfl⟩
end Go.Proofs.YtbiaoohodjoojaaGreat
/- Whether a share is of a group. -/
namespace Go.Proofs.YtbiaoohodjoojaaGreat
open Go.RowKit Fld
set_option linter.unusedVariables false
set_option linter.unusedSimpArgs false

def IdxPost (l:List Int) (x:Int) (w:World) (e:Ending) (w':World):Prop:=∃ i:Int,e=.returned (.int .i64 i)∧w=w'∧(0≤i↔x ∈ l)∧-1≤i∧i≤1000000
set_option maxHeartbeats 2000000 in
theorem lindex_any (u:Value) (l:List Int) (x:Int) (w:World) (hu:IRd w u l) (hl:l.length≤1000000) :
  Calls Tryz.prog 89 #[u,.int .i64 x] w (IdxPost l x w):=by
 obtain ⟨au,cu,rfl⟩:=hu.form
 obtain ⟨A,hA⟩:∃ A,l.length=A:=⟨_,rfl⟩
 have HA:=Lib.hid hA
 rw [hA] at hu hl ⊢
 have HU:=Lib.hid hu
 clear hu hA
 go_enter Tryz.func89,Tryz.ntmps89
 go_wp2
 go_loopg [8] A (fun gk i wr=>∃ I:Nat,I≤A∧gk=A - I∧i=.int .i64 I∧w=wr∧Hid (∀ j,j < I→l[j]? ≠ some x))
 case atStart=>exact ⟨0,by omega,rfl,rfl,rfl,Lib.hid (fun j hj=>by omega)⟩
 case round =>
  obtain ⟨I,hI,rfl,rfl,rfl,HE⟩:=hrel
  by_cases hlt:I < A
  ·obtain ⟨y,hy⟩:∃ y,l[I]? = some y:=⟨_,List.getElem?_eq_getElem (by rw [HA.out];exact hlt)⟩
   obtain ⟨-,-,b1,o1,rfl,hb1,-⟩:=IRd.cell HU.out hy
   have c1:=IRd.cells HU.out I y hy
   have HYY:=Lib.hid hy
   have i1:(0:Int)≤(I:Int)∧(I:Int) < (A:Int):=by omega
   clear hy
   by_cases hxy:x=y
   ·have HIN:Hid (x ∈ l):=Lib.hid (by rw [hxy];exact List.mem_of_getElem? HYY.out)
    have hxy':(x == y)=true:=by simpa using hxy
    clear hxy
    go_wp2
    go_ret
    exact ⟨I,rfl,rfl,⟨fun _=>HIN.out,fun _=>by omega⟩,by omega,by omega⟩
   ·have HE2:Hid (∀ j,j < I+1→l[j]? ≠ some x):=Lib.hid fun j hj=>by
     by_cases e:j=I
     ·rw [e,HYY.out]
      exact fun e=>hxy (Option.some.inj e).symm
     ·exact HE.out j (by omega)
    have hxy':(x == y)=false:=by simpa using hxy
    clear hxy
    go_wp2
    go_roundg (A - (I+1))
    case measure=>omega
    case rel=>exact ⟨I+1,by omega,rfl,by go_num,rfl,HE2⟩
  ·obtain rfl:I=A:=by omega
   have HNO:Hid (x ∉ l):=Lib.hid (fun h=>by
    obtain ⟨j,hj,e⟩:=List.mem_iff_getElem.1 h
    exact HE.out j (by rw [← HA.out];exact hj) (by rw [List.getElem?_eq_getElem hj,e]))
   go_wp2
   go_ret
   exact ⟨-1,rfl,rfl,⟨fun h=>by omega,fun h=>absurd h HNO.out⟩,by omega,by omega⟩
def MemPost (l:List Int) (x:Int) (w:World) (e:Ending) (w':World):Prop:=e=.returned (.bool (decide (x ∈ l)))∧w=w'
set_option maxHeartbeats 2000000 in
theorem lcontains_any (u:Value) (l:List Int) (x:Int) (w:World) (hu:IRd w u l) (hl:l.length≤1000000) :
  Calls Tryz.prog 68 #[u,.int .i64 x] w (MemPost l x w):=by
 have HI:=Lib.hid (lindex_any u l x w hu hl)
 obtain ⟨au,cu,rfl⟩:=hu.form
 clear hu
 go_enter Tryz.func68,Tryz.ntmps68
 go_wp2_with fail
 refine HI.out.mono ?_
 rintro e w' ⟨i,rfl,rfl,hi,hi1,hi2⟩
 have HM:Hid (decide (i ≥ 0)=decide (x ∈ l)):=Lib.hid (by rw [decide_eq_decide];exact hi)
 clear hi
 obtain ⟨b,hb⟩:∃ b,decide (x ∈ l)=b:=⟨_,rfl⟩
 have HB:=Lib.hid hb
 have hd:decide (i ≥ 0)=b:=by rw [HM.out,hb]
 clear hb
 cases b
 ·have hn:¬ i ≥ 0:=of_decide_eq_false hd
  have hn2:¬ 0≤i:=hn
  have hn3:decide (0≤i)=false:=decide_eq_false hn2
  clear hd
  go_wp2
  go_ret
  exact ⟨by rw [HB.out] <;> rfl,rfl⟩
 ·have hn:i ≥ 0:=of_decide_eq_true hd
  clear hd
  go_wp2
  go_ret
  exact ⟨by rw [HB.out] <;> rfl,rfl⟩
def HasPost (l:List Int) (x:Int) (w:World) (e:Ending) (w':World):Prop:=e=.returned (.bool (decide (x ∈ l)))∧Below w.heap.size w w'
set_option maxHeartbeats 2000000 in
theorem lhas_any (u:Value) (l:List Int) (x:Int) (a:Option Addr) (n c:Nat) (w:World) (hu:IRd w u l) (hl:l.length≤1000000) :
  Calls Tryz.prog 47 #[u,.agg #[.int .i64 x,.slice a n c]] w (HasPost l x w):=by
 have hb:Below w.heap.size w (w.alloc (.cells #[.int .i64 x,.slice a n c] 45)):=(Below.refl _ _).alloc (Nat.le_refl _) _
 have HC:=Lib.hid (lcontains_any u l x _ (hu.below hb) hl)
 have HB:=Lib.hid hb
 obtain ⟨au,cu,rfl⟩:=hu.form
 clear hu hb
 unfold MemPost at HC
 go_enter Tryz.func47,Tryz.ntmps47
 go_wp2_with fail
 refine HC.out.mono ?_
 rintro e w' ⟨rfl,rfl⟩
 go_wp2
 go_ret
 exact ⟨rfl,HB.out⟩
end Go.Proofs.YtbiaoohodjoojaaGreat
/- A node's share of its group's. -/
namespace Go.Proofs.YtbiaoohodjoojaaGreat
open Go.RowKit Fld
set_option linter.unusedVariables false
set_option linter.unusedSimpArgs false

def LNearPost (fb r t N:Nat) (xs:List GF) (l:List Sy) (w:World) (e:Ending) (w':World):Prop :=
 Kp [fb] w w'∧FOk w' fb∧∃ (b:GF) (c:Int),e=.returned (.tuple #[.int .u8 (b.n:Nat),.int .i64 c])∧NearIs r t N xs l b c
theorem apart_nilG (V:Value):Apart V (Value.slice none 0 0).ownBlock.toList:=fun k _ hm=>by simp [Value.ownBlock] at hm
set_option maxRecDepth 100000 in
set_option maxHeartbeats 8000000 in
theorem lnear_any (w:World) (lb cb fb n k r K t:Nat) (cv xv hv:Value) (xs:List GF) (l:List Sy) (h:LCode w lb cb fb n k r K cv xv xs) (hr:1≤r∧r≤254) (hn:n≤255) (hx:xs.length=n) (hnd:xs.Nodup) (hl:SyAll w hv l) (hll:l.length≤1000) (ht:t < n) (hg:SyGood n (t:Int) 1 l) :
  Calls Tryz.prog 22 #[.pointer (some ⟨lb,0,none⟩),.int .i64 t,hv] w (LNearPost fb r t n xs l w):=by
 obtain ⟨ah,ch,rfl⟩:=hl.rd.form
 obtain ⟨ax,cx,rfl,hcx⟩:=h.rd.form
 obtain ⟨L,hL⟩:∃ L,l.length=L:=⟨_,rfl⟩
 have hfl:=h.code.ok.lt
 have hlbl:=lt_of_heap h.box
 have y1:=cell_of_heap h.box (j:=1) rfl
 have y2:=cell_of_heap h.box (j:=2) rfl
 have y4:=cell_of_heap h.box (j:=4) rfl
 have y5:=cell_of_heap h.box (j:=5) rfl
 have HIS:=Lib.hid (lis_any w lb n (t:Int) y2)
 have HFIT:=Lib.hid (lfit_any w lb n _ l (t:Int) y2 hlbl hl (by omega) (by omega))
 unfold LIsPost at HIS
 rw [decide_eq_true (show 0≤(t:Int)∧(t:Int) < (n:Int) by omega)] at HIS
 have H:=Lib.hid h
 have HS:=Lib.hid hl
 have HL:=Lib.hid hL
 have HX:=Lib.hid hx
 have HND:=Lib.hid hnd
 have HG:=Lib.hid hg
 have HC:=Lib.hid (And.intro y1 (And.intro y2 (And.intro y4 y5)))
 rw [hL] at HS HFIT hll ⊢
 rw [hx] at HC H
 have hmf:∀ (fn:Fn) (first cap:Array Value) (w:World),(Instr.makeFunc fn first cap).run Tryz.prog w=.ok (.func fn first cap) w:=fun _ _ _ _=>rfl
 clear h hl hL hx hnd hg y1 y2 y4 y5 hcx
 go_enter Tryz.func22,Tryz.ntmps22
 go_wp2_with fail
 refine HIS.out.mono ?_
 rintro e w' ⟨rfl,rfl⟩
 go_wp2_with fail
 refine HFIT.out.mono ?_
 rintro e w1 ⟨b,rfl,hb1,hbi⟩
 obtain rfl:b=true:=hbi.2 HG.out
 have HB1:=Lib.hid hb1
 have hs1:=hb1.size
 have HGR:=Lib.hid (lgroup_any lb n r (t:Int) w1 ((hb1.cell (p:=⟨lb,2,none⟩) hlbl).trans HC.out.2.1) ((hb1.cell (p:=⟨lb,4,none⟩) hlbl).trans HC.out.2.2.1) (by omega) (by omega))
 clear hb1 hbi HFIT HIS
 go_wp2_with fail
 refine HGR.out.mono ?_
 rintro e w2 (⟨t',et,-,vg,rfl,hog,hb2⟩ | ⟨hno,-⟩)
 case inr=>exact absurd ⟨by omega,by omega⟩ hno
 obtain rfl:t=t':=by omega
 have HOG:=Lib.hid hog
 have HB2:Hid (Below w.heap.size w w2):=Lib.hid (HB1.out.trans (hb2.mono hs1))
 have hs2:=HB2.out.size
 obtain ⟨ag,cg,rfl⟩:=hog.rd.form
 rw [rowN_len] at HOG ⊢
 clear hb2 hog et HGR
 go_wp2
 go_loopg [8,9,36] L (fun gk p q i wr=>∃ (V1 V2:Value) (I:Nat),V1=p∧V2=q∧I≤L∧gk=L - I∧i=.int .i64 I∧Hid (OwnG wr w2.heap.size V1 (atL xs (nearL r t (l.take I))))∧Hid (OwnG wr w2.heap.size V2 (ysL (nearL r t (l.take I))))∧Hid (Apart V2 V1.ownBlock.toList)∧Hid (Below w2.heap.size w2 wr))
 case atStart=>exact ⟨_,_,0,rfl,rfl,by omega,rfl,rfl,Lib.hid (OwnG.nil _ _),Lib.hid (OwnG.nil _ _),Lib.hid (apart_nilG _),Lib.hid (Below.refl _ _)⟩
 case round =>
  obtain ⟨V1,V2,I,rfl,rfl,hI,rfl,rfl,HO1,HO2,HAP,HBR⟩:=hrel
  have hsr:=HBR.out.size
  have HBW:Hid (Below w.heap.size w wr):=Lib.hid (HB2.out.trans (HBR.out.mono hs2))
  by_cases hlt:I < L
  ·obtain ⟨s,hs⟩:∃ s,l[I]? = some s:=⟨_,List.getElem?_eq_getElem (by rw [HL.out];exact hlt)⟩
   obtain ⟨-,hcap,b,o,rfl,hb,hat⟩:=SRd.at (HS.out.below HBW.out).rd hs
   have c0:wr.cell? ⟨b,o+I * 2,none⟩=some (.int .i64 s.node):=hat 0 _ rfl
   have c1:wr.cell? ⟨b,o+I * 2+1,none⟩=some (.slice s.a s.d.length s.cp):=hat 1 _ rfl
   obtain ⟨⟨hs0,hsn⟩,hst,hsd⟩:=HG.out.at hs
   obtain ⟨x,hx⟩:∃ x:Nat,s.node=(x:Int):=⟨s.node.toNat,by omega⟩
   rw [hx] at c0 hsn hst
   rw [hsd] at c1
   have hin:decide ((x:Int) ∈ rowN r (grpF r t))=inG r t s:=by
    unfold inG
    rw [hx,Int.toNat_natCast,decide_eq_decide,grp_mem]
    exact ⟨fun h=>h.1,fun h=>⟨h,fun e=>hst (by rw [e])⟩⟩
   have i1:(0:Int)≤(I:Int)∧(I:Int) < (L:Int):=by omega
   have hb3:Below wr.heap.size wr (wr.alloc (.cells #[.int .i64 (x:Nat),.slice s.a 1 s.cp] 45)):=(Below.refl _ _).alloc (Nat.le_refl _) _
   have HHAS:=Lib.hid (lhas_any (.slice ag r cg) (rowN r (grpF r t)) (x:Int) s.a 1 s.cp _ ((HOG.out.below HBR.out).below hb3).rd (by rw [rowN_len];omega))
   unfold HasPost at HHAS
   rw [hin] at HHAS
   have HSX:=Lib.hid (And.intro hs (And.intro hx hsd))
   have HB3:=Lib.hid hb3
   have hxn:x < n:=by omega
   clear hat hs hb3 hin hsn hs0 hst hx hsd
   go_wp2_with fail
   refine HHAS.out.mono ?_
   rintro e w6 ⟨rfl,hb6⟩
   obtain ⟨q,hq⟩:∃ q,inG r t s=q:=⟨_,rfl⟩
   have HQ:=Lib.hid hq
   have HBA:Hid (Below wr.heap.size wr w6):=Lib.hid (HB3.out.trans (hb6.mono HB3.out.size))
   have HB6:=Lib.hid hb6
   rw [hq]
   clear hq hb6 HHAS
   cases q
   ·have HE:Hid (nearL r t (l.take (I+1))=nearL r t (l.take I)):=Lib.hid (by rw [nearL_succ HSX.out.1,HQ.out];rfl)
    have HO1n:Hid (OwnG w6 w2.heap.size V1 (atL xs (nearL r t (l.take (I+1))))):=Lib.hid (by rw [HE.out];exact HO1.out.below HBA.out)
    have HO2n:Hid (OwnG w6 w2.heap.size V2 (ysL (nearL r t (l.take (I+1))))):=Lib.hid (by rw [HE.out];exact HO2.out.below HBA.out)
    have HBN:Hid (Below w2.heap.size w2 w6):=Lib.hid (HBR.out.trans (HBA.out.mono hsr))
    go_wp2
    go_roundg (L - (I+1))
    case measure=>omega
    case rel=>exact ⟨V1,V2,I+1,rfl,rfl,by omega,rfl,by go_num,HO1n,HO2n,HAP,HBN⟩
   ·have hb06:Below w.heap.size w w6:=HBW.out.trans (HBA.out.mono HBW.out.size)
    have hs6:=HBA.out.size
    have d0:w6.cell? ⟨wr.heap.size,0,none⟩=some (.int .i64 (x:Nat)):=(HB6.out.cell (p:=⟨wr.heap.size,0,none⟩) (by simp)).trans (cell_of_heap (heap_newA _ _) (j:=0) rfl)
    have d1:w6.cell? ⟨wr.heap.size,1,none⟩=some (.slice s.a 1 s.cp):=(HB6.out.cell (p:=⟨wr.heap.size,1,none⟩) (by simp)).trans (cell_of_heap (heap_newA _ _) (j:=1) rfl)
    have hwr6:wr.heap.size < w6.heap.size:=Nat.lt_of_lt_of_le (by simp) HB6.out.size
    have d5:=(hb06.cell (p:=⟨lb,5,none⟩) hlbl).trans HC.out.2.2.2
    obtain ⟨z,hz,hzd⟩:=at_get (l:=xs) (i:=x) (by rw [HX.out];exact hxn)
    obtain ⟨bx,ox,rfl,hbx,-⟩:=H.out.rd.at hz
    obtain ⟨_,_,e,-,cx6⟩:=(H.out.rd.below hb06).at hz
    cases e
    obtain ⟨y,hy,hyd⟩:=at_get (l:=s.d) (i:=0) (by rw [HSX.out.2.2];exact Nat.one_pos)
    have hsrd:=HS.out.each s (List.mem_of_getElem? HSX.out.1)
    unfold Sy.rd at hsrd
    rw [HSX.out.2.2] at hsrd
    obtain ⟨sa,sd,hsa⟩:∃ sa sd,sa=s.a∧sd=s.cp:=⟨_,_,rfl,rfl⟩
    rw [← hsa.1,← hsa.2] at hsrd d1
    obtain ⟨bd,od,rfl,hbd,-⟩:=hsrd.at hy
    obtain ⟨_,_,e,-,cy6⟩:=(hsrd.below hb06).at hy
    cases e
    rw [Nat.add_zero] at cy6
    obtain ⟨zn,hzn⟩:∃ zn,z.n=zn:=⟨_,rfl⟩
    obtain ⟨yn,hyn⟩:∃ yn,y.n=yn:=⟨_,rfl⟩
    rw [hzn] at cx6
    rw [hyn] at cy6
    have HX1:=Lib.hid hzn
    have HX2:=Lib.hid hyn
    have hnl:=near_len r t (l.take I)
    rw [List.length_take] at hnl
    have hnl2:(nearL r t (l.take I)).length≤1000:=by omega
    have HL1:Hid ((atL xs (nearL r t (l.take I))).length≤1000000):=Lib.hid (by rw [atL_len];omega)
    have HL2:Hid ((ysL (nearL r t (l.take I))).length≤1000000):=Lib.hid (by rw [ysL_len];omega)
    have HE:Hid (nearL r t (l.take (I+1))=nearL r t (l.take I) ++ [s]∧xs.getD s.node.toNat 0=z∧s.d.getD 0 0=y):=Lib.hid ⟨by rw [nearL_succ HSX.out.1,HQ.out];rfl,by rw [HSX.out.2.1,Int.toNat_natCast];exact hzd,hyd⟩
    have HV1:Hid (∀ b ∈ V1.ownBlock.toList,b < wr.heap.size∧w2.heap.size≤b):=Lib.hid fun b hb=>by have:=HO1.out.lt b (by simpa using hb);exact ⟨this.2,this.1⟩
    have HV2:Hid (∀ b ∈ V2.ownBlock.toList,b < wr.heap.size∧w2.heap.size≤b):=Lib.hid fun b hb=>by have:=HO2.out.lt b (by simpa using hb);exact ⟨this.2,this.1⟩
    have HBW2:Hid (Below w2.heap.size w2 w6):=Lib.hid (HBR.out.trans (HBA.out.mono hsr))
    have HO1:=Lib.hid (HO1.out.below HBA.out)
    have HO2:=Lib.hid (HO2.out.below HBA.out)
    obtain ⟨kp,hkp⟩:∃ kp:Nat→Bool,∀ k,kp k=true↔k < w6.heap.size∧k ∉ V1.ownBlock.toList∧k ∉ V2.ownBlock.toList:=⟨fun k=>decide (k < w6.heap.size∧k ∉ V1.ownBlock.toList∧k ∉ V2.ownBlock.toList),by simp⟩
    have kpo:∀ k,k < w2.heap.size→kp k=true:=fun k hk=>(hkp k).2 ⟨by omega,fun hm=>by have:=(HV1.out _ hm).2;omega,fun hm=>by have:=(HV2.out _ hm).2;omega⟩
    have k1:kp wr.heap.size=true:=(hkp _).2 ⟨hwr6,fun hm=>by have:=(HV1.out _ hm).1;omega,fun hm=>by have:=(HV2.out _ hm).1;omega⟩
    have k2:kp lb=true:=kpo _ (by omega)
    have k3:kp bx=true:=kpo _ (by omega)
    have k4:kp bd=true:=kpo _ (by omega)
    have HKP:=Lib.hid hkp
    have i2:(0:Int)≤(x:Int)∧(x:Int) < (n:Int):=by omega
    clear hz hzd hy hyd hsrd hsa hzn hyn hnl hnl2 hkp kpo hb06
    go_wp2
    go_upto_region 11 with fail
    have hgr:=fun (w0 W:World) (p:Addr) (hp:(fun k=>kp k=true) p.block)=>graft_cell (w0:=w0) (keep:=(fun k=>kp k=true)) W hp
    refine wp_region_tree (fun k=>kp k=true) [9,10,16,17] (.sq [0,1,2,3,4,5,6,7,8,11,12,13,14,15] (.fork 9 (.fork 10 (.sq [16,17,18,19] .done) 16 (.sq [10,17,18,19] .done)) 16 (.sq [9,10,17,18,19] .done))) (by kernel_rfl) (by kernel_rfl) ?_
    simp only [Tr.sq,List.foldr_cons,List.foldr_nil,slimTr,slimStep,Oper.slim,List.contains_cons,List.contains_nil,Option.map_none,Option.map_some,List.getElem?_toArray,List.getElem?_cons_zero,List.getElem?_cons_succ,Option.bind_some,beq_self_eq_true,Bool.or_false,Nat.reduceBEq,Nat.reduceAdd,Nat.zero_add]
    repeat' first | ((with_reducible refine wpSlimT_id ?_);first | (with_reducible refine wpSlimT_done ?_) | (with_reducible refine wpSlimT_fork ?_ ?_) | (first | (refine wpSlimT_appE _ _ _ rfl rfl rfl rfl rfl (app_byte_at _ (HO1.out.below (by (repeat' (first | (with_reducible exact RowKit.Below.refl _ _) | (with_reducible assumption) | (with_reducible refine RowKit.Below.drew ?_) | (with_reducible refine RowKit.Below.alloc ?_ ?_ _) | omega | (simp;done) | (simp;omega))))) HL1.out (by simp;omega) HX1.out (cell_of_heap (by first | exact heap_newA _ _ | exact keepA (heap_newA _ _) _ | exact heap_newE _ _ _ (by simp) | exact keepA (heap_newE _ _ _ (by simp)) _) (j:=0) rfl)) ?_;rintro v1 w7 ⟨ho1,hk1,hb1,hat1⟩;have HO1':=Lib.hid ho1;have HK1:=Lib.hid hk1;have HAT1:Hid (∀ b,v1.ownBlock=some b→b ∈ V1.ownBlock.toList ∨ w6.heap.size≤b):=Lib.hid (fun b hb=>by rcases hat1 with e | e <;> rw [e] at hb;exact .inl (by simpa using hb);(cases hb;exact .inr (by first | (simp;done) | (simp;omega))));have HBN7:Hid (Below w2.heap.size w2 w7):=Lib.hid ((HBW2.out.trans (by (repeat' (first | (with_reducible exact RowKit.Below.refl _ _) | (with_reducible assumption) | (with_reducible refine RowKit.Below.drew ?_) | (with_reducible refine RowKit.Below.alloc ?_ ?_ _) | omega | (simp;done) | (simp;omega))))).trans hb1);have HO2':=Lib.hid ((HO2.out.below (by (repeat' (first | (with_reducible exact RowKit.Below.refl _ _) | (with_reducible assumption) | (with_reducible refine RowKit.Below.drew ?_) | (with_reducible refine RowKit.Below.alloc ?_ ?_ _) | omega | (simp;done) | (simp;omega))))).kp hk1 HAP.out);have hs7:w6.heap.size < w7.heap.size:=Nat.lt_of_lt_of_le (by first | (simp;done) | (simp;omega)) hk1.size;have HB7:=Lib.hid hb1;have HKE7:Hid (∀ kk,kp kk=true→w7.heap[kk]? = w6.heap[kk]?):=Lib.hid (fun kk hkk=>(HK1.out.block kk (by have:=((HKP.out kk).1 hkk).1;simp;omega) ((HKP.out kk).1 hkk).2.1).trans (by have:=((HKP.out kk).1 hkk).1;first | exact hp_alloc _ _ _ (by simp;omega) | exact (hp_alloc _ _ _ (by simp;omega)).trans (hp_alloc _ _ _ (by simp;omega))));clear ho1 hk1 hb1 hat1;refine ⟨(fun kk hkk=>HKE7.out kk hkk),?_⟩) | (refine wpSlimT_appE _ _ _ rfl rfl rfl rfl rfl (app_byte_at _ (HO2'.out.below (by (repeat' (first | (with_reducible exact RowKit.Below.refl _ _) | (with_reducible assumption) | (with_reducible refine RowKit.Below.drew ?_) | (with_reducible refine RowKit.Below.alloc ?_ ?_ _) | omega | (simp;done) | (simp;omega))))) HL2.out (by first | omega | (simp;omega)) HX2.out (cell_of_heap (by first | (first | exact heap_newA _ _ | exact keepA (heap_newA _ _) _ | exact heap_newE _ _ _ (by simp) | exact keepA (heap_newE _ _ _ (by simp)) _) | (refine HK1.out.heap (by first | exact heap_newA _ _ | exact keepA (heap_newA _ _) _ | exact heap_newE _ _ _ (by simp) | exact keepA (heap_newE _ _ _ (by simp)) _) ?_;intro hm;have h9:=HV1.out _ hm;first | omega | (simp at h9;omega) | (have h8:w6.drew.heap.size=w6.heap.size:=rfl;omega))) (j:=0) rfl)) ?_;rintro v2 w8 ⟨ho2,hk2,hb2,hat2⟩;have HO2'':=Lib.hid ho2;have HK2:=Lib.hid hk2;have HBN8:Hid (Below w2.heap.size w2 w8):=Lib.hid ((HBN7.out.trans (by (repeat' (first | (with_reducible exact RowKit.Below.refl _ _) | (with_reducible assumption) | (with_reducible refine RowKit.Below.drew ?_) | (with_reducible refine RowKit.Below.alloc ?_ ?_ _) | omega | (simp;done) | (simp;omega))))).trans hb2);have HAP8:Hid (Apart v2 v1.ownBlock.toList):=Lib.hid (fun b hb hm=>by have hm0:v1.ownBlock=some b:=(by simpa using hm);have hm:=HO1'.out.lt b hm0;rcases hat2 with e | e <;> rw [e] at hb;(rcases HAT1.out b hm0 with h | h;exact HAP.out b hb h;have:=HV2.out b (by simpa using hb);omega);(cases hb;first | omega | (simp at hm;omega)));have HO1'':=Lib.hid ((HO1'.out.below (by (repeat' (first | (with_reducible exact RowKit.Below.refl _ _) | (with_reducible assumption) | (with_reducible refine RowKit.Below.drew ?_) | (with_reducible refine RowKit.Below.alloc ?_ ?_ _) | omega | (simp;done) | (simp;omega))))).kp hk2 (fun b hb hm=>by have h9:=HV2.out b hm;rcases HAT1.out b hb with h | h;exact HAP.out b (by simpa using hm) h;omega));have hs8:w6.heap.size < w8.heap.size:=Nat.lt_of_lt_of_le (by first | omega | (simp;omega)) hk2.size;have HB8:=Lib.hid hb2;clear ho2 hk2 hb2 hat2;refine ⟨?keep,?_⟩;(case keep=>(intro kk hkk;have hkk2:=((HKP.out kk).1 hkk).1;refine (HK2.out.block kk (by first | omega | (simp;omega)) ((HKP.out kk).1 hkk).2.2).trans ?_;first | exact HKE7.out kk hkk | (refine (hp_alloc _ _ _ ?_).trans (HKE7.out kk hkk);omega))))) | ((with_reducible refine wpSlimT_step (fun K hK=>?_));go_simp;first | (refine hK _ _ ?_;clear hK K) | (refine ⟨by (intro kk hkk;first | (simp (disch:=(simp;omega)) only [hp_drew,hp_drewN,hp_alloc,hp_set];done) | (simp [hp_drew,hp_drewN,hp_alloc_if,hkk];done) | (have hkk2:=((HKP.out kk).1 hkk).1;first | exact hp_alloc _ _ _ (by simp;omega) | exact (hp_alloc _ _ _ (by simp;omega)).trans (hp_alloc _ _ _ (by simp;omega)) | (refine (hp_alloc _ _ _ ?_).trans (HKE7.out kk hkk);omega))),hK _ _ ?_⟩;clear hK K))) | fail
    all_goals clear hgr
    all_goals
     have HO1n:Hid (OwnG w8 w2.heap.size v1 (atL xs (nearL r t (l.take (I+1))))):=Lib.hid (by
      rw [HE.out.1,atL,List.map_append,List.map_cons,List.map_nil,HE.out.2.1]
      exact HO1''.out)
     have HO2n:Hid (OwnG w8 w2.heap.size v2 (ysL (nearL r t (l.take (I+1))))):=Lib.hid (by
      rw [HE.out.1,ysL,List.map_append,List.map_cons,List.map_nil,HE.out.2.2]
      exact HO2''.out)
     clear HO1 HO2 HO1' HO2' HO1'' HO2'' HK1 HK2 HB7 HB8 HKE7 HAT1
     go_wp2
     go_roundg (L - (I+1))
     case measure=>omega
     case rel=>exact ⟨v1,v2,I+1,rfl,rfl,by omega,rfl,by go_num,HO1n,HO2n,HAP8,HBN8⟩
  ·obtain rfl:I=L:=by omega
   have hLt:l.take I=l:=by rw [← HL.out,List.take_length]
   rw [hLt] at HO1 HO2
   have hal:=atL_len xs (nearL r t l)
   have hyl:=ysL_len (nearL r t l)
   obtain ⟨M,hM⟩:∃ M,(nearL r t l).length=M:=⟨_,rfl⟩
   have hMb:M≤1000:=by rw [← hM];have:=near_len r t l;rw [HL.out] at this;omega
   rw [hM] at hal hyl
   obtain ⟨a1,c1,rfl,-⟩:=HO1.out.form
   obtain ⟨a2,c2,rfl,-⟩:=HO2.out.form
   rw [hal] at HO1 HAP ⊢
   rw [hyl] at HO2 HAP ⊢
   have HM:=Lib.hid hM
   have d1:=(HBW.out.cell (p:=⟨lb,1,none⟩) hlbl).trans HC.out.1
   have d4:=(HBW.out.cell (p:=⟨lb,4,none⟩) hlbl).trans HC.out.2.2.1
   have HFW:=Lib.hid (H.out.code.ok.below HBW.out)
   have HKW:Hid (Kp [fb] w wr):=Lib.hid (Kp.of_below HBW.out)
   clear hLt hM hsr
   by_cases hfew:M < r
   ·have hfew':(M:Int) < (r:Int):=by omega
    have HFEW:=Lib.hid hfew
    clear hfew
    go_wp2
    go_ret2
    exact ⟨HKW.out,HFW.out,0,70,rfl,.inr ⟨⟨ht,HG.out⟩,.inl ⟨by rw [HM.out];exact HFEW.out,rfl,rfl⟩⟩⟩
   ·have hfew':¬ (M:Int) < (r:Int):=by omega
    have HFEW:Hid (r≤M):=Lib.hid (by omega)
    have hap:∀ (V:Value) (xx:List GF),OwnG wr w2.heap.size V xx→Apart V [fb]:=fun V xx ho b hb hm=>by
     have:=(ho.lt b hb).1
     simp at hm
     omega
    have HTH:=Lib.hid (pthru_any fb (.slice a1 M c1) (.slice a2 M c2) (atL xs (nearL r t l)) (ysL (nearL r t l)) wr HFW.out HO1.out.rd HO2.out.rd (.inr (hap _ _ HO1.out)) (.inr (hap _ _ HO2.out)) (near_nodup HG.out HX.out HND.out) (by rw [hal];omega) (by rw [hal,hyl]))
    clear hfew hap
    go_wp2_with fail
    refine HTH.out.mono ?_
    rintro e w3 ⟨v3,p,rfl,ho3,hth,hk3,hf3⟩
    have hpl:p.length≤1000:=by have:=hth.2.1;rw [hal] at this;omega
    have HK3:Hid (Kp [fb] w w3):=Lib.hid (HKW.out.trans hk3)
    have hs3:=HK3.out.size
    have H3:=Lib.hid (H.out.step HK3.out hf3)
    have HTHR:=Lib.hid hth
    have HO3:=Lib.hid ho3
    have HF3:=Lib.hid hf3
    have e1:=cell_of_heap H3.out.box (j:=1) rfl
    have e5:=cell_of_heap H3.out.box (j:=5) rfl
    obtain ⟨z,hz,hzd⟩:=at_get (l:=xs) (i:=t) (by rw [HX.out];exact ht)
    obtain ⟨bx,ox,rfl,hbx,cx6⟩:=H3.out.rd.at hz
    have hbxf:bx ≠ fb:=by simpa using H3.out.apart bx rfl
    have hlbf:=H.out.ne
    have HZ:=Lib.hid hzd
    have hwr:w2.heap.size≤wr.heap.size:=HBR.out.size
    have hfr:fb < w3.heap.size:=hf3.lt
    have HAT:=Lib.hid (at_any fb v3 p z w3.drew (hf3.below ((Below.refl _ _).drew)) (ho3.rd.below ((Below.refl _ _).drew)) (by omega) (fun b hb hm=>by have:=(ho3.lt b hb).1;simp at hm;omega))
    obtain ⟨zn,hzn⟩:∃ zn,z.n=zn:=⟨_,rfl⟩
    obtain ⟨rn,hrn⟩:∃ rn,(ev p z).n=rn:=⟨_,rfl⟩
    have HRN:=Lib.hid hrn
    unfold FPost at HAT
    rw [hzn,hrn] at HAT
    rw [hzn] at cx6
    have i2:(0:Int)≤(t:Int)∧(t:Int) < (n:Int):=by omega
    obtain ⟨kp,hkp⟩:∃ kp:Nat→Bool,∀ k,kp k=true↔k < w3.heap.size∧k ≠ fb:=⟨fun k=>decide (k < w3.heap.size∧k ≠ fb),by simp⟩
    have k1:kp lb=true:=(hkp _).2 ⟨lt_of_heap H3.out.box,hlbf⟩
    have k2:kp bx=true:=(hkp _).2 ⟨hbx,hbxf⟩
    have HKP:=Lib.hid hkp
    clear hz hzd hkp hk3 hf3 ho3 hth hzn hrn HTH d1 d4
    go_wp2
    go_upto_region 16 with fail
    have hgr:=fun (w0 W:World) (p:Addr) (hp:(fun k=>kp k=true) p.block)=>graft_cell (w0:=w0) (keep:=(fun k=>kp k=true)) W hp
    refine wp_region_tree (fun k=>kp k=true) [12] (.sq [0,1,2,3,4,5,6,7,8,9,10,11,13,12,14,15] .done) (by kernel_rfl) (by kernel_rfl) ?_
    simp only [Tr.sq,List.foldr_cons,List.foldr_nil,slimTr,slimStep,Oper.slim,List.contains_cons,List.contains_nil,Option.map_none,Option.map_some,List.getElem?_toArray,List.getElem?_cons_zero,List.getElem?_cons_succ,Option.bind_some,beq_self_eq_true,Bool.or_false,Nat.reduceBEq,Nat.reduceAdd,Nat.zero_add]
    repeat' first | ((with_reducible refine wpSlimT_id ?_);first | (with_reducible refine wpSlimT_done ?_) | (first | (refine wpSlimT_appE _ _ _ rfl rfl rfl rfl rfl (app_byte_at _ (HO1.out.below (by (repeat' (first | (with_reducible exact RowKit.Below.refl _ _) | (with_reducible assumption) | (with_reducible refine RowKit.Below.drew ?_) | (with_reducible refine RowKit.Below.alloc ?_ ?_ _) | omega | (simp;done) | (simp;omega))))) HL1.out (by simp;omega) HX1.out (cell_of_heap (by first | exact heap_newA _ _ | exact keepA (heap_newA _ _) _ | exact heap_newE _ _ _ (by simp) | exact keepA (heap_newE _ _ _ (by simp)) _) (j:=0) rfl)) ?_;rintro v1 w7 ⟨ho1,hk1,hb1,hat1⟩;have HO1':=Lib.hid ho1;have HK1:=Lib.hid hk1;have HAT1:Hid (∀ b,v1.ownBlock=some b→b ∈ V1.ownBlock.toList ∨ w6.heap.size≤b):=Lib.hid (fun b hb=>by rcases hat1 with e | e <;> rw [e] at hb;exact .inl (by simpa using hb);(cases hb;exact .inr (by first | (simp;done) | (simp;omega))));have HBN7:Hid (Below w2.heap.size w2 w7):=Lib.hid ((HBW2.out.trans (by (repeat' (first | (with_reducible exact RowKit.Below.refl _ _) | (with_reducible assumption) | (with_reducible refine RowKit.Below.drew ?_) | (with_reducible refine RowKit.Below.alloc ?_ ?_ _) | omega | (simp;done) | (simp;omega))))).trans hb1);have HO2':=Lib.hid ((HO2.out.below (by (repeat' (first | (with_reducible exact RowKit.Below.refl _ _) | (with_reducible assumption) | (with_reducible refine RowKit.Below.drew ?_) | (with_reducible refine RowKit.Below.alloc ?_ ?_ _) | omega | (simp;done) | (simp;omega))))).kp hk1 HAP.out);have hs7:w6.heap.size < w7.heap.size:=Nat.lt_of_lt_of_le (by first | (simp;done) | (simp;omega)) hk1.size;have HB7:=Lib.hid hb1;have HKE7:Hid (∀ kk,kp kk=true→w7.heap[kk]? = w6.heap[kk]?):=Lib.hid (fun kk hkk=>(HK1.out.block kk (by have:=((HKP.out kk).1 hkk).1;simp;omega) ((HKP.out kk).1 hkk).2.1).trans (by have:=((HKP.out kk).1 hkk).1;first | exact hp_alloc _ _ _ (by simp;omega) | exact (hp_alloc _ _ _ (by simp;omega)).trans (hp_alloc _ _ _ (by simp;omega))));clear ho1 hk1 hb1 hat1;refine ⟨(fun kk hkk=>HKE7.out kk hkk),?_⟩) | (refine wpSlimT_appE _ _ _ rfl rfl rfl rfl rfl (app_byte_at _ (HO2'.out.below (by (repeat' (first | (with_reducible exact RowKit.Below.refl _ _) | (with_reducible assumption) | (with_reducible refine RowKit.Below.drew ?_) | (with_reducible refine RowKit.Below.alloc ?_ ?_ _) | omega | (simp;done) | (simp;omega))))) HL2.out (by first | omega | (simp;omega)) HX2.out (cell_of_heap (by first | (first | exact heap_newA _ _ | exact keepA (heap_newA _ _) _ | exact heap_newE _ _ _ (by simp) | exact keepA (heap_newE _ _ _ (by simp)) _) | (refine HK1.out.heap (by first | exact heap_newA _ _ | exact keepA (heap_newA _ _) _ | exact heap_newE _ _ _ (by simp) | exact keepA (heap_newE _ _ _ (by simp)) _) ?_;intro hm;have h9:=HV1.out _ hm;first | omega | (simp at h9;omega) | (have h8:w6.drew.heap.size=w6.heap.size:=rfl;omega))) (j:=0) rfl)) ?_;rintro v2 w8 ⟨ho2,hk2,hb2,hat2⟩;have HO2'':=Lib.hid ho2;have HK2:=Lib.hid hk2;have HBN8:Hid (Below w2.heap.size w2 w8):=Lib.hid ((HBN7.out.trans (by (repeat' (first | (with_reducible exact RowKit.Below.refl _ _) | (with_reducible assumption) | (with_reducible refine RowKit.Below.drew ?_) | (with_reducible refine RowKit.Below.alloc ?_ ?_ _) | omega | (simp;done) | (simp;omega))))).trans hb2);have HAP8:Hid (Apart v2 v1.ownBlock.toList):=Lib.hid (fun b hb hm=>by have hm0:v1.ownBlock=some b:=(by simpa using hm);have hm:=HO1'.out.lt b hm0;rcases hat2 with e | e <;> rw [e] at hb;(rcases HAT1.out b hm0 with h | h;exact HAP.out b hb h;have:=HV2.out b (by simpa using hb);omega);(cases hb;first | omega | (simp at hm;omega)));have HO1'':=Lib.hid ((HO1'.out.below (by (repeat' (first | (with_reducible exact RowKit.Below.refl _ _) | (with_reducible assumption) | (with_reducible refine RowKit.Below.drew ?_) | (with_reducible refine RowKit.Below.alloc ?_ ?_ _) | omega | (simp;done) | (simp;omega))))).kp hk2 (fun b hb hm=>by have h9:=HV2.out b hm;rcases HAT1.out b hb with h | h;exact HAP.out b (by simpa using hm) h;omega));have hs8:w6.heap.size < w8.heap.size:=Nat.lt_of_lt_of_le (by first | omega | (simp;omega)) hk2.size;have HB8:=Lib.hid hb2;clear ho2 hk2 hb2 hat2;refine ⟨?keep,?_⟩;(case keep=>(intro kk hkk;have hkk2:=((HKP.out kk).1 hkk).1;refine (HK2.out.block kk (by first | omega | (simp;omega)) ((HKP.out kk).1 hkk).2.2).trans ?_;first | exact HKE7.out kk hkk | (refine (hp_alloc _ _ _ ?_).trans (HKE7.out kk hkk);omega))))) | ((with_reducible refine wpSlimT_step (fun K hK=>?_));go_simp;first | (refine hK _ _ ?_;clear hK K) | (refine ⟨by (intro kk hkk;first | (simp (disch:=(simp;omega)) only [hp_drew,hp_drewN,hp_alloc,hp_set];done) | (simp [hp_drew,hp_drewN,hp_alloc_if,hkk];done) | (have hkk2:=((HKP.out kk).1 hkk).1;first | exact hp_alloc _ _ _ (by simp;omega) | exact (hp_alloc _ _ _ (by simp;omega)).trans (hp_alloc _ _ _ (by simp;omega)) | (refine (hp_alloc _ _ _ ?_).trans (HKE7.out kk hkk);omega))),hK _ _ ?_⟩;clear hK K) | (go_at_call 49;(with_reducible refine (HAT.out).mono ?_);rintro e w7 ⟨rfl,hk7,hf7⟩;have HK7:=Lib.hid hk7;have HF7:=Lib.hid hf7;clear hk7 hf7;refine ⟨_,rfl,(fun kk hkk=>HK7.out.block kk ((HKP.out kk).1 hkk).1 (by have:=((HKP.out kk).1 hkk).2;simpa using this)),hK _ _ ?_⟩;clear hK K))) | fail
    clear hgr
    go_wp2
    go_ret2
    exact ⟨HK3.out.trans (((Kp.refl _ _).drew).trans HK7.out),HF7.out,ev p z,0,by rw [HRN.out] <;> rfl,.inr ⟨⟨ht,HG.out⟩,.inr ⟨by rw [HM.out];exact HFEW.out,rfl,p,HTHR.out,by rw [HZ.out]⟩⟩⟩
def NearZ (r:Nat) (tz:Int) (N:Nat) (xs:List GF) (l:List Sy) (b:GF) (c:Int):Prop :=
 (∃ t:Nat,tz=(t:Int)∧t < N∧NearIs r t N xs l b c) ∨ ¬ (0≤tz∧tz < (N:Int))∧b=0∧c=2
theorem nearZ_same {r N:Nat} {tz:Int} {xs:List GF} {l:List Sy} {b b':GF} {c c':Int} (hx:xs.length=N) (hn:xs.Nodup) (h:NearZ r tz N xs l b c) (h':NearZ r tz N xs l b' c'):b=b'∧c=c':=by
 rcases h with ⟨t,rfl,ht,h⟩ | ⟨h1,rfl,rfl⟩ <;> rcases h' with ⟨t',e,ht',h'⟩ | ⟨h1',rfl,rfl⟩
 ·obtain rfl:t=t':=by omega
  exact near_same hx hn h h'
 ·omega
 ·omega
 ·exact ⟨rfl,rfl⟩
def LNearZPost (fb r:Nat) (tz:Int) (N:Nat) (xs:List GF) (l:List Sy) (w:World) (e:Ending) (w':World):Prop :=
 Kp [fb] w w'∧FOk w' fb∧∃ (b:GF) (c:Int),e=.returned (.tuple #[.int .u8 (b.n:Nat),.int .i64 c])∧NearZ r tz N xs l b c
set_option maxHeartbeats 4000000 in
theorem lnearz_any (w:World) (lb cb fb n k r K:Nat) (tz:Int) (cv xv hv:Value) (xs:List GF) (l:List Sy) (h:LCode w lb cb fb n k r K cv xv xs) (hr:1≤r∧r≤254) (hn:n≤255) (hx:xs.length=n) (hnd:xs.Nodup) (hl:SyAll w hv l) (hll:l.length≤1000) :
  Calls Tryz.prog 22 #[.pointer (some ⟨lb,0,none⟩),.int .i64 tz,hv] w (LNearZPost fb r tz n xs l w):=by
 by_cases hin:0≤tz∧tz < (n:Int)
 ·obtain ⟨t,rfl⟩:∃ t:Nat,tz=(t:Int):=⟨tz.toNat,by omega⟩
  have ht:t < n:=by omega
  by_cases hg:SyGood n (t:Int) 1 l
  ·refine (lnear_any w lb cb fb n k r K t cv xv hv xs l h hr hn hx hnd hl hll ht hg).mono ?_
   rintro e w' ⟨h1,h2,b,c,h3,h4⟩
   exact ⟨h1,h2,b,c,h3,.inl ⟨t,rfl,ht,h4⟩⟩
  ·obtain ⟨ah,ch,rfl⟩:=hl.rd.form
   have hlbl:=lt_of_heap h.box
   have y2:=cell_of_heap h.box (j:=2) rfl
   have HIS:=Lib.hid (lis_any w lb n (t:Int) y2)
   have HFIT:=Lib.hid (lfit_any w lb n _ l (t:Int) y2 hlbl hl (by omega) (by omega))
   unfold LIsPost at HIS
   rw [decide_eq_true hin] at HIS
   have HG:=Lib.hid hg
   have HF:=Lib.hid h.code.ok
   clear h hl hg hin y2 hx hnd
   go_enter Tryz.func22,Tryz.ntmps22
   go_wp2_with fail
   refine HIS.out.mono ?_
   rintro e w' ⟨rfl,rfl⟩
   go_wp2_with fail
   refine HFIT.out.mono ?_
   rintro e w1 ⟨b,rfl,hb1,hbi⟩
   obtain rfl:b=false:=Bool.eq_false_iff.2 fun e=>HG.out (hbi.1 e)
   have HB1:=Lib.hid hb1
   clear hb1 hbi
   go_wp2
   go_ret2
   exact ⟨Kp.of_below HB1.out,HF.out.below HB1.out,0,2,rfl,.inl ⟨t,rfl,ht,.inl ⟨fun h=>HG.out h.2,rfl,rfl⟩⟩⟩
 ·obtain ⟨ah,ch,rfl⟩:=hl.rd.form
  have y2:=cell_of_heap h.box (j:=2) rfl
  have HIS:=Lib.hid (lis_any w lb n tz y2)
  unfold LIsPost at HIS
  rw [decide_eq_false hin] at HIS
  have HIN:=Lib.hid hin
  have HF:=Lib.hid h.code.ok
  clear h hl hin y2 hx hnd
  go_enter Tryz.func22,Tryz.ntmps22
  go_wp2_with fail
  refine HIS.out.mono ?_
  rintro e w' ⟨rfl,rfl⟩
  go_wp2
  go_ret2
  exact ⟨Kp.refl _ _,HF.out,0,2,rfl,.inr ⟨HIN.out,rfl,rfl⟩⟩
end Go.Proofs.YtbiaoohodjoojaaGreat
