/-
  The program's matrices: a row; none; one row added to another one.
  A range over a function whose body always goes on, walked outside of fences.
  The program's matrices: their rows, one behind the other.
  A copy of bytes; a matrix of noughts; the function that tells a matrix's rows.
  A matrix that is right; a matrix of noughts; the function that tells a matrix's rows; a copy of a matrix.
  A range over a function that reads what it tells: blocks that the rounds leave alone.
-/
import Derived.Test.YtnjbkfeihbcalaaGreatZFd
import Derived.Test.YtnjbkfeihbcalaaGreatZBase
import Derived.WalkSpells
import Derived.RangeFuncNested
import Derived.RangeFuncBound
import Derived.RangeFuncCalls
import Derived.RangeFuncLeaves
import Derived.RangeFuncBox
import Derived.Test.YtnjbkfeihbcalaaGreatZReg
import Derived.Shelf.Abstract
import Derived.Shelf.RegionOpen
import Derived.OwnWalkIn
import Derived.TacticsInMore
import Derived.LoopNIn
import Derived.LoopIn
import Derived.Maps.AppendAt
import Derived.Lib.SliceRun
import Derived.WalkLawsBesides
/- The program's matrices: a row; none; one row added to another one. -/
namespace Go.Proofs.YtnjbkfeihbcalaaGreat
open Go.RowKit Fld
set_option linter.unusedVariables false
set_option linter.unusedSimpArgs false

set_option maxHeartbeats 400000 in
theorem row_any (R C i b o len cap:Nat) (w:World) (hC:0 < C) (hi:(i+1) * C≤cap) (hb:(i+1) * C≤4611686018427387904) :
  Calls Tryz.prog 70 #[.agg #[.int .i64 R,.int .i64 C,.slice (some ⟨b,o,none⟩) len cap],.int .i64 i] w fun e w'=>e=.returned (.slice (some ⟨b,o+i * C,none⟩) C C)∧Below w.heap.size w w':=by
 obtain ⟨x,hx⟩:∃ x,i * C=x:=⟨_,rfl⟩
 have hs:(i+1) * C=x+C:=by rw [Nat.add_mul,hx,Nat.one_mul]
 have hCle:C≤x+C:=by omega
 have hile:i+1≤x+C:=by rw [← hs];exact Nat.le_mul_of_pos_right _ hC
 have e1:IntKind.i64.wrap ((i:Int) * (C:Int))=(x:Int):=by rw [show ((i:Int) * (C:Int))=((i * C:Nat):Int) from by simp,hx];exact IntWalk.i64_in _ (by omega)
 have e2:IntKind.i64.wrap ((i:Int)+1)=(i:Int)+1:=IntWalk.i64_in _ (by omega)
 have e3:IntKind.i64.wrap (((i:Int)+1) * (C:Int))=((x+C:Nat):Int):=by rw [show (((i:Int)+1) * (C:Int))=(((i+1) * C:Nat):Int) from by simp,hs];exact IntWalk.i64_in _ (by omega)
 have HX:=Lib.hid hx
 rw [hs] at hi hb
 have hlt:x < cap:=by omega
 clear hx hs
 go_enter Tryz.func70,Tryz.ntmps70
 go_wp2
 go_ret
 refine ⟨?_,(Below.refl _ _).alloc (Nat.le_refl _) _⟩
 show Ending.returned (Value.slice (some ⟨b,o+x,none⟩) (x+C - x) (x+C - x))=_
 rw [HX.out,Nat.add_sub_cancel_left]

def View (w:World) (b N:Nat) (g:Nat→GF):Prop:=b < w.heap.size∧∀ j,j < N→w.cell? ⟨b,j,none⟩=some (.int .u8 ((g j).n:Nat))∧w.frozen? ⟨b,j,none⟩=false
theorem View.kp {S:List Nat} {w w':World} {b N:Nat} {g:Nat→GF} (h:View w b N g) (hk:Kp S w w') (hn:b ∉ S):View w' b N g :=
 ⟨Nat.lt_of_lt_of_le h.1 hk.size,fun j hj=>⟨(hk.cell (p:=⟨b,j,none⟩) h.1 hn).trans (h.2 j hj).1,(hk.frozen (p:=⟨b,j,none⟩) h.1 hn).trans (h.2 j hj).2⟩⟩
theorem View.below {w w':World} {b N:Nat} {g:Nat→GF} (h:View w b N g) (hb:Below w.heap.size w w'):View w' b N g:=h.kp (S:=[]) (Kp.of_below hb) (by simp)
theorem View.congr {w:World} {b N:Nat} {g g':Nat→GF} (h:View w b N g) (e:∀ j,j < N→g j=g' j):View w b N g':=⟨h.1,fun j hj=>by rw [← e j hj];exact h.2 j hj⟩
theorem View.mono {w:World} {b N M:Nat} {g:Nat→GF} (h:View w b N g) (hm:M≤N):View w b M g:=⟨h.1,fun j hj=>h.2 j (by omega)⟩
theorem View.set {w:World} {b N:Nat} {g:Nat→GF} (h:View w b N g) {i:Nat} (hi:i < N) (x:GF):View (w.setCell ⟨b,i,none⟩ (.int .u8 (x.n:Nat))) b N (fun j=>if j=i then x else g j):=by
 refine ⟨by simpa [World.setCell] using h.1,fun j hj=>?_⟩
 by_cases e:j=i
 ·subst e
  dsimp only
  rw [if_pos rfl]
  exact ⟨World.cell?_setCell_same _ _ _ (h.2 j hj).1,by rw [World.frozen?_setCell];exact (h.2 j hj).2⟩
 ·dsimp only
  rw [if_neg e]
  exact ⟨(World.cell?_setCell_other _ ⟨b,i,none⟩ ⟨b,j,none⟩ _ (by simp <;> omega)).trans (h.2 j hj).1,by rw [World.frozen?_setCell];exact (h.2 j hj).2⟩
theorem View.drew {w:World} {b N:Nat} {g:Nat→GF} (h:View w b N g):View w.drew b N g:=h
theorem View.drewN {w:World} {b N:Nat} {g:Nat→GF} (h:View w b N g) (n:Nat):View (w.drewN n) b N g:=h

noncomputable def addTo (o n:Nat) (r:Nat→GF) (t:GF) (g:Nat→GF):Nat→GF:=fun j=>if o≤j∧j < o+n then g j+r (j - o) * t else g j
theorem addTo_zero (o:Nat) (r:Nat→GF) (t:GF) (g:Nat→GF):addTo o 0 r t g=g:=by funext j;rw [addTo,if_neg (by omega)]
theorem addTo_succ (o n:Nat) (r:Nat→GF) (t:GF) (g:Nat→GF):(fun j=>if j=o+n then g (o+n)+r n * t else addTo o n r t g j)=addTo o (n+1) r t g:=by
 funext j
 unfold addTo
 by_cases e:j=o+n
 ·subst e
  rw [if_pos rfl,if_pos (by omega),Nat.add_sub_cancel_left]
 ·rw [if_neg e]
  by_cases h:o≤j∧j < o+n
  ·rw [if_pos h,if_pos (by omega)]
  ·rw [if_neg h,if_neg (by omega)]
theorem addTo_none (o n:Nat) (r:Nat→GF) (g:Nat→GF):addTo o n r 0 g=g:=by
 funext j
 unfold addTo
 split
 ·rw [mzero,addz]
 ·rfl
def RowAt (w:World) (b o n:Nat) (r:Nat→GF):Prop:=b < w.heap.size∧∀ i,i < n→w.cell? ⟨b,o+i,none⟩=some (.int .u8 ((r i).n:Nat))
theorem RowAt.kp {S:List Nat} {w w':World} {b o n:Nat} {r:Nat→GF} (h:RowAt w b o n r) (hk:Kp S w w') (hn:b ∉ S):RowAt w' b o n r :=
 ⟨Nat.lt_of_lt_of_le h.1 hk.size,fun i hi=>(hk.cell (p:=⟨b,o+i,none⟩) h.1 hn).trans (h.2 i hi)⟩
theorem RowAt.set {w:World} {b o n:Nat} {r:Nat→GF} (h:RowAt w b o n r) {c k:Nat} (hc:c ≠ b ∨ k < o ∨ o+n≤k) (v:Value):RowAt (w.setCell ⟨c,k,none⟩ v) b o n r :=
 ⟨by simpa [World.setCell] using h.1,fun i hi=>(World.cell?_setCell_other _ ⟨c,k,none⟩ ⟨b,o+i,none⟩ _ (by simp;omega)).trans (h.2 i hi)⟩
theorem RowAt.of_view {w:World} {b N:Nat} {g:Nat→GF} (h:View w b N g) {o n:Nat} (hn:o+n≤N):RowAt w b o n (fun i=>g (o+i)):=⟨h.1,fun i hi=>(h.2 (o+i) (by omega)).1⟩

def MorePost (fb bt N:Nat) (g:Nat→GF) (w:World) (e:Ending) (w':World):Prop:=e=.returned (.tuple #[])∧Kp [fb,bt] w w'∧FOk w' fb∧View w' bt N g
set_option maxRecDepth 100000 in
set_option maxHeartbeats 1000000 in
theorem more_any (fb bt ot n N ct:Nat) (br orr cr:Nat) (g r:Nat→GF) (t:GF) (w:World) (hF:FOk w fb) (hV:View w bt N g) (hR:RowAt w br orr n r) (hN:ot+n≤N)
  (hn:n≤4611686018427387904) (hfb:fb ≠ bt) (hfr:fb ≠ br) (hd:bt ≠ br ∨ ot+n≤orr ∨ orr+n≤ot) :
  Calls Tryz.prog 101 #[.pointer (some ⟨fb,0,none⟩),.slice (some ⟨bt,ot,none⟩) n ct,.slice (some ⟨br,orr,none⟩) n cr,.int .u8 (t.n:Nat)] w (MorePost fb bt N (addTo ot n r t g) w):=by
 have HF:=Lib.hid hF
 have HV:=Lib.hid hV
 have HR:=Lib.hid hR
 by_cases ht:t=0
 ·subst ht
  rw [addTo_none,show (((0:GF).n:Nat):Int)=0 from rfl]
  clear hF hV hR hd
  go_enter Tryz.func101,Tryz.ntmps101
  go_wp2
  go_end0
  exact ⟨rfl,Kp.refl _ _,HF.out,HV.out⟩
 have hz:((t.n:Int) == 0)=false:=by have:=GF.ne0.1 ht;simpa using this
 have HD:=Lib.hid hd
 obtain ⟨T,hT⟩:∃ T,t.n=T:=⟨_,rfl⟩
 rw [hT] at hz ⊢
 have HT:=Lib.hid hT
 clear hF hV hR hd hT ht
 go_enter Tryz.func101,Tryz.ntmps101
 go_wp2
 go_loopg [14] n (fun gk i wr=>∃ I:Nat,I≤n∧gk=n - I∧i=.int .i64 I∧Hid (FOk wr fb)∧Hid (View wr bt N (addTo ot I r t g))∧Hid (RowAt wr br orr n r)∧Hid (Kp [fb,bt] w wr))
 case atStart=>exact ⟨0,by omega,rfl,rfl,HF,by rw [addTo_zero];exact HV,HR,Lib.hid (Kp.refl _ _)⟩
 case round =>
  clear HF HV HR
  obtain ⟨I,hI,rfl,rfl,HF,HV,HR,HK⟩:=hrel
  by_cases hlt:I < n
  ·have c1:=HR.out.2 I hlt
   have cv:=HV.out.2 (ot+I) (by omega)
   have hgo:addTo ot I r t g (ot+I)=g (ot+I):=by rw [addTo,if_neg (by omega)]
   rw [hgo] at cv
   obtain ⟨c2,f2⟩:=cv
   obtain ⟨y,hy⟩:∃ y,(r I).n=y:=⟨_,rfl⟩
   obtain ⟨z,hz2⟩:∃ z,(g (ot+I)).n=z:=⟨_,rfl⟩
   have HM:Hid (∀ W,FOk W fb→Calls Tryz.prog 56 #[.pointer (some ⟨fb,0,none⟩),.int .u8 (y:Nat),.int .u8 (T:Nat)] W (FPost fb (r I * t) W)):=Lib.hid (fun W hW=>by rw [← hy,← HT.out];exact fmul_any _ _ _ _ hW)
   have HA:Hid (∀ W,Calls Tryz.prog 116 #[.int .u8 (z:Nat),.int .u8 ((r I * t).n:Nat)] W fun e w'=>e=.returned (.int .u8 ((g (ot+I)+r I * t).n:Nat))∧W=w'):=Lib.hid (fun W=>by rw [← hz2];exact gadd_any _ _ _)
   rw [hy] at c1
   rw [hz2] at c2
   clear hgo hy hz2
   have HV2:Hid (∀ W,View W bt N (addTo ot I r t g)→View (W.setCell ⟨bt,ot+I,none⟩ (.int .u8 ((g (ot+I)+r I * t).n:Nat))) bt N (addTo ot (I+1) r t g)):=Lib.hid (fun W hW=>by rw [← addTo_succ];exact hW.set (by omega) _)
   obtain ⟨p,hp⟩:∃ p,(r I * t).n=p:=⟨_,rfl⟩
   obtain ⟨q,hq⟩:∃ q,(g (ot+I)+r I * t).n=q:=⟨_,rfl⟩
   rw [hp,hq] at HA
   rw [hq] at HV2
   unfold FPost at HM
   rw [hp] at HM
   clear hp hq
   obtain ⟨kp,hkp⟩:∃ kp:Nat→Bool,∀ k,kp k=true↔k < wr.heap.size∧k ≠ fb∧k ≠ bt:=⟨fun k=>decide (k < wr.heap.size∧k ≠ fb∧k ≠ bt),by simp⟩
   have HKP:=Lib.hid hkp
   clear hkp
   have hbl:bt < wr.heap.size:=HV.out.1
   have HNF:Hid (fb ≠ bt):=Lib.hid hfb
   have q1:(0:Int)≤(I:Int)∧(I:Int) < (n:Int):=by omega
   go_upto_region 4 with fail
   have hgr:=fun (w0 W:World) (p:Addr) (hp:(fun k=>kp k=true) p.block)=>graft_cell (w0:=w0) (keep:=(fun k=>kp k=true)) W hp
   refine wp_region_tree (fun k=>kp k=true) [5,9,10,12] (.sq [0,1,2,3,4,6,7,8] (.fork 5 (.sq [9,10,11,12] .done) 9 (.sq [5,10,11,12] .done))) (by kernel_rfl) (by kernel_rfl) ?_
   simp only [Tr.sq,List.foldr_cons,List.foldr_nil,slimTr,slimStep,Oper.slim,List.contains_cons,List.contains_nil,Option.map_none,Option.map_some,List.getElem?_toArray,List.getElem?_cons_zero,List.getElem?_cons_succ,Option.bind_some,beq_self_eq_true,Bool.or_false,Nat.reduceBEq,Nat.reduceAdd,Nat.zero_add]
   repeat' first | ((with_reducible refine wpSlimT_id ?_);first | (with_reducible refine wpSlimT_done ?_) | (with_reducible refine wpSlimT_fork ?_ ?_) | ((with_reducible refine wpSlimT_step (fun K hK=>?_));go_simp;first | (refine hK _ _ ?_;clear hK K) | (refine ⟨by (intro kk hkk;first | (simp (disch:=(simp;omega)) only [hp_drew,hp_drewN,hp_alloc,hp_set];done) | (simp [hp_drew,hp_drewN,hp_alloc_if,hkk];done) | fail),hK _ _ ?_⟩;clear hK K) | (go_at_call 56;(with_reducible refine (HM.out _ (HF.out.kp ((Kp.refl [] _).drew) (by simp))).mono ?_);rintro e w1 ⟨rfl,hk,hm⟩;have c3:=(hk.cell (p:=⟨bt,ot+I,none⟩) hbl (by simpa using HNF.out.symm)).trans c2;have f3:=(hk.frozen (p:=⟨bt,ot+I,none⟩) hbl (by simpa using HNF.out.symm)).trans f2;have HK1:=Lib.hid hk;have HM1:=Lib.hid hm;clear hk hm;refine ⟨_,rfl,(fun kk hkk=>HK1.out.block kk ((HKP.out kk).1 hkk).1 (by have:=((HKP.out kk).1 hkk).2;simpa using this.1)),hK _ _ ?_⟩;clear hK K) | (go_at_call 116;(with_reducible refine (HA.out _).mono ?_);rintro e w2 ⟨rfl,rfl⟩;refine ⟨_,rfl,(fun kk hkk=>HK1.out.block kk ((HKP.out kk).1 hkk).1 (by have:=((HKP.out kk).1 hkk).2;simpa using this.1)),hK _ _ ?_⟩;clear hK K) | (refine ⟨(fun kk hkk=>rfl),hK _ _ ?_⟩;clear hK K) | (refine ⟨(fun kk hkk=>HK1.out.block kk ((HKP.out kk).1 hkk).1 (by have:=((HKP.out kk).1 hkk).2;simpa using this.1)),hK _ _ ?_⟩;clear hK K) | (refine ⟨(fun kk hkk=>(hp_set _ _ _ _ (by have:=((HKP.out kk).1 hkk).2;simpa using this.2)).trans (HK1.out.block kk ((HKP.out kk).1 hkk).1 (by have:=((HKP.out kk).1 hkk).2;simpa using this.1))),hK _ _ ?_⟩;clear hK K))) | fail
   all_goals clear hgr
   all_goals
    have HF2:=Lib.hid (HM1.out.kp ((Kp.refl [bt] w1).setCell (p:=⟨bt,ot+I,none⟩) (.inl (by simp)) (.int .u8 (q:Nat))) (by simpa using HNF.out))
    have HVN:=Lib.hid (HV2.out w1 ((HV.out.drew).kp HK1.out (by simpa using HNF.out.symm)))
    have HRN:=Lib.hid (((HR.out.kp ((Kp.refl [] _).drew) (by simp)).kp HK1.out (by simpa using (fun e=>hfr e.symm))).set (c:=bt) (k:=ot+I) (by have:=HD.out;omega) (.int .u8 (q:Nat)))
    have HKN:Hid (Kp [fb,bt] w (w1.setCell ⟨bt,ot+I,none⟩ (.int .u8 (q:Nat)))):=Lib.hid (((HK.out.drew.step HK1.out (by simp))).setCell (.inl (by simp)) _)
    go_wp2
    go_roundg (n - (I+1))
    case measure=>omega
    case rel=>exact ⟨I+1,by omega,rfl,by go_num,HF2,HVN,HRN,HKN⟩
  ·obtain rfl:I=n:=by omega
   go_wp2
   go_end0
   exact ⟨rfl,HK.out,HF.out,HV.out⟩
end Go.Proofs.YtnjbkfeihbcalaaGreat
/- A range over a function whose body always goes on, walked outside of fences. -/
namespace Go.Proofs.YtnjbkfeihbcalaaGreat
open Go.RowKit
set_option linter.unusedVariables false

def KB (Bs:Nat) (W W':World):Prop:=W'.heap[Bs]? = W.heap[Bs]?
theorem Kp.keepsFrom {S:List Nat} {B:Nat} {W W':World} (h:Kp S W W') (hS:∀ x ∈ S,x < B):KeepsFrom B W W' :=
 ⟨h.size,fun k o hB hk _=>(h.block k (lt_of_heap hk) (fun hm=>by have:=hS k hm;omega)).trans hk⟩
theorem ownFrom_of {β:Type} {B:Nat} {I:β→World→Prop} (h:∀ s W W' r,I s W→(∀ x ∈ r,B≤x)→Kp r W W'→I s W'):OwnFrom B I:=fun s W W' row hs hg hr =>
 h s W W' row.toList hs (fun x hx=>(hr x (by simpa using hx)).1) ((Kp.refl _ W).grown hg fun k hk=>.inl (by simp [hk]))

theorem wp_range_all {α:Type} {P:Program} {g:Operand} {ps:Array Tmp} {assign body:Code} {Q:Exit→Act→World→Prop} {a:Act} {w:World}
  {gf:Nat} {lb:Array Value} (hg:a.eval g=.func (.func gf) #[] lb) (eg:∀ args w,(callFunc gf args).run P w=.ok (.enter gf args) w)
  {encs:α→Array Value} {Sx Sp:List α→Prop} {N Bs:Nat} {w0:World} (hseq:SeqStopsK Fence.wide 5 P gf lb encs (KB Bs) Sx Sp N w0) (hb0:Below w0.heap.size w0 w) (hBs:Bs < w.heap.size) (hps:∀ x,(encs x).size=ps.size)
  (S:List Nat) (hS:∀ x ∈ S,x < w.heap.size∧x ≠ Bs) (I:List α→World→Prop) (hI:OwnFrom w.heap.size I) (h0:I [] w) (a₁:α→Act)
  (hassign:∀ (l:Nat) (x:α) (W:World) (K:Act→World→Prop),K (a₁ x) W →
   assign.wpIn (Fence.wide.inRound l) 4 P (Exit.then K (fun _ _ _=>False)) { tmps:=(ps.zip (encs x)).foldl (fun t (p,v)=>t.setIfInBounds p v) a.tmps,defers:=[] } W)
  (hbody:∀ (l:Nat) (pre:List α) (x:α) (W:World),I pre W→pre.length < N→w.heap.size≤W.heap.size→body.wpIn (Fence.wide.inRound l) 4 P (fun e _ W'=>e=.normal∧Kp S W W'∧I (pre ++ [x]) W') (a₁ x) W)
  (hdone:∀ (D:Nat) (xs:List α) (W:World),w.heap.size≤D→Sx xs→I xs W→W.heap[D]? = some (.deferred (some []))→Q .normal { a with defers:={ target:=.collected D,args:=#[] } :: a.defers } W) :
  (Code.rangeFunc g ps assign body).wp P Q a w:=by
 refine (wpIn_wide (n:=6)).1 ?_
 refine wpIn_rangeFunc_ownG rfl (by decide) (gf:=gf) (lb:=lb) hg trivial eg hseq (fun h k=>by unfold KB at *;rw [k,h])
  (fun W l o o' h _ _ _=>World.putObj_heap_other (by omega)) hb0 hps (fun pre W=>I pre W∧w.heap.size≤W.heap.size) (fun _ _ _=>False)
  (OwnFrom.and hI (fun _ W W' row hs hg hr=>Nat.le_trans hs hg.size)) (fun _ _ _ _ _ hs _ _=>hs) ⟨h0,Nat.le_refl _⟩ a₁ hassign ?body (fun D xs W hD hs h hK=>hdone D xs W hD hs h.1 hK) (fun _ _ _ _ _ _ h _=>h.elim)
 case body =>
  intro l pre x W ⟨h,hw⟩ hlt
  refine wpIn_mono (hbody l pre x W h hlt hw) ?_
  rintro e a' W' ⟨rfl,hk,hi⟩
  exact ⟨hk.keepsFrom fun x hx=>(hS x hx).1,hk.block Bs (by omega) (fun hm=>(hS Bs hm).2 rfl),hi,Nat.le_trans hw hk.size⟩

theorem wp_range_all2 {α:Type} {P:Program} {g:Operand} {ps:Array Tmp} {assign body:Code} {Q:Exit→Act→World→Prop} {a:Act} {w:World}
  {gf:Nat} {lb:Array Value} (hg:a.eval g=.func (.func gf) #[] lb) (eg:∀ args w,(callFunc gf args).run P w=.ok (.enter gf args) w)
  {encs:α→Array Value} {Sx Sp:List α→Prop} {N Bs:Nat} {w0:World} (hseq:SeqStopsK Fence.wide 5 P gf lb encs (KB Bs) Sx Sp N w0) (hb0:Below w0.heap.size w0 w) (hBs:Bs < w.heap.size) (hps:∀ x,(encs x).size=ps.size)
  (S:List Nat) (hS:∀ x ∈ S,x < w.heap.size∧x ≠ Bs) (I:List α→World→Prop) (hI:OwnFrom w.heap.size I) (h0:I [] w) (a₂ a₁:α→Act)
  (ha₂:∀ x,({ tmps:=(ps.zip (encs x)).foldl (fun t (p,v)=>t.setIfInBounds p v) a.tmps,defers:=[] }:Act)=a₂ x)
  (hassign:∀ (l:Nat) (x:α) (W:World) (K:Act→World→Prop),K (a₁ x) W→assign.wpIn (Fence.wide.inRound l) 4 P (Exit.then K (fun _ _ _=>False)) (a₂ x) W)
  (hbody:∀ (l:Nat) (pre:List α) (x:α) (W:World),I pre W→pre.length < N→w.heap.size≤W.heap.size→body.wpIn (Fence.wide.inRound l) 4 P (fun e _ W'=>e=.normal∧Kp S W W'∧I (pre ++ [x]) W') (a₁ x) W)
  (hdone:∀ (D:Nat) (xs:List α) (W:World),w.heap.size≤D→Sx xs→I xs W→W.heap[D]? = some (.deferred (some []))→Q .normal { a with defers:={ target:=.collected D,args:=#[] } :: a.defers } W) :
  (Code.rangeFunc g ps assign body).wp P Q a w :=
 wp_range_all hg eg hseq hb0 hBs hps S hS I hI h0 a₁ (fun l x W K hK=>by rw [ha₂];exact hassign l x W K hK) hbody hdone
theorem wp_frame {P:Program} {c:Code} {Q:Exit→Act→World→Prop} {ds:List Deferred} {w:World} (fr:(Nat→Value)→Array Value) (T:Array Value) (hT:T=fr (fun i=>T.getD i undef)) (k:Nat) (V:Value) (hV:T.getD k undef=V)
  (h:∀ u:Nat→Value,u k=V→c.wp P Q { tmps:=fr u,defers:=ds } w):c.wp P Q { tmps:=T,defers:=ds } w:=by
 have:=h (fun i=>T.getD i undef) hV
 rwa [← hT] at this
def mark (D:Nat):Deferred:={ target:=.collected D,args:=#[] }
structure Marks (B:Nat) (w:World) (Ds:List Nat):Prop where
 nodup:Ds.Nodup
 at_:∀ D ∈ Ds,B≤D∧w.heap[D]? = some (.deferred (some []))
theorem Marks.nil (B:Nat) (w:World):Marks B w []:=⟨List.nodup_nil,fun D hD=>by cases hD⟩
theorem Marks.kp {B:Nat} {S:List Nat} {w w':World} {Ds:List Nat} (h:Marks B w Ds) (hk:Kp S w w') (hS:∀ x ∈ S,x < B):Marks B w' Ds :=
 ⟨h.nodup,fun D hD=>⟨(h.at_ D hD).1,hk.heap (h.at_ D hD).2 (fun hm=>by have:=hS D hm;have:=(h.at_ D hD).1;omega)⟩⟩
theorem Marks.kpn {B:Nat} {S:List Nat} {w w':World} {Ds:List Nat} (h:Marks B w Ds) (hk:Kp S w w') (hS:∀ x ∈ S,x ∉ Ds):Marks B w' Ds :=
 ⟨h.nodup,fun D hD=>⟨(h.at_ D hD).1,hk.heap (h.at_ D hD).2 (fun hm=>hS D hm hD)⟩⟩
theorem Marks.cons {B D:Nat} {w:World} {Ds:List Nat} (h:Marks B w Ds) (hD:B≤D) (hd:w.heap[D]? = some (.deferred (some []))) (hn:D ∉ Ds):Marks B w (D :: Ds) :=
 ⟨List.nodup_cons.2 ⟨hn,h.nodup⟩,fun E hE=>by rcases List.mem_cons.1 hE with rfl | hE;exact ⟨hD,hd⟩;exact h.at_ E hE⟩
theorem Marks.not_cells {B:Nat} {w:World} {Ds:List Nat} (h:Marks B w Ds) {b:Nat} {cs:Array Value} {t:TypeId} {fr:Nat × Nat} (hb:w.heap[b]? = some (.cells cs t fr)):b ∉ Ds:=fun hm=>by
 have:=(h.at_ b hm).2
 rw [hb] at this
 cases this
theorem kp_putObj (w:World) (D:Nat) (o:Obj):Kp [D] w (w.putObj D o):=⟨rfl,rfl,rfl,by simp,fun k _ hn=>World.putObj_heap_other (fun e=>hn (by simp [e]))⟩
theorem leaves_marks {P:Program} {fn:Func} {tmps:Array Value} {R:Ending→World→Prop} {B:Nat}:∀ (Ds:List Nat) (w:World),Marks B w Ds →
  (∀ w',Kp Ds w w'→∃ v,(results fn tmps).run P w'=.ok v w'∧R (.returned v) w')→LeavesInM Fence.wide 6 P fn tmps R (Ds.map mark) .returning w
 | [],w,_,h=>h w (Kp.refl _ _)
 | D :: Ds,w,hM,h=>by
  have hn:=List.nodup_cons.1 hM.nodup
  refine ⟨by simp,.inl ⟨D,_,rfl,run_takeDeferred (hM.at_ D (by simp)).2,?_⟩⟩
  refine leaves_marks (B:=B) Ds _ ⟨hn.2,fun E hE=>⟨(hM.at_ E (by simp [hE])).1,(kp_putObj w D _).heap (hM.at_ E (by simp [hE])).2 (by simp;exact fun e=>hn.1 (e ▸ hE))⟩⟩ fun w' hk=>h w' ?_
  exact ((kp_putObj w D (.deferred none)).mono (T:=D :: Ds) (by simp)).trans (hk.mono (by simp +contextual))
theorem calls_of_marks {P:Program} {f:FuncId} {fn:Func} {c:Code} {args:Array Value} {w:World} {R:Ending→World→Prop}
  (hf:P.funcs[f]? = some fn) (hb:fn.body=some c) (h:c.wp P (bodyPostM Fence.wide 6 P fn R) { tmps:=args ++ Array.replicate (fn.ntmps - args.size) undef,defers:=[] } w):Calls P f args w R :=
 (callsIn_wide (n:=6)).1 (callsIn_of_wp_marks hf hb trivial (wpIn_wide.2 h) rfl)
end Go.Proofs.YtnjbkfeihbcalaaGreat
/- The program's matrices: their rows, one behind the other. -/
namespace Go.Proofs.YtnjbkfeihbcalaaGreat
open Go.RowKit Fld Go.Shelf
set_option linter.unusedVariables false
set_option linter.unusedSimpArgs false
attribute [local go_sem] Oper.semAt_some

def rowEnc (C b:Nat) {R:Nat} (i:Fin R):Array Value:=#[.int .i64 (i.val:Nat),.slice (some ⟨b,i.val * C,none⟩) C C]
def MBox (w:World) (Bs R C b len cap:Nat):Prop:=w.heap[Bs]? = some (.cells #[.int .i64 R,.int .i64 C,.slice (some ⟨b,0,none⟩) len cap] 76 (0,0))
theorem MBox.cells {w:World} {Bs R C b len cap:Nat} (h:MBox w Bs R C b len cap):w.cell? ⟨Bs,0,none⟩=some (.int .i64 R)∧w.cell? ⟨Bs,1,none⟩=some (.int .i64 C)∧w.cell? ⟨Bs,2,none⟩=some (.slice (some ⟨b,0,none⟩) len cap):=by
 refine ⟨?_,?_,?_⟩ <;> rw [cell_of_row _ _ _ _ _ (0,0) h] <;> rfl
theorem MBox.kp {S:List Nat} {w w':World} {Bs R C b len cap:Nat} (h:MBox w Bs R C b len cap) (hk:Kp S w w') (hn:Bs ∉ S):MBox w' Bs R C b len cap:=hk.heap h hn
theorem MBox.below {w w':World} {Bs R C b len cap:Nat} (h:MBox w Bs R C b len cap) (hb:Below w.heap.size w w'):MBox w' Bs R C b len cap:=keepB hb h
theorem MBox.lt {w:World} {Bs R C b len cap:Nat} (h:MBox w Bs R C b len cap):Bs < w.heap.size:=lt_of_heap h
theorem grown_below {A B:World} (h:Below A.heap.size A B) (r:Option Nat):A.grownBy B r:=⟨h.os,h.tape,h.output,h.size,fun k hk _=>h.block k hk⟩
theorem rows_le {R C cap i:Nat} (hcap:R * C≤cap) (hi:i < R):(i+1) * C≤cap:=Nat.le_trans (Nat.mul_le_mul_right C hi) hcap
set_option maxRecDepth 100000 in
set_option maxHeartbeats 2000000 in
theorem rows1_stops (R C b len cap Bs:Nat) (w0:World) (hB:MBox w0 Bs R C b len cap) (hC:0 < C) (hcap:R * C≤cap) (hR:R≤1000000000) (hcm:R * C≤4611686018427387904) :
  SeqStopsK Fence.wide 5 Tryz.prog 69 #[.pointer (some ⟨Bs,0,none⟩)] (rowEnc C b (R:=R)) (KB Bs) (fun xs=>xs=List.finRange R) (fun _=>True) R w0:=by
 intro l J Jx W hW hJ hJx hY h0
 have HB:=Lib.hid (hB.below hW)
 refine callsIn_of_wp Tryz.func69 rfl trivial ?_ rfl
 simp only [Tryz.ntmps69,List.size_toArray,List.length_cons,List.length_nil,Nat.reduceAdd,Nat.reduceSub,Array.replicate_succ,Array.replicate_zero,List.push_toArray,List.append_toArray,List.nil_append,List.cons_append]
 obtain ⟨c0,-,-⟩:=HB.out.cells
 clear hB hW
 gi_wp2
 gi_loopw [6] (fun i wr=>∃ k:Nat,k≤R∧i=.int .i64 k∧J ((List.finRange R).take k) wr∧Hid (MBox wr Bs R C b len cap))
  (fun i _=>R - (intOf i).toNat)
 case atStart=>exact ⟨0,Nat.zero_le _,rfl,h0,HB⟩
 case round =>
  obtain ⟨k,hk,rfl,hJs,hBx⟩:=hrel
  by_cases hlt:k < R
  ·obtain ⟨c0,c1,c2⟩:=hBx.out.cells
   have hrl:=rows_le hcap hlt
   have HRow:Hid (∀ W',Calls Tryz.prog 70 #[.agg #[.int .i64 R,.int .i64 C,.slice (some ⟨b,0,none⟩) len cap],.int .i64 k] W' fun e w'=>e=.returned (.slice (some ⟨b,0+k * C,none⟩) C C)∧Below W'.heap.size W' w'):=Lib.hid (fun W'=>row_any R C k b 0 len cap W' hC hrl (rows_le hcm hlt))
   have htk:(List.finRange R).take (k+1)=(List.finRange R).take k ++ [⟨k,hlt⟩]:=by
    rw [List.take_add_one,List.getElem?_eq_getElem (by simpa using hlt)]
    simp
   have HTK:=Lib.hid htk
   have HJS:=Lib.hid hJs
   clear htk hrl hJs
   gi_wp2_with fail
   refine ⟨trivial,(callsIn_wide.2 (HRow.out _)).mono ?_⟩
   rintro e w5 ⟨rfl,hb5⟩
   have hJ5:J ((List.finRange R).take k) w5:=hJ _ _ _ none HJS.out (grown_below hb5 none) (fun r e=>by cases e)
   obtain ⟨fn,tmps,assign,body,hy,hR5⟩:=hY _ ⟨k,hlt⟩ w5 hJ5 (by rw [List.length_take,List.length_finRange];omega)
   have hBx5:=Lib.hid (hBx.out.below hb5)
   have HR5:=Lib.hid hR5
   simp only [rowEnc] at hy
   clear hb5 hJ5 hR5 HJS
   gi_wp2
   refine HR5.out.mono ?_
   rintro e W3 (⟨rfl,hJ3,hk3⟩ | ⟨rfl,hJx3⟩)
   ·have hB3:Hid (MBox W3 Bs R C b len cap):=Lib.hid (show W3.heap[Bs]? = _ from hk3.trans hBx5.out)
    have HJ3:=Lib.hid hJ3
    clear hJ3 hk3
    gi_wp2
    go_roundw
    case rel=>exact ⟨k+1,by omega,by simp,by rw [HTK.out];exact HJ3.out,hB3⟩
    case measure=>simp [intOf];omega
   ·gi_wp2
    refine bodyPost_ret (results_none rfl _ _ _) rfl ?_
    exact ⟨⟨_,rfl⟩,.inr ⟨_,trivial,hJx3⟩⟩
  ·obtain rfl:k=R:=by omega
   gi_wp2
   go_end0
   exact ⟨⟨_,rfl⟩,.inl ⟨_,rfl,by rw [List.take_of_length_le (by simp)] at hJs;exact hJs⟩⟩
end Go.Proofs.YtnjbkfeihbcalaaGreat
/- A copy of bytes; a matrix of noughts; the function that tells a matrix's rows. -/
namespace Go.Proofs.YtnjbkfeihbcalaaGreat
open Go.RowKit Fld
set_option linter.unusedVariables false
set_option linter.unusedSimpArgs false

theorem u8_info:(Tryz.prog.info? 5).map (fun i=>(i.zero,i.size,i.bytes))=some (some (.int .u8 0),1,1):=by kernel_rfl
def gv (l:List GF):List Value:=l.map fun x=>.int .u8 ((x.n:Nat):Int)
theorem gv_length (l:List GF):(gv l).length=l.length:=by simp [gv]
theorem gv_append (l m:List GF):gv (l ++ m)=gv l ++ gv m:=by simp [gv]
abbrev OwnG (w:World) (B:Nat) (v:Value) (l:List GF):Prop:=w.ownsRow B 5 1 v l.length (gv l)
theorem OwnG.rd {w:World} {B:Nat} {v:Value} {l:List GF} (h:OwnG w B v l):GRd w v l:=by
 refine BytesRd.of_owns (base:=B) (t:=5) (n:=l.length) (l:=l.map GF.n) ?_ (fun x hx=>by obtain ⟨y,_,rfl⟩:=List.mem_map.1 hx;exact y.lt)
 ·unfold OwnG gv at h
  rw [List.map_map]
  exact h
theorem OwnG.nil (w:World) (B:Nat):OwnG w B (.slice none 0 0) []:=World.ownsRow_nil _ _ _ _
theorem OwnG.below {w w':World} {B:Nat} {v:Value} {l:List GF} (h:OwnG w B v l) (hb:Below w.heap.size w w'):OwnG w' B v l :=
 h.kept (row:=none) ⟨hb.os,hb.tape,hb.output,hb.size,fun k hk _=>hb.block k hk⟩ (by cases v.ownBlock <;> simp)
theorem OwnG.kp {S:List Nat} {w w':World} {B:Nat} {v:Value} {l:List GF} (h:OwnG w B v l) (hk:Kp S w w') (hn:Apart v S):OwnG w' B v l:=by
 refine ⟨h.1,?_⟩
 rcases h.2 with h2 | ⟨g,cap,cur,h1,h2,h3,h4⟩
 ·exact .inl h2
 ·exact .inr ⟨g,cap,cur,h1,h2,hk.heap h3 (hn g (by rw [h1];rfl)),h4⟩
theorem OwnG.mono {w:World} {B B':Nat} {v:Value} {l:List GF} (h:OwnG w B v l) (hb:B'≤B):OwnG w B' v l:=by
 refine ⟨h.1,?_⟩
 rcases h.2 with h2 | ⟨g,cap,cur,h1,h2,h3⟩
 ·exact .inl h2
 ·exact .inr ⟨g,cap,cur,h1,Nat.le_trans hb h2,h3⟩
theorem OwnG.view {w:World} {B:Nat} {v:Value} {l:List GF} (h:OwnG w B v l) (hl:l ≠ []):∃ g cap,v=.slice (some ⟨g,0,none⟩) l.length cap∧B≤g∧l.length≤cap∧View w g l.length (fun i=>l.getD i 0):=by
 have hlt:=h.lt
 rcases h.2 with ⟨_,h2⟩ | ⟨g,cap,cur,rfl,h2,h3,h4,h5,h6,h7⟩
 ·exact absurd (List.eq_nil_of_length_eq_zero h2) hl
 ·refine ⟨g,cap,rfl,h2,h4,lt_of_heap h3,fun j hj=>⟨?_,by simp [World.frozen?,h3]⟩⟩
  have:=h.cells (g:=g) rfl j (.int .u8 (((l.getD j 0).n:Nat):Int)) (by simp [gv,List.getElem?_eq_getElem hj,List.getD])
  have e:(⟨g,0,none⟩:Addr).add j=⟨g,j,none⟩:=by unfold Addr.add;split <;> simp_all
  rwa [e] at this
theorem OwnG.form {w:World} {B:Nat} {v:Value} {l:List GF} (h:OwnG w B v l):∃ a cap,v=.slice a l.length cap∧l.length≤cap:=h.rd.form
theorem GRd.news {w:World} {A:Addr} {n cap:Nat} {l:List GF} (h:GRd w (.slice (some A) n cap) l):∀ (j:Nat) (u:Value),(gv l)[j]? = some u→w.cell? (A.add j)=some u:=fun j u hj=>by
 rw [gv,List.getElem?_map] at hj
 obtain ⟨x,hx⟩:∃ x,l[j]? = some x:=by
  cases e:l[j]? with
  | none=>rw [e] at hj;cases hj
  | some x=>exact ⟨x,rfl⟩
 rw [hx] at hj
 cases hj
 obtain ⟨b,o,e2,hb,h7⟩:=h.at hx
 cases e2
 unfold Addr.add
 split
 ·rename_i e;subst e;exact h7
 ·exact h7
theorem gv_one {l:List GF}:∀ u ∈ gv l,u.oneCell'=true:=by intro u hu;obtain ⟨y,_,rfl⟩:=List.mem_map.1 hu;rfl

def ClonePost (l:List GF) (w:World) (e:Ending) (w':World):Prop:=∃ v,e=.returned v∧OwnG w' w.heap.size v l∧Below w.heap.size w w'
set_option maxHeartbeats 400000 in
theorem clone_any (v:Value) (l:List GF) (w:World) (h:GRd w v l) (hl:l.length≤1000000000) :
  Calls Tryz.prog 48 #[v] w (ClonePost l w):=by
 obtain ⟨a,cap,rfl,hcap⟩:=h.form
 have qT:∀ (w:World) (a:Option Addr) (n c n' c':Nat),(binOp .eql 50 (.slice a n c) (.slice none n' c')).run Tryz.prog w=.ok (.bool a.isNone) w:=fun w a n c n' c'=>Lib.run_eql_slice_nil w _ _ a n c n' c' Tryz.underlying50
 cases a with
 | none =>
  have hl0:l=[]:=by
   refine Classical.byContradiction fun hne=>?_
   obtain ⟨x,hx⟩:∃ x,l[0]? = some x:=⟨_,List.getElem?_eq_getElem (List.length_pos_iff.2 hne)⟩
   obtain ⟨b,o,e,_⟩:=h.at hx
   cases e
  subst hl0
  clear h
  go_enter Tryz.func48,Tryz.ntmps48
  go_wp2
  go_ret
  exact ⟨_,rfl,OwnG.nil _ _,Below.refl _ _⟩
 | some A =>
  obtain ⟨i0,hi,hz0,hz1,hz2⟩:=info_parts u8_info
  have HN:=Lib.hid (((h.below ((Below.refl _ w).alloc (Nat.le_refl _) (.cells #[] 5)))).news)
  have HO:Hid ((w.alloc (.cells #[] 5)).ownsRow w.heap.size 5 1 (.slice (some ⟨w.heap.size,0,none⟩) 0 0) 0 []):=Lib.hid (World.ownsRow_made w #[] 0 (Nat.le_refl _) (by unfold maxLen;omega) (by simp))
  have hgl:=gv_length l
  have HGL:=Lib.hid hgl
  clear h hgl
  go_enter Tryz.func48,Tryz.ntmps48
  go_wp2_with (at_builtin;refine wpList_append_own _ rfl (.tmp 5) (.tmp 6) 50 rfl w.heap.size 5 i0 (.int .u8 0) 1 1 Tryz.underlying50 hi hz0 hz1 hz2 rfl (by decide) (.slice (some ⟨w.heap.size,0,none⟩) 0 0) 0 [] rfl HO.out _ _ _ (gv l) rfl (by rw [HGL.out];omega) HN.out gv_one (by unfold maxLen;omega) (by omega) (by simp) ?_;intro v1 w3 hown1 hgrow1 _)
  go_ret
  refine ⟨_,rfl,by simpa [OwnG] using hown1,?_⟩
  exact ((Below.refl _ _).alloc (Nat.le_refl _) _).grown hgrow1 (by simp) (fun k hk=>by simp [Value.ownBlock] at hk;omega)
end Go.Proofs.YtnjbkfeihbcalaaGreat
/- A matrix that is right; a matrix of noughts; the function that tells a matrix's rows; a copy of a matrix. -/
namespace Go.Proofs.YtnjbkfeihbcalaaGreat
open Go.RowKit Fld
set_option linter.unusedVariables false
set_option linter.unusedSimpArgs false

theorem free_of_heap {W:World} {b:Nat} {cs:Array Value} {t:TypeId} (h:W.heap[b]? = some (.cells cs t (0,0))) (j:Nat):W.frozen? ⟨b,j,none⟩=false:=by simp [World.frozen?,h]
theorem cell_of_heap {W:World} {b:Nat} {cs:Array Value} {t:TypeId} (h:W.heap[b]? = some (.cells cs t (0,0))) {j:Nat} {v:Value} (hj:cs[j]? = some v):W.cell? ⟨b,j,none⟩=some v:=by rw [cell_of_row _ _ _ _ _ (0,0) h];exact hj
set_option maxHeartbeats 1000000 in
theorem right_true (R C:Nat) (a:Option Addr) (len cap:Nat) (w:World) (hR:R≤65536) (hC:C≤65536) (hl:len=R * C) :
  Calls Tryz.prog 57 #[.agg #[.int .i64 R,.int .i64 C,.slice a len cap]] w fun e w'=>e=.returned (.bool true)∧Below w.heap.size w w':=by
 have hRC:R * C≤65536 * 65536:=Nat.mul_le_mul hR hC
 have e1:IntKind.i64.wrap ((R:Int) * (C:Int))=(len:Int):=by rw [show ((R:Int) * (C:Int))=((R * C:Nat):Int) from by simp,← hl];exact IntWalk.i64_in _ (by omega)
 have e2:((R:Int) * (C:Int))=(len:Int):=by rw [hl];simp
 have h1:(0:Int)≤min (R:Int) (C:Int):=by omega
 have h2:max (R:Int) (C:Int)≤65536:=by omega
 have hle:len≤4294967296:=by omega
 clear hl hRC
 go_enter Tryz.func57,Tryz.ntmps57
 go_wp2
 all_goals
  go_ret
  exact ⟨rfl,(Below.refl _ _).alloc (Nat.le_refl _) _⟩
set_option maxHeartbeats 1000000 in
theorem rows_any (R C b len cap:Nat) (w:World) :
  Calls Tryz.prog 54 #[.agg #[.int .i64 R,.int .i64 C,.slice (some ⟨b,0,none⟩) len cap]] w fun e w'=>e=.returned (.func (.func 69) #[] #[.pointer (some ⟨w.heap.size,0,none⟩)])∧Below w.heap.size w w'∧MBox w' w.heap.size R C b len cap:=by
 have hmf:∀ (fn:Fn) (first cap:Array Value) (w:World),(Instr.makeFunc fn first cap).run Tryz.prog w=.ok (.func fn first cap) w:=fun _ _ _ _=>rfl
 go_enter Tryz.func54,Tryz.ntmps54
 go_wp2
 go_ret
 exact ⟨rfl,(Below.refl _ _).alloc (Nat.le_refl _) _,heap_newA _ _⟩
def NonePost (R C N:Nat) (w:World) (e:Ending) (w':World):Prop:=∃ b,e=.returned (.agg #[.int .i64 R,.int .i64 C,.slice (some ⟨b,0,none⟩) N N])∧w.heap.size≤b∧View w' b N (fun _=>0)∧Below w.heap.size w w'
set_option maxHeartbeats 1000000 in
theorem none_any (R C N:Nat) (w:World) (hN:R * C=N) (hNm:N≤4294967296) (hR:R≤4294967296) (hC:C≤4294967296) :
  Calls Tryz.prog 53 #[.int .i64 R,.int .i64 C] w (NonePost R C N w):=by
 obtain ⟨i0,hi,hz0,hz1,hz2⟩:=info_parts u8_info
 have e1:IntKind.i64.wrap ((R:Int) * (C:Int))=(N:Int):=by rw [show ((R:Int) * (C:Int))=((R * C:Nat):Int) from by simp,hN];exact IntWalk.i64_in _ (by omega)
 have e2:((R:Int) * (C:Int))=(N:Int):=by rw [← hN];simp
 have hmk:∀ W,(Instr.makeSlice 50 (.int .i64 N) (.int .i64 N)).run Tryz.prog W=.ok (.slice (some ⟨W.heap.size,0,none⟩) N N) (W.alloc (.cells (Array.replicate N (.int .u8 0)) 5)):=fun W =>
  run_row W 50 5 i0 (.int .u8 0) Tryz.underlying50 hi hz0 hz1 rfl N (by rw [hz2];omega) (by unfold maxLen;omega)
 clear hN hi hz0 hz1 hz2
 go_enter Tryz.func53,Tryz.ntmps53
 go_wp2
 refine bodyPost_ret (v:=.agg #[.int .i64 R,.int .i64 C,.slice (some ⟨w.heap.size+1,0,none⟩) N N]) (by simp [results,Tryz.results53,go_sem]) rfl ⟨w.heap.size+1,rfl,by omega,?_,((Below.refl _ _).alloc (Nat.le_refl _) _).alloc (by simp) _⟩
 have hh:((w.alloc (.cells #[.int .i64 R,.int .i64 C,.slice (some ⟨w.heap.size+1,0,none⟩) N N] 76)).alloc (.cells (Array.replicate N (.int .u8 0)) 5)).heap[w.heap.size+1]? = some (.cells (Array.replicate N (.int .u8 0)) 5 (0,0)):=by
  have:=heap_newA (w.alloc (.cells #[.int .i64 R,.int .i64 C,.slice (some ⟨w.heap.size+1,0,none⟩) N N] 76)) (.cells (Array.replicate N (.int .u8 0)) 5)
  simpa using this
 refine ⟨lt_of_heap hh,fun j hj=>⟨?_,free_of_heap hh j⟩⟩
 rw [cell_of_row _ _ _ _ _ (0,0) hh]
 simp [hj]
 rfl
def MOwnPost (R C:Nat) (l:List GF) (w:World) (e:Ending) (w':World):Prop:=∃ b cap,e=.returned (.agg #[.int .i64 R,.int .i64 C,.slice (some ⟨b,0,none⟩) l.length cap])∧w.heap.size≤b∧l.length≤cap∧OwnG w' w.heap.size (.slice (some ⟨b,0,none⟩) l.length cap) l∧View w' b l.length (fun i=>l.getD i 0)∧Below w.heap.size w w'
set_option maxHeartbeats 1000000 in
theorem own_any (R C:Nat) (v:Value) (l:List GF) (w:World) (h:GRd w v l) (hl:l.length≤1000000000) (hne:l ≠ []) :
  Calls Tryz.prog 71 #[.agg #[.int .i64 R,.int .i64 C,v]] w (MOwnPost R C l w):=by
 obtain ⟨a,cap,rfl,hcap⟩:=h.form
 have HH:=Lib.hid h
 have HNE:=Lib.hid hne
 clear h hne
 go_enter Tryz.func71,Tryz.ntmps71
 go_wp2_with fail
 refine (clone_any _ l _ (HH.out.below (((Below.refl _ _).alloc (Nat.le_refl _) _).alloc (by simp) _)) hl).mono ?_
 rintro e w1 ⟨v1,rfl,ho,hb⟩
 obtain ⟨g,cap1,rfl,hg,hgc,hv⟩:=ho.view HNE.out
 have b1:=keepB hb (keepA (heap_newA w (.cells #[.int .i64 R,.int .i64 C,.slice a l.length cap] 76)) (.cells #[.int .i64 0,.int .i64 0,.slice none 0 0] 76))
 have b2:w1.heap[w.heap.size+1]? = some (.cells #[.int .i64 0,.int .i64 0,.slice none 0 0] 76 (0,0)):=by
  have:=keepB hb (heap_newA (w.alloc (.cells #[.int .i64 R,.int .i64 C,.slice a l.length cap] 76)) (.cells #[.int .i64 0,.int .i64 0,.slice none 0 0] 76))
  simpa using this
 have k0:w1.cell? ⟨w.heap.size,0,none⟩=some (.int .i64 R):=cell_of_heap b1 rfl
 have k1:w1.cell? ⟨w.heap.size,1,none⟩=some (.int .i64 C):=cell_of_heap b1 rfl
 have k2:w1.cell? ⟨w.heap.size,2,none⟩=some (.slice a l.length cap):=cell_of_heap b1 rfl
 have z2:=free_of_heap b1 2
 have m0:w1.cell? ⟨w.heap.size+1,0,none⟩=some (.int .i64 0):=cell_of_heap b2 rfl
 have m1:w1.cell? ⟨w.heap.size+1,1,none⟩=some (.int .i64 0):=cell_of_heap b2 rfl
 have m2:w1.cell? ⟨w.heap.size+1,2,none⟩=some (.slice none 0 0):=cell_of_heap b2 rfl
 have y0:=free_of_heap b2 0
 have y1:=free_of_heap b2 1
 have y2:=free_of_heap b2 2
 have hs1:w.heap.size+2≤w1.heap.size:=by have:=hb.size;simp at this;omega
 have HO:=Lib.hid ho
 have HV:=Lib.hid hv
 have hg2:w.heap.size+1 < g:=by simp at hg;omega
 have HB:Hid (Below w.heap.size w w1):=Lib.hid ((((Below.refl _ _).alloc (Nat.le_refl _) _).alloc (by simp) _).trans (hb.mono (by simp;omega)))
 clear ho hv b1 b2 hb
 go_wp2
 refine bodyPost_ret (v:=.agg #[.int .i64 R,.int .i64 C,.slice (some ⟨g,0,none⟩) l.length cap1]) (by simp [results,Tryz.results71,go_sem,m0,m1,m2,y0,y1,y2]) rfl ?_
 have hk:Kp [w.heap.size,w.heap.size+1] w1 ((((w1.setCell ⟨w.heap.size,2,none⟩ (.slice (some ⟨g,0,none⟩) l.length cap1)).setCell ⟨w.heap.size+1,0,none⟩ (.int .i64 R)).setCell ⟨w.heap.size+1,1,none⟩ (.int .i64 C)).setCell ⟨w.heap.size+1,2,none⟩ (.slice (some ⟨g,0,none⟩) l.length cap1)) :=
  ((((Kp.refl _ _).setCell (.inl (by simp)) _).setCell (.inl (by simp)) _).setCell (.inl (by simp)) _).setCell (.inl (by simp)) _
 have hgn:g ∉ [w.heap.size,w.heap.size+1]:=by simp;omega
 exact ⟨g,cap1,rfl,by omega,hgc,(HO.out.kp hk (fun k hkk=>by simp [Value.ownBlock] at hkk;rw [← hkk];exact hgn)).mono (by simp;omega),HV.out.kp hk hgn,(((HB.out.setCell (by simp) _).setCell (by simp) _).setCell (by simp) _).setCell (by simp) _⟩
end Go.Proofs.YtnjbkfeihbcalaaGreat
/- A range over a function that reads what it tells: blocks that the rounds leave alone. -/
namespace Go.Proofs.YtnjbkfeihbcalaaGreat
open Go.RowKit
set_option linter.unusedVariables false

def KS (T:List Nat) (W W':World):Prop:=∀ b ∈ T,W'.heap[b]? = W.heap[b]?
theorem GRd.ks {T:List Nat} {w w':World} {v:Value} {l:List GF} (h:GRd w v l) (hk:KS T w w') (hv:l ≠ []→∀ k,v.ownBlock=some k→k ∈ T):GRd w' v l:=by
 obtain ⟨h0,a,cap,h1,h2,h3⟩:=h
 refine ⟨h0,a,cap,h1,h2,fun hne=>?_⟩
 obtain ⟨b,o,h4,h5,h6⟩:=h3 hne
 have hb:=hk b (hv (fun e=>hne (by rw [e];rfl)) b (by rw [h1,h4];rfl))
 refine ⟨b,o,h4,?_,fun i hi=>?_⟩
 ·rw [Array.getElem?_eq_getElem h5] at hb
  exact (Array.getElem?_eq_some_iff.1 hb).1
 ·exact (World.cell?_of_block (w:=w) (a:=⟨b,o+i,none⟩) hb).trans (h6 i hi)
theorem wp_range_allT {α:Type} {P:Program} {g:Operand} {ps:Array Tmp} {assign body:Code} {Q:Exit→Act→World→Prop} {a:Act} {w:World}
  {gf:Nat} {lb:Array Value} (hg:a.eval g=.func (.func gf) #[] lb) (eg:∀ args w,(callFunc gf args).run P w=.ok (.enter gf args) w)
  {encs:α→Array Value} {Sx Sp:List α→Prop} {N:Nat} {T:List Nat} {w0:World} (hseq:SeqStopsK Fence.wide 5 P gf lb encs (KS T) Sx Sp N w0) (hb0:Below w0.heap.size w0 w) (hps:∀ x,(encs x).size=ps.size)
  (S:List Nat) (hT:∀ b ∈ T,b < w.heap.size∧b ∉ S) (hS:∀ x ∈ S,x < w.heap.size) (I:List α→World→Prop) (hI:OwnFrom w.heap.size I) (h0:I [] w) (a₁:α→Act)
  (hassign:∀ (l:Nat) (x:α) (W:World) (K:Act→World→Prop),K (a₁ x) W →
   assign.wpIn (Fence.wide.inRound l) 4 P (Exit.then K (fun _ _ _=>False)) { tmps:=(ps.zip (encs x)).foldl (fun t (p,v)=>t.setIfInBounds p v) a.tmps,defers:=[] } W)
  (hbody:∀ (l:Nat) (pre:List α) (x:α) (W:World),I pre W→pre.length < N→w.heap.size≤W.heap.size→body.wpIn (Fence.wide.inRound l) 4 P (fun e _ W'=>e=.normal∧Kp S W W'∧I (pre ++ [x]) W') (a₁ x) W)
  (hdone:∀ (D:Nat) (xs:List α) (W:World),w.heap.size≤D→Sx xs→I xs W→W.heap[D]? = some (.deferred (some []))→Q .normal { a with defers:={ target:=.collected D,args:=#[] } :: a.defers } W) :
  (Code.rangeFunc g ps assign body).wp P Q a w:=by
 refine (wpIn_wide (n:=6)).1 ?_
 refine wpIn_rangeFunc_ownG rfl (by decide) (gf:=gf) (lb:=lb) hg trivial eg hseq (fun h k b hb=>(k b hb).trans (h b hb))
  (fun W l o o' h _ _ _ b hb=>World.putObj_heap_other (by have:=(hT b hb).1;omega)) hb0 hps (fun pre W=>I pre W∧w.heap.size≤W.heap.size) (fun _ _ _=>False)
  (OwnFrom.and hI (fun _ W W' row hs hg hr=>Nat.le_trans hs hg.size)) (fun _ _ _ _ _ hs _ _=>hs) ⟨h0,Nat.le_refl _⟩ a₁ hassign ?body (fun D xs W hD hs h hK=>hdone D xs W hD hs h.1 hK) (fun _ _ _ _ _ _ h _=>h.elim)
 case body =>
  intro l pre x W ⟨h,hw⟩ hlt
  refine wpIn_mono (hbody l pre x W h hlt hw) ?_
  rintro e a' W' ⟨rfl,hk,hi⟩
  exact ⟨hk.keepsFrom fun x hx=>hS x hx,fun b hb=>hk.block b (by have:=(hT b hb).1;omega) (hT b hb).2,hi,Nat.le_trans hw hk.size⟩
theorem wp_range_allT2 {α:Type} {P:Program} {g:Operand} {ps:Array Tmp} {assign body:Code} {Q:Exit→Act→World→Prop} {a:Act} {w:World}
  {gf:Nat} {lb:Array Value} (hg:a.eval g=.func (.func gf) #[] lb) (eg:∀ args w,(callFunc gf args).run P w=.ok (.enter gf args) w)
  {encs:α→Array Value} {Sx Sp:List α→Prop} {N:Nat} {T:List Nat} {w0:World} (hseq:SeqStopsK Fence.wide 5 P gf lb encs (KS T) Sx Sp N w0) (hb0:Below w0.heap.size w0 w) (hps:∀ x,(encs x).size=ps.size)
  (S:List Nat) (hT:∀ b ∈ T,b < w.heap.size∧b ∉ S) (hS:∀ x ∈ S,x < w.heap.size) (I:List α→World→Prop) (hI:OwnFrom w.heap.size I) (h0:I [] w) (a₂ a₁:α→Act)
  (ha₂:∀ x,({ tmps:=(ps.zip (encs x)).foldl (fun t (p,v)=>t.setIfInBounds p v) a.tmps,defers:=[] }:Act)=a₂ x)
  (hassign:∀ (l:Nat) (x:α) (W:World) (K:Act→World→Prop),K (a₁ x) W→assign.wpIn (Fence.wide.inRound l) 4 P (Exit.then K (fun _ _ _=>False)) (a₂ x) W)
  (hbody:∀ (l:Nat) (pre:List α) (x:α) (W:World),I pre W→pre.length < N→w.heap.size≤W.heap.size→body.wpIn (Fence.wide.inRound l) 4 P (fun e _ W'=>e=.normal∧Kp S W W'∧I (pre ++ [x]) W') (a₁ x) W)
  (hdone:∀ (D:Nat) (xs:List α) (W:World),w.heap.size≤D→Sx xs→I xs W→W.heap[D]? = some (.deferred (some []))→Q .normal { a with defers:={ target:=.collected D,args:=#[] } :: a.defers } W) :
  (Code.rangeFunc g ps assign body).wp P Q a w :=
 wp_range_allT hg eg hseq hb0 hps S hT hS I hI h0 a₁ (fun l x W K hK=>by rw [ha₂];exact hassign l x W K hK) hbody hdone
end Go.Proofs.YtnjbkfeihbcalaaGreat
