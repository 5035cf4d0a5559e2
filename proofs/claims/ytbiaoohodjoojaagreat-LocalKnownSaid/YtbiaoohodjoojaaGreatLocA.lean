/-
  A code whose nodes are repaired within groups: as it lies; which nodes there are; which rows fit.
  Codes of groups: the plain laws of their points.
  A code of groups: it is made; how many tell; who is of a group.
  The others of a node's group; how many tell.
-/
import Derived.Test.YtbiaoohodjoojaaGreatSyG
import Derived.Test.YtbiaoohodjoojaaGreatPtsG
import Derived.Test.YtbiaoohodjoojaaGreatWeRefs
/- A code whose nodes are repaired within groups: as it lies; which nodes there are; which rows fit. -/
namespace Go.Proofs.YtbiaoohodjoojaaGreat
open Go.RowKit Fld
set_option linter.unusedVariables false
set_option linter.unusedSimpArgs false

structure LCode (w:World) (lb cb fb n k r K:Nat) (cv xv:Value) (xs:List GF):Prop where
 box:w.heap[lb]? = some (.cells #[.pointer (some ⟨cb,0,none⟩),.pointer (some ⟨fb,0,none⟩),.int .i64 n,.int .i64 k,.int .i64 r,xv] 72 (0,0))
 code:CodeAt w cb fb K cv xs
 rd:GRd w xv xs
 apart:Apart xv [fb]
 ne:lb ≠ fb
theorem LCode.step {w w':World} {lb cb fb n k r K:Nat} {cv xv:Value} {xs:List GF} (h:LCode w lb cb fb n k r K cv xv xs) (hk:Kp [fb] w w') (hf:FOk w' fb):LCode w' lb cb fb n k r K cv xv xs :=
 ⟨hk.heap h.box (by simpa using h.ne),h.code.step hk hf,h.rd.kp hk h.apart,h.apart,h.ne⟩
theorem LCode.below {w w':World} {lb cb fb n k r K:Nat} {cv xv:Value} {xs:List GF} (h:LCode w lb cb fb n k r K cv xv xs) (hb:Below w.heap.size w w'):LCode w' lb cb fb n k r K cv xv xs :=
 ⟨keepB hb h.box,h.code.below hb,h.rd.below hb,h.apart,h.ne⟩
def LIsPost (n:Nat) (x:Int) (w:World) (e:Ending) (w':World):Prop:=e=.returned (.bool (decide (0≤x∧x < (n:Int))))∧w=w'
set_option maxHeartbeats 1000000 in
theorem lis_any (w:World) (lb n:Nat) (x:Int) (h:w.cell? ⟨lb,2,none⟩=some (.int .i64 n)) :
  Calls Tryz.prog 38 #[.pointer (some ⟨lb,0,none⟩),.int .i64 x] w (LIsPost n x w):=by
 by_cases h0:x < 0
 ·have h1:¬ x ≥ 0:=by omega
  have hd:decide (0≤x∧x < (n:Int))=false:=by simp;omega
  have HD:=Lib.hid hd
  clear hd
  go_enter Tryz.func38,Tryz.ntmps38
  go_wp2
  go_ret
  exact ⟨by rw [HD.out] <;> rfl,rfl⟩
 ·have h1:x ≥ 0:=by omega
  by_cases h2:x < (n:Int)
  ·have hd:decide (0≤x∧x < (n:Int))=true:=by simp;omega
   have HD:=Lib.hid hd
   clear hd
   go_enter Tryz.func38,Tryz.ntmps38
   go_wp2
   go_ret
   exact ⟨by rw [HD.out] <;> rfl,rfl⟩
  ·have hd:decide (0≤x∧x < (n:Int))=false:=by simp;omega
   have HD:=Lib.hid hd
   clear hd
   go_enter Tryz.func38,Tryz.ntmps38
   go_wp2
   go_ret
   exact ⟨by rw [HD.out] <;> rfl,rfl⟩
set_option maxRecDepth 100000 in
set_option maxHeartbeats 4000000 in
theorem lfit_any (w:World) (lb n:Nat) (v:Value) (l:List Sy) (not:Int) (hc:w.cell? ⟨lb,2,none⟩=some (.int .i64 n)) (hlb:lb < w.heap.size) (h:SyAll w v l) (hl:l.length≤1000000) (hn:n≤1000000) :
  Calls Tryz.prog 46 #[.pointer (some ⟨lb,0,none⟩),v,.int .i64 not] w (BelowPost (SyGood n not 1 l) w):=by
 obtain ⟨a,cap,rfl⟩:=h.rd.form
 obtain ⟨i0,hi,hz0,hz1,hz2⟩:=info_parts bool_info
 have hmk:∀ W,(Instr.makeSlice 123 (.int .i64 n) (.int .i64 n)).run Tryz.prog W=.ok (.slice (some ⟨W.heap.size,0,none⟩) n n) (W.alloc (.cells (Array.replicate n (.bool false)) 4)):=fun W =>
  run_row W 123 4 i0 (.bool false) Tryz.underlying123 hi hz0 hz1 rfl n (by rw [hz2];omega) (by unfold maxLen;omega)
 obtain ⟨L,hL⟩:∃ L,l.length=L:=⟨_,rfl⟩
 have H:=Lib.hid h
 have HL:=Lib.hid hL
 have HC:=Lib.hid hc
 have HIS:=Lib.hid (fun (W:World) (hb:Below w.heap.size w W) (x:Int)=>lis_any W lb n x ((hb.cell (p:=⟨lb,2,none⟩) hlb).trans hc))
 rw [hL] at H hl ⊢
 obtain ⟨w1,hw1⟩:∃ w1,w1=w.alloc (.cells (Array.replicate n (.bool false)) 4):=⟨_,rfl⟩
 have hb1:Below w.heap.size w w1:=by rw [hw1];exact (Below.refl _ _).alloc (Nat.le_refl _) _
 have hm1:BMarks w1 w.heap.size n (fun _=>false):=by rw [hw1];exact BMarks.new w n
 have HB1:=Lib.hid hb1
 have HM1:=Lib.hid hm1
 have hs1:=hb1.size
 clear h hL hi hz0 hz1 hz2 hb1 hm1
 have HI1:=Lib.hid (HIS.out w1 HB1.out not)
 rw [hw1] at HI1 HB1 HM1
 unfold LIsPost at HI1
 clear hw1
 by_cases hin:0≤not∧not < (n:Int)
 ·rw [decide_eq_true hin] at HI1
  obtain ⟨Z,rfl⟩:∃ Z:Nat,not=(Z:Int):=⟨not.toNat,by omega⟩
  have hZn:Z < n:=by omega
  obtain ⟨cs,fs⟩:=HM1.out.cells Z hZn
  have HM2:Hid (BMarks ((w.alloc (.cells (Array.replicate n (.bool false)) 4)).setCell ⟨w.heap.size,Z,none⟩ (.bool true)) w.heap.size n (seenS (Z:Int) (l.take 0))):=Lib.hid ((HM1.out.set hZn).congr fun j hj=>by
   simp only [seenS,List.take_zero,List.any_nil,Bool.or_false]
   by_cases e:j=Z
   ·subst e;simp
   ·have:¬ (Z:Int)=(j:Int):=by omega
    simp [e,this])
  have HB2:Hid (Below w.heap.size w ((w.alloc (.cells (Array.replicate n (.bool false)) 4)).setCell ⟨w.heap.size,Z,none⟩ (.bool true))):=Lib.hid (((Kp.of_below (S:=[]) HB1.out).setCell (.inr (Nat.le_refl _)) _).below (Nat.le_refl _) (by simp))
  have hsa:(w.alloc (.cells (Array.replicate n (.bool false)) 4)).setCell ⟨w.heap.size,Z,none⟩ (.bool true)=w.alloc (.cells ((Array.replicate n (.bool false)).setIfInBounds Z (.bool true)) 4):=by simp [go_sem]
  rw [hsa] at HM2 HB2
  clear hsa
  have i2:(0:Int)≤(Z:Int)∧(Z:Int) < (n:Int):=hin
  go_enter Tryz.func46,Tryz.ntmps46
  go_wp2_with fail
  refine HI1.out.mono ?_
  rintro e w4 ⟨rfl,rfl⟩
  clear HI1 HM1 HB1
  go_wp2
  clear cs fs i2 hin
  go_loopg [23] L (fun gk i wr=>∃ I:Nat,I≤L∧gk=L - I∧i=.int .i64 I∧Hid (Below w.heap.size w wr)∧Hid (BMarks wr w.heap.size n (seenS (Z:Int) (l.take I)))∧Hid (SyGood n (Z:Int) 1 (l.take I)))
  case atStart=>exact ⟨0,by omega,rfl,rfl,HB2,HM2,Lib.hid (by rw [List.take_zero];exact SyGood.nil _ _ _)⟩
  case round =>
   clear HB2 HM2
   obtain ⟨I,hI,rfl,rfl,HB,HM,HG⟩:=hrel
   have hs:=HB.out.size
   have hmb:=HM.out.lt
   by_cases hlt:I < L
   ·obtain ⟨s,hs'⟩:∃ s,l[I]? = some s:=⟨_,List.getElem?_eq_getElem (by rw [HL.out];exact hlt)⟩
    obtain ⟨-,hcap,b,o,rfl,hb,hat⟩:=SRd.at (H.out.below HB.out).rd hs'
    have c0:wr.cell? ⟨b,o+I * 2,none⟩=some (.int .i64 s.node):=hat 0 _ rfl
    have c1:wr.cell? ⟨b,o+I * 2+1,none⟩=some (.slice s.a s.d.length s.cp):=hat 1 _ rfl
    have HS:=Lib.hid hs'
    have i1:(0:Int)≤(I:Int)∧(I:Int) < (L:Int):=by omega
    obtain ⟨x,hx⟩:∃ x,s.node=x:=⟨_,rfl⟩
    obtain ⟨m,hm⟩:∃ m,s.d.length=m:=⟨_,rfl⟩
    have HX:=Lib.hid hx
    have HMM:=Lib.hid hm
    rw [hx] at c0
    rw [hm] at c1
    obtain ⟨w3,hw3⟩:∃ w3,w3=wr.alloc (.cells #[.int .i64 x,.slice s.a m s.cp] 45):=⟨_,rfl⟩
    have hb3:Below wr.heap.size wr w3:=by rw [hw3];exact (Below.refl _ _).alloc (Nat.le_refl _) _
    have HB3:Hid (Below w.heap.size w w3):=Lib.hid (HB.out.trans (hb3.mono hs))
    have HI3:=Lib.hid (HIS.out w3 HB3.out x)
    have HM3:=Lib.hid (HM.out.below hb3)
    have HW3:=Lib.hid hw3
    rw [hw3] at HI3 HM3 HB3
    unfold LIsPost at HI3
    clear hat hs' hx hm hb3 hw3
    by_cases hin:0≤x∧x < (n:Int)
    case neg =>
     have HN:=Lib.hid hin
     rw [decide_eq_false hin] at HI3
     clear hin
     go_wp2_with fail
     refine HI3.out.mono ?_
     rintro e w4 ⟨rfl,rfl⟩
     go_wp2
     go_ret
     exact ⟨false,rfl,HB3.out,by simp,fun hg=>by have:=(hg.at HS.out).1;rw [HX.out] at this;exact absurd this HN.out⟩
    rw [decide_eq_true hin] at HI3
    obtain ⟨X,rfl⟩:∃ X:Nat,x=(X:Int):=⟨x.toNat,by omega⟩
    have hXn:X < n:=by omega
    obtain ⟨cs,fs⟩:=HM3.out.cells X hXn
    have HIN:=Lib.hid hin
    have i2:(0:Int)≤(X:Int)∧(X:Int) < (n:Int):=hin
    obtain ⟨q,hq⟩:∃ q,seenS (Z:Int) (l.take I) X=q:=⟨_,rfl⟩
    rw [hq] at cs
    have HQ:=Lib.hid hq
    clear hin hq
    cases q
    case true =>
     go_wp2_with fail
     refine HI3.out.mono ?_
     rintro e w4 ⟨rfl,rfl⟩
     go_wp2
     go_ret
     exact ⟨false,rfl,HB3.out,by simp,fun hg=>by
      rcases seenS_true.1 HQ.out with h | ⟨j,t,hj,ht,e⟩
      ·exact absurd (HX.out.trans h.symm) (hg.at HS.out).2.1
      ·exact absurd (e.trans HX.out.symm) (hg.twice HS.out ht hj)⟩
    case false =>
     by_cases h3:m=1
     case neg =>
      have h3':¬ (m:Int)=1:=by omega
      go_wp2_with fail
      refine HI3.out.mono ?_
      rintro e w4 ⟨rfl,rfl⟩
      go_wp2
      go_ret
      exact ⟨false,rfl,HB3.out,by simp,fun hg=>by have:=(hg.at HS.out).2.2;rw [HMM.out] at this;exact absurd this h3⟩
     subst h3
     have hno:¬ ((Z:Int)=(X:Int) ∨ ∃ (j:Nat) (t:Sy),j < I∧l[j]? = some t∧t.node=(X:Int)):=fun h=>by
      have:=seenS_true.2 h
      rw [HQ.out] at this
      cases this
     have HG2:Hid (SyGood n (Z:Int) 1 (l.take (I+1))):=Lib.hid (HG.out.succ HS.out (by rw [HX.out];exact HIN.out) (fun e=>hno (.inl (by rw [← HX.out,e]))) HMM.out (fun j t hj ht e=>hno (.inr ⟨j,t,hj,ht,by rw [e,HX.out]⟩)))
     have HM4:Hid (BMarks ((wr.setCell ⟨w.heap.size,X,none⟩ (.bool true)).alloc (.cells #[.int .i64 (X:Int),.slice s.a 1 s.cp] 45)) w.heap.size n (seenS (Z:Int) (l.take (I+1)))):=Lib.hid (((HM.out.set hXn).congr fun j hj=>seenS_succ HS.out HX.out j).below ((Below.refl _ _).alloc (Nat.le_refl _) _))
     have HB4:Hid (Below w.heap.size w ((wr.setCell ⟨w.heap.size,X,none⟩ (.bool true)).alloc (.cells #[.int .i64 (X:Int),.slice s.a 1 s.cp] 45))):=Lib.hid ((((Kp.of_below (S:=[]) HB.out).setCell (.inr (Nat.le_refl _)) _).below (Nat.le_refl _) (by simp)).alloc (by simp;omega) _)
     clear hno
     go_wp2_with fail
     refine HI3.out.mono ?_
     rintro e w4 ⟨rfl,rfl⟩
     go_wp2
     go_roundg (L - (I+1))
     case measure=>omega
     case rel=>exact ⟨I+1,by omega,rfl,by go_num,HB4,HM4,HG2⟩
   ·obtain rfl:I=L:=by omega
    go_wp2
    go_ret
    have:=HG.out
    rw [← HL.out,List.take_length] at this
    exact ⟨true,rfl,HB.out,fun _=>this,fun _=>rfl⟩
 ·rw [decide_eq_false hin] at HI1
  have HM2:Hid (BMarks (w.alloc (.cells (Array.replicate n (.bool false)) 4)) w.heap.size n (seenS not (l.take 0))):=Lib.hid (HM1.out.congr fun j hj=>by
   simp only [seenS,List.take_zero,List.any_nil,Bool.or_false]
   have:¬ not=(j:Int):=by omega
   simp [this])
  have HB2:=HB1
  clear HM1 HB1 hin
  go_enter Tryz.func46,Tryz.ntmps46
  go_wp2_with fail
  refine HI1.out.mono ?_
  rintro e w4 ⟨rfl,rfl⟩
  clear HI1
  go_wp2
  go_loopg [23] L (fun gk i wr=>∃ I:Nat,I≤L∧gk=L - I∧i=.int .i64 I∧Hid (Below w.heap.size w wr)∧Hid (BMarks wr w.heap.size n (seenS not (l.take I)))∧Hid (SyGood n not 1 (l.take I)))
  case atStart=>exact ⟨0,by omega,rfl,rfl,HB2,HM2,Lib.hid (by rw [List.take_zero];exact SyGood.nil _ _ _)⟩
  case round =>
   clear HB2 HM2
   obtain ⟨I,hI,rfl,rfl,HB,HM,HG⟩:=hrel
   have hs:=HB.out.size
   have hmb:=HM.out.lt
   by_cases hlt:I < L
   ·obtain ⟨s,hs'⟩:∃ s,l[I]? = some s:=⟨_,List.getElem?_eq_getElem (by rw [HL.out];exact hlt)⟩
    obtain ⟨-,hcap,b,o,rfl,hb,hat⟩:=SRd.at (H.out.below HB.out).rd hs'
    have c0:wr.cell? ⟨b,o+I * 2,none⟩=some (.int .i64 s.node):=hat 0 _ rfl
    have c1:wr.cell? ⟨b,o+I * 2+1,none⟩=some (.slice s.a s.d.length s.cp):=hat 1 _ rfl
    have HS:=Lib.hid hs'
    have i1:(0:Int)≤(I:Int)∧(I:Int) < (L:Int):=by omega
    obtain ⟨x,hx⟩:∃ x,s.node=x:=⟨_,rfl⟩
    obtain ⟨m,hm⟩:∃ m,s.d.length=m:=⟨_,rfl⟩
    have HX:=Lib.hid hx
    have HMM:=Lib.hid hm
    rw [hx] at c0
    rw [hm] at c1
    obtain ⟨w3,hw3⟩:∃ w3,w3=wr.alloc (.cells #[.int .i64 x,.slice s.a m s.cp] 45):=⟨_,rfl⟩
    have hb3:Below wr.heap.size wr w3:=by rw [hw3];exact (Below.refl _ _).alloc (Nat.le_refl _) _
    have HB3:Hid (Below w.heap.size w w3):=Lib.hid (HB.out.trans (hb3.mono hs))
    have HI3:=Lib.hid (HIS.out w3 HB3.out x)
    have HM3:=Lib.hid (HM.out.below hb3)
    have HW3:=Lib.hid hw3
    rw [hw3] at HI3 HM3 HB3
    unfold LIsPost at HI3
    clear hat hs' hx hm hb3 hw3
    by_cases hin:0≤x∧x < (n:Int)
    case neg =>
     have HN:=Lib.hid hin
     rw [decide_eq_false hin] at HI3
     clear hin
     go_wp2_with fail
     refine HI3.out.mono ?_
     rintro e w4 ⟨rfl,rfl⟩
     go_wp2
     go_ret
     exact ⟨false,rfl,HB3.out,by simp,fun hg=>by have:=(hg.at HS.out).1;rw [HX.out] at this;exact absurd this HN.out⟩
    rw [decide_eq_true hin] at HI3
    obtain ⟨X,rfl⟩:∃ X:Nat,x=(X:Int):=⟨x.toNat,by omega⟩
    have hXn:X < n:=by omega
    obtain ⟨cs,fs⟩:=HM3.out.cells X hXn
    have HIN:=Lib.hid hin
    have i2:(0:Int)≤(X:Int)∧(X:Int) < (n:Int):=hin
    obtain ⟨q,hq⟩:∃ q,seenS not (l.take I) X=q:=⟨_,rfl⟩
    rw [hq] at cs
    have HQ:=Lib.hid hq
    clear hin hq
    cases q
    case true =>
     go_wp2_with fail
     refine HI3.out.mono ?_
     rintro e w4 ⟨rfl,rfl⟩
     go_wp2
     go_ret
     exact ⟨false,rfl,HB3.out,by simp,fun hg=>by
      rcases seenS_true.1 HQ.out with h | ⟨j,t,hj,ht,e⟩
      ·exact absurd (HX.out.trans h.symm) (hg.at HS.out).2.1
      ·exact absurd (e.trans HX.out.symm) (hg.twice HS.out ht hj)⟩
    case false =>
     by_cases h3:m=1
     case neg =>
      have h3':¬ (m:Int)=1:=by omega
      go_wp2_with fail
      refine HI3.out.mono ?_
      rintro e w4 ⟨rfl,rfl⟩
      go_wp2
      go_ret
      exact ⟨false,rfl,HB3.out,by simp,fun hg=>by have:=(hg.at HS.out).2.2;rw [HMM.out] at this;exact absurd this h3⟩
     subst h3
     have hno:¬ (not=(X:Int) ∨ ∃ (j:Nat) (t:Sy),j < I∧l[j]? = some t∧t.node=(X:Int)):=fun h=>by
      have:=seenS_true.2 h
      rw [HQ.out] at this
      cases this
     have HG2:Hid (SyGood n not 1 (l.take (I+1))):=Lib.hid (HG.out.succ HS.out (by rw [HX.out];exact HIN.out) (fun e=>hno (.inl (by rw [← HX.out,e]))) HMM.out (fun j t hj ht e=>hno (.inr ⟨j,t,hj,ht,by rw [e,HX.out]⟩)))
     have HM4:Hid (BMarks ((wr.setCell ⟨w.heap.size,X,none⟩ (.bool true)).alloc (.cells #[.int .i64 (X:Int),.slice s.a 1 s.cp] 45)) w.heap.size n (seenS not (l.take (I+1)))):=Lib.hid (((HM.out.set hXn).congr fun j hj=>seenS_succ HS.out HX.out j).below ((Below.refl _ _).alloc (Nat.le_refl _) _))
     have HB4:Hid (Below w.heap.size w ((wr.setCell ⟨w.heap.size,X,none⟩ (.bool true)).alloc (.cells #[.int .i64 (X:Int),.slice s.a 1 s.cp] 45))):=Lib.hid ((((Kp.of_below (S:=[]) HB.out).setCell (.inr (Nat.le_refl _)) _).below (Nat.le_refl _) (by simp)).alloc (by simp;omega) _)
     clear hno
     go_wp2_with fail
     refine HI3.out.mono ?_
     rintro e w4 ⟨rfl,rfl⟩
     go_wp2
     go_roundg (L - (I+1))
     case measure=>omega
     case rel=>exact ⟨I+1,by omega,rfl,by go_num,HB4,HM4,HG2⟩
   ·obtain rfl:I=L:=by omega
    go_wp2
    go_ret
    have:=HG.out
    rw [← HL.out,List.take_length] at this
    exact ⟨true,rfl,HB.out,fun _=>this,fun _=>rfl⟩
end Go.Proofs.YtbiaoohodjoojaaGreat
/- Codes of groups: the plain laws of their points. -/
namespace Go.Proofs.YtbiaoohodjoojaaGreat
open Go.RowKit Fld
set_option linter.unusedVariables false
set_option linter.unusedSimpArgs false

def cosF (r i:Nat):GF:=GF.pown GF.two (i / (r+1)+i % (r+1) * (255 / (r+1)))
theorem cosL_eq (r g:Nat):cosL r g=rowF (cosF r) (g * (r+1)):=by
 induction g with
 | zero=>simp [cosL,rowF]
 | succ g ih =>
  rw [cosL_succ,ih,Nat.add_mul,Nat.one_mul]
  unfold rowF
  have er:List.range (g * (r+1)+(r+1))=List.range (g * (r+1)) ++ (List.range (r+1)).map (g * (r+1)+·):=List.range_add ..
  rw [er,List.map_append,List.map_map]
  refine congrArg _ (List.map_congr_left fun e he=>?_)
  have he:=List.mem_range.1 he
  have h1:(g * (r+1)+e) / (r+1)=g:=by
   rw [Nat.mul_comm,Nat.mul_add_div (by omega),Nat.div_eq_of_lt he];omega
  have h2:(g * (r+1)+e) % (r+1)=e:=by
   rw [Nat.mul_comm,Nat.mul_add_mod,Nat.mod_eq_of_lt he]
  show gPow g (255 / (r+1)) e=cosF r (g * (r+1)+e)
  unfold gPow cosF
  rw [h1,h2]
theorem cosF_inj {r g i j:Nat} (h:255 % (r+1)=0) (hg:g≤255 / (r+1)) (hi:i < g * (r+1)) (hj:j < g * (r+1)) (e:cosF r i=cosF r j):i=j:=by
 have h255:(r+1) * (255 / (r+1))=255:=Nat.mul_div_cancel' (Nat.dvd_of_mod_eq_zero h)
 generalize hS:255 / (r+1)=S at *
 have hdiv:∀ i,i < g * (r+1)→i / (r+1) < S:=fun i hi=>Nat.lt_of_lt_of_le (Nat.div_lt_of_lt_mul (by rw [Nat.mul_comm];exact hi)) hg
 have hlt:∀ i,i < g * (r+1)→i / (r+1)+i % (r+1) * S < 255:=fun i hi=>by
  have h1:=hdiv i hi
  have h2:i % (r+1) < r+1:=Nat.mod_lt _ (by omega)
  have h3:=Nat.mul_le_mul_right S (show i % (r+1)+1≤r+1 from h2)
  rw [Nat.add_mul,Nat.one_mul] at h3
  omega
 have he:=GF.log_inj (by rw [hS];exact hlt i hi) (by rw [hS];exact hlt j hj) e
 rw [hS] at he
 have hS0:0 < S:=Nat.lt_of_le_of_lt (Nat.zero_le _) (hdiv i hi)
 have e1:i / (r+1)=j / (r+1):=by
  have:=congrArg (· % S) he
  simp only [Nat.add_mul_mod_self_right] at this
  rwa [Nat.mod_eq_of_lt (hdiv i hi),Nat.mod_eq_of_lt (hdiv j hj)] at this
 have e2:i % (r+1)=j % (r+1):=by
  rw [e1] at he
  exact Nat.eq_of_mul_eq_mul_right hS0 (by omega)
 rw [← Nat.div_add_mod i (r+1),← Nat.div_add_mod j (r+1),e1,e2]
theorem cosL_nodup {r g:Nat} (h:255 % (r+1)=0) (hg:g≤255 / (r+1)):(cosL r g).Nodup:=by
 rw [cosL_eq]
 refine List.pairwise_map.2 (List.nodup_range.imp_of_mem fun {a c} ha hc hne e=>hne ?_)
 exact cosF_inj h hg (List.mem_range.1 ha) (List.mem_range.1 hc) e
theorem cosL_get {r g i:Nat} (hi:i < g * (r+1)):(cosL r g).getD i 0=cosF r i:=by rw [cosL_eq,rowF_get _ hi]
structure LOkN (N K R:Nat):Prop where
 r1:1≤R∧R≤254
 n1:1≤N∧N≤255
 nr:N % (R+1)=0
 k1:1≤K∧K≤255
 kr:K % R=0
 dv:255 % (R+1)=0
 le:K+K / R - 1≤N
def LOk (n k r:Int):Prop:=∃ N K R:Nat,n=(N:Int)∧k=(K:Int)∧r=(R:Int)∧LOkN N K R
theorem LOk.nat {N K R:Nat} (h:LOk N K R):LOkN N K R:=by
 obtain ⟨N',K',R',h1,h2,h3,h4⟩:=h
 obtain rfl:N=N':=by omega
 obtain rfl:K=K':=by omega
 obtain rfl:R=R':=by omega
 exact h4
theorem LOkN.len {N K R:Nat} (h:LOkN N K R):(cosL R (N / (R+1))).length=N:=by
 rw [cosL_len,Nat.div_mul_cancel (Nat.dvd_of_mod_eq_zero h.nr)]
theorem LOkN.grp {N K R:Nat} (h:LOkN N K R):N / (R+1)≤255 / (R+1):=Nat.div_le_div_right h.n1.2
theorem LOkN.nodup {N K R:Nat} (h:LOkN N K R):(cosL R (N / (R+1))).Nodup:=cosL_nodup h.dv h.grp
theorem LOkN.tells {N K R:Nat} (h:LOkN N K R):1≤K+K / R - 1∧K+K / R=(K / R) * (R+1)∧1≤K / R:=by
 have h1:=Nat.div_add_mod K R
 rw [h.kr] at h1
 have h2:1≤K / R:=Nat.div_pos (Nat.le_of_dvd h.k1.1 (Nat.dvd_of_mod_eq_zero h.kr)) h.r1.1
 have h3:K / R * (R+1)=R * (K / R)+K / R:=by rw [Nat.mul_add,Nat.mul_one,Nat.mul_comm]
 have:=h.k1
 omega
def grpF (r i k:Nat):Nat:=i - i % (r+1)+k+if i % (r+1)≤k then 1 else 0
end Go.Proofs.YtbiaoohodjoojaaGreat
/- A code of groups: it is made; how many tell; who is of a group. -/
namespace Go.Proofs.YtbiaoohodjoojaaGreat
open Go.RowKit Fld
set_option linter.unusedVariables false
set_option linter.unusedSimpArgs false

def LNewPost (fb:Nat) (n k r:Int) (w:World) (e:Ending) (w':World):Prop :=
 Kp [fb] w w'∧FOk w' fb∧((∃ N K R:Nat,n=(N:Int)∧k=(K:Int)∧r=(R:Int)∧LOkN N K R∧∃ lb cb cv xv,e=.returned (.tuple #[.pointer (some ⟨lb,0,none⟩),.int .i64 0])∧w.heap.size≤lb∧LCode w' lb cb fb N K R (K+K / R - 1) cv xv (cosL R (N / (R+1)))) ∨
  ¬ LOk n k r∧e=.returned (.tuple #[.pointer none,.int .i64 2]))
set_option maxRecDepth 100000 in
set_option maxHeartbeats 4000000 in
theorem lnew_any (fb:Nat) (n k r:Int) (w:World) (hF:FOk w fb) (hn:-9223372036854775808≤n∧n≤9223372036854775807) (hk:-9223372036854775808≤k∧k≤9223372036854775807) (hr:-9223372036854775808≤r∧r≤9223372036854775807) :
  Calls Tryz.prog 10 #[.pointer (some ⟨fb,0,none⟩),.int .i64 n,.int .i64 k,.int .i64 r] w (LNewPost fb n k r w):=by
 have hfl:=hF.lt
 have HF:=Lib.hid hF
 clear hF
 by_cases c1:r < 1
 ·have HFF:Hid (¬ LOk n k r):=Lib.hid (fun ⟨N,K,R,e1,e2,e3,h⟩=>by have h1:=h.r1;have h2:=h.n1;have h3:=h.k1;omega)
  go_enter Tryz.func10,Tryz.ntmps10
  go_wp2
  go_ret2
  exact ⟨Kp.refl _ _,HF.out,.inr ⟨HFF.out,rfl⟩⟩
 by_cases c2:r > 254
 ·have HFF:Hid (¬ LOk n k r):=Lib.hid (fun ⟨N,K,R,e1,e2,e3,h⟩=>by have h1:=h.r1;have h2:=h.n1;have h3:=h.k1;omega)
  go_enter Tryz.func10,Tryz.ntmps10
  go_wp2
  go_ret2
  exact ⟨Kp.refl _ _,HF.out,.inr ⟨HFF.out,rfl⟩⟩
 by_cases c3:n < 1
 ·have HFF:Hid (¬ LOk n k r):=Lib.hid (fun ⟨N,K,R,e1,e2,e3,h⟩=>by have h1:=h.r1;have h2:=h.n1;have h3:=h.k1;omega)
  go_enter Tryz.func10,Tryz.ntmps10
  go_wp2
  go_ret2
  exact ⟨Kp.refl _ _,HF.out,.inr ⟨HFF.out,rfl⟩⟩
 by_cases c4:n > 255
 ·have HFF:Hid (¬ LOk n k r):=Lib.hid (fun ⟨N,K,R,e1,e2,e3,h⟩=>by have h1:=h.r1;have h2:=h.n1;have h3:=h.k1;omega)
  go_enter Tryz.func10,Tryz.ntmps10
  go_wp2
  go_ret2
  exact ⟨Kp.refl _ _,HF.out,.inr ⟨HFF.out,rfl⟩⟩
 obtain ⟨R,rfl⟩:∃ R:Nat,r=(R:Int):=⟨r.toNat,by omega⟩
 obtain ⟨N,rfl⟩:∃ N:Nat,n=(N:Int):=⟨n.toNat,by omega⟩
 obtain ⟨R1,hR1⟩:∃ R1,R+1=R1:=⟨_,rfl⟩
 obtain ⟨m,hm⟩:∃ m,N % R1=m:=⟨_,rfl⟩
 have x1:(R:Int)+1=(R1:Int):=by omega
 have x2:IntKind.i64.wrap (R1:Int)=(R1:Int):=IntWalk.i64_in _ (by omega)
 have x3:(N:Int).tmod (R1:Int)=(m:Int):=by rw [← hm];exact (Int.ofNat_tmod N R1).symm
 have x4:IntKind.i64.wrap (m:Int)=(m:Int):=IntWalk.i64_in _ (by have:=Nat.mod_le N R1;omega)
 have x5:¬ (R1:Int)=0:=by omega
 subst hR1
 by_cases c5:m=0
 case neg =>
  have c5':¬ (m:Int)=0:=by omega
  have HFF:Hid (¬ LOk (N:Int) k (R:Int)):=Lib.hid (fun ⟨N',K,R',e1,e2,e3,h⟩=>by
   obtain rfl:N=N':=by omega
   obtain rfl:R=R':=by omega
   have:=h.nr
   omega)
  generalize hRR:R+1=R1 at *
  clear hm c5
  go_enter Tryz.func10,Tryz.ntmps10
  go_wp2
  go_ret2
  exact ⟨Kp.refl _ _,HF.out,.inr ⟨HFF.out,rfl⟩⟩
 subst c5
 have HNR:=Lib.hid hm
 generalize hRR:R+1=R1 at *
 clear hm
 by_cases c6:k < 1
 ·have HFF:Hid (¬ LOk (N:Int) k (R:Int)):=Lib.hid (fun ⟨N',K,R',e1,e2,e3,h⟩=>by have h3:=h.k1;omega)
  clear hRR
  go_enter Tryz.func10,Tryz.ntmps10
  go_wp2
  go_ret2
  exact ⟨Kp.refl _ _,HF.out,.inr ⟨HFF.out,rfl⟩⟩
 by_cases c7:k > 255
 ·have HFF:Hid (¬ LOk (N:Int) k (R:Int)):=Lib.hid (fun ⟨N',K,R',e1,e2,e3,h⟩=>by have h3:=h.k1;omega)
  clear hRR
  go_enter Tryz.func10,Tryz.ntmps10
  go_wp2
  go_ret2
  exact ⟨Kp.refl _ _,HF.out,.inr ⟨HFF.out,rfl⟩⟩
 obtain ⟨K,rfl⟩:∃ K:Nat,k=(K:Int):=⟨k.toNat,by omega⟩
 obtain ⟨q,hq⟩:∃ q,K % R=q:=⟨_,rfl⟩
 have y3:(K:Int).tmod (R:Int)=(q:Int):=by rw [← hq];exact (Int.ofNat_tmod K R).symm
 have y4:IntKind.i64.wrap (q:Int)=(q:Int):=IntWalk.i64_in _ (by have:=Nat.mod_le K R;omega)
 have y5:¬ (R:Int)=0:=by omega
 by_cases c8:q=0
 case neg =>
  have c8':¬ (q:Int)=0:=by omega
  have HFF:Hid (¬ LOk (N:Int) (K:Int) (R:Int)):=Lib.hid (fun h=>by have h1:=h.nat.kr;omega)
  clear hRR hq c8
  go_enter Tryz.func10,Tryz.ntmps10
  go_wp2
  go_ret2
  exact ⟨Kp.refl _ _,HF.out,.inr ⟨HFF.out,rfl⟩⟩
 subst c8
 have HKR:=Lib.hid hq
 obtain ⟨G,hG⟩:∃ G,N / R1=G:=⟨_,rfl⟩
 obtain ⟨D,hD⟩:∃ D,K / R=D:=⟨_,rfl⟩
 have hGle:G≤N:=by rw [← hG];exact Nat.div_le_self _ _
 have hDle:D≤K:=by rw [← hD];exact Nat.div_le_self _ _
 have hD1:1≤D:=by rw [← hD];exact Nat.div_pos (Nat.le_of_dvd (by omega) (Nat.dvd_of_mod_eq_zero hq)) (by omega)
 obtain ⟨T,hT⟩:∃ T,K+D - 1=T:=⟨_,rfl⟩
 have z1:(N:Int).tdiv (R1:Int)=(G:Int):=by rw [← hG];exact (Int.ofNat_tdiv N R1).symm
 have z2:IntKind.i64.wrap (G:Int)=(G:Int):=IntWalk.i64_in _ (by omega)
 have z3:(K:Int).tdiv (R:Int)=(D:Int):=by rw [← hD];exact (Int.ofNat_tdiv K R).symm
 have z4:IntKind.i64.wrap (D:Int)=(D:Int):=IntWalk.i64_in _ (by omega)
 obtain ⟨T1,hT1⟩:∃ T1,K+D=T1:=⟨_,rfl⟩
 have z5:(K:Int)+(D:Int)=(T1:Int):=by omega
 have z6:IntKind.i64.wrap (T1:Int)=(T1:Int):=IntWalk.i64_in _ (by omega)
 have z7:(T1:Int) - 1=(T:Int):=by omega
 have z8:IntKind.i64.wrap (T:Int)=(T:Int):=IntWalk.i64_in _ (by omega)
 have HCO:=Lib.hid (cosets_any fb R G w HF.out (by omega) (by omega))
 have HAR:Hid (LOk (N:Int) (K:Int) (R:Int)↔255 % (R+1)=0∧T≤N):=Lib.hid ⟨fun h=>by
  have h1:=h.nat.dv
  have h2:=h.nat.le
  rw [hD] at h2
  exact ⟨h1,by omega⟩,fun ⟨h1,h2⟩=>⟨N,K,R,rfl,rfl,rfl,⟨by omega,by omega,by rw [hRR];exact HNR.out,by omega,HKR.out,h1,by rw [hD];omega⟩⟩⟩
 have HGG:Hid (N / (R+1)=G∧K / R=D∧K+D - 1=T):=Lib.hid ⟨by rw [hRR];exact hG,hD,hT⟩
 have HNN:Hid (255 % (R+1)=0→G≤255 / (R+1)∧(cosL R G).length=N):=Lib.hid (fun h=>⟨by rw [← hG,← hRR];exact Nat.div_le_div_right (by omega),by rw [cosL_len,← hG,hRR,Nat.div_mul_cancel (Nat.dvd_of_mod_eq_zero HNR.out)]⟩)
 clear hRR hq hG hD hT hT1
 go_enter Tryz.func10,Tryz.ntmps10
 go_wp2_with fail
 refine HCO.out.mono ?_
 rintro e w1 ⟨hk1,hf1,⟨⟨hdv,hgl⟩,v,rfl,ho⟩ | ⟨hno,rfl⟩⟩
 case inr =>
  have HK1:=Lib.hid hk1
  have HF1:=Lib.hid hf1
  have HFF:Hid (¬ LOk (N:Int) (K:Int) (R:Int)):=Lib.hid (fun h=>hno ⟨(HAR.out.1 h).1,(HNN.out (HAR.out.1 h).1).1⟩)
  clear hk1 hf1 hno HCO
  go_wp2
  go_ret2
  exact ⟨HK1.out,HF1.out,.inr ⟨HFF.out,rfl⟩⟩
 have HK1:=Lib.hid hk1
 have HF1:=Lib.hid hf1
 have hlen:=(HNN.out hdv).2
 have HO:=Lib.hid ho
 have HDV:=Lib.hid (And.intro hdv hgl)
 have HLEN:=Lib.hid hlen
 have HNW:=Lib.hid (new_any fb v (cosL R G) (T:Int) w1 hf1 ho.rd (by rw [hlen];omega) (by omega))
 obtain ⟨av,cv,rfl,hcv⟩:=ho.form
 rw [hlen] at HNW HO hcv ⊢
 have hs1:=hk1.size
 clear hk1 hf1 hdv hgl hlen ho HCO
 go_wp2_with fail
 refine HNW.out.mono ?_
 rintro e w2 ⟨hb2,⟨⟨hnd,hT1,hTN⟩,cb,v2,rfl,hcb,hcode,hov⟩ | ⟨hno,rfl⟩⟩
 case inr =>
  have HK2:=Lib.hid (HK1.out.below_step hb2)
  have HF2:=Lib.hid (HF1.out.below hb2)
  have HFF:Hid (¬ LOk (N:Int) (K:Int) (R:Int)):=Lib.hid (fun h=>hno ⟨cosL_nodup HDV.out.1 HDV.out.2,by have:=h.nat.tells.1;rw [HGG.out.2.1,HGG.out.2.2] at this;omega,by rw [HLEN.out];have:=(HAR.out.1 h).2;omega⟩)
  clear hb2 hno HNW
  go_wp2
  go_ret2
  exact ⟨HK2.out,HF2.out,.inr ⟨HFF.out,rfl⟩⟩
 have hs2:=hb2.size
 have hb3:Below w2.heap.size w2 (w2.alloc (.cells #[.pointer (some ⟨cb,0,none⟩),.pointer (some ⟨fb,0,none⟩),.int .i64 N,.int .i64 K,.int .i64 R,.slice av N cv] 72)):=(Below.refl _ _).alloc (Nat.le_refl _) _
 have HP:Hid (LNewPost fb (N:Int) (K:Int) (R:Int) w (.returned (.tuple #[.pointer (some ⟨w2.heap.size,0,none⟩),.int .i64 0])) (w2.alloc (.cells #[.pointer (some ⟨cb,0,none⟩),.pointer (some ⟨fb,0,none⟩),.int .i64 N,.int .i64 K,.int .i64 R,.slice av N cv] 72))):=Lib.hid (by
  refine ⟨(HK1.out.below_step hb2).below_step hb3,(HF1.out.below hb2).below hb3,.inl ⟨N,K,R,rfl,rfl,rfl,(HAR.out.2 ⟨HDV.out.1,by rw [HLEN.out] at hTN;omega⟩).nat,w2.heap.size,cb,v2,.slice av N cv,rfl,by omega,heap_newA _ _,?_,?_,?_,by omega⟩⟩
  ·rw [HGG.out.1,HGG.out.2.1,HGG.out.2.2]
   have:=hcode.below hb3
   rwa [Int.toNat_natCast] at this
  ·rw [HGG.out.1]
   exact ((HO.out.below hb2).below hb3).rd
  ·intro b hb hm
   have:=(HO.out.lt b hb).1
   simp at hm
   omega)
 clear hb2 hb3 hnd hT1 hTN hcb hcode hov HNW
 go_wp2
 go_ret2
 exact HP.out
end Go.Proofs.YtbiaoohodjoojaaGreat
/- The others of a node's group; how many tell. -/
namespace Go.Proofs.YtbiaoohodjoojaaGreat
open Go.RowKit Fld
set_option linter.unusedVariables false
set_option linter.unusedSimpArgs false

def GrpPost (r i:Nat) (w:World) (e:Ending) (w':World):Prop:=∃ v,e=.returned v∧OwnZ w' w.heap.size v (rowN r (grpF r i))∧Below w.heap.size w w'
set_option maxRecDepth 100000 in
set_option maxHeartbeats 4000000 in
theorem pgroup_any (r i:Nat) (w:World) (hr:1≤r∧r≤255) (hi:i≤1000000) :
  Calls Tryz.prog 39 #[.int .i64 r,.int .i64 i] w (GrpPost r i w):=by
 obtain ⟨R,hR⟩:∃ R,r+1=R:=⟨_,rfl⟩
 obtain ⟨p,hp⟩:∃ p,i % R=p:=⟨_,rfl⟩
 have hpR:p < R:=by rw [← hp];exact Nat.mod_lt _ (by omega)
 have hpi:p≤i:=by rw [← hp];exact Nat.mod_le _ _
 obtain ⟨s,hs⟩:∃ s,i - p=s:=⟨_,rfl⟩
 have x1:(r:Int)+1=(R:Int):=by omega
 have x2:IntKind.i64.wrap (R:Int)=(R:Int):=IntWalk.i64_in _ (by omega)
 have x3:(i:Int).tmod (R:Int)=(p:Int):=by rw [← hp];exact (Int.ofNat_tmod i R).symm
 have x4:IntKind.i64.wrap (p:Int)=(p:Int):=IntWalk.i64_in _ (by omega)
 have x5:¬ (R:Int)=0:=by omega
 have x6:(i:Int) - (p:Int)=(s:Int):=by omega
 have x7:IntKind.i64.wrap (s:Int)=(s:Int):=IntWalk.i64_in _ (by omega)
 have n1:¬ (r:Int) < 1:=by omega
 have n2:¬ (r:Int) > 255:=by omega
 have n3:¬ (i:Int) < 0:=by omega
 have HG:Hid (∀ k,grpF r i k=s+k+if p≤k then 1 else 0):=Lib.hid fun k=>by unfold grpF;rw [hR,hp,hs]
 have HA:Hid (r+1=R∧p < R∧s+p=i):=Lib.hid ⟨hR,hpR,by omega⟩
 clear hR hp hs hpR hpi
 go_enter Tryz.func39,Tryz.ntmps39
 go_wp2
 clear x1 x2 x3 x4 x5 x6 x7 n1 n2 n3
 go_loopg [5,6] (r+1) (fun gk l n wr=>∃ (V:Value) (J K Q:Nat),V=l∧J≤r+1∧gk=r+1 - J∧n=.int .i64 Q∧Hid (Q=s+J)∧Hid (J≤p∧K=J ∨ p < J∧K+1=J)∧K≤r∧Hid (OwnZ wr w.heap.size V (rowN K (grpF r i)))∧Hid (Below w.heap.size w wr))
 case atStart=>exact ⟨_,0,0,s,rfl,by omega,rfl,rfl,Lib.hid (by omega),Lib.hid (.inl ⟨by omega,rfl⟩),by omega,Lib.hid (OwnZ.nil _ _),Lib.hid (Below.refl _ _)⟩
 case round =>
  obtain ⟨V,J,K,Q,rfl,hJ,rfl,rfl,HQ,HJK,hK,HO,HB⟩:=hrel
  have hs:=HB.out.size
  have hnil:V=.slice none 0 0 ∨ ∃ A n c,V=.slice (some A) n c:=by
   obtain ⟨a,c,e⟩:=HO.out.rd.form
   subst e
   cases a with
   | none =>
    rcases HO.out.2 with ⟨h,-⟩ | ⟨g,cap,cur,h,-⟩
    ·exact .inl h
    ·cases h
   | some A=>exact .inr ⟨A,_,_,rfl⟩
  obtain ⟨a,c,rfl⟩:=HO.out.rd.form
  have HO2:=HO
  rw [rowN_len] at HO2 ⊢
  by_cases hlt:K < r
  ·have hJr:J < r+1:=by
    have h1:=HJK.out
    have h2:=HA.out
    omega
   obtain ⟨Q2,hQ2⟩:∃ Q2,Q+1=Q2:=⟨_,rfl⟩
   have hQb:Q≤2000000:=by have h1:=HQ.out;have h2:=HA.out;omega
   have y1:(Q:Int)+1=(Q2:Int):=by omega
   have y2:IntKind.i64.wrap (Q2:Int)=(Q2:Int):=IntWalk.i64_in _ (by omega)
   have HQ2:Hid (Q2=s+(J+1)):=Lib.hid (by have:=HQ.out;omega)
   by_cases he:Q=i
   ·have HJK2:Hid (J+1≤p∧K=J+1 ∨ p < J+1∧K+1=J+1):=Lib.hid (by
     have h1:=HJK.out
     have h2:=HA.out
     have h3:=HQ.out
     omega)
    have he':((Q:Int) == (i:Int))=true:=by simp;omega
    clear he hQ2
    go_wp2
    go_roundg (r+1 - (J+1))
    case measure=>omega
    case rel=>exact ⟨_,J+1,K,Q2,rfl,by omega,rfl,rfl,HQ2,HJK2,hK,HO2,HB⟩
   ·have HJK2:Hid (J+1≤p∧K+1=J+1 ∨ p < J+1∧K+1+1=J+1):=Lib.hid (by
     have h1:=HJK.out
     have h2:=HA.out
     have h3:=HQ.out
     omega)
    have hv:grpF r i K=Q:=by
     rw [HG.out]
     have h1:=HJK.out
     have h2:=HA.out
     have h3:=HQ.out
     split <;> omega
    obtain ⟨v1,w6,hap,ho1,-,hb6,-⟩:=app_int (W:=wr) (Q:Int) HO2.out (by rw [rowN_len];omega) (by omega) (ad:=wr.heap.size) rfl
    have HO6:Hid (OwnZ w6 w.heap.size v1 (rowN (K+1) (grpF r i))):=Lib.hid (by rw [rowN_succ,hv];exact ho1)
    have HB6:=Lib.hid (HB.out.trans hb6)
    have he':((Q:Int) == (i:Int))=false:=by simp;omega
    clear he hQ2 ho1 hb6 hv
    go_wp2_with (at_builtin;refine wpList_append rfl _ _ _ rfl rfl rfl hap ?_)
    go_roundg (r+1 - (J+1))
    case measure=>omega
    case rel=>exact ⟨_,J+1,K+1,Q2,rfl,by omega,rfl,rfl,HQ2,HJK2,by omega,HO6,HB6⟩
  ·obtain rfl:K=r:=by omega
   have HP:Hid (GrpPost K i w (.returned (.slice a K c)) wr):=Lib.hid ⟨_,rfl,HO2.out,HB.out⟩
   go_wp2
   go_ret
   exact HP.out
def LGrpPost (n r:Nat) (x:Int) (w:World) (e:Ending) (w':World):Prop :=
 (∃ i:Nat,x=(i:Int)∧i < n∧GrpPost r i w e w') ∨ (¬ (0≤x∧x < (n:Int))∧e=.returned (.slice none 0 0)∧w=w')
set_option maxHeartbeats 1000000 in
theorem lgroup_any (lb n r:Nat) (x:Int) (w:World) (h2:w.cell? ⟨lb,2,none⟩=some (.int .i64 n)) (h4:w.cell? ⟨lb,4,none⟩=some (.int .i64 r)) (hr:1≤r∧r≤255) (hn:n≤100000) :
  Calls Tryz.prog 14 #[.pointer (some ⟨lb,0,none⟩),.int .i64 x] w (LGrpPost n r x w):=by
 have HIS:=Lib.hid (lis_any w lb n x h2)
 unfold LIsPost at HIS
 by_cases hin:0≤x∧x < (n:Int)
 ·rw [decide_eq_true hin] at HIS
  obtain ⟨i,rfl⟩:∃ i:Nat,x=(i:Int):=⟨x.toNat,by omega⟩
  have hin':i < n:=by omega
  have HG:=Lib.hid (pgroup_any r i w hr (by omega))
  clear hin
  go_enter Tryz.func14,Tryz.ntmps14
  go_wp2_with fail
  refine HIS.out.mono ?_
  rintro e w' ⟨rfl,rfl⟩
  go_wp2_with fail
  refine HG.out.mono ?_
  rintro e w1 ⟨v,rfl,ho,hb⟩
  obtain ⟨a,c,rfl⟩:=ho.rd.form
  have HP:Hid (LGrpPost n r (i:Int) w (.returned (.slice a (rowN r (grpF r i)).length c)) w1):=Lib.hid (.inl ⟨i,rfl,hin',_,rfl,ho,hb⟩)
  clear ho hb
  go_wp2
  go_ret
  exact HP.out
 ·rw [decide_eq_false hin] at HIS
  have HN:=Lib.hid hin
  clear hin
  go_enter Tryz.func14,Tryz.ntmps14
  go_wp2_with fail
  refine HIS.out.mono ?_
  rintro e w' ⟨rfl,rfl⟩
  go_wp2
  go_ret
  exact .inr ⟨HN.out,rfl,rfl⟩
set_option maxHeartbeats 1000000 in
theorem ltells_any (lb cb fb n k r K:Nat) (cv xv:Value) (xs:List GF) (w:World) (h:LCode w lb cb fb n k r K cv xv xs) :
  Calls Tryz.prog 15 #[.pointer (some ⟨lb,0,none⟩)] w fun e w'=>e=.returned (.int .i64 K)∧w=w':=by
 have HK:=Lib.hid (codeK_any w cb fb K cv xs h.code)
 have c0:=cell_of_heap h.box (j:=0) rfl
 clear h
 go_enter Tryz.func15,Tryz.ntmps15
 go_wp2_with fail
 refine HK.out.mono ?_
 rintro e w' ⟨rfl,rfl⟩
 go_wp2
 go_ret
 exact ⟨rfl,rfl⟩
end Go.Proofs.YtbiaoohodjoojaaGreat
