/-
  Is this a node? (what 'is' answers)
  Which nodes a code of edges has; which rows fit; what is done with each other node.
-/
import Derived.Test.YtjdnicacnaokdaaGreatSyG
import Derived.Test.YtjdnicacnaokdaaGreatTrPG
/- Is this a node? (what 'is' answers) -/
namespace Go.Proofs.YtjdnicacnaokdaaGreat
open Go.RowKit
def NodePost (n:Nat) (x:Int) (w:World) (e:Ending) (w':World):Prop:=e=.returned (.bool (decide (0≤x∧x < (n:Int))))∧w=w'
end Go.Proofs.YtjdnicacnaokdaaGreat
/- Which nodes a code of edges has; which rows fit; what is done with each other node. -/
namespace Go.Proofs.YtjdnicacnaokdaaGreat
open Go.RowKit Fld
set_option linter.unusedVariables false
set_option linter.unusedSimpArgs false

set_option maxHeartbeats 1000000 in
theorem tris_any (w:World) (lb n:Nat) (x:Int) (h:w.cell? ⟨lb,0,none⟩=some (.int .i64 n)) :
  Calls Tryz.prog 40 #[.pointer (some ⟨lb,0,none⟩),.int .i64 x] w (NodePost n x w):=by
 by_cases h0:x < 0
 ·have h1:¬ x ≥ 0:=by omega
  have hd:decide (0≤x∧x < (n:Int))=false:=by simp;omega
  have HD:=Lib.hid hd
  clear hd
  go_enter Tryz.func40,Tryz.ntmps40
  go_wp2
  go_ret
  exact ⟨by rw [HD.out] <;> rfl,rfl⟩
 ·have h1:x ≥ 0:=by omega
  by_cases h2:x < (n:Int)
  ·have hd:decide (0≤x∧x < (n:Int))=true:=by simp;omega
   have HD:=Lib.hid hd
   clear hd
   go_enter Tryz.func40,Tryz.ntmps40
   go_wp2
   go_ret
   exact ⟨by rw [HD.out] <;> rfl,rfl⟩
  ·have hd:decide (0≤x∧x < (n:Int))=false:=by simp;omega
   have HD:=Lib.hid hd
   clear hd
   go_enter Tryz.func40,Tryz.ntmps40
   go_wp2
   go_ret
   exact ⟨by rw [HD.out] <;> rfl,rfl⟩
set_option maxRecDepth 100000 in
set_option maxHeartbeats 4000000 in
theorem trfit_any (w:World) (lb n sz:Nat) (v:Value) (l:List Sy) (hc:w.cell? ⟨lb,0,none⟩=some (.int .i64 n)) (hlb:lb < w.heap.size) (h:SyAll w v l) (hl:l.length≤1000000) (hn:n≤1000000) :
  Calls Tryz.prog 44 #[.pointer (some ⟨lb,0,none⟩),v,.int .i64 sz] w (BelowPost (SyGood n (-1) sz l) w):=by
 obtain ⟨a,cap,rfl⟩:=h.rd.form
 obtain ⟨i0,hi,hz0,hz1,hz2⟩:=info_parts bool_info
 have hmk:∀ W,(Instr.makeSlice 114 (.int .i64 n) (.int .i64 n)).run Tryz.prog W=.ok (.slice (some ⟨W.heap.size,0,none⟩) n n) (W.alloc (.cells (Array.replicate n (.bool false)) 4)):=fun W =>
  run_row W 114 4 i0 (.bool false) Tryz.underlying114 hi hz0 hz1 rfl n (by rw [hz2];omega) (by unfold maxLen;omega)
 obtain ⟨L,hL⟩:∃ L,l.length=L:=⟨_,rfl⟩
 have H:=Lib.hid h
 have HL:=Lib.hid hL
 have HIS:=Lib.hid (fun (W:World) (hb:Below w.heap.size w W) (x:Int)=>tris_any W lb n x ((hb.cell (p:=⟨lb,0,none⟩) hlb).trans hc))
 rw [hL] at H hl ⊢
 obtain ⟨w1,hw1⟩:∃ w1,w1=w.alloc (.cells (Array.replicate n (.bool false)) 4):=⟨_,rfl⟩
 have HB2:Hid (Below w.heap.size w w1):=Lib.hid (by rw [hw1];exact (Below.refl _ _).alloc (Nat.le_refl _) _)
 have HM2:Hid (BMarks w1 w.heap.size n (seenS (-1) (l.take 0))):=Lib.hid (by
  rw [hw1]
  refine (BMarks.new w n).congr fun j hj=>?_
  simp only [seenS,List.take_zero,List.any_nil,Bool.or_false]
  have:¬ (-1:Int)=(j:Int):=by omega
  simp [this])
 rw [hw1] at HB2 HM2
 clear h hL hi hz0 hz1 hz2 hw1
 go_enter Tryz.func44,Tryz.ntmps44
 go_wp2
 go_loopg [17] L (fun gk i wr=>∃ I:Nat,I≤L∧gk=L - I∧i=.int .i64 I∧Hid (Below w.heap.size w wr)∧Hid (BMarks wr w.heap.size n (seenS (-1) (l.take I)))∧Hid (SyGood n (-1) sz (l.take I)))
 case atStart=>exact ⟨0,by omega,rfl,rfl,HB2,HM2,Lib.hid (by rw [List.take_zero];exact SyGood.nil _ _ _)⟩
 case round =>
  clear HB2 HM2
  obtain ⟨I,hI,rfl,rfl,HB,HM,HG⟩:=hrel
  have hs:=HB.out.size
  have hmb:=HM.out.lt
  by_cases hlt:I < L
  ·obtain ⟨s,hs'⟩:∃ s,l[I]? = some s:=⟨_,List.getElem?_eq_getElem (by rw [HL.out];exact hlt)⟩
   obtain ⟨-,hcap,b,o,rfl,hb,hat⟩:=SRd.at (H.out.below HB.out).rd hs'
   have c0:wr.cell? ⟨b,o+I * 2,none⟩=some (.int .i64 s.node):=hat 0 _ rfl
   have c1:wr.cell? ⟨b,o+I * 2+1,none⟩=some (.slice s.a s.d.length s.cp):=hat 1 _ rfl
   have HS:=Lib.hid hs'
   have i1:(0:Int)≤(I:Int)∧(I:Int) < (L:Int):=by omega
   obtain ⟨x,hx⟩:∃ x,s.node=x:=⟨_,rfl⟩
   obtain ⟨m,hm⟩:∃ m,s.d.length=m:=⟨_,rfl⟩
   have HX:=Lib.hid hx
   have HMM:=Lib.hid hm
   rw [hx] at c0
   rw [hm] at c1
   obtain ⟨w3,hw3⟩:∃ w3,w3=wr.alloc (.cells #[.int .i64 x,.slice s.a m s.cp] 57):=⟨_,rfl⟩
   have hb3:Below wr.heap.size wr w3:=by rw [hw3];exact (Below.refl _ _).alloc (Nat.le_refl _) _
   have HB3:Hid (Below w.heap.size w w3):=Lib.hid (HB.out.trans (hb3.mono hs))
   have HI3:=Lib.hid (HIS.out w3 HB3.out x)
   have HM3:=Lib.hid (HM.out.below hb3)
   have HW3:=Lib.hid hw3
   rw [hw3] at HI3 HM3 HB3
   unfold NodePost at HI3
   clear hat hs' hx hm hb3 hw3
   by_cases hin:0≤x∧x < (n:Int)
   case neg =>
    have HN:=Lib.hid hin
    rw [decide_eq_false hin] at HI3
    clear hin
    go_wp2_with fail
    refine HI3.out.mono ?_
    rintro e w4 ⟨rfl,rfl⟩
    go_wp2
    go_ret
    exact ⟨false,rfl,HB3.out,by simp,fun hg=>by have:=(hg.at HS.out).1;rw [HX.out] at this;exact absurd this HN.out⟩
   rw [decide_eq_true hin] at HI3
   obtain ⟨X,rfl⟩:∃ X:Nat,x=(X:Int):=⟨x.toNat,by omega⟩
   have hXn:X < n:=by omega
   obtain ⟨cs,fs⟩:=HM3.out.cells X hXn
   have HIN:=Lib.hid hin
   have i2:(0:Int)≤(X:Int)∧(X:Int) < (n:Int):=hin
   obtain ⟨q,hq⟩:∃ q,seenS (-1) (l.take I) X=q:=⟨_,rfl⟩
   rw [hq] at cs
   have HQ:=Lib.hid hq
   clear hin hq
   cases q
   case true =>
    go_wp2_with fail
    refine HI3.out.mono ?_
    rintro e w4 ⟨rfl,rfl⟩
    go_wp2
    go_ret
    exact ⟨false,rfl,HB3.out,by simp,fun hg=>by
     rcases seenS_true.1 HQ.out with h | ⟨j,t,hj,ht,e⟩
     ·exact absurd (HX.out.trans h.symm) (hg.at HS.out).2.1
     ·exact absurd (e.trans HX.out.symm) (hg.twice HS.out ht hj)⟩
   case false =>
    by_cases h3:m=sz
    case neg =>
     have h3':¬ (m:Int)=(sz:Int):=by omega
     go_wp2_with fail
     refine HI3.out.mono ?_
     rintro e w4 ⟨rfl,rfl⟩
     go_wp2
     go_ret
     exact ⟨false,rfl,HB3.out,by simp,fun hg=>by have:=(hg.at HS.out).2.2;rw [HMM.out] at this;exact absurd this h3⟩
    replace h3:=h3.symm;subst h3
    have hno:¬ ((-1)=(X:Int) ∨ ∃ (j:Nat) (t:Sy),j < I∧l[j]? = some t∧t.node=(X:Int)):=fun h=>by
     have:=seenS_true.2 h
     rw [HQ.out] at this
     cases this
    have HG2:Hid (SyGood n (-1) sz (l.take (I+1))):=Lib.hid (HG.out.succ HS.out (by rw [HX.out];exact HIN.out) (fun e=>hno (.inl (by rw [← HX.out,e]))) HMM.out (fun j t hj ht e=>hno (.inr ⟨j,t,hj,ht,by rw [e,HX.out]⟩)))
    have HM4:Hid (BMarks ((wr.setCell ⟨w.heap.size,X,none⟩ (.bool true)).alloc (.cells #[.int .i64 (X:Int),.slice s.a sz s.cp] 57)) w.heap.size n (seenS (-1) (l.take (I+1)))):=Lib.hid (((HM.out.set hXn).congr fun j hj=>seenS_succ HS.out HX.out j).below ((Below.refl _ _).alloc (Nat.le_refl _) _))
    have HB4:Hid (Below w.heap.size w ((wr.setCell ⟨w.heap.size,X,none⟩ (.bool true)).alloc (.cells #[.int .i64 (X:Int),.slice s.a sz s.cp] 57))):=Lib.hid ((((Kp.of_below (S:=[]) HB.out).setCell (.inr (Nat.le_refl _)) _).below (Nat.le_refl _) (by simp)).alloc (by simp;omega) _)
    clear hno
    go_wp2_with fail
    refine HI3.out.mono ?_
    rintro e w4 ⟨rfl,rfl⟩
    go_wp2
    go_roundg (L - (I+1))
    case measure=>omega
    case rel=>exact ⟨I+1,by omega,rfl,by go_num,HB4,HM4,HG2⟩
  ·obtain rfl:I=L:=by omega
   go_wp2
   go_ret
   have:=HG.out
   rw [← HL.out,List.take_length] at this
   exact ⟨true,rfl,HB.out,fun _=>this,fun _=>rfl⟩
end Go.Proofs.YtjdnicacnaokdaaGreat
