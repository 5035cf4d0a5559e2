/-
  A code that is repaired by just what its nodes store: New, Alpha, B.
  mbr: how many bytes a message has.
-/
import Derived.Test.YtnjbkfeihbcalaaGreatZNews
import Derived.Test.YtnjbkfeihbcalaaGreatZPM
import Derived.Test.YtnjbkfeihbcalaaGreatZKit
import Derived.Test.YtnjbkfeihbcalaaGreatZPlainM
import Derived.Test.YtnjbkfeihbcalaaGreatZPlains
import Derived.Test.YtnjbkfeihbcalaaGreatZMat
import Derived.Deep.Cut
/- A code that is repaired by just what its nodes store: New, Alpha, B. -/
namespace Go.Proofs.YtnjbkfeihbcalaaGreat
open Go.RowKit Fld
set_option linter.unusedVariables false
set_option linter.unusedSimpArgs false

structure MbC (w:World) (lb t1 t2 fb pb n k d:Nat) (v1 v2:Value):Prop where
 box:w.heap[lb]? = some (.cells #[.pointer (some ⟨fb,0,none⟩),.int .i64 n,.int .i64 k,.int .i64 d,.int .i64 n,.int .i64 d,.slice (some ⟨pb,0,none⟩) (n * d) (n * d),.pointer (some ⟨t1,0,none⟩),.pointer (some ⟨t2,0,none⟩)] 86 (0,0))
 psi:View w pb (n * d) (flat d fun i c=>pw ((pows n).getD i 0) c)
 tells:CodeAt w t1 fb k v1 (pows n)
 mends:CodeAt w t2 fb d v2 (pows n)
 ne:lb ≠ fb∧pb ≠ fb
theorem MbC.step {w w':World} {lb t1 t2 fb pb n k d:Nat} {v1 v2:Value} (h:MbC w lb t1 t2 fb pb n k d v1 v2) (hk:Kp [fb] w w') (hf:FOk w' fb):MbC w' lb t1 t2 fb pb n k d v1 v2 :=
 ⟨hk.heap h.box (by simpa using h.ne.1),h.psi.kp hk (by simpa using h.ne.2),h.tells.step hk hf,h.mends.step hk hf,h.ne⟩
theorem MbC.below {w w':World} {lb t1 t2 fb pb n k d:Nat} {v1 v2:Value} (h:MbC w lb t1 t2 fb pb n k d v1 v2) (hb:Below w.heap.size w w'):MbC w' lb t1 t2 fb pb n k d v1 v2 :=
 ⟨keepB hb h.box,h.psi.below hb,h.tells.below hb,h.mends.below hb,h.ne⟩
def MbNewPost (fb:Nat) (n k d:Int) (w:World) (e:Ending) (w':World):Prop :=
 Kp [fb] w w'∧FOk w' fb∧((∃ N K D:Nat,n=(N:Int)∧k=(K:Int)∧d=(D:Int)∧(1≤K∧K≤D∧D < N∧N≤255)∧∃ lb t1 t2 pb v1 v2,e=.returned (.tuple #[.pointer (some ⟨lb,0,none⟩),.int .i64 0])∧w.heap.size≤lb∧MbC w' lb t1 t2 fb pb N K D v1 v2) ∨
  ¬ (1≤k∧k≤d∧d < n∧n≤255)∧e=.returned (.tuple #[.pointer none,.int .i64 2]))
set_option maxHeartbeats 1000000 in
theorem mba_any (w:World) (lb:Nat) (d:Int) (h3:w.cell? ⟨lb,3,none⟩=some (.int .i64 d)) :
  Calls Tryz.prog 13 #[.pointer (some ⟨lb,0,none⟩)] w fun e w'=>e=.returned (.int .i64 d)∧w=w':=by
 go_enter Tryz.func13,Tryz.ntmps13
 go_wp2
 go_ret
 exact ⟨rfl,rfl⟩
theorem pows_get {N j:Nat} (h:j < N):(pows N).getD j 0=GF.pown GF.two j:=by
 rw [List.getD_eq_getElem?_getD,pows,List.getElem?_map,List.getElem?_range h]
 rfl
theorem CodeAt.kpL {S:List Nat} {w w':World} {cb fb k B:Nat} {v:Value} {xs:List GF} (h:CodeAt w cb fb k v xs) (ho:OwnG w B v xs) (hk:Kp S w w') (h1:cb ∉ S) (h2:fb ∉ S) (h3:∀ x ∈ S,x < B):CodeAt w' cb fb k v xs :=
 ⟨hk.heap h.box h1,h.ok.kp hk h2,h.rd.kp hk (fun b hb hm=>by have:=(ho.lt b hb).1;have:=h3 b hm;omega),h.apart,h.ne⟩
set_option maxRecDepth 100000 in
set_option maxHeartbeats 4000000 in
theorem mbnew_any (fb:Nat) (n k d:Int) (w:World) (hF:FOk w fb) (hn:-9223372036854775808≤n∧n≤9223372036854775807) (hk:-9223372036854775808≤k∧k≤9223372036854775807) (hd:-9223372036854775808≤d∧d≤9223372036854775807) (hsm:(1≤k∧k≤d∧d < n∧n≤255)→n≤(sortMax:Nat)) :
  Calls Tryz.prog 12 #[.pointer (some ⟨fb,0,none⟩),.int .i64 n,.int .i64 k,.int .i64 d] w (MbNewPost fb n k d w):=by
 by_cases hg:1≤k∧k≤d∧d < n∧n≤255
 case neg =>
  have HP:Hid (MbNewPost fb n k d w (.returned (.tuple #[.pointer none,.int .i64 2])) w):=Lib.hid ⟨Kp.refl _ _,hF,.inr ⟨hg,rfl⟩⟩
  clear hF
  by_cases h1:k < 1
  ·clear hg
   go_enter Tryz.func12,Tryz.ntmps12
   go_wp2
   go_ret2
   exact HP.out
  by_cases h2:d < k
  ·clear hg
   go_enter Tryz.func12,Tryz.ntmps12
   go_wp2
   go_ret2
   exact HP.out
  by_cases h3:n≤d
  ·clear hg
   go_enter Tryz.func12,Tryz.ntmps12
   go_wp2
   go_ret2
   exact HP.out
  have h4:255 < n:=by omega
  clear hg
  go_enter Tryz.func12,Tryz.ntmps12
  go_wp2
  go_ret2
  exact HP.out
 obtain ⟨h1,h2,h3,h4⟩:=hg
 obtain ⟨K,rfl⟩:∃ K:Nat,k=(K:Int):=⟨k.toNat,by omega⟩
 obtain ⟨D,rfl⟩:∃ D:Nat,d=(D:Int):=⟨d.toNat,by omega⟩
 obtain ⟨N,rfl⟩:∃ N:Nat,n=(N:Int):=⟨n.toNat,by omega⟩
 have HSM:Hid (N≤sortMax):=Lib.hid (Int.ofNat_le.1 (hsm (by omega)))
 clear hsm
 obtain ⟨i0,hi,hz0,hz1,hz2⟩:=info_parts u8_info
 have hmk:∀ W,(Instr.makeSlice 50 (.int .i64 N) (.int .i64 N)).run Tryz.prog W=.ok (.slice (some ⟨W.heap.size,0,none⟩) N N) (W.alloc (.cells (Array.replicate N (.int .u8 0)) 5)):=fun W =>
  run_row W 50 5 i0 (.int .u8 0) Tryz.underlying50 hi hz0 hz1 rfl N (by rw [hz2];omega) (by unfold maxLen;omega)
 have hfw:=hF.lt
 obtain ⟨w1,hw1⟩:∃ w1,w1=w.alloc (.cells (Array.replicate N (.int .u8 0)) 5):=⟨_,rfl⟩
 have hb1:Below w.heap.size w w1:=by rw [hw1];exact (Below.refl _ _).alloc (Nat.le_refl _) _
 have hh:w1.heap[w.heap.size]? = some (.cells (Array.replicate N (.int .u8 0)) 5 (0,0)):=by rw [hw1];exact heap_newA _ _
 obtain ⟨xb,hxb⟩:∃ xb,w.heap.size=xb:=⟨_,rfl⟩
 have HV1:Hid (View w1 xb N (fun j=>if j < 0 then GF.pown GF.two j else 0)):=Lib.hid ⟨by rw [← hxb];exact lt_of_heap hh,fun j hj=>⟨by
  rw [← hxb]
  simp only [Nat.not_lt_zero,if_false]
  exact cell_of_heap hh (by simp [hj];rfl),by rw [← hxb];exact free_of_heap hh j⟩⟩
 have HF1:=Lib.hid (hF.below hb1)
 have HK1:Hid (Kp [fb] w w1):=Lib.hid (Kp.of_below hb1)
 have h2':¬ D < K:=by omega
 have h3':¬ N≤D:=by omega
 have h1':¬ (K:Int) < 1:=by omega
 have g2:¬ (D:Int) < (K:Int):=by omega
 have g3:¬ (N:Int)≤(D:Int):=by omega
 have g4:¬ (255:Int) < (N:Int):=by omega
 clear hb1 hh hF hn hk hd hi hz0 hz1 hz2
 go_enter Tryz.func12,Tryz.ntmps12
 go_wp2
 rw [← hw1]
 clear hw1 hmk
 go_loopg [34] N (fun gk i wr=>∃ I:Nat,I≤N∧gk=N - I∧i=.int .i64 I∧Hid (View wr xb N (fun j=>if j < I then GF.pown GF.two j else 0))∧Hid (Kp [fb] w wr)∧Hid (FOk wr fb))
 case atStart=>exact ⟨0,by omega,rfl,rfl,HV1,HK1,HF1⟩
 case round =>
  clear HV1 HK1 HF1
  obtain ⟨I,hI,rfl,rfl,HV,HK,HF⟩:=hrel
  have hsr:=HK.out.size
  by_cases hlt:I < N
  ·have HEXP:=Lib.hid (fexp_any I fb wr HF.out (by omega))
   obtain ⟨x,hx⟩:∃ x,(GF.pown GF.two I).n=x:=⟨_,rfl⟩
   unfold FPost at HEXP
   rw [hx] at HEXP
   have HX:=Lib.hid hx
   have i1:(0:Int)≤(I:Int)∧(I:Int) < (N:Int):=by omega
   clear hx
   go_wp2_with fail
   refine HEXP.out.mono ?_
   rintro e w2 ⟨rfl,hk2,hf2⟩
   have hv2:=HV.out.kp hk2 (by simp;omega)
   obtain ⟨c1,f1⟩:=hv2.2 I hlt
   obtain ⟨z,hz⟩:∃ z,(if I < I then GF.pown GF.two I else (0:GF)).n=z:=⟨_,rfl⟩
   rw [hz] at c1
   have hvs:=hv2.set hlt (GF.pown GF.two I)
   rw [HX.out] at hvs
   have HV3:Hid (View (w2.setCell ⟨xb,I,none⟩ (.int .u8 (x:Nat))) xb N (fun j=>if j < I+1 then GF.pown GF.two j else 0)):=Lib.hid (hvs.congr fun j hj=>by
    by_cases h1:j=I
    ·subst h1
     rw [if_pos rfl,if_pos (by omega)]
    ·by_cases h2:j < I
     ·rw [if_neg h1,if_pos h2,if_pos (by omega)]
     ·rw [if_neg h1,if_neg h2,if_neg (by omega)])
   have HK3:Hid (Kp [fb] w (w2.setCell ⟨xb,I,none⟩ (.int .u8 (x:Nat)))):=Lib.hid ((HK.out.trans hk2).setCell (.inr (by rw [hxb];exact Nat.le_refl _)) _)
   have HF3:Hid (FOk (w2.setCell ⟨xb,I,none⟩ (.int .u8 (x:Nat))) fb):=Lib.hid (hf2.kp ((Kp.refl [xb] w2).setCell (.inl (by simp)) _) (by simp;omega))
   have l1:=hv2.1
   clear hz hv2 hvs hk2 hf2 HV HK HF
   go_wp2
   go_roundg (N - (I+1))
   case measure=>omega
   case rel=>exact ⟨I+1,by omega,rfl,by go_num,HV3,HK3,HF3⟩
  ·obtain rfl:I=N:=by omega
   have hg:GRd wr (.slice (some ⟨xb,0,none⟩) I I) (pows I):=View.list (HV.out.congr fun j hj=>by rw [if_pos hj,pows_get hj]) (pows_len I) (Nat.le_refl _)
   have HG:=Lib.hid hg
   have HPW:=Lib.hid (powers_any fb D _ (pows I) wr HF.out hg (fun b hb hm=>by simp [Value.ownBlock] at hb hm;omega) (by rw [pows_len];omega) (by rw [pows_len];omega) (by omega) (by omega))
   unfold PowPost at HPW
   rw [pows_len] at HPW
   clear hg
   go_wp2_with fail
   refine HPW.out.mono ?_
   rintro e w2 ⟨pb,rfl,hpb,hvp,hk2,hf2⟩
   have HG2:=Lib.hid (HG.out.kp hk2 (fun b hb hm=>by simp [Value.ownBlock] at hb hm;omega))
   have hkw2:=HK.out.trans hk2
   have hs2:=hkw2.size
   obtain ⟨w3,hw3⟩:∃ w3,w3=w2.alloc (.cells #[.pointer (some ⟨fb,0,none⟩),.int .i64 I,.int .i64 K,.int .i64 D,.int .i64 I,.int .i64 D,.slice (some ⟨pb,0,none⟩) (I * D) (I * D),.pointer none,.pointer none] 86):=⟨_,rfl⟩
   have hb3:Below w2.heap.size w2 w3:=by rw [hw3];exact (Below.refl _ _).alloc (Nat.le_refl _) _
   have d3:w3.heap[w2.heap.size]? = some (.cells #[.pointer (some ⟨fb,0,none⟩),.int .i64 I,.int .i64 K,.int .i64 D,.int .i64 I,.int .i64 D,.slice (some ⟨pb,0,none⟩) (I * D) (I * D),.pointer none,.pointer none] 86 (0,0)):=by rw [hw3];exact heap_newA _ _
   obtain ⟨lb,hlb⟩:∃ lb,w2.heap.size=lb:=⟨_,rfl⟩
   have HW3:=hw3
   rw [hlb] at d3
   have hlbw:w.heap.size≤lb:=by omega
   have D3:=Lib.hid d3
   have HK3:Hid (Kp [fb] w w3):=Lib.hid (hkw2.below_step hb3)
   have HF3:=Lib.hid (hf2.below hb3)
   have HP3:=Lib.hid (hvp.below hb3)
   have HG3:=Lib.hid (HG2.out.below hb3)
   have hpl:=hvp.1
   have HN1:=Lib.hid (new_any fb _ (pows I) (K:Int) w3 HF3.out HG3.out (by rw [pows_len];exact HSM.out) (by omega))
   clear hw3 hb3 d3 hvp hk2 hf2 hkw2 HG HV HK HF HPW HG2
   go_wp2_with fail
   rw [← HW3]
   clear HW3
   refine HN1.out.mono ?_
   rintro e w4 ⟨hb4,⟨-,t1,v1,rfl,ht1,hc1,ho1⟩ | ⟨hno,-⟩⟩
   case inr=>exact absurd ⟨pows_nodup (by omega),by omega,by rw [pows_len];omega⟩ hno
   rw [Int.toNat_natCast] at hc1
   have d4:=keepB hb4 D3.out
   have hl4:=lt_of_heap D3.out
   have c7:=cell_of_heap d4 (j:=7) rfl
   have f7:=free_of_heap d4 7
   have hl44:=lt_of_heap d4
   obtain ⟨w5,hw5⟩:∃ w5,w5=w4.setCell ⟨lb,7,none⟩ (.pointer (some ⟨t1,0,none⟩)):=⟨_,rfl⟩
   have hk5:Kp [lb] w4 w5:=by rw [hw5];exact (Kp.refl _ _).setCell (.inl (by simp)) _
   have d5:w5.heap[lb]? = some (.cells #[.pointer (some ⟨fb,0,none⟩),.int .i64 I,.int .i64 K,.int .i64 D,.int .i64 I,.int .i64 D,.slice (some ⟨pb,0,none⟩) (I * D) (I * D),.pointer (some ⟨t1,0,none⟩),.pointer none] 86 (0,0)):=by
    rw [hw5]
    have:=heap_set_same d4 7 (.pointer (some ⟨t1,0,none⟩))
    simpa using this
   have D5:=Lib.hid d5
   have hs34:=hb4.size
   have HK5:Hid (Kp [fb] w w5):=Lib.hid ((HK3.out.below_step hb4).step hk5 (by simp;omega))
   have HF5:=Lib.hid ((HF3.out.below hb4).kp hk5 (by simp;omega))
   have HP5:=Lib.hid ((HP3.out.below hb4).kp hk5 (by simp;omega))
   have HG5:=Lib.hid ((HG3.out.below hb4).kp hk5 (fun b hb hm=>by simp [Value.ownBlock] at hb hm;omega))
   have HC5:=Lib.hid (hc1.kpL ho1 hk5 (by simp;omega) (by simp;omega) (by simp;omega))
   have HO5:=Lib.hid (ho1.kp hk5 (fun b hb hm=>by have:=(ho1.lt b hb).1;simp at hm;omega))
   have HN2:=Lib.hid (new_any fb _ (pows I) (D:Int) w5 HF5.out HG5.out (by rw [pows_len];exact HSM.out) (by omega))
   have hs45:=hk5.size
   have HW5:=hw5
   clear hb4 hc1 ho1 d4 hk5 d5 hw5 HN1 HK3 HF3 HP3 HG3 D3
   go_wp2_with fail
   rw [← HW5]
   clear HW5 c7 f7
   refine HN2.out.mono ?_
   rintro e w6 ⟨hb6,⟨-,t2,v2,rfl,ht2,hc2,ho2⟩ | ⟨hno,-⟩⟩
   case inr=>exact absurd ⟨pows_nodup (by omega),by omega,by rw [pows_len];omega⟩ hno
   rw [Int.toNat_natCast] at hc2
   have d6:=keepB hb6 D5.out
   have c8:=cell_of_heap d6 (j:=8) rfl
   have f8:=free_of_heap d6 8
   have hl66:=lt_of_heap d6
   have hs56:=hb6.size
   have hk7:Kp [lb] w6 (w6.setCell ⟨lb,8,none⟩ (.pointer (some ⟨t2,0,none⟩))):=(Kp.refl _ _).setCell (.inl (by simp)) _
   have d7:=heap_set_same d6 8 (.pointer (some ⟨t2,0,none⟩))
   have HPO:Hid (MbNewPost fb I K D w (.returned (.tuple #[.pointer (some ⟨lb,0,none⟩),.int .i64 0])) (w6.setCell ⟨lb,8,none⟩ (.pointer (some ⟨t2,0,none⟩)))):=Lib.hid
    ⟨(HK5.out.below_step hb6).step hk7 (by simp;omega),(HF5.out.below hb6).kp hk7 (by simp;omega),.inl ⟨I,K,D,rfl,rfl,rfl,⟨by omega,by omega,by omega,by omega⟩,lb,t1,t2,pb,v1,v2,rfl,hlbw,
     ⟨by simpa using d7,(HP5.out.below hb6).kp hk7 (by simp;omega),(HC5.out.below hb6).kpL (HO5.out.below hb6) hk7 (by simp;omega) (by simp;omega) (by simp;omega),hc2.kpL ho2 hk7 (by simp;omega) (by simp;omega) (by simp;omega),by omega,by omega⟩⟩⟩
   clear hb6 hc2 ho2 d6 d7 hk7 HN2 HK5 HF5 HP5 HG5 HC5 HO5 D5
   go_wp2
   go_ret2
   exact HPO.out
end Go.Proofs.YtnjbkfeihbcalaaGreat
/- mbr: how many bytes a message has. -/
namespace Go.Proofs.YtnjbkfeihbcalaaGreat
open Go.RowKit Fld
set_option linter.unusedVariables false
set_option linter.unusedSimpArgs false

set_option maxHeartbeats 1000000 in
theorem mbb_any (w:World) (lb k d:Nat) (h2:w.cell? ⟨lb,2,none⟩=some (.int .i64 k)) (h3:w.cell? ⟨lb,3,none⟩=some (.int .i64 d)) (hlb:lb < w.heap.size) (hk:1≤k∧k≤d∧d≤255) :
  Calls Tryz.prog 14 #[.pointer (some ⟨lb,0,none⟩)] w fun e w'=>e=.returned (.int .i64 (mbB k d:Nat))∧Below w.heap.size w w':=by
 obtain ⟨k1,hk1⟩:∃ k1,k - 1=k1:=⟨_,rfl⟩
 obtain ⟨p,hp⟩:∃ p,k * d=p:=⟨_,rfl⟩
 obtain ⟨q,hq⟩:∃ q,k * k1=q:=⟨_,rfl⟩
 obtain ⟨h,hh⟩:∃ h,q / 2=h:=⟨_,rfl⟩
 obtain ⟨B,hB⟩:∃ B,mbB k d=B:=⟨_,rfl⟩
 have hBe:p - h=B:=by rw [← hB,mbB_eq hk.2.1,hk1,hp,hq,hh]
 have hpl:p≤255 * 255:=by rw [← hp];exact Nat.mul_le_mul (by omega) (by omega)
 have hql:q≤p:=by rw [← hp,← hq];exact Nat.mul_le_mul_left _ (by omega)
 rw [hB]
 have x3:(k:Int) - 1=(k1:Int):=by omega
 have x4:IntKind.i64.wrap (k1:Int)=(k1:Int):=IntWalk.i64_in _ (by omega)
 have x5:(k:Int) * (d:Int)=(p:Int):=by rw [← hp];simp
 have x6:IntKind.i64.wrap (p:Int)=(p:Int):=IntWalk.i64_in _ (by omega)
 have x7:(k:Int) * (k1:Int)=(q:Int):=by rw [← hq];simp
 have x8:IntKind.i64.wrap (q:Int)=(q:Int):=IntWalk.i64_in _ (by omega)
 have x9:(q:Int).tdiv 2=(h:Int):=by rw [← hh];exact (Int.ofNat_tdiv q 2).symm
 have x10:IntKind.i64.wrap (h:Int)=(h:Int):=IntWalk.i64_in _ (by omega)
 have x11:(p:Int) - (h:Int)=(B:Int):=by omega
 have x12:IntKind.i64.wrap (B:Int)=(B:Int):=IntWalk.i64_in _ (by omega)
 clear hk1 hp hq hh hB hBe
 go_enter Tryz.func14,Tryz.ntmps14
 go_wp2_with fail
 have hgr:=fun (w0 W:World) (p:Addr) (hp:(fun kk=>kk < w.heap.size) p.block)=>graft_cell (w0:=w0) (keep:=(fun kk=>kk < w.heap.size)) W hp
 refine wp_region_tree (fun kk=>kk < w.heap.size) [] (.sq [0,1,2,3,4,5,6,7,8,9,10,11,12,13,14,15,16,17,18,19,20,21] .done) (by kernel_rfl) (by kernel_rfl) ?_
 simp only [Tr.sq,List.foldr_cons,List.foldr_nil,slimTr,slimStep,Oper.slim,List.contains_cons,List.contains_nil,Option.map_none,Option.map_some,List.getElem?_toArray,List.getElem?_cons_zero,List.getElem?_cons_succ,Option.bind_some,beq_self_eq_true,Bool.or_false,Nat.reduceBEq,Nat.reduceAdd,Nat.zero_add]
 repeat' first | ((with_reducible refine wpSlimT_id ?_);first | (with_reducible refine wpSlimT_done ?_) | ((with_reducible refine wpSlimT_step (fun K hK=>?_));go_simp;(refine hK _ _ ?_;clear hK K))) | fail
 clear hgr
 go_wp2
 go_ret
 exact ⟨rfl,by (repeat' (first | (with_reducible exact RowKit.Below.refl _ _) | (with_reducible assumption) | (with_reducible refine RowKit.Below.drew ?_) | (with_reducible refine RowKit.Below.alloc ?_ ?_ _) | omega | (simp;done) | (simp;omega)))⟩
end Go.Proofs.YtnjbkfeihbcalaaGreat
