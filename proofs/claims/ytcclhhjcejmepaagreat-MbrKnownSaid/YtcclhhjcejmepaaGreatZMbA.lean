import Derived.Test.YtcclhhjcejmepaaGreatZPlainM
set_option linter.all false
set_option maxRecDepth 100000
set_option maxHeartbeats 4000000
namespace Go.Proofs.YtcclhhjcejmepaaGreat
open Go.RowKit
def zib (n:Nat) (x:Int) (w:World) (e:Ending) (w':World):Prop:=e=.returned (.bool (decide (0≤x∧x<(n:Int))))∧w=w'
open Fld
structure MbC (w:World) (lb t1 t2 fb pb n k d:Nat) (v1 v2:Value):Prop where
 box:w.heap[lb]? = some (.cells #[.pointer (some ⟨fb,0,none⟩),.int .i64 n,.int .i64 k,.int .i64 d,.int .i64 n,.int .i64 d,.slice (some ⟨pb,0,none⟩) (n*d) (n*d),.pointer (some ⟨t1,0,none⟩),.pointer (some ⟨t2,0,none⟩)] 70 (0,0))
 psi:zag w pb (n*d) (flat d fun i c=>pw ((za9 n).getD i 0) c)
 tells:zbw w t1 fb k v1 (za9 n)
 mends:zbw w t2 fb d v2 (za9 n)
 ne:lb≠fb∧pb≠fb
theorem MbC.step {w w':World} {lb t1 t2 fb pb n k d:Nat} {v1 v2:Value} (h:MbC w lb t1 t2 fb pb n k d v1 v2) (hk:Kp [fb] w w') (hf:FOk w' fb):MbC w' lb t1 t2 fb pb n k d v1 v2 :=
 ⟨hk.heap h.box (by simpa using h.ne.1),h.psi.kp hk (by simpa using h.ne.2),h.tells.step hk hf,h.mends.step hk hf,h.ne⟩
theorem MbC.below {w w':World} {lb t1 t2 fb pb n k d:Nat} {v1 v2:Value} (h:MbC w lb t1 t2 fb pb n k d v1 v2) (hb:Below w.heap.size w w'):MbC w' lb t1 t2 fb pb n k d v1 v2 :=
 ⟨zad hb h.box,h.psi.below hb,h.tells.below hb,h.mends.below hb,h.ne⟩
def zen (fb:Nat) (n k d:Int) (w:World) (e:Ending) (w':World):Prop :=
 Kp [fb] w w'∧FOk w' fb∧((∃N K D:Nat,n=(N:Int)∧k=(K:Int)∧d=(D:Int)∧(1≤K∧K≤D∧D<N∧N≤255)∧∃lb t1 t2 pb v1 v2,e=.returned (.tuple #[.pointer (some ⟨lb,0,none⟩),.int .i64 0])∧w.heap.size≤lb∧MbC w' lb t1 t2 fb pb N K D v1 v2) ∨
  ¬(1≤k∧k≤d∧d<n∧n≤255)∧e=.returned (.tuple #[.pointer none,.int .i64 2]))
theorem yb1 (w:World) (lb:Nat) (d:Int) (h3:w.cell? ⟨lb,3,none⟩=some (.int .i64 d)) :
  Calls Tryz.prog 33 #[.pointer (some ⟨lb,0,none⟩)] w fun e w'=>e=.returned (.int .i64 d)∧w=w':=by
 go_enter Tryz.func33,Tryz.ntmps33;go_wp2;go_ret;exact⟨rfl,rfl⟩
theorem zyh {N j:Nat} (h:j<N):(za9 N).getD j 0=GF.pown GF.two j:=by rw[zE2,za9,Zae,Zax h];rfl
theorem zbw.kpL {S:List Nat} {w w':World} {cb fb k B:Nat} {v:Value} {xs:List GF} (h:zbw w cb fb k v xs) (ho:zao w B v xs) (hk:Kp S w w') (h1:cb∉S) (h2:fb∉S) (h3:∀x∈S,x<B):zbw w' cb fb k v xs :=
 ⟨hk.heap h.box h1,h.ok.kp hk h2,h.rd.kp hk (fun b hb hm=>by have:=(ho.lt b hb).1;have:=h3 b hm;omega),h.apart,h.ne⟩
theorem zbo (fb:Nat) (n k d:Int) (w:World) (hF:FOk w fb) (hn:-9223372036854775808≤n∧n≤9223372036854775807) (hk:-9223372036854775808≤k∧k≤9223372036854775807) (hd:-9223372036854775808≤d∧d≤9223372036854775807) (hsm:(1≤k∧k≤d∧d<n∧n≤255)→n≤(zbl:Nat)) :
  Calls Tryz.prog 13 #[.pointer (some ⟨fb,0,none⟩),.int .i64 n,.int .i64 k,.int .i64 d] w (zen fb n k d w):=by
 by_cases hg:1≤k∧k≤d∧d<n∧n≤255
 case neg =>
  have HP:Hid (zen fb n k d w (.returned (.tuple #[.pointer none,.int .i64 2])) w):=Hd ⟨Kp.refl _ _,hF,.inr ⟨hg,rfl⟩⟩;clear hF;by_cases h1:k<1
  ·clear hg;go_enter Tryz.func13,Tryz.ntmps13;go_wp2;go_ret2;exact HP.out
  by_cases h2:d<k
  ·clear hg;go_enter Tryz.func13,Tryz.ntmps13;go_wp2;go_ret2;exact HP.out
  by_cases h3:n≤d
  ·clear hg;go_enter Tryz.func13,Tryz.ntmps13;go_wp2;go_ret2;exact HP.out
  have h4:255<n:=by omega
  clear hg;go_enter Tryz.func13,Tryz.ntmps13;go_wp2;go_ret2;exact HP.out
 obtain⟨h1,h2,h3,h4⟩:=hg;obtain⟨K,rfl⟩:∃K:Nat,k=(K:Int):=⟨k.toNat,by omega⟩;obtain⟨D,rfl⟩:∃D:Nat,d=(D:Int):=⟨d.toNat,by omega⟩;obtain⟨N,rfl⟩:∃N:Nat,n=(N:Int):=⟨n.toNat,by omega⟩;have HSM:Hid (N≤zbl):=Hd (Int.ofNat_le.1 (hsm (by omega)));clear hsm;obtain⟨i0,hi,hz0,hz1,hz2⟩:=info_parts zbi;have hmk:∀W,(Instr.makeSlice 22 (.int .i64 N) (.int .i64 N)).run Tryz.prog W=.ok (.slice (some ⟨W.heap.size,0,none⟩) N N) (W.alloc (.cells (Array.replicate N (.int .u8 0)) 5)):=fun W =>
  zb4 W 22 5 i0 (.int .u8 0) Tryz.underlying22 hi hz0 hz1 rfl N (by rw[hz2];omega) (by unfold maxLen;omega)
 have hfw:=hF.lt;obtain⟨w1,hw1⟩:=zE5 (w.alloc (.cells (Array.replicate N (.int .u8 0)) 5));have hb1:Below w.heap.size w w1:=by rw[hw1];exact (Zaa _ _).alloc (zE3 _) _
 have hh:w1.heap[w.heap.size]? = some (.cells (Array.replicate N (.int .u8 0)) 5 (0,0)):=by rw[hw1];exact nwA _ _
 obtain⟨xb,hxb⟩:=zE4 w.heap.size;have HV1:Hid (zag w1 xb N (fun j=>if j<0 then GF.pown GF.two j else 0)):=Hd ⟨by rw[←hxb];exact lOH hh,fun j hj=>⟨by
  rw[←hxb];simp only[Zcm,if_false];exact cOH hh (by simp[hj];rfl),by rw[←hxb];exact fOH hh j⟩⟩
 have HF1:=Hd (hF.below hb1);have HK1:Hid (Kp [fb] w w1):=Hd (Kp.of_below hb1);have h2':¬D<K:=by omega
 have h3':¬N≤D:=by omega
 have h1':¬(K:Int)<1:=by omega
 have g2:¬(D:Int)<(K:Int):=by omega
 have g3:¬(N:Int)≤(D:Int):=by omega
 have g4:¬(255:Int)<(N:Int):=by omega
 clear hb1 hh hF hn hk hd hi hz0 hz1 hz2;go_enter Tryz.func13,Tryz.ntmps13;go_wp2;rw[←hw1];clear hw1 hmk;go_loopg [34] N (fun gk i wr=>∃I:Nat,I≤N∧gk=N-I∧i=.int .i64 I∧Hid (zag wr xb N (fun j=>if j<I then GF.pown GF.two j else 0))∧Hid (Kp [fb] w wr)∧Hid (FOk wr fb))
 case atStart=>exact⟨0,by omega,rfl,rfl,HV1,HK1,HF1⟩
 case round =>
  clear HV1 HK1 HF1;obtain⟨I,hI,rfl,rfl,HV,HK,HF⟩:=hrel;have hsr:=HK.out.size;by_cases hlt:I<N
  ·have HEXP:=Hd (zzh I fb wr HF.out (by omega));obtain⟨x,hx⟩:=zE4 ((GF.pown GF.two I).n);unfold zeq at HEXP;rw[hx] at HEXP;have HX:=Hd hx;have i1:(0:Int)≤(I:Int)∧(I:Int)<(N:Int):=by omega
   clear hx;go_wp2_with fail;refine HEXP.out.mono ?_;rintro e w2 ⟨rfl,hk2,hf2⟩;have hv2:=HV.out.kp hk2 (by simp;omega);obtain⟨c1,f1⟩:=hv2.2 I hlt;obtain⟨z,hz⟩:∃z,(if I<I then GF.pown GF.two I else (0:GF)).n=z:=⟨_,rfl⟩;rw[hz] at c1;have hvs:=hv2.set hlt (GF.pown GF.two I);rw[HX.out] at hvs;have HV3:Hid (zag (w2.setCell ⟨xb,I,none⟩ (.int .u8 (x:Nat))) xb N (fun j=>if j<I+1 then GF.pown GF.two j else 0)):=Hd (hvs.congr fun j hj=>by
    by_cases h1:j=I
    ·subst h1;rw[if_pos rfl,if_pos (by omega)]
    ·by_cases h2:j<I
     ·rw[if_neg h1,if_pos h2,if_pos (by omega)]
     ·rw[if_neg h1,if_neg h2,if_neg (by omega)])
   have HK3:Hid (Kp [fb] w (w2.setCell ⟨xb,I,none⟩ (.int .u8 (x:Nat)))):=Hd ((HK.out.trans hk2).setCell (.inr (by rw[hxb];exact zE3 _)) _);have HF3:Hid (FOk (w2.setCell ⟨xb,I,none⟩ (.int .u8 (x:Nat))) fb):=Hd (hf2.kp ((Kp.refl [xb] w2).setCell (.inl (by simp)) _) (by simp;omega));have l1:=hv2.1;clear hz hv2 hvs hk2 hf2 HV HK HF;go_wp2;go_roundg (N-(I+1))
   case measure=>omega
   case rel=>exact⟨I+1,by omega,rfl,by go_num,HV3,HK3,HF3⟩
  ·obtain rfl:I=N:=by omega
   have hg:GRd wr (.slice (some ⟨xb,0,none⟩) I I) (za9 I):=zag.list (HV.out.congr fun j hj=>by rw[if_pos hj,zyh hj]) (zbd I) (zE3 _);have HG:=Hd hg;have HPW:=Hd (zkr fb D _ (za9 I) wr HF.out hg (fun b hb hm=>by simp[Value.ownBlock] at hb hm;omega) (by rw[zbd];omega) (by rw[zbd];omega) (by omega) (by omega));unfold zpy at HPW;rw[zbd] at HPW;clear hg;go_wp2_with fail;refine HPW.out.mono ?_;rintro e w2 ⟨pb,rfl,hpb,hvp,hk2,hf2⟩;have HG2:=Hd (HG.out.kp hk2 (fun b hb hm=>by simp[Value.ownBlock] at hb hm;omega));have hkw2:=HK.out.trans hk2;have hs2:=hkw2.size;obtain⟨w3,hw3⟩:=zE5 (w2.alloc (.cells #[.pointer (some ⟨fb,0,none⟩),.int .i64 I,.int .i64 K,.int .i64 D,.int .i64 I,.int .i64 D,.slice (some ⟨pb,0,none⟩) (I*D) (I*D),.pointer none,.pointer none] 70));have hb3:Below w2.heap.size w2 w3:=by rw[hw3];exact (Zaa _ _).alloc (zE3 _) _
   have d3:w3.heap[w2.heap.size]? = some (.cells #[.pointer (some ⟨fb,0,none⟩),.int .i64 I,.int .i64 K,.int .i64 D,.int .i64 I,.int .i64 D,.slice (some ⟨pb,0,none⟩) (I*D) (I*D),.pointer none,.pointer none] 70 (0,0)):=by rw[hw3];exact nwA _ _
   obtain⟨lb,hlb⟩:=zE4 w2.heap.size;have HW3:=hw3;rw[hlb] at d3;have hlbw:w.heap.size≤lb:=by omega
   have D3:=Hd d3;have HK3:Hid (Kp [fb] w w3):=Hd (hkw2.below_step hb3);have HF3:=Hd (hf2.below hb3);have HP3:=Hd (hvp.below hb3);have HG3:=Hd (HG2.out.below hb3);have hpl:=hvp.1;have HN1:=Hd (zvl fb _ (za9 I) (K:Int) w3 HF3.out HG3.out (by rw[zbd];exact HSM.out) (by omega));clear hw3 hb3 d3 hvp hk2 hf2 hkw2 HG HV HK HF HPW HG2;go_wp2_with fail;rw[←HW3];clear HW3;refine HN1.out.mono ?_;rintro e w4 ⟨hb4,⟨-,t1,v1,rfl,ht1,hc1,ho1⟩|⟨hno,-⟩⟩
   case inr=>exact absurd ⟨zay (by omega),by omega,by rw[zbd];omega⟩ hno
   rw[Zam] at hc1;have d4:=zad hb4 D3.out;have hl4:=lOH D3.out;have c7:=cOH d4 (j:=7) rfl;have f7:=fOH d4 7;have hl44:=lOH d4;obtain⟨w5,hw5⟩:=zE5 (w4.setCell ⟨lb,7,none⟩ (.pointer (some ⟨t1,0,none⟩)));have hk5:Kp [lb] w4 w5:=by rw[hw5];exact (Kp.refl _ _).setCell (.inl (by simp)) _
   have d5:w5.heap[lb]? = some (.cells #[.pointer (some ⟨fb,0,none⟩),.int .i64 I,.int .i64 K,.int .i64 D,.int .i64 I,.int .i64 D,.slice (some ⟨pb,0,none⟩) (I*D) (I*D),.pointer (some ⟨t1,0,none⟩),.pointer none] 70 (0,0)):=by rw[hw5];have:=hSS d4 7 (.pointer (some ⟨t1,0,none⟩));simpa using this
   have D5:=Hd d5;have hs34:=hb4.size;have HK5:Hid (Kp [fb] w w5):=Hd ((HK3.out.below_step hb4).step hk5 (by simp;omega));have HF5:=Hd ((HF3.out.below hb4).kp hk5 (by simp;omega));have HP5:=Hd ((HP3.out.below hb4).kp hk5 (by simp;omega));have HG5:=Hd ((HG3.out.below hb4).kp hk5 (fun b hb hm=>by simp[Value.ownBlock] at hb hm;omega));have HC5:=Hd (hc1.kpL ho1 hk5 (by simp;omega) (by simp;omega) (by simp;omega));have HO5:=Hd (ho1.kp hk5 (fun b hb hm=>by have:=(ho1.lt b hb).1;simp at hm;omega));have HN2:=Hd (zvl fb _ (za9 I) (D:Int) w5 HF5.out HG5.out (by rw[zbd];exact HSM.out) (by omega));have hs45:=hk5.size;have HW5:=hw5;clear hb4 hc1 ho1 d4 hk5 d5 hw5 HN1 HK3 HF3 HP3 HG3 D3;go_wp2_with fail;rw[←HW5];clear HW5 c7 f7;refine HN2.out.mono ?_;rintro e w6 ⟨hb6,⟨-,t2,v2,rfl,ht2,hc2,ho2⟩|⟨hno,-⟩⟩
   case inr=>exact absurd ⟨zay (by omega),by omega,by rw[zbd];omega⟩ hno
   rw[Zam] at hc2;have d6:=zad hb6 D5.out;have c8:=cOH d6 (j:=8) rfl;have f8:=fOH d6 8;have hl66:=lOH d6;have hs56:=hb6.size;have hk7:Kp [lb] w6 (w6.setCell ⟨lb,8,none⟩ (.pointer (some ⟨t2,0,none⟩))):=(Kp.refl _ _).setCell (.inl (by simp)) _;have d7:=hSS d6 8 (.pointer (some ⟨t2,0,none⟩));have HPO:Hid (zen fb I K D w (.returned (.tuple #[.pointer (some ⟨lb,0,none⟩),.int .i64 0])) (w6.setCell ⟨lb,8,none⟩ (.pointer (some ⟨t2,0,none⟩)))):=Hd
    ⟨(HK5.out.below_step hb6).step hk7 (by simp;omega),(HF5.out.below hb6).kp hk7 (by simp;omega),.inl ⟨I,K,D,rfl,rfl,rfl,⟨by omega,by omega,by omega,by omega⟩,lb,t1,t2,pb,v1,v2,rfl,hlbw,
     ⟨by simpa using d7,(HP5.out.below hb6).kp hk7 (by simp;omega),(HC5.out.below hb6).kpL (HO5.out.below hb6) hk7 (by simp;omega) (by simp;omega) (by simp;omega),hc2.kpL ho2 hk7 (by simp;omega) (by simp;omega) (by simp;omega),by omega,by omega⟩⟩⟩
   clear hb6 hc2 ho2 d6 d7 hk7 HN2 HK5 HF5 HP5 HG5 HC5 HO5 D5;go_wp2;go_ret2;exact HPO.out
theorem zmb (w:World) (lb n:Nat) (x:Int) (h:w.cell? ⟨lb,1,none⟩=some (.int .i64 n)) :
  Calls Tryz.prog 47 #[.pointer (some ⟨lb,0,none⟩),.int .i64 x] w (zib n x w):=by
 by_cases h0:x<0
 ·have h1:¬x≥0:=by omega
  have hd:decide (0≤x∧x<(n:Int))=false:=by simp;omega
  have HD:=Hd hd;clear hd;go_enter Tryz.func47,Tryz.ntmps47;go_wp2;go_ret;exact⟨by rw[HD.out]<;>rfl,rfl⟩
 ·have h1:x≥0:=by omega
  by_cases h2:x<(n:Int)
  ·have hd:decide (0≤x∧x<(n:Int))=true:=by simp;omega
   have HD:=Hd hd;clear hd;go_enter Tryz.func47,Tryz.ntmps47;go_wp2;go_ret;exact⟨by rw[HD.out]<;>rfl,rfl⟩
  ·have hd:decide (0≤x∧x<(n:Int))=false:=by simp;omega
   have HD:=Hd hd;clear hd;go_enter Tryz.func47,Tryz.ntmps47;go_wp2;go_ret;exact⟨by rw[HD.out]<;>rfl,rfl⟩
theorem znn (w:World) (lb n sz:Nat) (v:Value) (l:List Sy) (hc:w.cell? ⟨lb,1,none⟩=some (.int .i64 n)) (hlb:lb<w.heap.size) (h:zby w v l) (hl:l.length≤1000000) (hn:n≤1000000) :
  Calls Tryz.prog 50 #[.pointer (some ⟨lb,0,none⟩),v,.int .i64 sz] w (zcz (zar n (-1) sz l) w):=by
 obtain⟨a,cap,rfl⟩:=h.rd.form;obtain⟨i0,hi,hz0,hz1,hz2⟩:=info_parts zod;have hmk:∀W,(Instr.makeSlice 144 (.int .i64 n) (.int .i64 n)).run Tryz.prog W=.ok (.slice (some ⟨W.heap.size,0,none⟩) n n) (W.alloc (.cells (Array.replicate n (.bool false)) 4)):=fun W =>
  zb4 W 144 4 i0 (.bool false) Tryz.underlying144 hi hz0 hz1 rfl n (by rw[hz2];omega) (by unfold maxLen;omega)
 obtain⟨L,hL⟩:=zE4 l.length;have H:=Hd h;have HL:=Hd hL;have HIS:=Hd (fun (W:World) (hb:Below w.heap.size w W) (x:Int)=>zmb W lb n x ((hb.cell (p:=⟨lb,1,none⟩) hlb).trans hc));rw[hL] at H hl ⊢;obtain⟨w1,hw1⟩:=zE5 (w.alloc (.cells (Array.replicate n (.bool false)) 4));have HB2:Hid (Below w.heap.size w w1):=Hd (by rw[hw1];exact (Zaa _ _).alloc (zE3 _) _);have HM2:Hid (zc0 w1 w.heap.size n (zj6 (-1) (l.take 0))):=Hd (by
  rw[hw1];refine (zc0.new w n).congr fun j hj=>?_;simp only[zj6,List.take_zero,List.any_nil,Bool.or_false];have:¬(-1:Int)=(j:Int):=by omega
  simp[this])
 rw[hw1] at HB2 HM2;clear h hL hi hz0 hz1 hz2 hw1;go_enter Tryz.func50,Tryz.ntmps50;go_wp2;go_loopg [17] L (fun gk i wr=>∃I:Nat,I≤L∧gk=L-I∧i=.int .i64 I∧Hid (Below w.heap.size w wr)∧Hid (zc0 wr w.heap.size n (zj6 (-1) (l.take I)))∧Hid (zar n (-1) sz (l.take I)))
 case atStart=>exact⟨0,by omega,rfl,rfl,HB2,HM2,Hd (by rw[List.take_zero];exact zar.nil _ _ _)⟩
 case round =>
  clear HB2 HM2;obtain⟨I,hI,rfl,rfl,HB,HM,HG⟩:=hrel;have hs:=HB.out.size;have hmb:=HM.out.lt;by_cases hlt:I<L
  ·obtain⟨s,hs'⟩:∃s,l[I]? = some s:=⟨_,zE1 (by rw[HL.out];exact hlt)⟩;obtain⟨-,hcap,b,o,rfl,hb,hat⟩:=SRd.at (H.out.below HB.out).rd hs';have c0:wr.cell? ⟨b,o+I*2,none⟩=some (.int .i64 s.node):=hat 0 _ rfl;have c1:wr.cell? ⟨b,o+I*2+1,none⟩=some (.slice s.a s.d.length s.cp):=hat 1 _ rfl;have HS:=Hd hs';have i1:(0:Int)≤(I:Int)∧(I:Int)<(L:Int):=by omega
   obtain⟨x,hx⟩:=zE4 s.node;obtain⟨m,hm⟩:=zE4 s.d.length;have HX:=Hd hx;have HMM:=Hd hm;rw[hx] at c0;rw[hm] at c1;obtain⟨w3,hw3⟩:=zE5 (wr.alloc (.cells #[.int .i64 x,.slice s.a m s.cp] 59));have hb3:Below wr.heap.size wr w3:=by rw[hw3];exact (Zaa _ _).alloc (zE3 _) _
   have HB3:Hid (Below w.heap.size w w3):=Hd (HB.out.trans (hb3.mono hs));have HI3:=Hd (HIS.out w3 HB3.out x);have HM3:=Hd (HM.out.below hb3);have HW3:=Hd hw3;rw[hw3] at HI3 HM3 HB3;unfold zib at HI3;clear hat hs' hx hm hb3 hw3;by_cases hin:0≤x∧x<(n:Int)
   case neg =>
    have HN:=Hd hin;rw[decide_eq_false hin] at HI3;clear hin;go_wp2_with fail;refine HI3.out.mono ?_;rintro e w4 ⟨rfl,rfl⟩;go_wp2;go_ret;exact⟨false,rfl,HB3.out,by simp,fun hg=>by have:=(hg.at HS.out).1;rw[HX.out] at this;exact absurd this HN.out⟩
   rw[decide_eq_true hin] at HI3;obtain⟨X,rfl⟩:∃X:Nat,x=(X:Int):=⟨x.toNat,by omega⟩;have hXn:X<n:=by omega
   obtain⟨cs,fs⟩:=HM3.out.cells X hXn;have HIN:=Hd hin;have i2:(0:Int)≤(X:Int)∧(X:Int)<(n:Int):=hin;obtain⟨q,hq⟩:=zE4 (zj6 (-1) (l.take I) X);rw[hq] at cs;have HQ:=Hd hq;clear hin hq;cases q
   case true =>
    go_wp2_with fail;refine HI3.out.mono ?_;rintro e w4 ⟨rfl,rfl⟩;go_wp2;go_ret;exact⟨false,rfl,HB3.out,by simp,fun hg=>by
     rcases zkk.1 HQ.out with h|⟨j,t,hj,ht,e⟩
     ·exact absurd (HX.out.trans h.symm) (hg.at HS.out).2.1
     ·exact absurd (e.trans HX.out.symm) (hg.twice HS.out ht hj)⟩
   case false =>
    by_cases h3:m=sz
    case neg =>
     have h3':¬(m:Int)=(sz:Int):=by omega
     go_wp2_with fail;refine HI3.out.mono ?_;rintro e w4 ⟨rfl,rfl⟩;go_wp2;go_ret;exact⟨false,rfl,HB3.out,by simp,fun hg=>by have:=(hg.at HS.out).2.2;rw[HMM.out] at this;exact absurd this h3⟩
    replace h3:=h3.symm;subst h3;have hno:¬((-1)=(X:Int)∨∃(j:Nat) (t:Sy),j<I∧l[j]? = some t∧t.node=(X:Int)):=fun h=>by
     have:=zkk.2 h
     rw[HQ.out] at this;cases this
    have HG2:Hid (zar n (-1) sz (l.take (I+1))):=Hd (HG.out.succ HS.out (by rw[HX.out];exact HIN.out) (fun e=>hno (.inl (by rw[←HX.out,e]))) HMM.out (fun j t hj ht e=>hno (.inr ⟨j,t,hj,ht,by rw[e,HX.out]⟩)));have HM4:Hid (zc0 ((wr.setCell ⟨w.heap.size,X,none⟩ (.bool true)).alloc (.cells #[.int .i64 (X:Int),.slice s.a sz s.cp] 59)) w.heap.size n (zj6 (-1) (l.take (I+1)))):=Hd (((HM.out.set hXn).congr fun j hj=>zr3 HS.out HX.out j).below ((Zaa _ _).alloc (zE3 _) _));have HB4:Hid (Below w.heap.size w ((wr.setCell ⟨w.heap.size,X,none⟩ (.bool true)).alloc (.cells #[.int .i64 (X:Int),.slice s.a sz s.cp] 59))):=Hd ((((Kp.of_below (S:=[]) HB.out).setCell (.inr (zE3 _)) _).below (zE3 _) (by simp)).alloc (by simp;omega) _);clear hno;go_wp2_with fail;refine HI3.out.mono ?_;rintro e w4 ⟨rfl,rfl⟩;go_wp2;go_roundg (L-(I+1))
    case measure=>omega
    case rel=>exact⟨I+1,by omega,rfl,by go_num,HB4,HM4,HG2⟩
  ·obtain rfl:I=L:=by omega
   go_wp2;go_ret;have:=HG.out;rw[←HL.out,Zbs] at this;exact⟨true,rfl,HB.out,fun _=>this,fun _=>rfl⟩
theorem zy3 (w:World) (tb:Nat) (x to_:Int) (dv:Value) (hdv:∃a n c,dv=.slice a n c) (h:w.cell? ⟨tb,0,none⟩=some (.int .i64 to_)) (hl:tb<w.heap.size) :
  Calls Tryz.prog 52 #[.agg #[.int .i64 x,dv],.pointer (some ⟨tb,0,none⟩)] w fun e w'=>e=.returned (.bool (decide (x=to_)))∧Below w.heap.size w w':=by
 obtain⟨a,n,c,rfl⟩:=hdv;by_cases hx:x=to_
 ·rw[decide_eq_true hx];subst hx;go_enter Tryz.func52,Tryz.ntmps52;go_wp2;go_ret;exact⟨by simp,by (repeat' (first|with_reducible (first|exact Zaa _ _|assumption|refine Zac ?_|refine Zab ?_ ?_ _)|omega|(simp;done)|(simp;omega)))⟩
 ·rw[decide_eq_false hx];have hx2:(x == to_)=false:=by simpa using hx
  go_enter Tryz.func52,Tryz.ntmps52;go_wp2;go_ret;exact⟨by simp[hx],by (repeat' (first|with_reducible (first|exact Zaa _ _|assumption|refine Zac ?_|refine Zab ?_ ?_ _)|omega|(simp;done)|(simp;omega)))⟩
def yby (l:List Sy) (to_:Int) (w:World) (e:Ending) (w':World):Prop:=∃r:Int,e=.returned (.int .i64 r)∧Below w.heap.size w w'∧((r=-1∧∀s∈l,s.node≠to_)∨(0≤r∧∃s∈l,s.node=to_))
theorem zv6 (w:World) (tb:Nat) (to_:Int) (v:Value) (l:List Sy) (h:yey w v l) (ht:w.cell? ⟨tb,0,none⟩=some (.int .i64 to_)) (hb:tb<w.heap.size) (hl:l.length≤1000000) :
  Calls Tryz.prog 87 #[v,.func (.func 52) #[] #[.pointer (some ⟨tb,0,none⟩)]] w (yby l to_ w):=by
 obtain⟨a,cap,rfl⟩:=h.form;obtain⟨L,hL⟩:=zE4 l.length;have H:=Hd h;have HT:=Hd ht;have HL:=Hd hL;rw[hL] at H hl ⊢;clear h ht hL;go_enter Tryz.func87,Tryz.ntmps87;go_wp2;go_loopg [8] L (fun gk i wr=>∃I:Nat,I≤L∧gk=L-I∧i=.int .i64 I∧Hid (∀s∈l.take I,s.node≠to_)∧Hid (Below w.heap.size w wr))
 case atStart=>exact⟨0,by omega,rfl,rfl,Hd (by simp),Hd (Zaa _ _)⟩
 case round =>
  obtain⟨I,hI,rfl,rfl,HN,HB⟩:=hrel;have hs:=HB.out.size;by_cases hlt:I<L
  ·obtain⟨s,hs'⟩:∃s,l[I]? = some s:=⟨_,zE1 (by rw[HL.out];exact hlt)⟩;obtain⟨-,hcap,b,o,rfl,hb',hat⟩:=SRd.at (H.out.below HB.out) hs';have c0:wr.cell? ⟨b,o+I*2,none⟩=some (.int .i64 s.node):=hat 0 _ rfl;have c1:wr.cell? ⟨b,o+I*2+1,none⟩=some (.slice s.a s.d.length s.cp):=hat 1 _ rfl;obtain⟨x,hx⟩:=zE4 s.node;obtain⟨m,hm⟩:=zE4 s.d.length;rw[hx] at c0;rw[hm] at c1;have i1:(0:Int)≤(I:Int)∧(I:Int)<(L:Int):=by omega
   have HC:=Hd (zy3 wr tb x to_ (.slice s.a m s.cp) ⟨_,_,_,rfl⟩ ((HB.out.cell (p:=⟨tb,0,none⟩) hb).trans HT.out) (by omega));have HX:=Hd (Zao hs' hx);obtain⟨q,hq⟩:=zE4 (decide (x=to_));rw[hq] at HC;have HQ:=Hd hq;clear hat hs' hx hm hq;cases q
   ·go_wp2_with fail;refine HC.out.mono ?_;rintro e w2 ⟨rfl,hb2⟩;have HB2:=Hd (HB.out.trans (hb2.mono hs));have HN2:Hid (∀s∈l.take (I+1),s.node≠to_):=Hd fun t ht=>by
     rw[Zaz,HX.out.1] at ht;rcases Zba.1 ht with ht|ht
     ·exact HN.out t ht
     ·simp at ht;subst ht;rw[HX.out.2];exact of_decide_eq_false HQ.out
    clear hb2 HC;go_wp2;go_roundg (L-(I+1))
    case measure=>omega
    case rel=>exact⟨I+1,by omega,rfl,by go_num,HN2,HB2⟩
   ·go_wp2_with fail;refine HC.out.mono ?_;rintro e w2 ⟨rfl,hb2⟩;have HB2:=Hd (HB.out.trans (hb2.mono hs));clear hb2 HC;go_wp2;go_ret;exact⟨(I:Int),rfl,HB2.out,.inr ⟨by omega,_,Zad HX.out.1,by rw[HX.out.2];exact of_decide_eq_true HQ.out⟩⟩
  ·obtain rfl:I=L:=by omega
   have hN:=HN.out;rw[←HL.out,Zbs] at hN;have HN2:=Hd hN;clear hN;go_wp2;go_ret;exact⟨-1,rfl,HB.out,.inl ⟨rfl,HN2.out⟩⟩
theorem zno (w:World) (tb:Nat) (to_:Int) (v:Value) (l:List Sy) (h:yey w v l) (ht:w.cell? ⟨tb,0,none⟩=some (.int .i64 to_)) (hb:tb<w.heap.size) (hl:l.length≤1000000) :
  Calls Tryz.prog 51 #[v,.func (.func 52) #[] #[.pointer (some ⟨tb,0,none⟩)]] w (zcz (∃s∈l,s.node=to_) w):=by
 obtain⟨a,cap,rfl⟩:=h.form;have HI:=Hd (zv6 w tb to_ _ l h ht hb hl);clear h ht;go_enter Tryz.func51,Tryz.ntmps51;go_wp2_with fail;refine HI.out.mono ?_;rintro e w2 ⟨r,rfl,hb2,hr⟩;have HB2:=Hd hb2;have HR:=Hd hr;clear hb2 hr HI;by_cases h0:0≤r
 ·have h1:r≥0:=h0;go_wp2;go_ret;refine⟨true,by simp[h0],HB2.out,fun _=>?_,fun _=>rfl⟩;rcases HR.out with ⟨h2,_⟩|⟨_,h2⟩
  ·omega
  ·exact h2
 ·have h1:¬r≥0:=by omega
  go_wp2;go_ret;refine⟨false,by simp[h0],HB2.out,(fun h=>by cases h),fun ⟨s,hs,he⟩=>?_⟩;rcases HR.out with ⟨_,h2⟩|⟨h2,_⟩
  ·exact absurd he (h2 s hs)
  ·omega
def ze2 (n d:Nat) (from_ to_:Int) (sh:List GF) (b:GF) (c:Int):Prop :=
 ¬((0≤from_∧from_<(n:Int))∧(0≤to_∧to_<(n:Int))∧from_≠to_∧sh.length=d)∧b=0∧c=2 ∨
 ((0≤from_∧from_<(n:Int))∧(0≤to_∧to_<(n:Int))∧from_≠to_∧sh.length=d)∧b=(sm d fun i=>sh.getD i 0*pw ((za9 n).getD to_.toNat 0) i)∧c=0
theorem ze2.one {n d:Nat} {f t:Int} {sh:List GF} {b b':GF} {c c':Int} (h:ze2 n d f t sh b c) (h':ze2 n d f t sh b' c'):b=b'∧c=c':=by
 rcases h with ⟨a,rfl,rfl⟩|⟨a,rfl,rfl⟩<;>rcases h' with ⟨g,rfl,rfl⟩|⟨g,rfl,rfl⟩
 ·exact⟨rfl,rfl⟩
 ·exact absurd g a
 ·exact absurd a g
 ·exact⟨rfl,rfl⟩
def zdw (fb n d:Nat) (f t:Int) (sh:List GF) (w:World) (e:Ending) (w':World):Prop:=∃(b:GF) (c:Int),e=.returned (.tuple #[.int .u8 (b.n:Nat),.int .i64 c])∧ze2 n d f t sh b c∧Kp [fb] w w'∧FOk w' fb
theorem zkx (w:World) (lb t1 t2 fb pb n k d:Nat) (v1 v2 sv:Value) (from_ to_:Int) (sh:List GF) (h:MbC w lb t1 t2 fb pb n k d v1 v2) (hn:1≤d∧d<n∧n≤255) (hs:GRd w sv sh) (hsa:sh≠[]→za0 sv [fb]) (hsl:sh.length≤1000000) :
  Calls Tryz.prog 17 #[.pointer (some ⟨lb,0,none⟩),.int .i64 from_,.int .i64 to_,sv] w (zdw fb n d from_ to_ sh w):=by
 obtain⟨as_,cs_,rfl,hcs⟩:=hs.form;obtain⟨L,hL⟩:=zE4 sh.length;have hlb:=lOH h.box;have y1:=cOH h.box (j:=1) rfl;have y3:=cOH h.box (j:=3) rfl;have HIS:=Hd (fun (x:Int)=>zmb w lb n x y1);have H:=Hd h;have HS:=Hd hs;have HSA:=Hd hsa;have HL:=Hd hL;rw[hL] at HS HSA hsl ⊢;clear h hs hsa hL hcs;go_enter Tryz.func17,Tryz.ntmps17;go_upto_region 3 with fail
 unfold zib at HIS;refine zbk (.step 0 (.step 1 (.step 2 (.step 3 (.step 4 (.unit 4 false (.step 5 (.step 6 (.step 7 (.step 8 .done)))) 9 8 (.step 10 (.unit 10 false (.step 11 (.step 12 (.step 13 .done))) 14 13 (.step 15 (.unit 15 false (.step 16 (.step 17 (.step 18 (.step 19 (.step 20 (.step 21 (.step 22 .done))))))) 23 22 (.step 24 .done))))))))))) (by kernel_rfl) (by kernel_rfl) ?_;simp only[zkc,zgg,ztv,Oper.slim,List.contains_cons,List.contains_nil,Option.map_none,Zbv,List.getElem?_toArray,Zbj,List.getElem?_cons_succ,Option.bind_some,beq_self_eq_true,Bool.or_false,Nat.reduceBEq,Nat.reduceAdd,Zbe,Option.getD_some,Option.isSome_some,Option.isSome_none,Bool.false_and,Bool.true_and,Bool.false_eq_true,if_false,if_true,Option.some_beq_some,Option.some_beq_none,Option.none_beq_some,reduceCtorEq,ite_true,ite_false]
 repeat ((with_reducible refine zac (fun K hK=>?_));go_simp;first|(refine hK _ _ ?_;clear hK K)|(refine⟨by (intro kk hkk;first|exact hkk.elim|(simp (disch:=(simp;omega)) only[h_D,h_N,h_A,h_S];done)|(simp[h_D,h_N,h_I,hkk];done)|fail),hK _ _ ?_⟩;clear hK K)| (go_at_call 47;(with_reducible refine (HIS.out _).mono ?_);rintro e wc ⟨rfl,rfl⟩;refine⟨_,rfl,(fun kk hkk=>rfl),hK _ _ ?_⟩;clear hK K))
 refine zap (x:=?_) (by rfl) ?_ ?_;rotate_left
 ·intro hgd
  (try have y3u:=(hbu.cell (p:=⟨lb,3,none⟩) hlb).trans y3)
  repeat ((with_reducible refine zac (fun K hK=>?_));go_simp;first|(refine hK _ _ ?_;clear hK K)|(refine⟨by (intro kk hkk;first|exact hkk.elim|(simp (disch:=(simp;omega)) only[h_D,h_N,h_A,h_S];done)|(simp[h_D,h_N,h_I,hkk];done)|fail),hK _ _ ?_⟩;clear hK K)| (go_at_call 47;(with_reducible refine (HIS.out _).mono ?_);rintro e wc ⟨rfl,rfl⟩;refine⟨_,rfl,(fun kk hkk=>rfl),hK _ _ ?_⟩;clear hK K))
  exact zah ⟨by rfl,by (repeat' (first|with_reducible (first|exact Zaa _ _|assumption|refine Zac ?_|refine Zab ?_ ?_ _)|omega|(simp;done)|(simp;omega)))⟩
 intro js wu hbu;simp only[UT.dsts,zct,SOp.dst,Option.toList_some,Option.toList_none,Zas,Zav,Zal,cond_true,cond_false]
 repeat ((with_reducible refine zac (fun K hK=>?_));go_simp;first|(refine hK _ _ ?_;clear hK K)|(refine⟨by (intro kk hkk;first|exact hkk.elim|(simp (disch:=(simp;omega)) only[h_D,h_N,h_A,h_S];done)|(simp[h_D,h_N,h_I,hkk];done)|fail),hK _ _ ?_⟩;clear hK K)| (go_at_call 47;(with_reducible refine (HIS.out _).mono ?_);rintro e wc ⟨rfl,rfl⟩;refine⟨_,rfl,(fun kk hkk=>rfl),hK _ _ ?_⟩;clear hK K))
 iterate 2
  refine zax (x:=?_) (by rfl) ?_ ?_;rotate_left
  ·intro hgd
   (try have y3u:=(hbu.cell (p:=⟨lb,3,none⟩) hlb).trans y3)
   repeat ((with_reducible refine zac (fun K hK=>?_));go_simp;first|(refine hK _ _ ?_;clear hK K)|(refine⟨by (intro kk hkk;first|exact hkk.elim|(simp (disch:=(simp;omega)) only[h_D,h_N,h_A,h_S];done)|(simp[h_D,h_N,h_I,hkk];done)|fail),hK _ _ ?_⟩;clear hK K)| (go_at_call 47;(with_reducible refine (HIS.out _).mono ?_);rintro e wc ⟨rfl,rfl⟩;refine⟨_,rfl,(fun kk hkk=>rfl),hK _ _ ?_⟩;clear hK K))
   exact zah ⟨by rfl,rfl⟩
  intro js;simp only[UT.dsts,zct,SOp.dst,Option.toList_some,Option.toList_none,Zas,Zav,Zal,cond_true,cond_false]
  repeat ((with_reducible refine zac (fun K hK=>?_));go_simp;first|(refine hK _ _ ?_;clear hK K)|(refine⟨by (intro kk hkk;first|exact hkk.elim|(simp (disch:=(simp;omega)) only[h_D,h_N,h_A,h_S];done)|(simp[h_D,h_N,h_I,hkk];done)|fail),hK _ _ ?_⟩;clear hK K)| (go_at_call 47;(with_reducible refine (HIS.out _).mono ?_);rintro e wc ⟨rfl,rfl⟩;refine⟨_,rfl,(fun kk hkk=>rfl),hK _ _ ?_⟩;clear hK K))
 try go_simp
 refine zah ?_;have hgd:(!decide (0≤from_) || !decide (from_<(n:Int)) || (!decide (0≤to_) || !decide (to_<(n:Int))) || from_ == to_ || (L:Int) != (d:Int))=false↔((0≤from_∧from_<(n:Int))∧(0≤to_∧to_<(n:Int))∧from_≠to_∧L=d):=by simp only[Bool.or_eq_false_iff,Bool.not_eq_false',decide_eq_true_eq,beq_eq_false_iff_ne,bne_eq_false_iff_eq,ne_eq];omega
 generalize hq:(!decide (0≤from_) || !decide (from_<(n:Int)) || (!decide (0≤to_) || !decide (to_<(n:Int))) || from_ == to_ || (L:Int) != (d:Int))=q at *;have HGD:=Hd hgd;have HBU:Hid (Below w.heap.size w wu):=Hd hbu;have HKU:Hid (Kp [fb] w wu):=Hd (Kp.of_below hbu);have HFU:Hid (FOk wu fb):=Hd (H.out.tells.ok.below hbu);have hsu:=hbu.size;clear hgd hq hbu;cases q
 case true =>
  have HP:Hid (zdw fb n d from_ to_ sh w (.returned (.tuple #[.int .u8 0,.int .i64 2])) wu):=Hd
   ⟨0,2,rfl,.inl ⟨(fun hg=>by rw[HL.out] at hg;exact absurd (HGD.out.2 hg) (by simp)),rfl,rfl⟩,HKU.out,HFU.out⟩
  go_wp2;go_ret2;exact HP.out
 case false =>
  have hg:=HGD.out.1 (by trivial);obtain⟨T,rfl⟩:∃T:Nat,to_=(T:Int):=⟨to_.toNat,by omega⟩;have hTn:T<n:=by omega
  have HG:=Hd hg;obtain⟨-,-,-,rfl⟩:=hg;obtain⟨p1,hp1⟩:=zE4 (T*L);obtain⟨P,hP⟩:=zE4 (n*L);have hPb:P≤255*255:=by rw[←hP];exact Zai hn.2.2 (by omega)
  obtain⟨F,hF⟩:∃F:Nat→GF,F=fun i=>sh.getD i 0*pw ((za9 n).getD T 0) i:=⟨_,rfl⟩;have HN:=Hd (Zao hp1 hP);have HFF:=Hd hF;have x1:(T:Int)*(L:Int)=(p1:Int):=by rw[←hp1];simp
  have hp1P:p1≤P:=by rw[←hp1,←hP];exact Zar _ (by omega)
  have x2:=zE6 (p1:Int) (by omega);clear hp1 hP hF y1 y3 HIS;go_wp2;go_loopg [10,43] L (fun gk s i wr=>∃(I v:Nat),I≤L∧gk=L-I∧s=.int .u8 (v:Nat)∧i=.int .i64 I∧Hid ((sm I F).n=v)∧Hid (Kp [fb] w wr)∧Hid (FOk wr fb))
  case atStart=>exact⟨0,0,by omega,rfl,rfl,rfl,Hd rfl,HKU,HFU⟩
  case round =>
   clear HKU HFU HBU;obtain⟨I,v,hI,rfl,rfl,rfl,HV,HK,HF⟩:=hrel;have hsr:=HK.out.size;by_cases hlt:I<L
   ·obtain⟨x,hx⟩:∃x,sh[I]? = some x:=⟨_,zE1 (by rw[HL.out];exact hlt)⟩;have hsne:sh≠[]:=fun e=>by rw[e] at hx;simp at hx
    have hrd:=HS.out.kp HK.out (HSA.out hsne);obtain⟨bs,os,rfl,hbs,cx⟩:=hrd.at hx;have hr:=H.out.step HK.out HF.out;have y0:=cOH hr.box (j:=0) rfl;have y3:=cOH hr.box (j:=3) rfl;have y6:=cOH hr.box (j:=6) rfl;rw[HN.out.2] at y6;obtain⟨p2,hp2⟩:=zE4 (p1+I);have hp2P:p2<P:=by rw[←hp2,←HN.out.1,←HN.out.2];exact zaz hTn hlt
    have cp:=(hr.psi.2 p2 (by rw[HN.out.2];exact hp2P)).1;rw[←hp2,←HN.out.1,zab (by omega) _ _ _ hlt,HN.out.1,hp2] at cp;have hpl:=hr.psi.1;have hbf:bs≠fb:=by have:=HSA.out hsne bs rfl;simpa using this
    have hfl:=HF.out.lt;have x3:(p1:Int)+(I:Int)=(p2:Int):=by omega
    have x4:=zE6 (p2:Int) (by omega);have i1:(0:Int)≤(I:Int)∧(I:Int)<(L:Int):=by omega
    have i2:(0:Int)≤(p2:Int)∧(p2:Int)<(P:Int):=by omega
    obtain⟨z,hz⟩:=zE4 (pw ((za9 n).getD T 0) I);rw[hz] at cp;have hFI:F I=x*z:=by rw[HFF.out];show sh.getD I 0*pw ((za9 n).getD T 0) I=x*z;rw[hz,zE2,hx];rfl
    have hsm:sm (I+1) F=sm I F+x*z:=by rw[←hFI];rfl
    have hmul:=fun W (h:FOk W fb)=>zd3 x z fb W h;have hadd:=fun W=>zey (sm I F) (x*z) W;unfold zeq at hmul;rw[←hsm,HV.out] at hadd;obtain⟨xn,hxn⟩:=zE4 x.n;obtain⟨zn,hzn⟩:=zE4 z.n;obtain⟨mn,hmn⟩:=zE4 ((x*z).n);obtain⟨sn,hsn⟩:=zE4 ((sm (I+1) F).n);rw[hxn,hzn,hmn] at hmul;rw[hmn,hsn] at hadd;rw[hxn] at cx;rw[hzn] at cp;have HMUL:=Hd hmul;have HADD:=Hd hadd;have HV2:=Hd hsn;obtain⟨kp,hkp⟩:∃kp:Nat→Bool,∀j,kp j=true↔j<wr.heap.size∧j≠fb:=⟨fun j=>decide (j<wr.heap.size∧j≠fb),by simp⟩;have k1:kp lb=true:=(hkp _).2 ⟨by omega,H.out.ne.1⟩;have k2:kp pb=true:=(hkp _).2 ⟨hpl,H.out.ne.2⟩;have HKP:=Hd hkp;have hlr:lb<wr.heap.size:=by omega
    clear hx hrd hsne hr hp2 hz hFI hsm hmul hadd hxn hzn hmn hsn hkp HV;go_upto_region 9 with fail
    have hgr:=hgK (fun j=>kp j=true);refine w_T (fun j=>kp j=true) [21,22] (.sq [0,1,2,3,4,5,6,7,8,9,10,11,12,13,14,15,16,17,18,19,20,21,22,23] .done) (by kernel_rfl) (by kernel_rfl) ?_;simp only[TQ,Oper.slim,Nat.reduceBEq,Nat.reduceAdd]
    repeat' first|((with_reducible refine w_I ?_);first|(with_reducible refine w_D ?_)|((with_reducible refine w_S (fun K hK=>?_));go_simp;first|(refine hK _ _ ?_;clear hK K)|(refine⟨by (intro kk hkk;first|(simp (disch:=(simp;omega)) only[h_D,h_N,h_A,h_S];done)|(simp[h_D,h_N,h_I,hkk];done)|fail),hK _ _ ?_⟩;clear hK K)|(go_at_call 48;(with_reducible refine (HMUL.out _ (HF.out.below ((Zaa _ _).drew))).mono ?_);rintro e w5 ⟨rfl,hk5,hf5⟩;have HK5:Hid (Kp [fb] wr w5):=Hd (((Kp.refl [fb] wr).drew).trans hk5);have HF5:=Hd hf5;clear hk5 hf5;refine⟨_,rfl,(fun kk hkk=>HK5.out.block kk ((HKP.out kk).1 hkk).1 (by have:=((HKP.out kk).1 hkk).2;simpa using this)),hK _ _ ?_⟩;clear hK K)|(go_at_call 36;(with_reducible refine (HADD.out _).mono ?_);rintro e wx ⟨rfl,hwx⟩;subst hwx;refine⟨_,rfl,(fun kk hkk=>HK5.out.block kk ((HKP.out kk).1 hkk).1 (by have:=((HKP.out kk).1 hkk).2;simpa using this)),hK _ _ ?_⟩;clear hK K)))|fail
    clear hgr;have HK2:=Hd (HK.out.trans HK5.out);go_wp2;go_roundg (L-(I+1))
    case measure=>omega
    case rel=>exact⟨I+1,sn,by omega,rfl,rfl,by go_num,HV2,HK2,HF5⟩
   ·obtain rfl:I=L:=by omega
    have HP:Hid (zdw fb n I from_ (T:Int) sh w (.returned (.tuple #[.int .u8 (v:Nat),.int .i64 0])) wr):=Hd
     ⟨sm I F,0,by rw[HV.out],.inr ⟨by rw[HL.out];exact⟨HG.out.1,HG.out.2.1,HG.out.2.2.1,rfl⟩,by rw[HFF.out,Zam],rfl⟩,HK.out,HF.out⟩
    go_wp2;go_ret2;exact HP.out
theorem zky (w:World) (lb t1 t2 fb pb n k d:Nat) (v1 v2 sv:Value) (from_ to_:Int) (sh:List GF) (h:MbC w lb t1 t2 fb pb n k d v1 v2) (hn:1≤d∧d<n∧n≤255) (hs:GRd w sv sh) (hsa:za0 sv [fb]) (hsl:sh.length≤1000000) :
  Calls Tryz.prog 17 #[.pointer (some ⟨lb,0,none⟩),.int .i64 from_,.int .i64 to_,sv] w (zdw fb n d from_ to_ sh w) :=
 zkx w lb t1 t2 fb pb n k d v1 v2 sv from_ to_ sh h hn hs (fun _=>hsa) hsl
theorem zje (w:World) (lb k d:Nat) (h2:w.cell? ⟨lb,2,none⟩=some (.int .i64 k)) (h3:w.cell? ⟨lb,3,none⟩=some (.int .i64 d)) (hlb:lb<w.heap.size) (hk:1≤k∧k≤d∧d≤255) :
  Calls Tryz.prog 30 #[.pointer (some ⟨lb,0,none⟩)] w fun e w'=>e=.returned (.int .i64 (mbB k d:Nat))∧Below w.heap.size w w':=by
 obtain⟨k1,hk1⟩:=zE4 (k-1);obtain⟨p,hp⟩:=zE4 (k*d);obtain⟨q,hq⟩:=zE4 (k*k1);obtain⟨h,hh⟩:=zE4 (q / 2);obtain⟨B,hB⟩:=zE4 (mbB k d);have hBe:p-h=B:=by rw[←hB,zhl hk.2.1,hk1,hp,hq,hh]
 have hpl:p≤255*255:=by rw[←hp];exact Zai (by omega) (by omega)
 have hql:q≤p:=by rw[←hp,←hq];exact Nat.mul_le_mul_left _ (by omega)
 rw[hB];have x3:(k:Int)-1=(k1:Int):=by omega
 have x4:=zE6 (k1:Int) (by omega);have x5:(k:Int)*(d:Int)=(p:Int):=by rw[←hp];simp
 have x6:=zE6 (p:Int) (by omega);have x7:(k:Int)*(k1:Int)=(q:Int):=by rw[←hq];simp
 have x8:=zE6 (q:Int) (by omega);have x9:(q:Int).tdiv 2=(h:Int):=by rw[←hh];exact (Int.ofNat_tdiv q 2).symm
 have x10:=zE6 (h:Int) (by omega);have x11:(p:Int)-(h:Int)=(B:Int):=by omega
 have x12:=zE6 (B:Int) (by omega);clear hk1 hp hq hh hB hBe;go_enter Tryz.func30,Tryz.ntmps30;go_wp2_with fail;have hgr:=hgK (fun kk=>kk<w.heap.size);refine w_T (fun kk=>kk<w.heap.size) [] (.sq [0,1,2,3,4,5,6,7,8,9,10,11,12,13,14,15,16,17,18,19,20,21] .done) (by kernel_rfl) (by kernel_rfl) ?_;simp only[TQ,Oper.slim,Nat.reduceBEq,Nat.reduceAdd]
 repeat' first|((with_reducible refine w_I ?_);first|(with_reducible refine w_D ?_)|((with_reducible refine w_S (fun K hK=>?_));go_simp;(refine hK _ _ ?_;clear hK K)))|fail
 clear hgr;go_wp2;go_ret;exact⟨rfl,by (repeat' (first|with_reducible (first|exact Zaa _ _|assumption|refine Zac ?_|refine Zab ?_ ?_ _)|omega|(simp;done)|(simp;omega)))⟩
theorem zjc (w:World) (lb k:Nat) (h2:w.cell? ⟨lb,2,none⟩=some (.int .i64 k)) (hlb:lb<w.heap.size) (hk:1≤k∧k≤255) :
  Calls Tryz.prog 81 #[.pointer (some ⟨lb,0,none⟩)] w fun e w'=>e=.returned (.int .i64 (tri k k:Nat))∧Below w.heap.size w w':=by
 obtain⟨k1,hk1⟩:=zE4 (k+1);obtain⟨q,hq⟩:=zE4 (k*k1);obtain⟨h,hh⟩:=zE4 (q / 2);have hB:tri k k=h:=by rw[zhy,hk1,hq,hh]
 have hql:q≤255*256:=by rw[←hq];exact Zai (by omega) (by omega)
 rw[hB];have x3:(k:Int)+1=(k1:Int):=by omega
 have x4:=zE6 (k1:Int) (by omega);have x7:(k:Int)*(k1:Int)=(q:Int):=by rw[←hq];simp
 have x8:=zE6 (q:Int) (by omega);have x9:(q:Int).tdiv 2=(h:Int):=by rw[←hh];exact (Int.ofNat_tdiv q 2).symm
 have x10:=zE6 (h:Int) (by omega);clear hk1 hq hh hB;go_enter Tryz.func81,Tryz.ntmps81;go_upto_region 1 with fail
 have hgr:=hgK (fun kk=>kk<w.heap.size);refine w_T (fun kk=>kk<w.heap.size) [] (.sq [0,1,2,3,4,5,6,7,8,9,10,11] .done) (by kernel_rfl) (by kernel_rfl) ?_;simp only[TQ,Oper.slim,Nat.reduceBEq,Nat.reduceAdd]
 repeat' first|((with_reducible refine w_I ?_);first|(with_reducible refine w_D ?_)|((with_reducible refine w_S (fun K hK=>?_));go_simp;(refine hK _ _ ?_;clear hK K)))|fail
 clear hgr;go_wp2;go_ret;exact⟨rfl,by (repeat' (first|with_reducible (first|exact Zaa _ _|assumption|refine Zac ?_|refine Zab ?_ ?_ _)|omega|(simp;done)|(simp;omega)))⟩
def zhd (fb n k:Nat) (T:Nat) (o:List GF) (w:World) (e:Ending) (w':World):Prop:=e=.returned (.int .u8 ((sm o.length fun i=>o.getD i 0*pw ((za9 n).getD T 0) (k+i)).n:Nat))∧Kp [fb] w w'∧FOk w' fb
theorem zsv (w:World) (lb t1 t2 fb pb n k d T:Nat) (v1 v2 sv:Value) (sh:List GF) (h:MbC w lb t1 t2 fb pb n k d v1 v2) (hn:1≤k∧k≤d∧d<n∧n≤255) (hT:T<n) (hs:GRd w sv sh) (hsa:sh=[]∨za0 sv [fb]) (hsl:k+sh.length≤d) :
  Calls Tryz.prog 61 #[.pointer (some ⟨lb,0,none⟩),.int .i64 T,sv] w (zhd fb n k T sh w):=by
 obtain⟨as_,cs_,rfl,hcs⟩:=hs.form;obtain⟨L,hL⟩:=zE4 sh.length;have hlb:=lOH h.box;have H:=Hd h;have HS:=Hd hs;have HSA:=Hd hsa;have HL:=Hd hL;have HFW:=Hd h.tells.ok;unfold zhd;rw[hL] at HS HSA hsl ⊢;clear h hs hsa hL hcs;obtain⟨p1,hp1⟩:=zE4 (T*d);obtain⟨P,hP⟩:=zE4 (n*d);have hPb:P≤255*255:=by rw[←hP];exact Zai hn.2.2.2 (by omega)
 obtain⟨F,hF⟩:∃F:Nat→GF,F=fun i=>sh.getD i 0*pw ((za9 n).getD T 0) (k+i):=⟨_,rfl⟩;rw[←hF];have HN:=Hd (Zao hp1 hP);have HFF:=Hd hF;have x1:(T:Int)*(d:Int)=(p1:Int):=by rw[←hp1];simp
 have hp1P:p1≤P:=by rw[←hp1,←hP];exact Zar _ (by omega)
 have x2:=zE6 (p1:Int) (by omega);obtain⟨p3,hp3⟩:=zE4 (p1+k);have x5:(p1:Int)+(k:Int)=(p3:Int):=by omega
 have x6:=zE6 (p3:Int) (by omega);have HP3:=Hd hp3;have hp3b:p3≤255*256:=by omega
 clear hp1 hP hF hp3;go_enter Tryz.func61,Tryz.ntmps61;go_wp2;go_loopg [7,12] L (fun gk s i wr=>∃(I v:Nat),I≤L∧gk=L-I∧s=.int .u8 (v:Nat)∧i=.int .i64 I∧Hid ((sm I F).n=v)∧Hid (Kp [fb] w wr)∧Hid (FOk wr fb))
 case atStart=>exact⟨0,0,by omega,rfl,rfl,rfl,Hd rfl,Hd (Kp.refl _ _),HFW⟩
 case round =>
  obtain⟨I,v,hI,rfl,rfl,rfl,HV,HK,HF⟩:=hrel;have hsr:=HK.out.size;by_cases hlt:I<L
  ·obtain⟨x,hx⟩:∃x,sh[I]? = some x:=⟨_,zE1 (by rw[HL.out];exact hlt)⟩;have hap:za0 (.slice as_ L cs_) [fb]:=HSA.out.resolve_left (fun e=>by rw[e] at hx;cases hx);have hrd:=HS.out.kp HK.out hap;obtain⟨bs,os,rfl,hbs,cx⟩:=hrd.at hx;have hr:=H.out.step HK.out HF.out;have y0:=cOH hr.box (j:=0) rfl;have y2:=cOH hr.box (j:=2) rfl;have y3:=cOH hr.box (j:=3) rfl;have y6:=cOH hr.box (j:=6) rfl;rw[HN.out.2] at y6;obtain⟨p2,hp2⟩:=zE4 (p3+I);have hp2e:T*d+(k+I)=p2:=by rw[HN.out.1,←hp2,←HP3.out];omega
   have hp2P:p2<P:=by rw[←hp2e,←HN.out.2];exact zaz hT (by omega)
   have cp:=(hr.psi.2 p2 (by rw[HN.out.2];exact hp2P)).1;rw[←hp2e,zab (by omega) _ _ _ (by omega),hp2e] at cp;have hpl:=hr.psi.1;have hbf:bs≠fb:=by have:=hap bs rfl;simpa using this
   have hfl:=HF.out.lt;have x3:(p3:Int)+(I:Int)=(p2:Int):=by omega
   have x4:=zE6 (p2:Int) (by omega);have i1:(0:Int)≤(I:Int)∧(I:Int)<(L:Int):=by omega
   have i2:(0:Int)≤(p2:Int)∧(p2:Int)<(P:Int):=by omega
   obtain⟨z,hz⟩:=zE4 (pw ((za9 n).getD T 0) (k+I));rw[hz] at cp;have hFI:F I=x*z:=by rw[HFF.out];show sh.getD I 0*pw ((za9 n).getD T 0) (k+I)=x*z;rw[hz,zE2,hx];rfl
   have hsm:sm (I+1) F=sm I F+x*z:=by rw[←hFI];rfl
   have hmul:=fun W (h:FOk W fb)=>zd3 x z fb W h;have hadd:=fun W=>zey (sm I F) (x*z) W;unfold zeq at hmul;rw[←hsm,HV.out] at hadd;obtain⟨xn,hxn⟩:=zE4 x.n;obtain⟨zn,hzn⟩:=zE4 z.n;obtain⟨mn,hmn⟩:=zE4 ((x*z).n);obtain⟨sn,hsn⟩:=zE4 ((sm (I+1) F).n);rw[hxn,hzn,hmn] at hmul;rw[hmn,hsn] at hadd;rw[hxn] at cx;rw[hzn] at cp;have HMUL:=Hd hmul;have HADD:=Hd hadd;have HV2:=Hd hsn;obtain⟨kp,hkp⟩:∃kp:Nat→Bool,∀j,kp j=true↔j<wr.heap.size∧j≠fb:=⟨fun j=>decide (j<wr.heap.size∧j≠fb),by simp⟩;have k1:kp lb=true:=(hkp _).2 ⟨by omega,H.out.ne.1⟩;have k2:kp pb=true:=(hkp _).2 ⟨hpl,H.out.ne.2⟩;have HKP:=Hd hkp;have hlr:lb<wr.heap.size:=by omega
   clear hx hap hrd hr hp2 hp2e hz hFI hsm hmul hadd hxn hzn hmn hsn hkp HV;go_upto_region 5 with fail
   have hgr:=hgK (fun j=>kp j=true);refine w_T (fun j=>kp j=true) [26,27] (.sq [0,1,2,3,4,5,6,7,8,9,10,11,12,13,14,15,16,17,18,19,20,21,22,23,24,25,26,27,28] .done) (by kernel_rfl) (by kernel_rfl) ?_;simp only[TQ,Oper.slim,Nat.reduceBEq,Nat.reduceAdd]
   repeat' first|((with_reducible refine w_I ?_);first|(with_reducible refine w_D ?_)|((with_reducible refine w_S (fun K hK=>?_));go_simp;first|(refine hK _ _ ?_;clear hK K)|(refine⟨by (intro kk hkk;first|(simp (disch:=(simp;omega)) only[h_D,h_N,h_A,h_S];done)|(simp[h_D,h_N,h_I,hkk];done)|fail),hK _ _ ?_⟩;clear hK K)|(go_at_call 48;(with_reducible refine (HMUL.out _ (HF.out.below ((Zaa _ _).drew))).mono ?_);rintro e w5 ⟨rfl,hk5,hf5⟩;have HK5:Hid (Kp [fb] wr w5):=Hd (((Kp.refl [fb] wr).drew).trans hk5);have HF5:=Hd hf5;clear hk5 hf5;refine⟨_,rfl,(fun kk hkk=>HK5.out.block kk ((HKP.out kk).1 hkk).1 (by have:=((HKP.out kk).1 hkk).2;simpa using this)),hK _ _ ?_⟩;clear hK K)|(go_at_call 36;(with_reducible refine (HADD.out _).mono ?_);rintro e wx ⟨rfl,hwx⟩;subst hwx;refine⟨_,rfl,(fun kk hkk=>HK5.out.block kk ((HKP.out kk).1 hkk).1 (by have:=((HKP.out kk).1 hkk).2;simpa using this)),hK _ _ ?_⟩;clear hK K)))|fail
   clear hgr;have HK2:=Hd (HK.out.trans HK5.out);go_wp2;go_roundg (L-(I+1))
   case measure=>omega
   case rel=>exact⟨I+1,sn,by omega,rfl,rfl,by go_num,HV2,HK2,HF5⟩
  ·obtain rfl:I=L:=by omega
   go_wp2;go_ret;exact⟨by rw[HV.out];rfl,HK.out,HF.out⟩
