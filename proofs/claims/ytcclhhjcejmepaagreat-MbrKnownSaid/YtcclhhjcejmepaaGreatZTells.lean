import Derived.Test.YtcclhhjcejmepaaGreatZWorks
set_option linter.all false
set_option maxRecDepth 100000
set_option maxHeartbeats 8000000
namespace Go.Proofs.YtcclhhjcejmepaaGreat
open Go.RowKit Fld
theorem znq (n k d:Int) (um ta tb:Value) (A As Bs:List GF) (bs t:Nat) (tu:Bool) (w:World) (hnb:I64 n∧I64 k∧I64 d) (hm:GRd w um A) (ha:GRd w ta As) (hb:GRd w tb Bs) (hbs:bs<18446744073709551616) (ht:t<256) :
  Calls Tryz.prog 6 #[.int .i64 n,.int .i64 k,.int .i64 d,um,.int .u64 bs,.bool tu,ta,tb,.int .u8 t] w fun e w'=>e=.returned (.bool true)∧Below w.heap.size w w':=by
 have HW:=Hd (yf6 w);have HFN:=Hd (fun W=>zjk W);have HNB:=Hd hnb;have HM:=Hd hm;obtain⟨aa,ca,rfl,hca⟩:=ha.form;obtain⟨LA,hLA⟩:=zE4 As.length;have HA:=Hd ha;have HBB:=Hd hb;have HLA:=Hd hLA;have HBS:=Hd hbs;rw[hLA] at HA ⊢;obtain⟨S,hS⟩:=zE4 (t % 4);have hS4:S<4:=by rw[←hS];exact Zck _ (by omega)
 have z1:(t:Int) % 4=(S:Int):=by omega
 clear hnb hm ha hb hbs hLA hca hS;go_enter Tryz.func6,Tryz.ntmps6;go_wp2_with fail;refine (zds n k d w).mono ?_;rintro e w' ⟨b,rfl,rfl,hb⟩;have HBW:Hid (Below w.heap.size w w):=Hd (Zaa _ _);cases b
 ·clear hb;go_wp2_with fail;refine (HW.out _ HBW.out).mono ?_;rintro e w20 ⟨rfl,HB20⟩;go_wp2;go_ret;exact⟨rfl,HB20.out⟩
 have h9:=Hd (hb.1 rfl);clear hb;by_cases h4:6<LA
 ·have h4':(6:Int)<(LA:Int):=by omega
  go_wp2_with fail;refine (HW.out _ HBW.out).mono ?_;rintro e w20 ⟨rfl,HB20⟩;go_wp2;go_ret;exact⟨rfl,HB20.out⟩
 have h4':¬(6:Int)<(LA:Int):=by omega
 clear HBW;go_wp2_with fail;refine (HFN.out _).mono ?_;rintro e w1 ⟨fb,rfl,hfb0,hf1,hb1⟩;have HFO:=Hd hf1;have HB0:=Hd hb1;have HFB:=Hd hfb0;have hs1:=hf1.lt;clear hf1 hb1 hfb0;go_wp2_with fail;refine (zbo fb n k d w1 HFO.out HNB.out.1 HNB.out.2.1 HNB.out.2.2 (fun h=>by simp only[zbl];first|omega|(have:=h9.out;omega))).mono ?_;rintro e w2 ⟨hk2,hf2,hcase⟩;have HB2:Hid (Below w.heap.size w w2):=Hd (HB0.out.trans (hk2.below HB0.out.size (by have:=HFB.out;simp;omega)));have HF2:=Hd hf2;have hfl2:=hf2.lt;have hs2:=HB2.out.size;clear hk2 hf2 HFO HB0;rcases hcase with ⟨N,K,D,rfl,rfl,rfl,hNK,lb,t1,t2,pb,cv,cv2,rfl,hlb,hc2⟩|⟨hno,rfl⟩
 case inr =>
  have HBW:=HB2;clear hno;go_wp2_with fail;refine (HW.out _ HBW.out).mono ?_;rintro e w20 ⟨rfl,HB20⟩;go_wp2;go_ret;exact⟨rfl,HB20.out⟩
 have HC2:=Hd hc2;have HNK:=Hd hNK;have hN9:N≤9:=by have:=h9.out;omega
 have hKD:1≤K∧K≤D∧D<N:=by omega
 clear hc2 hNK h9 hlb;have HTB:=Hd (zje w2 lb K D (cOH HC2.out.box (j:=2) rfl) (cOH HC2.out.box (j:=3) rfl) (lOH HC2.out.box) (by omega));obtain⟨BN,hBN⟩:=zE4 (mbB K D);rw[hBN] at HTB;have hBL:BN≤81:=by rw[←hBN];exact yao (by omega) (by omega)
 have HBN:=Hd hBN;clear hBN;go_wp2_with fail;refine HTB.out.mono ?_;rintro e w3 ⟨rfl,hb3⟩;have HC3:=Hd (HC2.out.below hb3);have HB3:Hid (Below w.heap.size w w3):=Hd (HB2.out.trans (hb3.mono HB2.out.size));have hs3:=hb3.size;clear hb3 HC2 HTB;go_wp2_with fail;refine (znt _ A BN w3 (HM.out.below HB3.out) (by omega)).mono ?_;rintro e w4 ⟨gm,rfl,hgm,hvm,hrm,hb4⟩;have HC4:=Hd (HC3.out.below hb4);have HB4:Hid (Below w.heap.size w w4):=Hd (HB3.out.trans (hb4.mono HB3.out.size));obtain⟨M,hM⟩:=zE4 (znz A BN);have hml:M.length=BN:=by rw[←hM,zny]
 rw[hM] at hrm;have HM4:=Hd hrm;have HML:Hid (M.length=mbB K D):=Hd (by rw[hml,HBN.out]);have hs4:=hb4.size;have hgl:=hvm.1;have HENC:=Hd (zef w4 lb t1 t2 fb pb N K D cv cv2 _ M HC4.out HNK.out HM4.out (by omega) (fun k hk hm=>by simp[Value.ownBlock] at hk hm;omega));clear hvm hrm hb4 HC3 HM hM hml;go_wp2_with fail;refine HENC.out.mono ?_;rintro e w5 (⟨hne,-⟩|⟨-,hk5,hf5,v5,S5,rfl,hsh⟩)
 ·exact absurd HML.out hne
 have HC5:=Hd (HC4.out.step hk5 hf5);have HF5:=Hd hf5;have HM5:=Hd (HM4.out.kp hk5 (fun k hk hm=>by simp[Value.ownBlock] at hk hm;omega));have HB5:Hid (Below w.heap.size w w5):=Hd (HB4.out.trans (hk5.below HB4.out.size (by have:=HFB.out;simp;omega)));have hs5:=hk5.size;have hsl:S5.length=N:=by have:=congrArg List.length hsh.eq;rw[zf9] at this;simpa using this
 have hsd:=hsh.eq;have HTO:=Hd (zx2 v5 S5 bs S tu _ tb As Bs w5 hsh.all (by omega) (fun s hs=>by
  have:s.d∈S5.map Ro.d:=Zau.2 ⟨s,hs,rfl⟩
  rw[hsd] at this;obtain⟨x,-,hx⟩:=Zau.1 this;rw[←hx,za5];omega) HBS.out (HA.out.below HB5.out) (HBB.out.below HB5.out) (by omega))
 unfold zrj at HTO;rw[hsd,hsl] at HTO;obtain⟨a5,c5,e5⟩:=hsh.all.rd.form;rw[hsl] at e5;subst e5;clear hk5 hf5 hsh hsl hsd HC4 HM4 HENC;go_wp2_with fail;refine HTO.out.mono ?_;rintro e w6 ⟨tv,ov,l,zs,rfl,hso,hzo,hb6,-,hti⟩;have HTI:=Hd hti;have hdt:=zv4 HML.out hti;have HDT:=Hd hdt;have hll:l.length≤N:=by
  have h1:=hti.good;rw[zf9] at h1;have h2:=h1.2.length_le_of_subset (l₂:=(List.range N).map fun (x:Nat)=>(x:Int)) (fun x hx=>by
   have:=h1.1 x hx
   exact Zau.2 ⟨x.toNat,Zaj.2 (by omega),by omega⟩)
  simpa[Sy.nodes] using h2
 have HZL:Hid (zs.length≤1000000):=Hd (by have:=hti.few;omega);have HC6:=Hd (HC5.out.below hb6);have HB6:Hid (Below w.heap.size w w6):=Hd (HB5.out.trans (hb6.mono HB5.out.size));have HM6:=Hd (HM5.out.below hb6);have HSA:=Hd (hso.apart (S:=[fb]) (by simp;omega));have HS6:=Hd hso.all;have HZ6:=Hd (RdZ.of_own hzo);have hs6:=hb6.size;obtain⟨L,hL⟩:=zE4 l.length;have HL:=Hd hL;obtain⟨av,vc,rfl⟩:=hso.all.rd.form;rw[hL] at HSA HS6 hll ⊢;have HDE:=Hd (zjd w6 lb t1 t2 fb pb N K D cv cv2 _ l (S:Int) HC6.out HNK.out (by omega) (zay (by omega)) HS6.out HSA.out (by rw[HL.out];omega) (by omega));unfold zju at HDE;clear hso hzo hb6 hti hdt hL HTO HC5 HM5;go_wp2_with fail;refine HDE.out.mono ?_;rintro e w7 ⟨hk7,hf7,hans⟩;obtain⟨c,m,zs',v1,v2,rfl,his,ho1,hz2⟩:=hans.is;have HIS:=Hd his;have HB7:Hid (Below w.heap.size w w7):=Hd (HB6.out.trans (hk7.below (by omega) (by have:=HFB.out;simp;omega)));have HM7:=Hd (HM6.out.kp hk7 (fun k hk hm=>by simp[Value.ownBlock] at hk hm;omega));have HZ7:=Hd (HZ6.out.kp hk7 (by simp;omega));have HV1:=Hd ho1.rd;have HV2:=Hd hz2;clear hk7 hf7 hans his ho1 hz2 HDE HC6 HM6 HS6 HZ6;obtain⟨S2,hS2⟩:=zE4 (2*S);obtain⟨TS,hTS⟩:=zE4 (K+S2);have x1:(2:Int)*(S:Int)=(S2:Int):=by omega
 have x2:=zE6 (S2:Int) (by omega);have x3:(K:Int)+(S2:Int)=(TS:Int):=by omega
 have x4:=zE6 (TS:Int) (by omega);have HTS:Hid (K+2*S=TS):=Hd (by omega);have HNN:Hid (K≤D∧N≤255):=Hd (by omega);clear hS2 hTS hKD;by_cases hfew:L<TS
 ·have hfew':(L:Int)<(TS:Int):=by omega
  obtain⟨rfl,rfl,rfl⟩:=zb7.one HNN.out.1 HNN.out.2 HIS.out (HDT.out.2 (by rw[HL.out,HTS.out];exact hfew));have HBW:=HB7;go_wp2_with fail;refine (HW.out _ HBW.out).mono ?_;rintro e w20 ⟨rfl,HB20⟩;go_wp2;go_ret;exact⟨rfl,HB20.out⟩
 have hfew':¬(L:Int)<(TS:Int):=by omega
 obtain⟨rfl,rfl,rfl⟩:=zb7.one HNN.out.1 HNN.out.2 HIS.out (HDT.out.1 (by rw[HL.out,HTS.out];omega));clear HIS HDT;go_wp2_with fail;refine (zus _ _ m m w7 HV1.out HM7.out).mono ?_;rintro e w8 ⟨rfl,rfl⟩;rw[decide_eq_true rfl];go_wp2_with fail;refine (zfy _ _ zs' zs' w7 HV2.out.rd HZ7.out.rd HZL.out HZL.out).mono ?_;rintro e w8 ⟨rfl,hb8⟩;rw[decide_eq_true rfl];have HBW:Hid (Below w.heap.size w w8):=Hd (HB7.out.trans (hb8.mono HB7.out.size));clear hb8;go_wp2_with fail;refine (HW.out _ HBW.out).mono ?_;rintro e w20 ⟨rfl,HB20⟩;go_wp2;go_ret;exact⟨rfl,HB20.out⟩
end Go.Proofs.YtcclhhjcejmepaaGreat
namespace Go.Proofs.YtcclhhjcejmepaaGreat
open Go.RowKit
end Go.Proofs.YtcclhhjcejmepaaGreat
