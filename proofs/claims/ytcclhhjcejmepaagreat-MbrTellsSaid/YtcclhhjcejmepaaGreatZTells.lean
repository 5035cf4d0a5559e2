/-
  The law MbrTells.
  The law MbrTells, as the frame has its arguments.
-/
import Derived.Test.YtcclhhjcejmepaaGreatZWorks
import Derived.Test.YtcclhhjcejmepaaGreatZWk
import Derived.Test.YtcclhhjcejmepaaGreatZToldG
import Derived.Test.YtcclhhjcejmepaaGreatZKit
/- The law MbrTells. -/
namespace Go.Proofs.YtcclhhjcejmepaaGreat
open Go.RowKit Fld
set_option linter.unusedVariables false
set_option linter.unusedSimpArgs false

set_option maxRecDepth 100000 in
set_option maxHeartbeats 8000000 in
theorem ltells10_any (n k d:Int) (um ta tb:Value) (A As Bs:List GF) (bs t:Nat) (tu:Bool) (w:World) (hnb:I64 n∧I64 k∧I64 d) (hm:GRd w um A) (ha:GRd w ta As) (hb:GRd w tb Bs) (hbs:bs < 18446744073709551616) (ht:t < 256) :
  Calls Tryz.prog 6 #[.int .i64 n,.int .i64 k,.int .i64 d,um,.int .u64 bs,.bool tu,ta,tb,.int .u8 t] w fun e w'=>e=.returned (.bool true)∧Below w.heap.size w w':=by
 have HW:=Lib.hid (fun W=>works10_any W)
 have HFN:=Lib.hid (fun W=>fnew_g W)
 have HNB:=Lib.hid hnb
 have HM:=Lib.hid hm
 obtain ⟨aa,ca,rfl,hca⟩:=ha.form
 obtain ⟨LA,hLA⟩:∃ LA,As.length=LA:=⟨_,rfl⟩
 have HA:=Lib.hid ha
 have HBB:=Lib.hid hb
 have HLA:=Lib.hid hLA
 have HBS:=Lib.hid hbs
 rw [hLA] at HA ⊢
 obtain ⟨S,hS⟩:∃ S,t % 4=S:=⟨_,rfl⟩
 have hS4:S < 4:=by rw [← hS];exact Nat.mod_lt _ (by omega)
 have z1:(t:Int) % 4=(S:Int):=by omega
 clear hnb hm ha hb hbs hLA hca hS
 go_enter Tryz.func6,Tryz.ntmps6
 go_wp2_with fail
 refine (few10_any n k d w).mono ?_
 rintro e w' ⟨b,rfl,rfl,hb⟩
 have HBW:Hid (Below w.heap.size w w):=Lib.hid (Below.refl _ _)
 cases b
 ·clear hb
  go_wp2_with fail
  refine (HW.out _).mono ?_
  rintro e w20 ⟨rfl,hb20⟩
  have HB20:Hid (Below w.heap.size w w20):=Lib.hid (HBW.out.trans (hb20.mono HBW.out.size))
  clear hb20
  go_wp2
  go_ret
  exact ⟨rfl,HB20.out⟩
 have h9:=Lib.hid (hb.1 rfl)
 clear hb
 by_cases h4:6 < LA
 ·have h4':(6:Int) < (LA:Int):=by omega
  go_wp2_with fail
  refine (HW.out _).mono ?_
  rintro e w20 ⟨rfl,hb20⟩
  have HB20:Hid (Below w.heap.size w w20):=Lib.hid (HBW.out.trans (hb20.mono HBW.out.size))
  clear hb20
  go_wp2
  go_ret
  exact ⟨rfl,HB20.out⟩
 have h4':¬ (6:Int) < (LA:Int):=by omega
 clear HBW
 go_wp2_with fail
 refine (HFN.out _).mono ?_
 rintro e w1 ⟨fb,rfl,hfb0,hf1,hb1⟩
 have HFO:=Lib.hid hf1
 have HB0:=Lib.hid hb1
 have HFB:=Lib.hid hfb0
 have hs1:=hf1.lt
 clear hf1 hb1 hfb0
 go_wp2_with fail
 refine (mbnew_any fb n k d w1 HFO.out HNB.out.1 HNB.out.2.1 HNB.out.2.2).mono ?_
 rintro e w2 ⟨hk2,hf2,hcase⟩
 have HB2:Hid (Below w.heap.size w w2):=Lib.hid (HB0.out.trans (hk2.below HB0.out.size (by have:=HFB.out;simp;omega)))
 have HF2:=Lib.hid hf2
 have hfl2:=hf2.lt
 have hs2:=HB2.out.size
 clear hk2 hf2 HFO HB0
 rcases hcase with ⟨N,K,D,rfl,rfl,rfl,hNK,lb,t1,t2,pb,cv,cv2,rfl,hlb,hc2⟩ | ⟨hno,rfl⟩
 case inr =>
  have HBW:=HB2
  clear hno
  go_wp2_with fail
  refine (HW.out _).mono ?_
  rintro e w20 ⟨rfl,hb20⟩
  have HB20:Hid (Below w.heap.size w w20):=Lib.hid (HBW.out.trans (hb20.mono HBW.out.size))
  clear hb20
  go_wp2
  go_ret
  exact ⟨rfl,HB20.out⟩
 have HC2:=Lib.hid hc2
 have HNK:=Lib.hid hNK
 have hN9:N≤9:=by have:=h9.out;omega
 have hKD:1≤K∧K≤D∧D < N:=by omega
 clear hc2 hNK h9 hlb
 have HTB:=Lib.hid (mbb_any w2 lb K D (cell_of_heap HC2.out.box (j:=2) rfl) (cell_of_heap HC2.out.box (j:=3) rfl) (lt_of_heap HC2.out.box) (by omega))
 obtain ⟨BN,hBN⟩:∃ BN,mbB K D=BN:=⟨_,rfl⟩
 rw [hBN] at HTB
 have hBL:BN≤81:=by rw [← hBN];exact mbB_le (by omega) (by omega)
 have HBN:=Lib.hid hBN
 clear hBN
 go_wp2_with fail
 refine HTB.out.mono ?_
 rintro e w3 ⟨rfl,hb3⟩
 have HC3:=Lib.hid (HC2.out.below hb3)
 have HB3:Hid (Below w.heap.size w w3):=Lib.hid (HB2.out.trans (hb3.mono HB2.out.size))
 have hs3:=hb3.size
 clear hb3 HC2 HTB
 go_wp2_with fail
 refine (kfull_any _ A BN w3 (HM.out.below HB3.out) (by omega)).mono ?_
 rintro e w4 ⟨gm,rfl,hgm,hvm,hrm,hb4⟩
 have HC4:=Lib.hid (HC3.out.below hb4)
 have HB4:Hid (Below w.heap.size w w4):=Lib.hid (HB3.out.trans (hb4.mono HB3.out.size))
 obtain ⟨M,hM⟩:∃ M,fullG A BN=M:=⟨_,rfl⟩
 have hml:M.length=BN:=by rw [← hM,fullG_len]
 rw [hM] at hrm
 have HM4:=Lib.hid hrm
 have HML:Hid (M.length=mbB K D):=Lib.hid (by rw [hml,HBN.out])
 have hs4:=hb4.size
 have hgl:=hvm.1
 have HENC:=Lib.hid (mbenc_any w4 lb t1 t2 fb pb N K D cv cv2 _ M HC4.out HNK.out HM4.out (by omega) (fun k hk hm=>by simp [Value.ownBlock] at hk hm;omega))
 clear hvm hrm hb4 HC3 HM hM hml
 go_wp2_with fail
 refine HENC.out.mono ?_
 rintro e w5 (⟨hne,-⟩ | ⟨-,hk5,hf5,v5,S5,rfl,hsh⟩)
 ·exact absurd HML.out hne
 have HC5:=Lib.hid (HC4.out.step hk5 hf5)
 have HF5:=Lib.hid hf5
 have HM5:=Lib.hid (HM4.out.kp hk5 (fun k hk hm=>by simp [Value.ownBlock] at hk hm;omega))
 have HB5:Hid (Below w.heap.size w w5):=Lib.hid (HB4.out.trans (hk5.below HB4.out.size (by have:=HFB.out;simp;omega)))
 have hs5:=hk5.size
 have hsl:S5.length=N:=by have:=congrArg List.length hsh.eq;rw [mbSh_len] at this;simpa using this
 have hsd:=hsh.eq
 have HTO:=Lib.hid (told_any v5 S5 bs S tu _ tb As Bs w5 hsh.all (by omega) (fun s hs=>by
  have:s.d ∈ S5.map Ro.d:=List.mem_map.2 ⟨s,hs,rfl⟩
  rw [hsd] at this
  obtain ⟨x,-,hx⟩:=List.mem_map.1 this
  rw [← hx,mShare_len]
  omega) HBS.out (HA.out.below HB5.out) (HBB.out.below HB5.out) (by omega))
 unfold ToldPost at HTO
 rw [hsd,hsl] at HTO
 obtain ⟨a5,c5,e5⟩:=hsh.all.rd.form
 rw [hsl] at e5
 subst e5
 clear hk5 hf5 hsh hsl hsd HC4 HM4 HENC
 go_wp2_with fail
 refine HTO.out.mono ?_
 rintro e w6 ⟨tv,ov,l,zs,rfl,hso,hzo,hb6,-,hti⟩
 have HTI:=Lib.hid hti
 have hdt:=mdec_told HML.out hti
 have HDT:=Lib.hid hdt
 have hll:l.length≤N:=by
  have h1:=hti.good
  rw [mbSh_len] at h1
  have h2:=h1.2.length_le_of_subset (l₂:=(List.range N).map fun (x:Nat)=>(x:Int)) (fun x hx=>by
   have:=h1.1 x hx
   exact List.mem_map.2 ⟨x.toNat,List.mem_range.2 (by omega),by omega⟩)
  simpa [Sy.nodes] using h2
 have HZL:Hid (zs.length≤1000000):=Lib.hid (by have:=hti.few;omega)
 have HC6:=Lib.hid (HC5.out.below hb6)
 have HB6:Hid (Below w.heap.size w w6):=Lib.hid (HB5.out.trans (hb6.mono HB5.out.size))
 have HM6:=Lib.hid (HM5.out.below hb6)
 have HSA:=Lib.hid (hso.apart (S:=[fb]) (by simp;omega))
 have HS6:=Lib.hid hso.all
 have HZ6:=Lib.hid (RdZ.of_own hzo)
 have hs6:=hb6.size
 obtain ⟨L,hL⟩:∃ L,l.length=L:=⟨_,rfl⟩
 have HL:=Lib.hid hL
 obtain ⟨av,vc,rfl⟩:=hso.all.rd.form
 rw [hL] at HSA HS6 hll ⊢
 have HDE:=Lib.hid (mbdec_any w6 lb t1 t2 fb pb N K D cv cv2 _ l (S:Int) HC6.out HNK.out (by omega) (pows_nodup (by omega)) HS6.out HSA.out (by rw [HL.out];omega) (by omega))
 unfold MbDecPost at HDE
 clear hso hzo hb6 hti hdt hL HTO HC5 HM5
 go_wp2_with fail
 refine HDE.out.mono ?_
 rintro e w7 ⟨hk7,hf7,hans⟩
 obtain ⟨c,m,zs',v1,v2,rfl,his,ho1,hz2⟩:=hans.is
 have HIS:=Lib.hid his
 have HB7:Hid (Below w.heap.size w w7):=Lib.hid (HB6.out.trans (hk7.below (by omega) (by have:=HFB.out;simp;omega)))
 have HM7:=Lib.hid (HM6.out.kp hk7 (fun k hk hm=>by simp [Value.ownBlock] at hk hm;omega))
 have HZ7:=Lib.hid (HZ6.out.kp hk7 (by simp;omega))
 have HV1:=Lib.hid ho1.rd
 have HV2:=Lib.hid hz2
 clear hk7 hf7 hans his ho1 hz2 HDE HC6 HM6 HS6 HZ6
 obtain ⟨S2,hS2⟩:∃ S2,2 * S=S2:=⟨_,rfl⟩
 obtain ⟨TS,hTS⟩:∃ TS,K+S2=TS:=⟨_,rfl⟩
 have x1:(2:Int) * (S:Int)=(S2:Int):=by omega
 have x2:IntKind.i64.wrap (S2:Int)=(S2:Int):=IntWalk.i64_in _ (by omega)
 have x3:(K:Int)+(S2:Int)=(TS:Int):=by omega
 have x4:IntKind.i64.wrap (TS:Int)=(TS:Int):=IntWalk.i64_in _ (by omega)
 have HTS:Hid (K+2 * S=TS):=Lib.hid (by omega)
 have HNN:Hid (K≤D∧N≤255):=Lib.hid (by omega)
 clear hS2 hTS hKD
 by_cases hfew:L < TS
 ·have hfew':(L:Int) < (TS:Int):=by omega
  obtain ⟨rfl,rfl,rfl⟩:=MbDecIs.one HNN.out.1 HNN.out.2 HIS.out (HDT.out.2 (by rw [HL.out,HTS.out];exact hfew))
  have HBW:=HB7
  go_wp2_with fail
  refine (HW.out _).mono ?_
  rintro e w20 ⟨rfl,hb20⟩
  have HB20:Hid (Below w.heap.size w w20):=Lib.hid (HBW.out.trans (hb20.mono HBW.out.size))
  clear hb20
  go_wp2
  go_ret
  exact ⟨rfl,HB20.out⟩
 have hfew':¬ (L:Int) < (TS:Int):=by omega
 obtain ⟨rfl,rfl,rfl⟩:=MbDecIs.one HNN.out.1 HNN.out.2 HIS.out (HDT.out.1 (by rw [HL.out,HTS.out];omega))
 clear HIS HDT
 go_wp2_with fail
 refine (same_g _ _ m m w7 HV1.out HM7.out).mono ?_
 rintro e w8 ⟨rfl,rfl⟩
 rw [decide_eq_true rfl]
 go_wp2_with fail
 refine (sameI_any _ _ zs' zs' w7 HV2.out.rd HZ7.out.rd HZL.out HZL.out).mono ?_
 rintro e w8 ⟨rfl,hb8⟩
 rw [decide_eq_true rfl]
 have HBW:Hid (Below w.heap.size w w8):=Lib.hid (HB7.out.trans (hb8.mono HB7.out.size))
 clear hb8
 go_wp2_with fail
 refine (HW.out _).mono ?_
 rintro e w20 ⟨rfl,hb20⟩
 have HB20:Hid (Below w.heap.size w w20):=Lib.hid (HBW.out.trans (hb20.mono HBW.out.size))
 clear hb20
 go_wp2
 go_ret
 exact ⟨rfl,HB20.out⟩
end Go.Proofs.YtcclhhjcejmepaaGreat
/- The law MbrTells, as the frame has its arguments. -/
namespace Go.Proofs.YtcclhhjcejmepaaGreat
open Go.RowKit
theorem law_mbtells (a0 a1 a2:Int) (u3:Value) (l3:List Nat) (a4:Int) (a5:Bool) (u6:Value) (l6:List Nat) (u7:Value) (l7:List Nat) (a8:Int) (w:World) (w0:(Lit.int .i64 a0).wf=true) (w1:(Lit.int .i64 a1).wf=true) (w2:(Lit.int .i64 a2).wf=true) (h3:BytesRd w u3 l3) (w4:(Lit.int .u64 a4).wf=true) (h6:BytesRd w u6 l6) (h7:BytesRd w u7 l7) (w8:(Lit.int .u8 a8).wf=true) :
  Calls Tryz.prog 6 #[.int .i64 a0,.int .i64 a1,.int .i64 a2,u3,.int .u64 a4,.bool a5,u6,u7,.int .u8 a8] w fun e w'=>e=.returned (.bool true)∧Below w.heap.size w w':=by
 obtain ⟨A,rfl,hA⟩:=h3.toG
 obtain ⟨bs,rfl,hbs⟩:=u64_wfS w4
 obtain ⟨B,rfl,hB⟩:=h6.toG
 obtain ⟨C,rfl,hC⟩:=h7.toG
 obtain ⟨t,rfl,ht⟩:=u8_natS w8
 exact ltells10_any a0 a1 a2 u3 u6 u7 A B C bs t a5 w ⟨i64_wf w0,i64_wf w1,i64_wf w2⟩ hA hB hC hbs ht
end Go.Proofs.YtcclhhjcejmepaaGreat
