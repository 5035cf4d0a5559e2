/-
  The law LocalTells.
-/
import Derived.Test.YtbiaoohodjoojaaGreatL12Enc
import Derived.Test.YtbiaoohodjoojaaGreatL12B
import Derived.Test.YtbiaoohodjoojaaGreatL12A
import Derived.Test.YtbiaoohodjoojaaGreatToldG
import Derived.Test.YtbiaoohodjoojaaGreatToldW
import Derived.Test.YtbiaoohodjoojaaGreatLocDG
import Derived.Test.YtbiaoohodjoojaaGreatKit
namespace Go.Proofs.YtbiaoohodjoojaaGreat
open Go.RowKit Fld
set_option linter.unusedVariables false
set_option linter.unusedSimpArgs false

theorem ldec_told {xs M:List GF} {D:List (List GF)} {n r d t:Nat} {l:List Sy} {zs:List Int} (hx:xs.length=n) (hM:M.length=d * r) (hDl:D.length=n) (hD:∀ i,i < n→D.getD i []=[ev (polyL r d M) (xs.getD i 0)]) (h:ToldIs D t l zs) :
  ((d * (r+1) - 1)+2 * t≤l.length→LDecIs xs n r d l (t:Int) 0 M zs)∧(l.length < (d * (r+1) - 1)+2 * t→LDecIs xs n r d l (t:Int) 70 [] []):=by
 subst hx
 have hw:=wr_told hDl hD h
 have hg:SyGood xs.length (-1) 1 l:=told_good hDl (fun i hi=>by rw [hD i hi];rfl) h (fun hm=>by
  have:=h.good.1 _ hm
  omega)
 refine ⟨fun hk=>.inr ⟨⟨by omega,hg⟩,.inr ⟨by omega,.inl ⟨rfl,⟨hM,?_⟩,hw.symm⟩⟩⟩,fun hk=>.inr ⟨⟨by omega,hg⟩,.inl ⟨by omega,rfl,rfl,rfl⟩⟩⟩
 rw [hw]
 exact h.few
theorem lrep_told {xs M:List GF} {D:List (List GF)} {n r d t j:Nat} {l:List Sy} {zs:List Int} {b:GF} {c:Int} (hr:0 < r) (hx:xs.length=n) (hn:xs.Nodup) (hM:M.length=d * r) (hDl:D.length=n) (hD:∀ i,i < n→D.getD i []=[ev (polyL r d M) (xs.getD i 0)]) (h:ToldIs D t l zs) (hk:(d * (r+1) - 1)+2 * t≤l.length) (hj:j < n) (hrp:LRepIs xs n r d (j:Int) l (t:Int) b c) :
  ((j:Int) ∈ Sy.nodes l→c=2)∧((j:Int) ∉ Sy.nodes l→c=0∧b=ev (polyL r d M) (xs.getD j 0)):=by
 subst hx
 have hw:=wr_told hDl hD h
 constructor
 ·intro hm
  have hng:¬ SyGood xs.length (j:Int) 1 l:=fun hg=>by
   obtain ⟨s,hs,e⟩:=List.mem_map.1 hm
   exact (hg.2 s hs).1 e
  rcases hrp with ⟨-,-,hc⟩ | ⟨⟨-,hg⟩,-⟩
  ·exact hc
  ·exact absurd hg hng
 ·intro hm
  have hg:SyGood xs.length (j:Int) 1 l:=told_good hDl (fun i hi=>by rw [hD i hi];rfl) h hm
  refine (rep_same (b':=ev (polyL r d M) (xs.getD j 0)) (c':=0) hr rfl hn hrp (.inr ⟨⟨by omega,hg⟩,.inr ⟨by omega,.inr ⟨by omega,.inr ⟨M,⟨hM,?_⟩,rfl,by rw [Int.toNat_natCast]⟩⟩⟩⟩)).symm
  rw [Int.toNat_natCast,hw]
  exact h.few
set_option maxRecDepth 100000 in
set_option maxHeartbeats 8000000 in
theorem ltells12_any (n k r:Int) (um ta tb:Value) (A As Bs:List GF) (bs t:Nat) (tu:Bool) (w:World) (hnb:I64 n∧I64 k∧I64 r) (hm:GRd w um A) (ha:GRd w ta As) (hb:GRd w tb Bs) (hbs:bs < 18446744073709551616) (ht:t < 256) :
  Calls Tryz.prog 8 #[.int .i64 n,.int .i64 k,.int .i64 r,um,.int .u64 bs,.bool tu,ta,tb,.int .u8 t] w fun e w'=>e=.returned (.bool true)∧Below w.heap.size w w':=by
 have HW:=Lib.hid (fun W=>works12_any W)
 have HFN:=Lib.hid (fun W=>fnew_g W)
 have HNB:=Lib.hid hnb
 have HM:=Lib.hid hm
 obtain ⟨aa,ca,rfl,hca⟩:=ha.form
 obtain ⟨LA,hLA⟩:∃ LA,As.length=LA:=⟨_,rfl⟩
 have HA:=Lib.hid ha
 have HBB:=Lib.hid hb
 have HLA:=Lib.hid hLA
 have HBS:=Lib.hid hbs
 rw [hLA] at HA ⊢
 obtain ⟨S,hS⟩:∃ S,t % 4=S:=⟨_,rfl⟩
 have hS4:S < 4:=by rw [← hS];exact Nat.mod_lt _ (by omega)
 have z1:(t:Int) % 4=(S:Int):=by omega
 clear hnb hm ha hb hbs hLA hca hS
 go_enter Tryz.func8,Tryz.ntmps8
 have HBW:Hid (Below w.heap.size w w):=Lib.hid (Below.refl _ _)
 by_cases h1:51 < n
 ·go_wp2_with fail
  refine (HW.out _).mono ?_
  rintro e w20 ⟨rfl,hb20⟩
  have HB20:Hid (Below w.heap.size w w20):=Lib.hid (HBW.out.trans (hb20.mono HBW.out.size))
  clear hb20
  go_wp2
  go_ret
  exact ⟨rfl,HB20.out⟩
 by_cases h2:51 < k
 ·go_wp2_with fail
  refine (HW.out _).mono ?_
  rintro e w20 ⟨rfl,hb20⟩
  have HB20:Hid (Below w.heap.size w w20):=Lib.hid (HBW.out.trans (hb20.mono HBW.out.size))
  clear hb20
  go_wp2
  go_ret
  exact ⟨rfl,HB20.out⟩
 by_cases h3:51 < r
 ·go_wp2_with fail
  refine (HW.out _).mono ?_
  rintro e w20 ⟨rfl,hb20⟩
  have HB20:Hid (Below w.heap.size w w20):=Lib.hid (HBW.out.trans (hb20.mono HBW.out.size))
  clear hb20
  go_wp2
  go_ret
  exact ⟨rfl,HB20.out⟩
 by_cases h4:6 < LA
 ·have h4':(6:Int) < (LA:Int):=by omega
  go_wp2_with fail
  refine (HW.out _).mono ?_
  rintro e w20 ⟨rfl,hb20⟩
  have HB20:Hid (Below w.heap.size w w20):=Lib.hid (HBW.out.trans (hb20.mono HBW.out.size))
  clear hb20
  go_wp2
  go_ret
  exact ⟨rfl,HB20.out⟩
 have h4':¬ (6:Int) < (LA:Int):=by omega
 clear HBW
 go_wp2_with fail
 refine (HFN.out _).mono ?_
 rintro e w1 ⟨fb,rfl,hfb0,hf1,hb1⟩
 have HFO:=Lib.hid hf1
 have HB0:=Lib.hid hb1
 have HFB:=Lib.hid hfb0
 have hs1:=hf1.lt
 clear hf1 hb1 hfb0
 go_wp2_with fail
 refine (lnew_any fb n k r w1 HFO.out HNB.out.1 HNB.out.2.1 HNB.out.2.2).mono ?_
 rintro e w2 ⟨hk2,hf2,hcase⟩
 have HB2:Hid (Below w.heap.size w w2):=Lib.hid (HB0.out.trans (hk2.below HB0.out.size (by have:=HFB.out;simp;omega)))
 have HF2:=Lib.hid hf2
 have hfl2:=hf2.lt
 have hs2:=HB2.out.size
 clear hk2 hf2 HFO HB0
 rcases hcase with ⟨N,K,R,rfl,rfl,rfl,hok,lb,cb,cv,xv,rfl,hlb,hc2⟩ | ⟨hno,rfl⟩
 case inr =>
  have HBW:=HB2
  clear hno
  go_wp2_with fail
  refine (HW.out _).mono ?_
  rintro e w20 ⟨rfl,hb20⟩
  have HB20:Hid (Below w.heap.size w w20):=Lib.hid (HBW.out.trans (hb20.mono HBW.out.size))
  clear hb20
  go_wp2
  go_ret
  exact ⟨rfl,HB20.out⟩
 have HC2:=Lib.hid hc2
 have HOK:=Lib.hid hok
 have HXL:=Lib.hid hok.len
 have HXN:=Lib.hid hok.nodup
 have hn1:=hok.n1
 have hk1:=hok.k1
 have hr1:=hok.r1
 have hle:=hok.le
 have htl:=hok.tells
 clear hc2 hok hlb
 go_wp2_with fail
 refine (kfull_any _ A K w2 (HM.out.below HB2.out) (by omega)).mono ?_
 rintro e w3 ⟨gm,rfl,hgm,-,hrm,hb3⟩
 have HC3:=Lib.hid (HC2.out.below hb3)
 have HB3:Hid (Below w.heap.size w w3):=Lib.hid (HB2.out.trans (hb3.mono HB2.out.size))
 have HM3:=Lib.hid hrm
 have hs3:=hb3.size
 clear hrm hb3 HC2 HM
 obtain ⟨M,hM⟩:∃ M,fullG A K=M:=⟨_,rfl⟩
 have hml:M.length=K:=by rw [← hM,fullG_len]
 rw [hM] at HM3
 have HENC:=Lib.hid (lencode_any w3 lb cb fb N K R cv xv _ _ M HC3.out HOK.out HXL.out HM3.out (.inr (fun k hk hm=>by simp [Value.ownBlock] at hk hm;omega)))
 have HML:=Lib.hid hml
 clear hM hml
 go_wp2_with fail
 refine HENC.out.mono ?_
 rintro e w4 ⟨hk4,hf4,⟨-,gu,rfl,hgu,hvu⟩ | ⟨hne,-⟩⟩
 case inr=>exact absurd HML.out hne
 obtain ⟨D,hD⟩:∃ D,K / R=D:=⟨_,rfl⟩
 obtain ⟨T,hT⟩:∃ T,K+K / R - 1=T:=⟨_,rfl⟩
 have hTd:D * (R+1) - 1=T:=by rw [← hD];omega
 have HMD:Hid (M.length=D * R):=Lib.hid (by rw [HML.out,← hD];exact (Nat.div_mul_cancel (Nat.dvd_of_mod_eq_zero HOK.out.kr)).symm)
 obtain ⟨xs,hxs⟩:∃ xs,cosL R (N / (R+1))=xs:=⟨_,rfl⟩
 rw [hD,hxs] at hvu
 have HC4:=Lib.hid (HC3.out.step hk4 hf4)
 rw [hxs] at HXL HXN HC4
 have HM4:=Lib.hid (HM3.out.kp hk4 (fun k hk hm=>by simp [Value.ownBlock] at hk hm;omega))
 have HU4:=Lib.hid hvu
 have HB4:Hid (Below w.heap.size w w4):=Lib.hid (HB3.out.trans (hk4.below (by omega) (by have:=HFB.out;simp;omega)))
 have hs4:=hk4.size
 have hgu4:=hvu.1
 have HDD:=Lib.hid hD
 have HXS:=Lib.hid hxs
 have HTT:=Lib.hid (And.intro hT hTd)
 clear hvu hk4 hf4 HC3 HM3 HENC hD hxs hT
 have hrw:=(HU4.out.rowF (Nat.le_refl _))
 have HROW:=Lib.hid (rows12_any _ _ w4 hrw (by rw [rowF_len];omega))
 clear hrw
 go_wp2_with fail
 refine HROW.out.mono ?_
 rintro e w5 ⟨rv,rl,rfl,hor,hb5,hrd,hre⟩
 have hra:RoAll w5 rv rl:=hor.all hre
 have hrl:rl.length=N:=by
  have:=congrArg List.length hrd
  simpa [rowF_len] using this
 have HB5:Hid (Below w.heap.size w w5):=Lib.hid (HB4.out.trans (hb5.mono HB4.out.size))
 have HTO:=Lib.hid (told_any rv rl bs S tu _ tb As Bs w5 hra (by omega) (fun s hs=>by
  have:s.d ∈ rl.map Ro.d:=List.mem_map.2 ⟨s,hs,rfl⟩
  rw [hrd] at this
  obtain ⟨x,-,hx⟩:=List.mem_map.1 this
  rw [← hx]
  exact (by simp)) HBS.out (HA.out.below HB5.out) (HBB.out.below HB5.out) (by omega))
 have HDI:Hid ((rl.map Ro.d).length=N∧∀ i,i < N→(rl.map Ro.d).getD i []=[ev (polyL R D M) (xs.getD i 0)]):=Lib.hid ⟨by rw [List.length_map,hrl],fun i hi=>by
  rw [hrd,List.getD_eq_getElem?_getD,List.getElem?_map,rowF,List.getElem?_map,List.getElem?_range hi]
  rfl⟩
 have HC5:=Lib.hid (HC4.out.below hb5)
 have HM5:=Lib.hid (HM4.out.below hb5)
 have HU5:=Lib.hid (HU4.out.below hb5)
 have hs5:=hb5.size
 clear hor hb5 hrd hre hra hrl HROW HC4 HM4 HU4
 go_wp2_with fail
 refine HTO.out.mono ?_
 rintro e w6 ⟨tv,ov,l,zs,rfl,hso,hzo,hb6,-,hti⟩
 have HTI:=Lib.hid hti
 have hdt:=ldec_told HXL.out HMD.out HDI.out.1 HDI.out.2 hti
 have HDT:=Lib.hid hdt
 have hll:l.length≤N:=by
  have h1:=hti.good
  rw [HDI.out.1] at h1
  have h2:=h1.2.length_le_of_subset (l₂:=(List.range N).map fun (x:Nat)=>(x:Int)) (fun x hx=>by
   have:=h1.1 x hx
   exact List.mem_map.2 ⟨x.toNat,List.mem_range.2 (by omega),by omega⟩)
  simpa [Sy.nodes] using h2
 have HZL:Hid (zs.length≤1000000):=Lib.hid (by have:=hti.few;omega)
 have HC6:=Lib.hid (HC5.out.below hb6)
 have HB6:Hid (Below w.heap.size w w6):=Lib.hid (HB5.out.trans (hb6.mono HB5.out.size))
 have HM6:=Lib.hid (HM5.out.below hb6)
 have HU6:=Lib.hid (HU5.out.below hb6)
 have HSA:=Lib.hid (hso.apart (S:=[fb]) (by simp;omega))
 have HS6:=Lib.hid hso.all
 have HZ6:=Lib.hid (RdZ.of_own hzo)
 have hs6:=hb6.size
 obtain ⟨L,hL⟩:∃ L,l.length=L:=⟨_,rfl⟩
 have HL:=Lib.hid hL
 obtain ⟨av,vc,rfl⟩:=hso.all.rd.form
 rw [hL] at HSA HS6 hll ⊢
 clear hso hzo hb6 hti hdt hL HTO HC5 HM5 HU5
 have hC6:=HC6.out
 rw [← HXS.out] at hC6
 have HDE:=Lib.hid (ldec_any w6 lb cb fb N K R cv xv _ _ l (S:Int) hC6 HOK.out HOK.out.len HOK.out.nodup HS6.out HSA.out (by rw [HL.out];omega) (by omega))
 unfold LDecPost at HDE
 rw [HXS.out,HDD.out] at HDE
 clear hC6
 go_wp2_with fail
 refine HDE.out.mono ?_
 rintro e w7 ⟨hk7,hf7,hans⟩
 obtain ⟨c,m,zs',v1,v2,rfl,his,ho1,hz2⟩:=hans.is
 have HIS:=Lib.hid his
 have HC7:=Lib.hid (HC6.out.step hk7 hf7)
 have HB7:Hid (Below w.heap.size w w7):=Lib.hid (HB6.out.trans (hk7.below (by omega) (by have:=HFB.out;simp;omega)))
 have HM7:=Lib.hid (HM6.out.kp hk7 (fun k hk hm=>by simp [Value.ownBlock] at hk hm;omega))
 have HU7:=Lib.hid (HU6.out.kp hk7 (by simp;omega))
 have HS7:=Lib.hid (SyAll.kp HS6.out hk7 HSA.out)
 have HZ7:=Lib.hid (HZ6.out.kp hk7 (by simp;omega))
 have HV1:=Lib.hid ho1.rd
 have HV2:=Lib.hid hz2
 have HF7:=Lib.hid hf7
 have hs7:=hk7.size
 have HTL:=Lib.hid (ltells_any lb cb fb N K R _ cv xv _ w7 HC7.out)
 rw [HTT.out.1] at HTL
 have hTN:T≤N:=by have:=HTT.out.1;omega
 clear hk7 hf7 hans his ho1 hz2 HDE HC6 HM6 HU6 HS6 HZ6
 obtain ⟨S2,hS2⟩:∃ S2,2 * S=S2:=⟨_,rfl⟩
 obtain ⟨TS,hTS⟩:∃ TS,T+S2=TS:=⟨_,rfl⟩
 have x1:(2:Int) * (S:Int)=(S2:Int):=by omega
 have x2:IntKind.i64.wrap (S2:Int)=(S2:Int):=IntWalk.i64_in _ (by omega)
 have x3:(T:Int)+(S2:Int)=(TS:Int):=by omega
 have x4:IntKind.i64.wrap (TS:Int)=(TS:Int):=IntWalk.i64_in _ (by omega)
 have HTS:Hid (D * (R+1) - 1+2 * S=TS):=Lib.hid (by omega)
 by_cases hfew:L < TS
 ·have hfew':(L:Int) < (TS:Int):=by omega
  obtain ⟨rfl,rfl,rfl⟩:=LDecIs.one (by omega) HXL.out HXN.out HIS.out (HDT.out.2 (by rw [HL.out,HTS.out];exact hfew))
  clear hTd htl hS2 hTS
  go_wp2_with fail
  refine HTL.out.mono ?_
  rintro e w7' ⟨rfl,rfl⟩
  have HBW:=HB7
  go_wp2_with fail
  refine (HW.out _).mono ?_
  rintro e w20 ⟨rfl,hb20⟩
  have HB20:Hid (Below w.heap.size w w20):=Lib.hid (HBW.out.trans (hb20.mono HBW.out.size))
  clear hb20
  go_wp2
  go_ret
  exact ⟨rfl,HB20.out⟩
 have hfew':¬ (L:Int) < (TS:Int):=by omega
 have HMANY:Hid (D * (R+1) - 1+2 * S≤l.length):=Lib.hid (by rw [HL.out,HTS.out];omega)
 obtain ⟨rfl,rfl,rfl⟩:=LDecIs.one (by omega) HXL.out HXN.out HIS.out (HDT.out.1 HMANY.out)
 clear hTd htl hS2 hTS HIS HDT
 go_wp2_with fail
 refine HTL.out.mono ?_
 rintro e w7' ⟨rfl,rfl⟩
 go_wp2_with fail
 refine (same_g _ _ m m w7 HV1.out HM7.out).mono ?_
 rintro e w8 ⟨rfl,rfl⟩
 rw [decide_eq_true rfl]
 go_wp2_with fail
 refine (sameI_any _ _ zs' zs' w7 HV2.out.rd HZ7.out.rd HZL.out HZL.out).mono ?_
 rintro e w8 ⟨rfl,hb8⟩
 rw [decide_eq_true rfl]
 have HC8:=Lib.hid (HC7.out.below hb8)
 have HB8:Hid (Below w.heap.size w w8):=Lib.hid (HB7.out.trans (hb8.mono HB7.out.size))
 have HU8:=Lib.hid (HU7.out.below hb8)
 have HS8:=Lib.hid (HS7.out.below hb8)
 have HF8:=Lib.hid (HF7.out.below hb8)
 have hs8:=hb8.size
 clear hb8 HC7 HM7 HU7 HS7 HZ7 HV1 HV2 HF7 HTL x1 x2 x3 x4 z1
 go_wp2
 go_loopg [30] N (fun gk p wr=>∃ J:Nat,J≤N∧gk=N - J∧p=.int .i64 J∧Hid (Kp [fb] w8 wr)∧Hid (FOk wr fb))
 case atStart=>exact ⟨0,by omega,rfl,rfl,Lib.hid (Kp.refl _ _),HF8⟩
 case round =>
  obtain ⟨J,hJ,rfl,rfl,HKR,HFR⟩:=hrel
  have hsr:=HKR.out.size
  by_cases hlt:J < N
  ·have hCR:=HC8.out.step HKR.out HFR.out
   rw [← HXS.out] at hCR
   have HSR:=Lib.hid (SyAll.kp HS8.out HKR.out HSA.out)
   have HRE:=Lib.hid (lrep_any wr lb cb fb N K R cv xv _ _ l (J:Int) (S:Int) hCR HOK.out HOK.out.len HOK.out.nodup HSR.out HSA.out (by rw [HL.out];omega) (by omega))
   unfold LRepPost at HRE
   rw [HXS.out,HDD.out] at HRE
   clear hCR
   go_wp2_with fail
   refine HRE.out.mono ?_
   rintro e w9 ⟨hk9,hf9,b,c,rfl,hrp⟩
   have HRT:=Lib.hid (lrep_told (by omega) HXL.out HXN.out HMD.out HDI.out.1 HDI.out.2 HTI.out HMANY.out hlt hrp)
   have HK9:=Lib.hid (HKR.out.trans hk9)
   have HF9:=Lib.hid hf9
   have HS9:=Lib.hid (SyAll.kp HSR.out hk9 HSA.out)
   have cu:=((HU8.out.kp HK9.out (by simp;omega)).2 J hlt).1
   have HUJ:Hid ((fun i=>ev (polyL R D m) (xs.getD i 0)) J=ev (polyL R D m) (xs.getD J 0)):=Lib.hid rfl
   obtain ⟨un,hun⟩:∃ un,(ev (polyL R D m) (xs.getD J 0)).n=un:=⟨_,rfl⟩
   rw [HUJ.out,hun] at cu
   obtain ⟨bn,hbn⟩:∃ bn,b.n=bn:=⟨_,rfl⟩
   rw [hbn]
   have HUN:=Lib.hid (And.intro hun hbn)
   have hs9:=hk9.size
   clear hk9 hf9 hrp HRE HKR HFR HSR hun hbn
   go_wp2
   go_loopg [33,34] L (fun gk p i wr=>∃ (I:Nat) (q:Bool),I≤L∧gk=L - I∧p=.bool q∧i=.int .i64 I∧Hid (q=true↔(J:Int) ∈ (Sy.nodes l).take I)∧wr=w9)
   case atStart=>exact ⟨0,false,by omega,rfl,rfl,rfl,Lib.hid (by simp),rfl⟩
   case round =>
    obtain ⟨I,q,hI,rfl,rfl,rfl,HQ,rfl⟩:=hrel
    by_cases hltI:I < L
    ·obtain ⟨s,hs⟩:∃ s,l[I]? = some s:=⟨_,List.getElem?_eq_getElem (by rw [HL.out];exact hltI)⟩
     obtain ⟨-,-,bv,o,rfl,hbv,hat⟩:=SRd.at HS9.out.rd hs
     have d0:wr.cell? ⟨bv,o+I * 2,none⟩=some (.int .i64 s.node):=hat 0 _ rfl
     have hni:(Sy.nodes l)[I]? = some s.node:=by rw [Sy.nodes,List.getElem?_map,hs];rfl
     have hiff:(J:Int) ∈ (Sy.nodes l).take (I+1)↔(J:Int) ∈ (Sy.nodes l).take I ∨ (J:Int)=s.node:=by
      rw [List.take_add_one,hni,List.mem_append]
      simp
     have HIFF:=Lib.hid hiff
     obtain ⟨x,hx⟩:∃ x,s.node=x:=⟨_,rfl⟩
     rw [hx] at d0 HIFF
     have i1:(0:Int)≤(I:Int)∧(I:Int) < (L:Int):=by omega
     clear hs hat hni hiff hx
     cases q
     ·by_cases hxj:x=(J:Int)
      ·subst hxj
       have HQ2:Hid (true=true↔(J:Int) ∈ (Sy.nodes l).take (I+1)):=Lib.hid ⟨fun _=>HIFF.out.2 (.inr rfl),fun _=>rfl⟩
       go_wp2
       go_roundg (L - (I+1))
       case measure=>omega
       case rel=>exact ⟨I+1,true,by omega,rfl,by go_num,by go_num,Lib.hid (by simpa using HQ2.out),rfl⟩
      ·have HQ2:Hid (false=true↔(J:Int) ∈ (Sy.nodes l).take (I+1)):=Lib.hid ⟨(fun h=>by cases h),fun h=>by
        rcases HIFF.out.1 h with h | h
        ·exact HQ.out.2 h
        ·exact absurd h.symm hxj⟩
       go_wp2
       go_roundg (L - (I+1))
       case measure=>omega
       case rel=>exact ⟨I+1,false,by omega,rfl,by go_num,by go_num,HQ2,rfl⟩
     ·have HQ2:Hid (true=true↔(J:Int) ∈ (Sy.nodes l).take (I+1)):=Lib.hid ⟨fun _=>HIFF.out.2 (.inl (HQ.out.1 (by trivial))),fun _=>rfl⟩
      go_wp2
      go_roundg (L - (I+1))
      case measure=>omega
      case rel=>exact ⟨I+1,true,by omega,rfl,by go_num,by go_num,Lib.hid (by simpa using HQ2.out),rfl⟩
    ·obtain rfl:I=L:=by omega
     have hq:q=true↔(J:Int) ∈ Sy.nodes l:=by
      have:=HQ.out
      rwa [List.take_of_length_le (by rw [nodes_len',HL.out];exact Nat.le_refl _)] at this
     cases q
     ·obtain ⟨rfl,hbe⟩:=HRT.out.2 (fun h=>by have:=hq.2 h;cases this)
      obtain rfl:bn=un:=by rw [← HUN.out.1,← HUN.out.2,hbe]
      clear hq hbe
      have i2:(0:Int)≤(J:Int)∧(J:Int) < (N:Int):=by omega
      go_wp2
      go_roundg (N - (J+1))
      case measure=>omega
      case rel=>exact ⟨J+1,by omega,rfl,by go_num,HK9,HF9⟩
     ·obtain rfl:=HRT.out.1 (hq.1 rfl)
      clear hq
      go_wp2
      go_roundg (N - (J+1))
      case measure=>omega
      case rel=>exact ⟨J+1,by omega,rfl,by go_num,HK9,HF9⟩
  ·obtain rfl:J=N:=by omega
   have HBW:Hid (Below w.heap.size w wr):=Lib.hid (HB8.out.trans (HKR.out.below (by omega) (by have:=HFB.out;simp;omega)))
   go_wp2_with fail
   refine (HW.out _).mono ?_
   rintro e w20 ⟨rfl,hb20⟩
   have HB20:Hid (Below w.heap.size w w20):=Lib.hid (HBW.out.trans (hb20.mono HBW.out.size))
   clear hb20
   go_wp2
   go_ret
   exact ⟨rfl,HB20.out⟩
end Go.Proofs.YtbiaoohodjoojaaGreat
