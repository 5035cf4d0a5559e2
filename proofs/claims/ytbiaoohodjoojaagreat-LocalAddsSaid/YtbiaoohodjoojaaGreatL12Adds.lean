/-
  The law LocalAdds.
-/
import Derived.Test.YtbiaoohodjoojaaGreatL12Enc
import Derived.Test.YtbiaoohodjoojaaGreatApartP
namespace Go.Proofs.YtbiaoohodjoojaaGreat
open Go.RowKit Fld
set_option linter.unusedVariables false
set_option linter.unusedSimpArgs false

theorem polyL_add (A B:List GF) (r d K:Nat) (x:GF):ev (polyL r d (sumG A B K)) x=ev (polyL r d (fullG A K)) x+ev (polyL r d (fullG B K)) x:=by
 unfold polyL
 refine ev_rowF_add (fun i hi=>?_) x
 unfold pF
 split
 ·exact sumG_all A B K _
 ·exact (addz _).symm
set_option maxRecDepth 100000 in
set_option maxHeartbeats 8000000 in
theorem ladds12_any (n k r:Int) (ua ub:Value) (A B:List GF) (w:World) (hnb:I64 n∧I64 k∧I64 r) (ha:GRd w ua A) (hb:GRd w ub B) :
  Calls Tryz.prog 6 #[.int .i64 n,.int .i64 k,.int .i64 r,ua,ub] w fun e w'=>e=.returned (.bool true)∧Below w.heap.size w w':=by
 have HW:=Lib.hid (fun W=>works12_any W)
 have HFN:=Lib.hid (fun W=>fnew_g W)
 have HNB:=Lib.hid hnb
 have HA:=Lib.hid ha
 have HB:=Lib.hid hb
 clear hnb ha hb
 go_enter Tryz.func6,Tryz.ntmps6
 have HBW:Hid (Below w.heap.size w w):=Lib.hid (Below.refl _ _)
 by_cases h1:51 < n
 ·go_wp2_with fail
  refine (HW.out _).mono ?_
  rintro e w20 ⟨rfl,hb20⟩
  have HB20:Hid (Below w.heap.size w w20):=Lib.hid (HBW.out.trans (hb20.mono HBW.out.size))
  clear hb20
  go_wp2
  go_ret
  exact ⟨rfl,HB20.out⟩
 by_cases h2:51 < k
 ·go_wp2_with fail
  refine (HW.out _).mono ?_
  rintro e w20 ⟨rfl,hb20⟩
  have HB20:Hid (Below w.heap.size w w20):=Lib.hid (HBW.out.trans (hb20.mono HBW.out.size))
  clear hb20
  go_wp2
  go_ret
  exact ⟨rfl,HB20.out⟩
 by_cases h3:51 < r
 ·go_wp2_with fail
  refine (HW.out _).mono ?_
  rintro e w20 ⟨rfl,hb20⟩
  have HB20:Hid (Below w.heap.size w w20):=Lib.hid (HBW.out.trans (hb20.mono HBW.out.size))
  clear hb20
  go_wp2
  go_ret
  exact ⟨rfl,HB20.out⟩
 clear HBW
 go_wp2_with fail
 refine (HFN.out _).mono ?_
 rintro e w1 ⟨fb,rfl,hfb0,hf1,hb1⟩
 have HFO:=Lib.hid hf1
 have HB0:=Lib.hid hb1
 have HFB:=Lib.hid hfb0
 have hs1:=hf1.lt
 clear hf1 hb1 hfb0
 go_wp2_with fail
 refine (lnew_any fb n k r w1 HFO.out HNB.out.1 HNB.out.2.1 HNB.out.2.2).mono ?_
 rintro e w2 ⟨hk2,hf2,hcase⟩
 have HB2:Hid (Below w.heap.size w w2):=Lib.hid (HB0.out.trans (hk2.below HB0.out.size (by have:=HFB.out;simp;omega)))
 have HF2:=Lib.hid hf2
 have hfl2:=hf2.lt
 have hs2:=HB2.out.size
 clear hk2 hf2 HFO HB0
 rcases hcase with ⟨N,K,R,rfl,rfl,rfl,hok,lb,cb,cv,xv,rfl,hlb,hc2⟩ | ⟨hno,rfl⟩
 case inr =>
  have HBW:=HB2
  clear hno
  go_wp2_with fail
  refine (HW.out _).mono ?_
  rintro e w20 ⟨rfl,hb20⟩
  have HB20:Hid (Below w.heap.size w w20):=Lib.hid (HBW.out.trans (hb20.mono HBW.out.size))
  clear hb20
  go_wp2
  go_ret
  exact ⟨rfl,HB20.out⟩
 have HC2:=Lib.hid hc2
 have HOK:=Lib.hid hok
 have HXL:=Lib.hid hok.len
 have HXN:=Lib.hid hok.nodup
 have hn1:=hok.n1
 have hk1:=hok.k1
 have hle:=hok.le
 clear hc2 hok hlb
 go_wp2_with fail
 refine (kfull_any _ A K w2 (HA.out.below HB2.out) (by omega)).mono ?_
 rintro e w3 ⟨gx,rfl,hgx,hvx,hrx,hb3⟩
 have HC3:=Lib.hid (HC2.out.below hb3)
 have HB3:Hid (Below w.heap.size w w3):=Lib.hid (HB2.out.trans (hb3.mono HB2.out.size))
 have HX3:=Lib.hid hvx
 have HRX3:=Lib.hid hrx
 have hs3:=hb3.size
 have hgx3:=hvx.1
 clear hvx hrx hb3 HC2
 go_wp2_with fail
 refine (kfull_any _ B K w3 (HB.out.below HB3.out) (by omega)).mono ?_
 rintro e w5 ⟨gy,rfl,hgy,hvy,hry,hb5⟩
 have HC5:=Lib.hid (HC3.out.below hb5)
 have HB5:Hid (Below w.heap.size w w5):=Lib.hid (HB3.out.trans (hb5.mono HB3.out.size))
 have HX5:=Lib.hid (HX3.out.below hb5)
 have HRX5:=Lib.hid (HRX3.out.below hb5)
 have HY5:=Lib.hid hvy
 have HRY5:=Lib.hid hry
 have hs5:=hb5.size
 have hgy5:=hvy.1
 clear hvy hry hb5 HC3 HX3 HRX3 HA HB
 go_wp2
 go_loopg [15,16] K (fun gk l i wr=>∃ (V:Value) (I:Nat),V=l∧I≤K∧gk=K - I∧i=.int .i64 I∧Hid (OwnG wr w5.heap.size V (sumG A B I))∧Hid (Below w5.heap.size w5 wr))
 case atStart=>exact ⟨_,0,rfl,by omega,rfl,rfl,Lib.hid (OwnG.nil _ _),Lib.hid (Below.refl _ _)⟩
 case round =>
  obtain ⟨V,I,rfl,hI,rfl,rfl,HO,HBR⟩:=hrel
  have hsr:=HBR.out.size
  by_cases hlt:I < K
  ·have hxr:=(HX5.out.below HBR.out).2 I hlt
   have hyr:=(HY5.out.below HBR.out).2 I hlt
   have c1:=hxr.1
   have c2:=hyr.1
   obtain ⟨x,hx⟩:∃ x,A.getD I 0=x:=⟨_,rfl⟩
   obtain ⟨y,hy⟩:∃ y,B.getD I 0=y:=⟨_,rfl⟩
   simp only [hx] at c1
   simp only [hy] at c2
   have HXY:=Lib.hid (And.intro hx hy)
   have HADD:=Lib.hid (fun W=>gadd_any x y W)
   obtain ⟨xn,hxn⟩:∃ xn,x.n=xn:=⟨_,rfl⟩
   obtain ⟨yn,hyn⟩:∃ yn,y.n=yn:=⟨_,rfl⟩
   obtain ⟨s,hs⟩:∃ s,(x+y).n=s:=⟨_,rfl⟩
   rw [hxn] at c1 HADD
   rw [hyn] at c2 HADD
   rw [hs] at HADD
   have HS:=Lib.hid hs
   clear hxr hyr hx hy hxn hyn hs
   obtain ⟨v1,w6,hap,ho6,-,hb6,-⟩:=app_byte (W:=wr.drew) (x+y) HO.out (by rw [sumG_len];omega) (by exact hsr) HS.out (ad:=wr.heap.size) rfl
   have HO6:Hid (OwnG w6 w5.heap.size v1 (sumG A B (I+1))):=Lib.hid (by rw [sumG_succ,HXY.out.1,HXY.out.2];exact ho6)
   have HB6:=Lib.hid (((Below.refl w5.heap.size wr).drew).trans hb6)
   have HBR6:=Lib.hid (HBR.out.trans HB6.out)
   obtain ⟨kp,hkp⟩:∃ kp:Nat→Bool,∀ j,kp j=true↔j < w5.heap.size:=⟨fun j=>decide (j < w5.heap.size),by simp⟩
   have hkx:kp gx=true:=(hkp _).2 (by omega)
   have hky:kp gy=true:=(hkp _).2 (by omega)
   have HKP:=Lib.hid hkp
   clear hkp ho6 hb6
   go_upto_region 11 with fail
   have hgr:=fun (w0 W:World) (p:Addr) (hp:(fun j=>kp j=true) p.block)=>graft_cell (w0:=w0) (keep:=(fun j=>kp j=true)) W hp
   refine wp_region_tree (fun j=>kp j=true) [9,10,11] (.sq [0,1,2,3,4,5,6,7,8,9,10,11,12] .done) (by kernel_rfl) (by kernel_rfl) ?_
   simp only [Tr.sq,List.foldr_cons,List.foldr_nil,slimTr,slimStep,Oper.slim,List.contains_cons,List.contains_nil,Option.map_none,Option.map_some,List.getElem?_toArray,List.getElem?_cons_zero,List.getElem?_cons_succ,Option.bind_some,beq_self_eq_true,Bool.or_false,Nat.reduceBEq,Nat.reduceAdd,Nat.zero_add]
   repeat' first | ((with_reducible refine wpSlimT_id ?_);first | (with_reducible refine wpSlimT_done ?_) | (refine wpSlimT_append _ _ _ rfl rfl rfl rfl rfl hap (fun kk hkk=>HB6.out.block kk ((HKP.out kk).1 hkk)) ?_) | ((with_reducible refine wpSlimT_step (fun K hK=>?_));go_simp;first | (refine hK _ _ ?_;clear hK K) | (refine ⟨by (intro kk hkk;first | (simp (disch:=(simp;omega)) only [hp_drew,hp_drewN,hp_alloc,hp_set];done) | (simp [hp_drew,hp_drewN,hp_alloc_if,hkk];done) | (have hkk2:=(HKP.out kk).1 hkk;simp (disch:=(simp;omega)) only [hp_drew,hp_drewN,hp_alloc,hp_set];done)),hK _ _ ?_⟩;clear hK K) | (go_at_call 24;(with_reducible refine (HADD.out _).mono ?_);rintro e w7 ⟨rfl,rfl⟩;refine ⟨_,rfl,(fun kk hkk=>rfl),hK _ _ ?_⟩;clear hK K))) | fail
   clear hgr
   go_wp2
   go_roundg (K - (I+1))
   case measure=>omega
   case rel=>exact ⟨_,I+1,rfl,by omega,rfl,by go_num,HO6,HBR6⟩
  ·obtain rfl:I=K:=by omega
   obtain ⟨w6,rfl⟩:∃ w6:World,w6=wr:=⟨_,rfl⟩
   have HC6:=Lib.hid (HC5.out.below HBR.out)
   have HX6:=Lib.hid (HX5.out.below HBR.out)
   have HRX6:=Lib.hid (HRX5.out.below HBR.out)
   have HY6:=Lib.hid (HY5.out.below HBR.out)
   have HRY6:=Lib.hid (HRY5.out.below HBR.out)
   have HB6:Hid (Below w.heap.size w w6):=Lib.hid (HB5.out.trans (HBR.out.mono HB5.out.size))
   have hs6:=HBR.out.size
   have hVa:Apart V [fb]:=fun b hb hm=>by
    have:=HO.out.lt b hb
    simp at hm
    omega
   have HVA:=Lib.hid hVa
   clear HBR HC5 HX5 HRX5 HY5 HRY5 hVa
   have HENC:=Lib.hid (lencode_any w6 lb cb fb N I R cv xv _ _ (fullG A I) HC6.out HOK.out HXL.out HRX6.out (.inr (fun k hk hm=>by simp [Value.ownBlock] at hk hm;omega)))
   go_wp2_with fail
   refine HENC.out.mono ?_
   rintro e w8 ⟨hk4,hf4,⟨-,gu,rfl,hgu,hvu⟩ | ⟨hne,-⟩⟩
   case inr=>exact absurd (by first | exact fullG_len _ _ | exact sumG_len _ _ _) hne
   clear HENC
   have HC8:=Lib.hid (HC6.out.step hk4 hf4)
   have HX8:=Lib.hid (HX6.out.kp hk4 (by simp;omega))
   have HY8:=Lib.hid (HY6.out.kp hk4 (by simp;omega))
   have HRY8:=Lib.hid (HRY6.out.kp hk4 (fun k hk hm=>by simp [Value.ownBlock] at hk hm;omega))
   have HO8:=Lib.hid (HO.out.kp hk4 HVA.out)
   have HU8:=Lib.hid hvu
   have HB8:Hid (Below w.heap.size w w8):=Lib.hid (HB6.out.trans (hk4.below (by omega) (by have:=HFB.out;simp;omega)))
   have hs8:=hk4.size
   have hgu8:=hvu.1
   have hgu0:=hgu
   clear hvu hgu hk4 hf4 HC6 HX6 HY6 HRY6 HO HRX6
   have HENC:=Lib.hid (lencode_any w8 lb cb fb N I R cv xv _ _ (fullG B I) HC8.out HOK.out HXL.out HRY8.out (.inr (fun k hk hm=>by simp [Value.ownBlock] at hk hm;omega)))
   go_wp2_with fail
   refine HENC.out.mono ?_
   rintro e w9 ⟨hk4,hf4,⟨-,gq,rfl,hgu,hvu⟩ | ⟨hne,-⟩⟩
   case inr=>exact absurd (by first | exact fullG_len _ _ | exact sumG_len _ _ _) hne
   clear HENC
   have HC9:=Lib.hid (HC8.out.step hk4 hf4)
   have HX9:=Lib.hid (HX8.out.kp hk4 (by simp;omega))
   have HY9:=Lib.hid (HY8.out.kp hk4 (by simp;omega))
   have HO9:=Lib.hid (HO8.out.kp hk4 HVA.out)
   have HU9:=Lib.hid (HU8.out.kp hk4 (by simp;omega))
   have HV9:=Lib.hid hvu
   have HB9:Hid (Below w.heap.size w w9):=Lib.hid (HB8.out.trans (hk4.below (by omega) (by have:=HFB.out;simp;omega)))
   have hs9:=hk4.size
   have hgq9:=hvu.1
   have hgq0:=hgu
   clear hvu hgu hk4 hf4 HC8 HX8 HY8 HRY8 HO8 HU8
   have HENC:=Lib.hid (lencode_any w9 lb cb fb N I R cv xv V _ (sumG A B I) HC9.out HOK.out HXL.out HO9.out.rd (.inr HVA.out))
   go_wp2_with fail
   refine HENC.out.mono ?_
   rintro e w10 ⟨hk4,hf4,⟨-,gs,rfl,hgu,hvu⟩ | ⟨hne,-⟩⟩
   case inr=>exact absurd (by first | exact fullG_len _ _ | exact sumG_len _ _ _) hne
   clear HENC
   have HC10:=Lib.hid (HC9.out.step hk4 hf4)
   have HX10:=Lib.hid (HX9.out.kp hk4 (by simp;omega))
   have HY10:=Lib.hid (HY9.out.kp hk4 (by simp;omega))
   have HU10:=Lib.hid (HU9.out.kp hk4 (by simp;omega))
   have HV10:=Lib.hid (HV9.out.kp hk4 (by simp;omega))
   have HS10:=Lib.hid hvu
   have HB10:Hid (Below w.heap.size w w10):=Lib.hid (HB9.out.trans (hk4.below (by omega) (by have:=HFB.out;simp;omega)))
   have hs10:=hk4.size
   have hgs10:=hvu.1
   clear hvu hk4 hf4 HC9 HX9 HY9 HU9 HV9 HO9 HVA
   obtain ⟨T,hT⟩:∃ T,I+I / R - 1=T:=⟨_,rfl⟩
   have htl:=HOK.out.tells
   have hTd:I / R * (R+1) - 1=T:=by omega
   obtain ⟨xs,hxs⟩:∃ xs,cosL R (N / (R+1))=xs:=⟨_,rfl⟩
   rw [hxs] at HXL HXN HU10 HV10 HS10 HC10
   obtain ⟨U,hU⟩:∃ U:Nat→GF,U=fun i=>ev (polyL R (I / R) (fullG A I)) (xs.getD i 0):=⟨_,rfl⟩
   obtain ⟨Z,hZ⟩:∃ Z:Nat→GF,Z=fun i=>ev (polyL R (I / R) (fullG B I)) (xs.getD i 0):=⟨_,rfl⟩
   obtain ⟨S,hS⟩:∃ S:Nat→GF,S=fun i=>ev (polyL R (I / R) (sumG A B I)) (xs.getD i 0):=⟨_,rfl⟩
   rw [← hU] at HU10
   rw [← hZ] at HV10
   rw [← hS] at HS10
   have HSUM:Hid (∀ i,S i=U i+Z i):=Lib.hid fun i=>by rw [hS,hU,hZ];exact polyL_add A B _ _ _ _
   have HFEW:Hid (fullG A I ≠ fullG B I→alikeN U Z N < T):=Lib.hid fun hne=>by
    refine Nat.lt_of_not_le fun hle=>hne ?_
    have hkr:I / R * R=I:=Nat.div_mul_cancel (Nat.dvd_of_mod_eq_zero HOK.out.kr)
    refine polyL_inj HOK.out.r1.1 (by rw [fullG_len,hkr]) (by rw [fullG_len,hkr]) (alike_few (xs:=xs) HXN.out (by rw [polyL_len,polyL_len]) ?_)
    rw [polyL_len,hTd,HXL.out]
    rw [hU,hZ] at hle
    exact hle
   have HTL:Hid (∀ W,Below w10.heap.size w10 W→Calls Tryz.prog 15 #[.pointer (some ⟨lb,0,none⟩)] W fun e w'=>e=.returned (.int .i64 (T:Nat))∧W=w'):=Lib.hid fun W hb=>by
    rw [← hT]
    exact ltells_any lb cb fb N I R _ cv xv _ W (HC10.out.below hb)
   have hTN:T≤N:=by omega
   clear hU hZ hS hxs hT htl hTd
   go_wp2
   go_loopg [23,24] N (fun gk al i wr=>∃ (J C:Nat),J≤N∧gk=N - J∧al=.int .i64 C∧C≤J∧i=.int .i64 J∧Hid (C=alikeN U Z J)∧Hid (Below w10.heap.size w10 wr))
   case atStart=>exact ⟨0,0,by omega,rfl,rfl,by omega,rfl,Lib.hid rfl,Lib.hid (Below.refl _ _)⟩
   case round =>
    obtain ⟨J,C,hJ,rfl,rfl,hCJ,rfl,HC,HBR⟩:=hrel
    have hsr:=HBR.out.size
    by_cases hlt2:J < N
    ·have c1:=((HU10.out.below HBR.out).2 J hlt2).1
     have c2:=((HV10.out.below HBR.out).2 J hlt2).1
     have c3:=((HS10.out.below HBR.out).2 J hlt2).1
     have hsu:=HSUM.out J
     have HNX:=Lib.hid (alikeN_succ U Z J)
     obtain ⟨x,hx⟩:∃ x,U J=x:=⟨_,rfl⟩
     obtain ⟨y,hy⟩:∃ y,Z J=y:=⟨_,rfl⟩
     rw [hx] at c1 hsu HNX
     rw [hy] at c2 hsu HNX
     rw [hsu] at c3
     have HADD:=Lib.hid (fun W=>gadd_any x y W)
     have hxy:x.n=y.n↔x=y:=⟨GF.ext',fun e=>by rw [e]⟩
     have HXY:=Lib.hid hxy
     obtain ⟨xn,hxn⟩:∃ xn,x.n=xn:=⟨_,rfl⟩
     obtain ⟨yn,hyn⟩:∃ yn,y.n=yn:=⟨_,rfl⟩
     obtain ⟨s,hs⟩:∃ s,(x+y).n=s:=⟨_,rfl⟩
     rw [hxn] at c1 HADD HXY
     rw [hyn] at c2 HADD HXY
     rw [hs] at c3 HADD
     obtain ⟨kp,hkp⟩:∃ kp:Nat→Bool,∀ j,kp j=true↔j < w10.heap.size:=⟨fun j=>decide (j < w10.heap.size),by simp⟩
     have hku:kp gu=true:=(hkp _).2 (by omega)
     have hkz:kp gq=true:=(hkp _).2 (by omega)
     have hks:kp gs=true:=(hkp _).2 (by omega)
     have HKP:=Lib.hid hkp
     have HBD:Hid (Below w10.heap.size w10 wr.drew.drew):=Lib.hid HBR.out.drew.drew
     clear hkp hxy hx hy hxn hyn hs hsu
     by_cases e:xn=yn
     ·subst e
      have HC2:Hid (C+1=alikeN U Z (J+1)):=Lib.hid (by rw [HNX.out,if_pos (HXY.out.1 rfl),HC.out])
      go_upto_region 21 with fail
      have hgr:=fun (w0 W:World) (p:Addr) (hp:(fun j=>kp j=true) p.block)=>graft_cell (w0:=w0) (keep:=(fun j=>kp j=true)) W hp
      refine wp_region_tree (fun j=>kp j=true) [] (.sq [0,1,2,3,4,5,6,7,8] .done) (by kernel_rfl) (by kernel_rfl) ?_
      simp only [Tr.sq,List.foldr_cons,List.foldr_nil,slimTr,slimStep,Oper.slim,List.contains_cons,List.contains_nil,Option.map_none,Option.map_some,List.getElem?_toArray,List.getElem?_cons_zero,List.getElem?_cons_succ,Option.bind_some,beq_self_eq_true,Bool.or_false,Nat.reduceBEq,Nat.reduceAdd,Nat.zero_add]
      repeat' first | ((with_reducible refine wpSlimT_id ?_);first | (with_reducible refine wpSlimT_done ?_) | (refine wpSlimT_append _ _ _ rfl rfl rfl rfl rfl hap (fun kk hkk=>HB6.out.block kk ((HKP.out kk).1 hkk)) ?_) | ((with_reducible refine wpSlimT_step (fun K hK=>?_));go_simp;(refine hK _ _ ?_;clear hK K))) | fail
      clear hgr
      go_upto_region 23 with fail
      have hgr:=fun (w0 W:World) (p:Addr) (hp:(fun j=>kp j=true) p.block)=>graft_cell (w0:=w0) (keep:=(fun j=>kp j=true)) W hp
      refine wp_region_tree (fun j=>kp j=true) [12] (.sq [0,1,2,3,4,5,6,7,8,9,10,11,12,13] .done) (by kernel_rfl) (by kernel_rfl) ?_
      simp only [Tr.sq,List.foldr_cons,List.foldr_nil,slimTr,slimStep,Oper.slim,List.contains_cons,List.contains_nil,Option.map_none,Option.map_some,List.getElem?_toArray,List.getElem?_cons_zero,List.getElem?_cons_succ,Option.bind_some,beq_self_eq_true,Bool.or_false,Nat.reduceBEq,Nat.reduceAdd,Nat.zero_add]
      repeat' first | ((with_reducible refine wpSlimT_id ?_);first | (with_reducible refine wpSlimT_done ?_) | (refine wpSlimT_append _ _ _ rfl rfl rfl rfl rfl hap (fun kk hkk=>HB6.out.block kk ((HKP.out kk).1 hkk)) ?_) | ((with_reducible refine wpSlimT_step (fun K hK=>?_));go_simp;first | (refine hK _ _ ?_;clear hK K) | (refine ⟨by (intro kk hkk;first | (simp (disch:=(simp;omega)) only [hp_drew,hp_drewN,hp_alloc,hp_set];done) | (simp [hp_drew,hp_drewN,hp_alloc_if,hkk];done) | (have hkk2:=(HKP.out kk).1 hkk;simp (disch:=(simp;omega)) only [hp_drew,hp_drewN,hp_alloc,hp_set];done)),hK _ _ ?_⟩;clear hK K) | (go_at_call 24;(with_reducible refine (HADD.out _).mono ?_);rintro e w7 ⟨rfl,rfl⟩;refine ⟨_,rfl,(fun kk hkk=>rfl),hK _ _ ?_⟩;clear hK K))) | fail
      clear hgr
      go_wp2
      go_roundg (N - (J+1))
      case measure=>omega
      case rel=>exact ⟨J+1,C+1,by omega,rfl,by go_num,by omega,by go_num,HC2,HBD⟩
     ·have hne:¬ (xn:Int)=(yn:Int):=by omega
      have HC2:Hid (C=alikeN U Z (J+1)):=Lib.hid (by rw [HNX.out,if_neg (fun h=>e (HXY.out.2 h)),HC.out])
      go_upto_region 21 with fail
      have hgr:=fun (w0 W:World) (p:Addr) (hp:(fun j=>kp j=true) p.block)=>graft_cell (w0:=w0) (keep:=(fun j=>kp j=true)) W hp
      refine wp_region_tree (fun j=>kp j=true) [] (.sq [0,1,2,3,4,5,6,7,8] .done) (by kernel_rfl) (by kernel_rfl) ?_
      simp only [Tr.sq,List.foldr_cons,List.foldr_nil,slimTr,slimStep,Oper.slim,List.contains_cons,List.contains_nil,Option.map_none,Option.map_some,List.getElem?_toArray,List.getElem?_cons_zero,List.getElem?_cons_succ,Option.bind_some,beq_self_eq_true,Bool.or_false,Nat.reduceBEq,Nat.reduceAdd,Nat.zero_add]
      repeat' first | ((with_reducible refine wpSlimT_id ?_);first | (with_reducible refine wpSlimT_done ?_) | (refine wpSlimT_append _ _ _ rfl rfl rfl rfl rfl hap (fun kk hkk=>HB6.out.block kk ((HKP.out kk).1 hkk)) ?_) | ((with_reducible refine wpSlimT_step (fun K hK=>?_));go_simp;(refine hK _ _ ?_;clear hK K))) | fail
      clear hgr
      go_upto_region 23 with fail
      have hgr:=fun (w0 W:World) (p:Addr) (hp:(fun j=>kp j=true) p.block)=>graft_cell (w0:=w0) (keep:=(fun j=>kp j=true)) W hp
      refine wp_region_tree (fun j=>kp j=true) [12] (.sq [0,1,2,3,4,5,6,7,8,9,10,11,12,13] .done) (by kernel_rfl) (by kernel_rfl) ?_
      simp only [Tr.sq,List.foldr_cons,List.foldr_nil,slimTr,slimStep,Oper.slim,List.contains_cons,List.contains_nil,Option.map_none,Option.map_some,List.getElem?_toArray,List.getElem?_cons_zero,List.getElem?_cons_succ,Option.bind_some,beq_self_eq_true,Bool.or_false,Nat.reduceBEq,Nat.reduceAdd,Nat.zero_add]
      repeat' first | ((with_reducible refine wpSlimT_id ?_);first | (with_reducible refine wpSlimT_done ?_) | (refine wpSlimT_append _ _ _ rfl rfl rfl rfl rfl hap (fun kk hkk=>HB6.out.block kk ((HKP.out kk).1 hkk)) ?_) | ((with_reducible refine wpSlimT_step (fun K hK=>?_));go_simp;first | (refine hK _ _ ?_;clear hK K) | (refine ⟨by (intro kk hkk;first | (simp (disch:=(simp;omega)) only [hp_drew,hp_drewN,hp_alloc,hp_set];done) | (simp [hp_drew,hp_drewN,hp_alloc_if,hkk];done) | (have hkk2:=(HKP.out kk).1 hkk;simp (disch:=(simp;omega)) only [hp_drew,hp_drewN,hp_alloc,hp_set];done)),hK _ _ ?_⟩;clear hK K) | (go_at_call 24;(with_reducible refine (HADD.out _).mono ?_);rintro e w7 ⟨rfl,rfl⟩;refine ⟨_,rfl,(fun kk hkk=>rfl),hK _ _ ?_⟩;clear hK K))) | fail
      clear hgr
      go_wp2
      go_roundg (N - (J+1))
      case measure=>omega
      case rel=>exact ⟨J+1,C,by omega,rfl,rfl,by omega,by go_num,HC2,HBD⟩
    ·obtain rfl:J=N:=by omega
     have HSAME:=Lib.hid (same_g _ _ _ _ wr (HX10.out.below HBR.out).full (HY10.out.below HBR.out).full)
     have HTLR:=Lib.hid (HTL.out wr HBR.out)
     have HBW:Hid (Below w.heap.size w wr):=Lib.hid (HB10.out.trans (HBR.out.mono HB10.out.size))
     by_cases hxy:fullG A I=fullG B I
     ·rw [decide_eq_true hxy] at HSAME
      clear hxy
      go_wp2_with fail
      refine HSAME.out.mono ?_
      rintro e w11 ⟨rfl,rfl⟩
      go_wp2_with fail
      refine (HW.out _).mono ?_
      rintro e w20 ⟨rfl,hb20⟩
      have HB20:Hid (Below w.heap.size w w20):=Lib.hid (HBW.out.trans (hb20.mono HBW.out.size))
      clear hb20
      go_wp2
      go_ret
      exact ⟨rfl,HB20.out⟩
     ·have hfew:=HFEW.out hxy
      rw [← HC.out] at hfew
      rw [decide_eq_false hxy] at HSAME
      clear hxy
      go_wp2_with fail
      refine HSAME.out.mono ?_
      rintro e w11 ⟨rfl,rfl⟩
      go_wp2_with fail
      refine HTLR.out.mono ?_
      rintro e w11 ⟨rfl,rfl⟩
      go_wp2_with fail
      refine (HW.out _).mono ?_
      rintro e w20 ⟨rfl,hb20⟩
      have HB20:Hid (Below w.heap.size w w20):=Lib.hid (HBW.out.trans (hb20.mono HBW.out.size))
      clear hb20
      go_wp2
      go_ret
      exact ⟨rfl,HB20.out⟩
end Go.Proofs.YtbiaoohodjoojaaGreat
