/-
  The law MbrAdds.
  The law MbrAdds, as the frame has its arguments.
-/
import Derived.Test.YtcclhhjcejmepaaGreatZWorks
import Derived.Test.YtcclhhjcejmepaaGreatZWk
import Derived.Test.YtcclhhjcejmepaaGreatZMendP
import Derived.Test.YtcclhhjcejmepaaGreatZPlainM
import Derived.Deep.Cut
/- The law MbrAdds. -/
namespace Go.Proofs.YtcclhhjcejmepaaGreat
open Go.RowKit Fld
set_option linter.unusedVariables false
set_option linter.unusedSimpArgs false

def alikeS (U Z:Nat→List GF) (n:Nat):Nat:=((List.range n).filter fun j=>decide (U j=Z j)).length
theorem alikeS_succ (U Z:Nat→List GF) (n:Nat):alikeS U Z (n+1)=alikeS U Z n+(decide (U n=Z n)).toNat:=by
 unfold alikeS
 rw [List.range_succ,List.filter_append,List.length_append]
 by_cases h:U n=Z n
 ·rw [List.filter_cons_of_pos (by simpa using h),decide_eq_true h]
  rfl
 ·rw [List.filter_cons_of_neg (by simpa using h),decide_eq_false h]
  rfl
theorem ShAll.lt0 {w:World} {B g o N c:Nat} {D:List (List GF)} {S:List Ro} (h:ShAll w B (.slice (some ⟨g,o,none⟩) N c) D S) (hd:D.length=N) (h0:0 < N):g < w.heap.size:=by
 have hl:S.length=N:=by have:=congrArg List.length h.eq;rw [List.length_map,hd] at this;exact this
 obtain ⟨s,hs⟩:∃ s,S[0]? = some s:=⟨_,List.getElem?_eq_getElem (by omega)⟩
 obtain ⟨-,-,b,o',e,hb,-⟩:=SRd.at h.all.rd hs
 cases e
 exact hb
theorem mb_alike {n k d:Nat} {m m':List GF} (hkd:k≤d) (hn:n≤255) (hm:m.length=mbB k d) (hm':m'.length=mbB k d) (hne:m ≠ m'):alikeS (fun i=>mShare k d m ((pows n).getD i 0)) (fun i=>mShare k d m' ((pows n).getD i 0)) n < k:=by
 refine Nat.lt_of_not_le fun hle=>hne ?_
 refine mb_inj hkd (pows_nodup hn) (pows_len n) m m' hm hm' _ ((List.nodup_range (n:=n)).filter _) (fun i hi=>List.mem_range.1 (List.mem_filter.1 hi).1) hle fun i hi=>?_
 exact of_decide_eq_true (List.mem_filter.1 hi).2
set_option maxRecDepth 100000 in
set_option maxHeartbeats 8000000 in
theorem ladds10_any (n k d:Int) (ua ub:Value) (A B:List GF) (w:World) (hnb:I64 n∧I64 k∧I64 d) (ha:GRd w ua A) (hb:GRd w ub B) :
  Calls Tryz.prog 9 #[.int .i64 n,.int .i64 k,.int .i64 d,ua,ub] w fun e w'=>e=.returned (.bool true)∧Below w.heap.size w w':=by
 have HW:=Lib.hid (fun W=>works10_any W)
 have HFN:=Lib.hid (fun W=>fnew_g W)
 have HNB:=Lib.hid hnb
 have HA:=Lib.hid ha
 have HB:=Lib.hid hb
 clear hnb ha hb
 go_enter Tryz.func9,Tryz.ntmps9
 go_wp2_with fail
 refine (few10_any n k d w).mono ?_
 rintro e w' ⟨b,rfl,rfl,hb⟩
 have HBW:Hid (Below w.heap.size w w):=Lib.hid (Below.refl _ _)
 cases b
 ·clear hb
  go_wp2_with fail
  refine (HW.out _).mono ?_
  rintro e w20 ⟨rfl,hb20⟩
  have HB20:Hid (Below w.heap.size w w20):=Lib.hid (HBW.out.trans (hb20.mono HBW.out.size))
  clear hb20
  go_wp2
  go_ret
  exact ⟨rfl,HB20.out⟩
 have h9:=Lib.hid (hb.1 rfl)
 clear hb HBW
 go_wp2_with fail
 refine (HFN.out _).mono ?_
 rintro e w1 ⟨fb,rfl,hfb0,hf1,hb1⟩
 have HFO:=Lib.hid hf1
 have HB0:=Lib.hid hb1
 have HFB:=Lib.hid hfb0
 have hs1:=hf1.lt
 clear hf1 hb1 hfb0
 go_wp2_with fail
 refine (mbnew_any fb n k d w1 HFO.out HNB.out.1 HNB.out.2.1 HNB.out.2.2).mono ?_
 rintro e w2 ⟨hk2,hf2,hcase⟩
 have HB2:Hid (Below w.heap.size w w2):=Lib.hid (HB0.out.trans (hk2.below HB0.out.size (by have:=HFB.out;simp;omega)))
 have HF2:=Lib.hid hf2
 have hfl2:=hf2.lt
 have hs2:=HB2.out.size
 clear hk2 hf2 HFO HB0
 rcases hcase with ⟨N,K,D,rfl,rfl,rfl,hNK,lb,t1,t2,pb,cv,cv2,rfl,hlb,hc2⟩ | ⟨hno,rfl⟩
 case inr =>
  have HBW:=HB2
  clear hno
  go_wp2_with fail
  refine (HW.out _).mono ?_
  rintro e w20 ⟨rfl,hb20⟩
  have HB20:Hid (Below w.heap.size w w20):=Lib.hid (HBW.out.trans (hb20.mono HBW.out.size))
  clear hb20
  go_wp2
  go_ret
  exact ⟨rfl,HB20.out⟩
 have HC2:=Lib.hid hc2
 have HNK:=Lib.hid hNK
 have hN9:N≤9:=by have:=h9.out;omega
 have hKD:1≤K∧K≤D∧D < N:=by omega
 clear hc2 hNK h9 hlb
 have HTB:=Lib.hid (fun W (hb:Below w2.heap.size w2 W)=>mbb_any W lb K D (cell_of_heap (HC2.out.below hb).box (j:=2) rfl) (cell_of_heap (HC2.out.below hb).box (j:=3) rfl) (lt_of_heap (HC2.out.below hb).box) (by omega))
 obtain ⟨BN,hBN⟩:∃ BN,mbB K D=BN:=⟨_,rfl⟩
 rw [hBN] at HTB
 have hBL:BN≤81:=by rw [← hBN];exact mbB_le (by omega) (by omega)
 have HBN:=Lib.hid hBN
 clear hBN
 go_wp2_with fail
 refine (HTB.out _ (Below.refl _ _)).mono ?_
 rintro e w3 ⟨rfl,hb3⟩
 have HB23:=Lib.hid hb3
 have HB3:Hid (Below w.heap.size w w3):=Lib.hid (HB2.out.trans (hb3.mono HB2.out.size))
 have hs3:=hb3.size
 clear hb3
 go_wp2_with fail
 refine (kfull_any _ A BN w3 (HA.out.below HB3.out) (by omega)).mono ?_
 rintro e w4 ⟨gx,rfl,hgx,hvx,hrx,hb4⟩
 have HB24:Hid (Below w2.heap.size w2 w4):=Lib.hid (HB23.out.trans (hb4.mono hs3))
 have HB4:Hid (Below w.heap.size w w4):=Lib.hid (HB3.out.trans (hb4.mono HB3.out.size))
 have HX4:=Lib.hid hvx
 have HRX4:=Lib.hid hrx
 have hs4:=hb4.size
 have hgx4:=hvx.1
 clear hvx hrx hb4
 go_wp2_with fail
 refine (HTB.out _ HB24.out).mono ?_
 rintro e w5 ⟨rfl,hb5⟩
 have HB25:Hid (Below w2.heap.size w2 w5):=Lib.hid (HB24.out.trans (hb5.mono HB24.out.size))
 have HB5:Hid (Below w.heap.size w w5):=Lib.hid (HB4.out.trans (hb5.mono HB4.out.size))
 have HX5:=Lib.hid (HX4.out.below hb5)
 have HRX5:=Lib.hid (HRX4.out.below hb5)
 have hs5:=hb5.size
 clear hb5 HX4 HRX4 HTB
 go_wp2_with fail
 refine (kfull_any _ B BN w5 (HB.out.below HB5.out) (by omega)).mono ?_
 rintro e w6 ⟨gy,rfl,hgy,hvy,hry,hb6⟩
 have HC6:=Lib.hid (HC2.out.below (HB25.out.trans (hb6.mono HB25.out.size)))
 have HB6:Hid (Below w.heap.size w w6):=Lib.hid (HB5.out.trans (hb6.mono HB5.out.size))
 have HX6:=Lib.hid (HX5.out.below hb6)
 have HRX6:=Lib.hid (HRX5.out.below hb6)
 have HY6:=Lib.hid hvy
 have HRY6:=Lib.hid hry
 have hs6:=hb6.size
 have hgy6:=hvy.1
 clear hvy hry hb6 HC2 HX5 HRX5 HA HB HB3 HB4 HB23 HB24 HB25
 go_wp2
 go_loopg [15,16] BN (fun gk l i wr=>∃ (V:Value) (I:Nat),V=l∧I≤BN∧gk=BN - I∧i=.int .i64 I∧Hid (OwnG wr w6.heap.size V (sumG A B I))∧Hid (Below w6.heap.size w6 wr))
 case atStart=>exact ⟨_,0,rfl,by omega,rfl,rfl,Lib.hid (OwnG.nil _ _),Lib.hid (Below.refl _ _)⟩
 case round =>
  obtain ⟨V,I,rfl,hI,rfl,rfl,HO,HBR⟩:=hrel
  have hsr:=HBR.out.size
  by_cases hlt:I < BN
  ·have hxr:=(HX6.out.below HBR.out).2 I hlt
   have hyr:=(HY6.out.below HBR.out).2 I hlt
   have c1:=hxr.1
   have c2:=hyr.1
   obtain ⟨x,hx⟩:∃ x,A.getD I 0=x:=⟨_,rfl⟩
   obtain ⟨y,hy⟩:∃ y,B.getD I 0=y:=⟨_,rfl⟩
   simp only [hx] at c1
   simp only [hy] at c2
   have HXY:=Lib.hid (And.intro hx hy)
   have HADD:=Lib.hid (fun W=>gadd_any x y W)
   obtain ⟨xn,hxn⟩:∃ xn,x.n=xn:=⟨_,rfl⟩
   obtain ⟨yn,hyn⟩:∃ yn,y.n=yn:=⟨_,rfl⟩
   obtain ⟨s,hs⟩:∃ s,(x+y).n=s:=⟨_,rfl⟩
   rw [hxn] at c1 HADD
   rw [hyn] at c2 HADD
   rw [hs] at HADD
   have HS:=Lib.hid hs
   clear hxr hyr hx hy hxn hyn hs
   obtain ⟨v1,w7,hap,ho7,-,hb7,-⟩:=app_byte (W:=wr.drew) (x+y) HO.out (by rw [sumG_len];omega) (by exact hsr) HS.out (ad:=wr.heap.size) rfl
   have HO7:Hid (OwnG w7 w6.heap.size v1 (sumG A B (I+1))):=Lib.hid (by rw [sumG_succ,HXY.out.1,HXY.out.2];exact ho7)
   have HB6:=Lib.hid (((Below.refl w6.heap.size wr).drew).trans hb7)
   have HBR7:=Lib.hid (HBR.out.trans HB6.out)
   obtain ⟨kp,hkp⟩:∃ kp:Nat→Bool,∀ j,kp j=true↔j < w6.heap.size:=⟨fun j=>decide (j < w6.heap.size),by simp⟩
   have hkx:kp gx=true:=(hkp _).2 (by omega)
   have hky:kp gy=true:=(hkp _).2 (by omega)
   have HKP:=Lib.hid hkp
   clear hkp ho7 hb7
   go_upto_region 11 with fail
   have hgr:=fun (w0 W:World) (p:Addr) (hp:(fun j=>kp j=true) p.block)=>graft_cell (w0:=w0) (keep:=(fun j=>kp j=true)) W hp
   refine wp_region_tree (fun j=>kp j=true) [9,10,11] (.sq [0,1,2,3,4,5,6,7,8,9,10,11,12] .done) (by kernel_rfl) (by kernel_rfl) ?_
   simp only [Tr.sq,List.foldr_cons,List.foldr_nil,slimTr,slimStep,Oper.slim,List.contains_cons,List.contains_nil,Option.map_none,Option.map_some,List.getElem?_toArray,List.getElem?_cons_zero,List.getElem?_cons_succ,Option.bind_some,beq_self_eq_true,Bool.or_false,Nat.reduceBEq,Nat.reduceAdd,Nat.zero_add]
   repeat' first | ((with_reducible refine wpSlimT_id ?_);first | (with_reducible refine wpSlimT_done ?_) | (refine wpSlimT_append _ _ _ rfl rfl rfl rfl rfl hap (fun kk hkk=>HB6.out.block kk ((HKP.out kk).1 hkk)) ?_) | ((with_reducible refine wpSlimT_step (fun K hK=>?_));go_simp;first | (refine hK _ _ ?_;clear hK K) | (refine ⟨by (intro kk hkk;first | (simp (disch:=(simp;omega)) only [hp_drew,hp_drewN,hp_alloc,hp_set];done) | (simp [hp_drew,hp_drewN,hp_alloc_if,hkk];done) | (have hkk2:=(HKP.out kk).1 hkk;simp (disch:=(simp;omega)) only [hp_drew,hp_drewN,hp_alloc,hp_set];done)),hK _ _ ?_⟩;clear hK K) | (go_at_call 36;(with_reducible refine (HADD.out _).mono ?_);rintro e w7 ⟨rfl,rfl⟩;refine ⟨_,rfl,(fun kk hkk=>rfl),hK _ _ ?_⟩;clear hK K))) | fail
   clear hgr
   go_wp2
   go_roundg (BN - (I+1))
   case measure=>omega
   case rel=>exact ⟨_,I+1,rfl,by omega,rfl,by go_num,HO7,HBR7⟩
  ·obtain rfl:I=BN:=by omega
   obtain ⟨w7,rfl⟩:∃ w7:World,w7=wr:=⟨_,rfl⟩
   have HC7:=Lib.hid (HC6.out.below HBR.out)
   have HX7:=Lib.hid (HX6.out.below HBR.out)
   have HRX7:=Lib.hid (HRX6.out.below HBR.out)
   have HY7:=Lib.hid (HY6.out.below HBR.out)
   have HRY7:=Lib.hid (HRY6.out.below HBR.out)
   have HB7:Hid (Below w.heap.size w w7):=Lib.hid (HB6.out.trans (HBR.out.mono HB6.out.size))
   have hs7:=HBR.out.size
   have hVa:Apart V [fb]:=fun b hb hm=>by
    have:=HO.out.lt b hb
    simp at hm
    omega
   have HVA:=Lib.hid hVa
   clear HBR HC6 HX6 HRX6 HY6 HRY6 hVa hlt hI
   have HENC:=Lib.hid (mbenc_any w7 lb t1 t2 fb pb N K D cv cv2 _ (fullG A I) HC7.out HNK.out HRX7.out (by first | (rw [fullG_len];omega) | (rw [sumG_len];omega)) (fun k hk hm=>by simp [Value.ownBlock] at hk hm;omega))
   go_wp2_with fail
   refine HENC.out.mono ?_
   rintro e w8 (⟨hne,-⟩ | ⟨-,hk4,hf4,vx,SA,rfl,hsh⟩)
   ·exact absurd (by first | exact (fullG_len _ _).trans HBN.out.symm | exact (sumG_len _ _ _).trans HBN.out.symm) hne
   have hsl:SA.length=N:=by have:=congrArg List.length hsh.eq;rw [mbSh_len] at this;simpa using this
   obtain ⟨ax,ca,ex⟩:=hsh.all.rd.form
   rw [hsl] at ex
   subst ex
   obtain ⟨s0,hs0⟩:∃ s0,SA[0]? = some s0:=⟨_,List.getElem?_eq_getElem (by rw [hsl];omega)⟩
   obtain ⟨-,-,ga,oa,rfl,-,-⟩:=SRd.at hsh.all.rd hs0
   have HU8:=Lib.hid hsh
   clear HENC hsl hs0 hsh
   have HC8:=Lib.hid (HC7.out.step hk4 hf4)
   have HX8:=Lib.hid (HX7.out.kp hk4 (by simp;omega))
   have HY8:=Lib.hid (HY7.out.kp hk4 (by simp;omega))
   have HRY8:=Lib.hid (HRY7.out.kp hk4 (fun k hk hm=>by simp [Value.ownBlock] at hk hm;omega))
   have HO8:=Lib.hid (HO.out.kp hk4 HVA.out)
   have HB8:Hid (Below w.heap.size w w8):=Lib.hid (HB7.out.trans (hk4.below (by omega) (by have:=HFB.out;simp;omega)))
   have hs8:=hk4.size
   clear hk4 hf4 HC7 HX7 HY7 HRY7 HO HRX7
   have HENC:=Lib.hid (mbenc_any w8 lb t1 t2 fb pb N K D cv cv2 _ (fullG B I) HC8.out HNK.out HRY8.out (by first | (rw [fullG_len];omega) | (rw [sumG_len];omega)) (fun k hk hm=>by simp [Value.ownBlock] at hk hm;omega))
   go_wp2_with fail
   refine HENC.out.mono ?_
   rintro e w9 (⟨hne,-⟩ | ⟨-,hk4,hf4,vx,SB,rfl,hsh⟩)
   ·exact absurd (by first | exact (fullG_len _ _).trans HBN.out.symm | exact (sumG_len _ _ _).trans HBN.out.symm) hne
   have hsl:SB.length=N:=by have:=congrArg List.length hsh.eq;rw [mbSh_len] at this;simpa using this
   obtain ⟨ax,cb,ex⟩:=hsh.all.rd.form
   rw [hsl] at ex
   subst ex
   obtain ⟨s0,hs0⟩:∃ s0,SB[0]? = some s0:=⟨_,List.getElem?_eq_getElem (by rw [hsl];omega)⟩
   obtain ⟨-,-,gb,ob,rfl,-,-⟩:=SRd.at hsh.all.rd hs0
   have HV9:=Lib.hid hsh
   clear HENC hsl hs0 hsh
   have HC9:=Lib.hid (HC8.out.step hk4 hf4)
   have HX9:=Lib.hid (HX8.out.kp hk4 (by simp;omega))
   have HY9:=Lib.hid (HY8.out.kp hk4 (by simp;omega))
   have HO9:=Lib.hid (HO8.out.kp hk4 HVA.out)
   have HU9:=Lib.hid (HU8.out.kp hk4 (by simp;omega))
   have HB9:Hid (Below w.heap.size w w9):=Lib.hid (HB8.out.trans (hk4.below (by omega) (by have:=HFB.out;simp;omega)))
   have hs9:=hk4.size
   clear hk4 hf4 HC8 HX8 HY8 HRY8 HO8 HU8
   have HENC:=Lib.hid (mbenc_any w9 lb t1 t2 fb pb N K D cv cv2 _ (sumG A B I) HC9.out HNK.out HO9.out.rd (by first | (rw [fullG_len];omega) | (rw [sumG_len];omega)) HVA.out)
   go_wp2_with fail
   refine HENC.out.mono ?_
   rintro e w10 (⟨hne,-⟩ | ⟨-,hk4,hf4,vx,SS,rfl,hsh⟩)
   ·exact absurd (by first | exact (fullG_len _ _).trans HBN.out.symm | exact (sumG_len _ _ _).trans HBN.out.symm) hne
   have hsl:SS.length=N:=by have:=congrArg List.length hsh.eq;rw [mbSh_len] at this;simpa using this
   obtain ⟨ax,cs,ex⟩:=hsh.all.rd.form
   rw [hsl] at ex
   subst ex
   obtain ⟨s0,hs0⟩:∃ s0,SS[0]? = some s0:=⟨_,List.getElem?_eq_getElem (by rw [hsl];omega)⟩
   obtain ⟨-,-,gs,os,rfl,-,-⟩:=SRd.at hsh.all.rd hs0
   have HS10:=Lib.hid hsh
   clear HENC hsl hs0 hsh
   have HC10:=Lib.hid (HC9.out.step hk4 hf4)
   have HX10:=Lib.hid (HX9.out.kp hk4 (by simp;omega))
   have HY10:=Lib.hid (HY9.out.kp hk4 (by simp;omega))
   have HU10:=Lib.hid (HU9.out.kp hk4 (by simp;omega))
   have HV10:=Lib.hid (HV9.out.kp hk4 (by simp;omega))
   have HB10:Hid (Below w.heap.size w w10):=Lib.hid (HB9.out.trans (hk4.below (by omega) (by have:=HFB.out;simp;omega)))
   have hs10:=hk4.size
   clear hk4 hf4 HC9 HX9 HY9 HU9 HV9 HO9 HVA
   have hg1:ga < w10.heap.size∧gb < w10.heap.size∧gs < w10.heap.size:=by
    have hN0:0 < N:=by omega
    exact ⟨HU10.out.lt0 (mbSh_len _ _ _ _) hN0,HV10.out.lt0 (mbSh_len _ _ _ _) hN0,HS10.out.lt0 (mbSh_len _ _ _ _) hN0⟩
   have HSGF:Hid (∀ M:List GF,∀ i,i < N→(mbSh N K D M).getD i []=mShare K D M ((pows N).getD i 0)):=Lib.hid fun M i hi=>by
    rw [List.getD_eq_getElem?_getD,mbSh,List.getElem?_map,List.getElem?_range hi]
    rfl
   have HSGU:=Lib.hid (HSGF.out (fullG A I))
   have HSGV:=Lib.hid (HSGF.out (fullG B I))
   have HSGS:=Lib.hid (HSGF.out (sumG A B I))
   obtain ⟨U,hU⟩:∃ U:Nat→List GF,(fun i=>mShare K D (fullG A I) ((pows N).getD i 0))=U:=⟨_,rfl⟩
   obtain ⟨Z,hZ⟩:∃ Z:Nat→List GF,(fun i=>mShare K D (fullG B I) ((pows N).getD i 0))=Z:=⟨_,rfl⟩
   have HUZ:Hid (∀ i,mShare K D (fullG A I) ((pows N).getD i 0)=U i∧mShare K D (fullG B I) ((pows N).getD i 0)=Z i):=Lib.hid fun i=>⟨by rw [← hU],by rw [← hZ]⟩
   have HFEW:Hid (fullG A I ≠ fullG B I→alikeS U Z N < K):=Lib.hid fun hne=>by
    rw [← hU,← hZ]
    exact mb_alike (by omega) (by omega) ((fullG_len _ _).trans HBN.out.symm) ((fullG_len _ _).trans HBN.out.symm) hne
   have HALL:Hid (∀ W,Below w10.heap.size w10 W→Calls Tryz.prog 33 #[.pointer (some ⟨lb,0,none⟩)] W fun e w'=>e=.returned (.int .i64 (D:Nat))∧W=w'):=Lib.hid fun W hb =>
    mba_any W lb D (cell_of_heap (HC10.out.below hb).box (j:=3) rfl)
   have HKN:Hid (K≤N):=Lib.hid (by omega)
   clear hU hZ HSGF
   go_wp2
   go_loopg [23,24] N (fun gk al i wr=>∃ (J C:Nat),J≤N∧gk=N - J∧al=.int .i64 C∧C≤J∧i=.int .i64 J∧Hid (C=alikeS U Z J)∧Hid (Below w10.heap.size w10 wr))
   case atStart=>exact ⟨0,0,by omega,rfl,rfl,by omega,rfl,Lib.hid rfl,Lib.hid (Below.refl _ _)⟩
   case round =>
    obtain ⟨J,C,hJ,rfl,rfl,hCJ,rfl,HC,HBR⟩:=hrel
    have hsr:=HBR.out.size
    by_cases hlt2:J < N
    ·obtain ⟨au,cu,ku,hu,-⟩:=sh_at (HU10.out.below HBR.out) (mbSh_len _ _ _ _) hlt2 (HSGU.out J hlt2) (mShare_len _ _ _ _)
     obtain ⟨av,cvv,kv,hv,-⟩:=sh_at (HV10.out.below HBR.out) (mbSh_len _ _ _ _) hlt2 (HSGV.out J hlt2) (mShare_len _ _ _ _)
     obtain ⟨az,cz,ks,hs,-⟩:=sh_at (HS10.out.below HBR.out) (mbSh_len _ _ _ _) hlt2 (HSGS.out J hlt2) (mShare_len _ _ _ _)
     have HAL:=Lib.hid (HALL.out wr.drew HBR.out.drew)
     have HSA:=Lib.hid (same_g _ _ _ _ wr.drew.drew (hu.below ((Below.refl _ _).drew.drew)) (hv.below ((Below.refl _ _).drew.drew)))
     have HNX:=Lib.hid (alikeS_succ U Z J)
     rw [(HUZ.out J).1,(HUZ.out J).2] at HSA
     obtain ⟨q,hq⟩:∃ q,decide (U J=Z J)=q:=⟨_,rfl⟩
     rw [hq] at HSA HNX
     obtain ⟨kp,hkp⟩:∃ kp:Nat→Bool,∀ j,kp j=true↔j < w10.heap.size:=⟨fun j=>decide (j < w10.heap.size),by simp⟩
     have m1:kp ga=true:=(hkp _).2 hg1.1
     have m2:kp gb=true:=(hkp _).2 hg1.2.1
     have m3:kp gs=true:=(hkp _).2 hg1.2.2
     have HKP:=Lib.hid hkp
     have HBD:Hid (Below w10.heap.size w10 wr.drew.drew):=Lib.hid HBR.out.drew.drew
     have i1:(0:Int)≤(J:Int)∧(J:Int) < (N:Int):=by omega
     clear hkp hu hv hs hq
     cases q
     ·have HC2:Hid (C=alikeS U Z (J+1)):=Lib.hid (by rw [HNX.out,HC.out];rfl)
      go_upto_region 21 with fail
      have hgr:=fun (w0 W:World) (p:Addr) (hp:(fun j=>kp j=true) p.block)=>graft_cell (w0:=w0) (keep:=(fun j=>kp j=true)) W hp
      refine wp_region_tree (fun j=>kp j=true) [6,15,25] (.sq [0,1,2,3,4,5,6,7,8,9,10,11,12,13,14,15,16,17,18,19,20,21,22,23,24,25,26,27] .done) (by kernel_rfl) (by kernel_rfl) ?_
      simp only [Tr.sq,List.foldr_cons,List.foldr_nil,slimTr,slimStep,Oper.slim,List.contains_cons,List.contains_nil,Option.map_none,Option.map_some,List.getElem?_toArray,List.getElem?_cons_zero,List.getElem?_cons_succ,Option.bind_some,beq_self_eq_true,Bool.or_false,Nat.reduceBEq,Nat.reduceAdd,Nat.zero_add]
      repeat' first | ((with_reducible refine wpSlimT_id ?_);first | (with_reducible refine wpSlimT_done ?_) | (refine wpSlimT_append _ _ _ rfl rfl rfl rfl rfl hap (fun kk hkk=>HB6.out.block kk ((HKP.out kk).1 hkk)) ?_) | ((with_reducible refine wpSlimT_step (fun K hK=>?_));go_simp;first | (refine hK _ _ ?_;clear hK K) | (refine ⟨by (intro kk hkk;first | (simp (disch:=(simp;omega)) only [hp_drew,hp_drewN,hp_alloc,hp_set];done) | (simp [hp_drew,hp_drewN,hp_alloc_if,hkk];done) | (have hkk2:=(HKP.out kk).1 hkk;simp (disch:=(simp;omega)) only [hp_drew,hp_drewN,hp_alloc,hp_set];done)),hK _ _ ?_⟩;clear hK K) | (go_at_call 33;(with_reducible refine HAL.out.mono ?_);rintro e w7 ⟨rfl,hwx⟩;subst hwx;refine ⟨_,rfl,(fun kk hkk=>rfl),hK _ _ ?_⟩;clear hK K))) | fail
      clear hgr
      go_upto_region 23 with fail
      have hgr:=fun (w0 W:World) (p:Addr) (hp:(fun j=>kp j=true) p.block)=>graft_cell (w0:=w0) (keep:=(fun j=>kp j=true)) W hp
      refine wp_region_tree (fun j=>kp j=true) [8] (.sq [0,1,2,3,4,5,6,7,8] .done) (by kernel_rfl) (by kernel_rfl) ?_
      simp only [Tr.sq,List.foldr_cons,List.foldr_nil,slimTr,slimStep,Oper.slim,List.contains_cons,List.contains_nil,Option.map_none,Option.map_some,List.getElem?_toArray,List.getElem?_cons_zero,List.getElem?_cons_succ,Option.bind_some,beq_self_eq_true,Bool.or_false,Nat.reduceBEq,Nat.reduceAdd,Nat.zero_add]
      repeat' first | ((with_reducible refine wpSlimT_id ?_);first | (with_reducible refine wpSlimT_done ?_) | (refine wpSlimT_append _ _ _ rfl rfl rfl rfl rfl hap (fun kk hkk=>HB6.out.block kk ((HKP.out kk).1 hkk)) ?_) | ((with_reducible refine wpSlimT_step (fun K hK=>?_));go_simp;first | (refine hK _ _ ?_;clear hK K) | (refine ⟨by (intro kk hkk;first | (simp (disch:=(simp;omega)) only [hp_drew,hp_drewN,hp_alloc,hp_set];done) | (simp [hp_drew,hp_drewN,hp_alloc_if,hkk];done) | (have hkk2:=(HKP.out kk).1 hkk;simp (disch:=(simp;omega)) only [hp_drew,hp_drewN,hp_alloc,hp_set];done)),hK _ _ ?_⟩;clear hK K) | (go_at_call 20;(with_reducible refine HSA.out.mono ?_);rintro e w7 ⟨rfl,hwx⟩;subst hwx;refine ⟨_,rfl,(fun kk hkk=>rfl),hK _ _ ?_⟩;clear hK K))) | fail
      clear hgr
      go_wp2
      clear HAL HSA HKP m1 m2 m3 ku kv ks
      go_loopg [25] D (fun gk p wr=>∃ E:Nat,E≤D∧gk=D - E∧p=.int .i64 E∧Hid (Below w10.heap.size w10 wr))
      case atStart=>exact ⟨0,by omega,rfl,rfl,HBD⟩
      case round =>
       clear HBR HBD hsr
       obtain ⟨E,hE,rfl,rfl,HBR⟩:=hrel
       have hsr:=HBR.out.size
       obtain ⟨au,cu,ku,hu,-⟩:=sh_at (HU10.out.below HBR.out) (mbSh_len _ _ _ _) hlt2 (HSGU.out J hlt2) (mShare_len _ _ _ _)
       obtain ⟨av,cvv,kv,hv,-⟩:=sh_at (HV10.out.below HBR.out) (mbSh_len _ _ _ _) hlt2 (HSGV.out J hlt2) (mShare_len _ _ _ _)
       obtain ⟨az,cz,ks,hs,-⟩:=sh_at (HS10.out.below HBR.out) (mbSh_len _ _ _ _) hlt2 (HSGS.out J hlt2) (mShare_len _ _ _ _)
       by_cases hltE:E < D
       ·have hxs:mSh K D (sumG A B I) ((pows N).getD J 0) E=mSh K D (fullG A I) ((pows N).getD J 0) E+mSh K D (fullG B I) ((pows N).getD J 0) E:=mSh_add A B K D I _ E
        obtain ⟨bu,ou,rfl,hbu,k1⟩:=hu.at (rowF_at? (mSh K D (fullG A I) ((pows N).getD J 0)) hltE)
        obtain ⟨bv,ov,rfl,hbv,k2⟩:=hv.at (rowF_at? (mSh K D (fullG B I) ((pows N).getD J 0)) hltE)
        obtain ⟨bs,os,rfl,hbs,k3⟩:=hs.at (rowF_at? (mSh K D (sumG A B I) ((pows N).getD J 0)) hltE)
        rw [hxs] at k3
        obtain ⟨x,hx⟩:∃ x,mSh K D (fullG A I) ((pows N).getD J 0) E=x:=⟨_,rfl⟩
        obtain ⟨y,hy⟩:∃ y,mSh K D (fullG B I) ((pows N).getD J 0) E=y:=⟨_,rfl⟩
        rw [hx] at k1 k3
        rw [hy] at k2 k3
        have HADD:=Lib.hid (fun W=>gadd_any x y W)
        obtain ⟨xn,hxn⟩:∃ xn,x.n=xn:=⟨_,rfl⟩
        obtain ⟨yn,hyn⟩:∃ yn,y.n=yn:=⟨_,rfl⟩
        obtain ⟨s,hs2⟩:∃ s,(x+y).n=s:=⟨_,rfl⟩
        rw [hxn] at k1 HADD
        rw [hyn] at k2 HADD
        rw [hs2] at k3 HADD
        obtain ⟨kp,hkp⟩:∃ kp:Nat→Bool,∀ j,kp j=true↔j < wr.heap.size:=⟨fun j=>decide (j < wr.heap.size),by simp⟩
        have m1:kp bu=true:=(hkp _).2 hbu
        have m2:kp bv=true:=(hkp _).2 hbv
        have m3:kp bs=true:=(hkp _).2 hbs
        have m4:kp ga=true:=(hkp _).2 (by omega)
        have m5:kp gb=true:=(hkp _).2 (by omega)
        have m6:kp gs=true:=(hkp _).2 (by omega)
        have HKP:=Lib.hid hkp
        have HBD:Hid (Below w10.heap.size w10 wr.drew):=Lib.hid HBR.out.drew
        have i3:(0:Int)≤(E:Int)∧(E:Int) < (D:Int):=by omega
        clear hkp hu hv hs hx hy hxn hyn hs2 hxs
        go_upto_region 28 with fail
        have hgr:=fun (w0 W:World) (p:Addr) (hp:(fun j=>kp j=true) p.block)=>graft_cell (w0:=w0) (keep:=(fun j=>kp j=true)) W hp
        refine wp_region_tree (fun j=>kp j=true) [21] (.sq [0,1,2,3,4,5,6,7,8,9,10,11,12,13,14,15,16,17,18,19,20,21,22] .done) (by kernel_rfl) (by kernel_rfl) ?_
        simp only [Tr.sq,List.foldr_cons,List.foldr_nil,slimTr,slimStep,Oper.slim,List.contains_cons,List.contains_nil,Option.map_none,Option.map_some,List.getElem?_toArray,List.getElem?_cons_zero,List.getElem?_cons_succ,Option.bind_some,beq_self_eq_true,Bool.or_false,Nat.reduceBEq,Nat.reduceAdd,Nat.zero_add]
        repeat' first | ((with_reducible refine wpSlimT_id ?_);first | (with_reducible refine wpSlimT_done ?_) | (refine wpSlimT_append _ _ _ rfl rfl rfl rfl rfl hap (fun kk hkk=>HB6.out.block kk ((HKP.out kk).1 hkk)) ?_) | ((with_reducible refine wpSlimT_step (fun K hK=>?_));go_simp;first | (refine hK _ _ ?_;clear hK K) | (refine ⟨by (intro kk hkk;first | (simp (disch:=(simp;omega)) only [hp_drew,hp_drewN,hp_alloc,hp_set];done) | (simp [hp_drew,hp_drewN,hp_alloc_if,hkk];done) | (have hkk2:=(HKP.out kk).1 hkk;simp (disch:=(simp;omega)) only [hp_drew,hp_drewN,hp_alloc,hp_set];done)),hK _ _ ?_⟩;clear hK K) | (go_at_call 36;(with_reducible refine (HADD.out _).mono ?_);rintro e w7 ⟨rfl,rfl⟩;refine ⟨_,rfl,(fun kk hkk=>rfl),hK _ _ ?_⟩;clear hK K))) | fail
        clear hgr
        go_wp2
        go_roundg (D - (E+1))
        case measure=>omega
        case rel=>exact ⟨E+1,by omega,rfl,by go_num,HBD⟩
       ·obtain rfl:E=D:=by omega
        clear hu hv hs
        go_wp2
        go_roundg (N - (J+1))
        case measure=>omega
        case rel=>exact ⟨J+1,C,by omega,rfl,by go_num,by omega,by go_num,HC2,HBR⟩
     ·have HC2:Hid (C+1=alikeS U Z (J+1)):=Lib.hid (by rw [HNX.out,HC.out];rfl)
      go_upto_region 21 with fail
      have hgr:=fun (w0 W:World) (p:Addr) (hp:(fun j=>kp j=true) p.block)=>graft_cell (w0:=w0) (keep:=(fun j=>kp j=true)) W hp
      refine wp_region_tree (fun j=>kp j=true) [6,15,25] (.sq [0,1,2,3,4,5,6,7,8,9,10,11,12,13,14,15,16,17,18,19,20,21,22,23,24,25,26,27] .done) (by kernel_rfl) (by kernel_rfl) ?_
      simp only [Tr.sq,List.foldr_cons,List.foldr_nil,slimTr,slimStep,Oper.slim,List.contains_cons,List.contains_nil,Option.map_none,Option.map_some,List.getElem?_toArray,List.getElem?_cons_zero,List.getElem?_cons_succ,Option.bind_some,beq_self_eq_true,Bool.or_false,Nat.reduceBEq,Nat.reduceAdd,Nat.zero_add]
      repeat' first | ((with_reducible refine wpSlimT_id ?_);first | (with_reducible refine wpSlimT_done ?_) | (refine wpSlimT_append _ _ _ rfl rfl rfl rfl rfl hap (fun kk hkk=>HB6.out.block kk ((HKP.out kk).1 hkk)) ?_) | ((with_reducible refine wpSlimT_step (fun K hK=>?_));go_simp;first | (refine hK _ _ ?_;clear hK K) | (refine ⟨by (intro kk hkk;first | (simp (disch:=(simp;omega)) only [hp_drew,hp_drewN,hp_alloc,hp_set];done) | (simp [hp_drew,hp_drewN,hp_alloc_if,hkk];done) | (have hkk2:=(HKP.out kk).1 hkk;simp (disch:=(simp;omega)) only [hp_drew,hp_drewN,hp_alloc,hp_set];done)),hK _ _ ?_⟩;clear hK K) | (go_at_call 33;(with_reducible refine HAL.out.mono ?_);rintro e w7 ⟨rfl,hwx⟩;subst hwx;refine ⟨_,rfl,(fun kk hkk=>rfl),hK _ _ ?_⟩;clear hK K))) | fail
      clear hgr
      go_upto_region 23 with fail
      have hgr:=fun (w0 W:World) (p:Addr) (hp:(fun j=>kp j=true) p.block)=>graft_cell (w0:=w0) (keep:=(fun j=>kp j=true)) W hp
      refine wp_region_tree (fun j=>kp j=true) [8] (.sq [0,1,2,3,4,5,6,7,8] .done) (by kernel_rfl) (by kernel_rfl) ?_
      simp only [Tr.sq,List.foldr_cons,List.foldr_nil,slimTr,slimStep,Oper.slim,List.contains_cons,List.contains_nil,Option.map_none,Option.map_some,List.getElem?_toArray,List.getElem?_cons_zero,List.getElem?_cons_succ,Option.bind_some,beq_self_eq_true,Bool.or_false,Nat.reduceBEq,Nat.reduceAdd,Nat.zero_add]
      repeat' first | ((with_reducible refine wpSlimT_id ?_);first | (with_reducible refine wpSlimT_done ?_) | (refine wpSlimT_append _ _ _ rfl rfl rfl rfl rfl hap (fun kk hkk=>HB6.out.block kk ((HKP.out kk).1 hkk)) ?_) | ((with_reducible refine wpSlimT_step (fun K hK=>?_));go_simp;first | (refine hK _ _ ?_;clear hK K) | (refine ⟨by (intro kk hkk;first | (simp (disch:=(simp;omega)) only [hp_drew,hp_drewN,hp_alloc,hp_set];done) | (simp [hp_drew,hp_drewN,hp_alloc_if,hkk];done) | (have hkk2:=(HKP.out kk).1 hkk;simp (disch:=(simp;omega)) only [hp_drew,hp_drewN,hp_alloc,hp_set];done)),hK _ _ ?_⟩;clear hK K) | (go_at_call 20;(with_reducible refine HSA.out.mono ?_);rintro e w7 ⟨rfl,hwx⟩;subst hwx;refine ⟨_,rfl,(fun kk hkk=>rfl),hK _ _ ?_⟩;clear hK K))) | fail
      clear hgr
      go_wp2
      clear HAL HSA HKP m1 m2 m3 ku kv ks
      go_loopg [25] D (fun gk p wr=>∃ E:Nat,E≤D∧gk=D - E∧p=.int .i64 E∧Hid (Below w10.heap.size w10 wr))
      case atStart=>exact ⟨0,by omega,rfl,rfl,HBD⟩
      case round =>
       clear HBR HBD hsr
       obtain ⟨E,hE,rfl,rfl,HBR⟩:=hrel
       have hsr:=HBR.out.size
       obtain ⟨au,cu,ku,hu,-⟩:=sh_at (HU10.out.below HBR.out) (mbSh_len _ _ _ _) hlt2 (HSGU.out J hlt2) (mShare_len _ _ _ _)
       obtain ⟨av,cvv,kv,hv,-⟩:=sh_at (HV10.out.below HBR.out) (mbSh_len _ _ _ _) hlt2 (HSGV.out J hlt2) (mShare_len _ _ _ _)
       obtain ⟨az,cz,ks,hs,-⟩:=sh_at (HS10.out.below HBR.out) (mbSh_len _ _ _ _) hlt2 (HSGS.out J hlt2) (mShare_len _ _ _ _)
       by_cases hltE:E < D
       ·have hxs:mSh K D (sumG A B I) ((pows N).getD J 0) E=mSh K D (fullG A I) ((pows N).getD J 0) E+mSh K D (fullG B I) ((pows N).getD J 0) E:=mSh_add A B K D I _ E
        obtain ⟨bu,ou,rfl,hbu,k1⟩:=hu.at (rowF_at? (mSh K D (fullG A I) ((pows N).getD J 0)) hltE)
        obtain ⟨bv,ov,rfl,hbv,k2⟩:=hv.at (rowF_at? (mSh K D (fullG B I) ((pows N).getD J 0)) hltE)
        obtain ⟨bs,os,rfl,hbs,k3⟩:=hs.at (rowF_at? (mSh K D (sumG A B I) ((pows N).getD J 0)) hltE)
        rw [hxs] at k3
        obtain ⟨x,hx⟩:∃ x,mSh K D (fullG A I) ((pows N).getD J 0) E=x:=⟨_,rfl⟩
        obtain ⟨y,hy⟩:∃ y,mSh K D (fullG B I) ((pows N).getD J 0) E=y:=⟨_,rfl⟩
        rw [hx] at k1 k3
        rw [hy] at k2 k3
        have HADD:=Lib.hid (fun W=>gadd_any x y W)
        obtain ⟨xn,hxn⟩:∃ xn,x.n=xn:=⟨_,rfl⟩
        obtain ⟨yn,hyn⟩:∃ yn,y.n=yn:=⟨_,rfl⟩
        obtain ⟨s,hs2⟩:∃ s,(x+y).n=s:=⟨_,rfl⟩
        rw [hxn] at k1 HADD
        rw [hyn] at k2 HADD
        rw [hs2] at k3 HADD
        obtain ⟨kp,hkp⟩:∃ kp:Nat→Bool,∀ j,kp j=true↔j < wr.heap.size:=⟨fun j=>decide (j < wr.heap.size),by simp⟩
        have m1:kp bu=true:=(hkp _).2 hbu
        have m2:kp bv=true:=(hkp _).2 hbv
        have m3:kp bs=true:=(hkp _).2 hbs
        have m4:kp ga=true:=(hkp _).2 (by omega)
        have m5:kp gb=true:=(hkp _).2 (by omega)
        have m6:kp gs=true:=(hkp _).2 (by omega)
        have HKP:=Lib.hid hkp
        have HBD:Hid (Below w10.heap.size w10 wr.drew):=Lib.hid HBR.out.drew
        have i3:(0:Int)≤(E:Int)∧(E:Int) < (D:Int):=by omega
        clear hkp hu hv hs hx hy hxn hyn hs2 hxs
        go_upto_region 28 with fail
        have hgr:=fun (w0 W:World) (p:Addr) (hp:(fun j=>kp j=true) p.block)=>graft_cell (w0:=w0) (keep:=(fun j=>kp j=true)) W hp
        refine wp_region_tree (fun j=>kp j=true) [21] (.sq [0,1,2,3,4,5,6,7,8,9,10,11,12,13,14,15,16,17,18,19,20,21,22] .done) (by kernel_rfl) (by kernel_rfl) ?_
        simp only [Tr.sq,List.foldr_cons,List.foldr_nil,slimTr,slimStep,Oper.slim,List.contains_cons,List.contains_nil,Option.map_none,Option.map_some,List.getElem?_toArray,List.getElem?_cons_zero,List.getElem?_cons_succ,Option.bind_some,beq_self_eq_true,Bool.or_false,Nat.reduceBEq,Nat.reduceAdd,Nat.zero_add]
        repeat' first | ((with_reducible refine wpSlimT_id ?_);first | (with_reducible refine wpSlimT_done ?_) | (refine wpSlimT_append _ _ _ rfl rfl rfl rfl rfl hap (fun kk hkk=>HB6.out.block kk ((HKP.out kk).1 hkk)) ?_) | ((with_reducible refine wpSlimT_step (fun K hK=>?_));go_simp;first | (refine hK _ _ ?_;clear hK K) | (refine ⟨by (intro kk hkk;first | (simp (disch:=(simp;omega)) only [hp_drew,hp_drewN,hp_alloc,hp_set];done) | (simp [hp_drew,hp_drewN,hp_alloc_if,hkk];done) | (have hkk2:=(HKP.out kk).1 hkk;simp (disch:=(simp;omega)) only [hp_drew,hp_drewN,hp_alloc,hp_set];done)),hK _ _ ?_⟩;clear hK K) | (go_at_call 36;(with_reducible refine (HADD.out _).mono ?_);rintro e w7 ⟨rfl,rfl⟩;refine ⟨_,rfl,(fun kk hkk=>rfl),hK _ _ ?_⟩;clear hK K))) | fail
        clear hgr
        go_wp2
        go_roundg (D - (E+1))
        case measure=>omega
        case rel=>exact ⟨E+1,by omega,rfl,by go_num,HBD⟩
       ·obtain rfl:E=D:=by omega
        clear hu hv hs
        go_wp2
        go_roundg (N - (J+1))
        case measure=>omega
        case rel=>exact ⟨J+1,C+1,by omega,rfl,by go_num,by omega,by go_num,HC2,HBR⟩
    ·obtain rfl:J=N:=by omega
     have HSAME:=Lib.hid (same_g _ _ _ _ wr (HX10.out.below HBR.out).full (HY10.out.below HBR.out).full)
     have HBW:Hid (Below w.heap.size w wr):=Lib.hid (HB10.out.trans (HBR.out.mono HB10.out.size))
     by_cases hxy:fullG A I=fullG B I
     ·rw [decide_eq_true hxy] at HSAME
      clear hxy
      go_wp2_with fail
      refine HSAME.out.mono ?_
      rintro e w11 ⟨rfl,rfl⟩
      go_wp2_with fail
      refine (HW.out _).mono ?_
      rintro e w20 ⟨rfl,hb20⟩
      have HB20:Hid (Below w.heap.size w w20):=Lib.hid (HBW.out.trans (hb20.mono HBW.out.size))
      clear hb20
      go_wp2
      go_ret
      exact ⟨rfl,HB20.out⟩
     ·have hfew:=HFEW.out hxy
      rw [← HC.out] at hfew
      rw [decide_eq_false hxy] at HSAME
      clear hxy
      go_wp2_with fail
      refine HSAME.out.mono ?_
      rintro e w11 ⟨rfl,rfl⟩
      go_wp2_with fail
      refine (HW.out _).mono ?_
      rintro e w20 ⟨rfl,hb20⟩
      have HB20:Hid (Below w.heap.size w w20):=Lib.hid (HBW.out.trans (hb20.mono HBW.out.size))
      clear hb20
      go_wp2
      go_ret
      exact ⟨rfl,HB20.out⟩
end Go.Proofs.YtcclhhjcejmepaaGreat
/- The law MbrAdds, as the frame has its arguments. -/
namespace Go.Proofs.YtcclhhjcejmepaaGreat
open Go.RowKit
theorem law_mbadds (a0 a1 a2:Int) (u3:Value) (l3:List Nat) (u4:Value) (l4:List Nat) (w:World) (w0:(Lit.int .i64 a0).wf=true) (w1:(Lit.int .i64 a1).wf=true) (w2:(Lit.int .i64 a2).wf=true) (h3:BytesRd w u3 l3) (h4:BytesRd w u4 l4) :
  Calls Tryz.prog 9 #[.int .i64 a0,.int .i64 a1,.int .i64 a2,u3,u4] w fun e w'=>e=.returned (.bool true)∧Below w.heap.size w w':=by
 obtain ⟨A,rfl,hA⟩:=h3.toG
 obtain ⟨B,rfl,hB⟩:=h4.toG
 exact ladds10_any a0 a1 a2 u3 u4 A B w ⟨i64_wf w0,i64_wf w1,i64_wf w2⟩ hA hB
end Go.Proofs.YtcclhhjcejmepaaGreat
