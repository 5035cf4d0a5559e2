/-
  The examples of the chapter on codes that are repaired by just what they store.
-/
import Derived.Test.YtcclhhjcejmepaaGreatZWk
import Derived.Test.YtcclhhjcejmepaaGreatZMbA
import Derived.Test.YtcclhhjcejmepaaGreatZOwnSyG
/- The examples of the chapter on codes that are repaired by just what they store. -/
set_option maxRecDepth 100000
set_option maxHeartbeats 40000000
namespace Go.Proofs.YtcclhhjcejmepaaGreat
open Go.RowKit Fld
set_option linter.unusedVariables false
set_option linter.unusedSimpArgs false

theorem works10_any (w:World):Calls Tryz.prog 12 #[] w fun e w'=>e=.returned (.bool true)∧Below w.heap.size w w':=by
 have HFN:=Hd (fun W=>fnew_g W)
 go_enter Tryz.func12,Tryz.ntmps12
 go_wp2_with fail
 refine (HFN.out _).mono ?_
 rintro e w1 ⟨fb,rfl,hfb0,hf1,hb1⟩
 have HFO:=Hd hf1
 have HB0:=Hd hb1
 have HFB:=Hd hfb0
 have hs1:=hf1.lt
 clear hf1 hb1 hfb0
 go_wp2_with fail
 refine (mbnew_any fb 4 2 2 w1 HFO.out (by omega) (by omega) (by omega) (fun h=>by simp only [sortMax];omega)).mono ?_
 rintro e w2 hp
 obtain ⟨hk2,hf2,lb,t1,t2,pb,cv,cv2,rfl,hlb,hc2⟩:=k10_new hp
 have HC2:=Hd hc2
 have HK2:=Hd hk2
 have HF2:=Hd hf2
 have hs2:=hk2.size
 clear hp hk2 hf2 hlb hc2 HFO
 go_wp2_with fail
 refine (mbenc_any _ lb t1 t2 fb pb 4 2 2 cv cv2 _ (gl [1,2,3]) (HC2.out.below ((Below.refl _ _).alloc (Nat.le_refl _) _)) (by omega) (GRd.lit (gl [1,2,3]) (nwA _ _) rfl) (by decide) (fun b hb hm=>by simp [Value.ownBlock] at hb hm;omega)).mono ?_
 rintro e w3 (⟨hbad,-⟩ | ⟨-,hk3,hf3,va,S,rfl,hsa⟩)
 ·exact absurd rfl hbad
 rw [k10_a] at hsa
 obtain ⟨p0,q0,p1,q1,p2,q2,p3,q3,rfl⟩:=ro4_form hsa.eq
 have hk23:Kp [fb] w2 w3:=(Kp.of_below ((Below.refl _ _).alloc (Nat.le_refl _) _)).trans hk3
 obtain ⟨aa,ca,rfl⟩:=hsa.all.rd.form
 have HC3:=Hd (HC2.out.step hk23 hf3)
 have HK3:=Hd (HK2.out.trans hk23)
 have HF3:=Hd hf3
 have HA3:=Hd hsa
 have hs3:=hk23.size
 clear hk3 hf3 hsa hk23 HC2 HK2 HF2
 go_wp2_with fail
 refine (mbhelp_any _ lb t1 t2 fb pb 4 2 2 cv cv2 _ 1 0 (gl [5,4]) (HC3.out.below ((Below.refl _ _).alloc (Nat.le_refl _) _)) (by omega) (GRd.lit (gl [5,4]) (nwA _ _) rfl) (fun b hb hm=>by simp [Value.ownBlock] at hb hm;omega) (by decide)).mono ?_
 rintro e w4 hp
 obtain ⟨rfl,hk4,hf4⟩:=k10_help hp
 have hk34:Kp [fb] w3 w4:=(Kp.of_below ((Below.refl _ _).alloc (Nat.le_refl _) _)).trans hk4
 have HC4:=Hd (HC3.out.step hk34 hf4)
 have HK4:=Hd (HK3.out.trans hk34)
 have HF4:=Hd hf4
 have HA4:=Hd (HA3.out.kp hk34 (fun x hx=>by simp at hx;simp;omega))
 have hs4:=hk34.size
 clear hp hk4 hf4 hk34 HC3 HK3 HF3 HA3
 obtain ⟨w5,hw5⟩:∃ w5,w5=((w4.alloc (.cells #[.int .u8 1] 5)).alloc (.cells #[.int .u8 7] 5)).alloc (.cells #[.int .i64 1,.slice (some ⟨w4.heap.size,0,none⟩) 1 1,.int .i64 2,.slice (some ⟨w4.heap.size+1,0,none⟩) 1 1] 59):=⟨_,rfl⟩
 have hb5:Below w4.heap.size w4 w5:=by rw [hw5];exact (((Below.refl _ _).alloc (Nat.le_refl _) _).alloc (by simp) _).alloc (by simp;omega) _
 have g0:w5.heap[w4.heap.size]? = some (.cells #[.int .u8 1] 5 (0,0)):=by rw [hw5];exact keepA (keepA (nwA _ _) _) _
 have g1:w5.heap[w4.heap.size+1]? = some (.cells #[.int .u8 7] 5 (0,0)):=by rw [hw5];exact keepA (nwE _ _ _ (by simp)) _
 have g2:w5.heap[w4.heap.size+1+1]? = some (.cells #[.int .i64 1,.slice (some ⟨w4.heap.size,0,none⟩) 1 1,.int .i64 2,.slice (some ⟨w4.heap.size+1,0,none⟩) 1 1] 59 (0,0)):=by rw [hw5];exact nwE _ _ _ (by simp)
 have HSY:=Hd (two_sy g2 (GRd.lit (gl [1]) g0 rfl) (GRd.lit (gl [7]) g1 rfl) rfl rfl)
 have HC5:=Hd (HC4.out.below hb5)
 have HK5:=Hd (HK4.out.below_step hb5)
 have HF5:=Hd (HF4.out.below hb5)
 have HA5:=Hd (HA4.out.below hb5)
 clear HC4 HK4 HF4 HA4
 have hs5:=hb5.size
 clear hb5 g0 g1 g2
 go_wp2_with fail
 rw [← hw5]
 clear hw5
 refine (mbrep_any w5 lb t1 t2 fb pb 4 2 2 cv cv2 _ 0 0 _ HC5.out (by omega) (pows_nodup (by decide)) HSY.out (by simp) (by omega)).mono ?_
 rintro e w6 ⟨hk6,hf6,hp⟩
 obtain ⟨ar,cr,vr,rfl,ho6⟩:=k10_rep hp
 have HC6:=Hd (HC5.out.step hk6 hf6)
 have HK6:=Hd (HK5.out.trans hk6)
 have HF6:=Hd hf6
 have HA6:=Hd (HA5.out.kp hk6 (fun x hx=>by simp at hx;simp;omega))
 have hs6:=hk6.size
 have HS6:=Hd ho6
 clear hk6 hf6 hp ho6 HSY HC5 HK5 HF5 HA5
 obtain ⟨w7,hw7⟩:∃ w7,w7=((w6.alloc (.cells #[.int .u8 5,.int .u8 4] 5)).alloc (.cells #[.int .u8 17,.int .u8 26] 5)).alloc (.cells #[.int .i64 1,.slice (some ⟨w6.heap.size,0,none⟩) 2 2,.int .i64 3,.slice (some ⟨w6.heap.size+1,0,none⟩) 2 2] 59):=⟨_,rfl⟩
 have hb7:Below w6.heap.size w6 w7:=by rw [hw7];exact (((Below.refl _ _).alloc (Nat.le_refl _) _).alloc (by simp) _).alloc (by simp;omega) _
 have g0:w7.heap[w6.heap.size]? = some (.cells #[.int .u8 5,.int .u8 4] 5 (0,0)):=by rw [hw7];exact keepA (keepA (nwA _ _) _) _
 have g1:w7.heap[w6.heap.size+1]? = some (.cells #[.int .u8 17,.int .u8 26] 5 (0,0)):=by rw [hw7];exact keepA (nwE _ _ _ (by simp)) _
 have g2:w7.heap[w6.heap.size+1+1]? = some (.cells #[.int .i64 1,.slice (some ⟨w6.heap.size,0,none⟩) 2 2,.int .i64 3,.slice (some ⟨w6.heap.size+1,0,none⟩) 2 2] 59 (0,0)):=by rw [hw7];exact nwE _ _ _ (by simp)
 have HSY:=Hd (two_sy g2 (GRd.lit (gl [5,4]) g0 rfl) (GRd.lit (gl [17,26]) g1 rfl) rfl rfl)
 have HC7:=Hd (HC6.out.below hb7)
 have HK7:=Hd (HK6.out.below_step hb7)
 have HF7:=Hd (HF6.out.below hb7)
 have HA7:=Hd (HA6.out.below hb7)
 have HS7:=Hd (HS6.out.below hb7)
 clear HC6 HK6 HF6 HA6 HS6
 have hs7:=hb7.size
 clear hb7 g0 g1 g2
 go_wp2_with fail
 rw [← hw7]
 clear hw7
 have HDC:=Hd (mbdec_any w7 lb t1 t2 fb pb 4 2 2 cv cv2 _ _ 0 HC7.out (by omega) (by omega) (pows_nodup (by decide)) HSY.out ⟨fun _ b hb hm=>by simp [Value.ownBlock] at hb hm;omega,fun s hs _ b hb hm=>by simp at hs;rcases hs with rfl | rfl <;> (simp [Value.ownBlock] at hb hm;omega)⟩ (by simp) (by omega))
 refine HDC.out.mono ?_
 rintro e w8 ⟨hk8,hf8,hp⟩
 obtain ⟨am,cm,aw,cw,rfl,ho8⟩:=k10_dec hp
 have HC8:=Hd (HC7.out.step hk8 hf8)
 have HK8:=Hd (HK7.out.trans hk8)
 have HF8:=Hd hf8
 have HA8:=Hd (HA7.out.kp hk8 (fun x hx=>by simp at hx;simp;omega))
 have HS8:=Hd (HS7.out.kp hk8 (fun b hb hm=>by have:=(HS7.out.lt b hb).1;simp at hm;omega))
 have hs8:=hk8.size
 have HM8:=Hd ho8
 clear hk8 hf8 hp ho8 HSY HDC HC7 HK7 HF7 HA7 HS7
 go_wp2_with fail
 refine (mbnew_any fb 4 0 2 w8 HF8.out (by omega) (by omega) (by omega) (fun h=>by simp only [sortMax];omega)).mono ?_
 rintro e w9 hp
 obtain ⟨hkx,hfx,rfl⟩:=k10_bad hp (by omega)
 have HC9:=Hd (HC8.out.step hkx hfx)
 have HK9:=Hd (HK8.out.trans hkx)
 have HF9:=Hd hfx
 have HA9:=Hd (HA8.out.kp hkx (fun x hx=>by simp at hx;simp;omega))
 have HS9:=Hd (HS8.out.kp hkx (fun b hb hm=>by have:=(HS8.out.lt b hb).1;simp at hm;omega))
 have HM9:=Hd (HM8.out.kp hkx (fun b hb hm=>by have:=(HM8.out.lt b hb).1;simp at hm;omega))
 have hs9:=hkx.size
 clear hkx hfx hp HC8 HK8 HF8 HA8 HS8 HM8
 go_wp2_with fail
 refine (mbnew_any fb 4 3 2 w9 HF9.out (by omega) (by omega) (by omega) (fun h=>by simp only [sortMax];omega)).mono ?_
 rintro e w10 hp
 obtain ⟨hkx,hfx,rfl⟩:=k10_bad hp (by omega)
 have HC10:=Hd (HC9.out.step hkx hfx)
 have HK10:=Hd (HK9.out.trans hkx)
 have HF10:=Hd hfx
 have HA10:=Hd (HA9.out.kp hkx (fun x hx=>by simp at hx;simp;omega))
 have HS10:=Hd (HS9.out.kp hkx (fun b hb hm=>by have:=(HS9.out.lt b hb).1;simp at hm;omega))
 have HM10:=Hd (HM9.out.kp hkx (fun b hb hm=>by have:=(HM9.out.lt b hb).1;simp at hm;omega))
 have hs10:=hkx.size
 clear hkx hfx hp HC9 HK9 HF9 HA9 HS9 HM9
 go_wp2_with fail
 refine (mbnew_any fb 4 2 4 w10 HF10.out (by omega) (by omega) (by omega) (fun h=>by simp only [sortMax];omega)).mono ?_
 rintro e w11 hp
 obtain ⟨hkx,hfx,rfl⟩:=k10_bad hp (by omega)
 have HC11:=Hd (HC10.out.step hkx hfx)
 have HK11:=Hd (HK10.out.trans hkx)
 have HF11:=Hd hfx
 have HA11:=Hd (HA10.out.kp hkx (fun x hx=>by simp at hx;simp;omega))
 have HS11:=Hd (HS10.out.kp hkx (fun b hb hm=>by have:=(HS10.out.lt b hb).1;simp at hm;omega))
 have HM11:=Hd (HM10.out.kp hkx (fun b hb hm=>by have:=(HM10.out.lt b hb).1;simp at hm;omega))
 have hs11:=hkx.size
 clear hkx hfx hp HC10 HK10 HF10 HA10 HS10 HM10
 go_wp2_with fail
 refine (mbb_any w11 lb 2 2 (cOH HC11.out.box (j:=2) rfl) (cOH HC11.out.box (j:=3) rfl) (lOH HC11.out.box) (by omega)).mono ?_
 rintro e w12 ⟨rfl,hb12⟩
 rw [k10_B]
 have HK12:=Hd (HK11.out.below_step hb12)
 have HA12:=Hd (HA11.out.below hb12)
 have HS12:=Hd (HS11.out.below hb12)
 have HM12:=Hd (HM11.out.below hb12)
 clear HK11 HA11 HS11 HM11
 have hs12:=hb12.size
 clear hb12 HC11 HF11
 obtain ⟨-,-,ga,oa,rfl,hga,b0⟩:=SRd.at HA12.out.all.rd (i:=0) (c:=⟨p0,q0,gl [3,1]⟩) rfl
 obtain ⟨-,-,ga',oa',e1,-,b1⟩:=SRd.at HA12.out.all.rd (i:=1) (c:=⟨p1,q1,gl [5,4]⟩) rfl
 cases e1
 obtain ⟨-,-,ga',oa',e1,-,b2⟩:=SRd.at HA12.out.all.rd (i:=2) (c:=⟨p2,q2,gl [9,14]⟩) rfl
 cases e1
 obtain ⟨-,-,ga',oa',e1,-,b3⟩:=SRd.at HA12.out.all.rd (i:=3) (c:=⟨p3,q3,gl [17,26]⟩) rfl
 cases e1
 have c0:w12.cell? ⟨ga,oa,none⟩=some (.slice p0 2 q0):=b0 0 _ rfl
 have c1:w12.cell? ⟨ga,oa+1,none⟩=some (.slice p1 2 q1):=b1 0 _ rfl
 have c2:w12.cell? ⟨ga,oa+2,none⟩=some (.slice p2 2 q2):=b2 0 _ rfl
 have c3:w12.cell? ⟨ga,oa+3,none⟩=some (.slice p3 2 q3):=b3 0 _ rfl
 have r0:GRd w12 (.slice p0 2 q0) (gl [3,1]):=HA12.out.all.each ⟨p0,q0,gl [3,1]⟩ (by simp)
 have r1:GRd w12 (.slice p1 2 q1) (gl [5,4]):=HA12.out.all.each ⟨p1,q1,gl [5,4]⟩ (by simp)
 have r2:GRd w12 (.slice p2 2 q2) (gl [9,14]):=HA12.out.all.each ⟨p2,q2,gl [9,14]⟩ (by simp)
 have r3:GRd w12 (.slice p3 2 q3) (gl [17,26]):=HA12.out.all.each ⟨p3,q3,gl [17,26]⟩ (by simp)
 have RR12:=Hd (And.intro r0 (And.intro r1 (And.intro r2 r3)))
 clear b0 b1 b2 b3 r0 r1 r2 r3 HA12
 go_wp2_with fail
 refine (same_t _ _ (gl [3,1]) _ ?h1 ?h2).mono ?_
 case h1=>exact (RR12.out.1).below ((Below.refl _ _).alloc (Nat.le_refl _) _)
 case h2=>exact GRd.lit (gl [3,1]) (nwA _ _) rfl
 rintro e w13 ⟨rfl,hwx⟩
 have hbx:Below w12.heap.size w12 w13:=by rw [← hwx];exact (Below.refl _ _).alloc (Nat.le_refl _) _
 have RR13:=Hd (And.intro (RR12.out.1.below hbx) (And.intro (RR12.out.2.1.below hbx) (And.intro (RR12.out.2.2.1.below hbx) (RR12.out.2.2.2.below hbx))))
 have HS13:=Hd (HS12.out.below hbx)
 have HM13:=Hd (HM12.out.below hbx)
 have HK13:=Hd (HK12.out.below_step hbx)
 replace c1:=(hbx.cell (p:=⟨ga,oa+1,none⟩) hga).trans c1
 replace c2:=(hbx.cell (p:=⟨ga,oa+2,none⟩) hga).trans c2
 replace c3:=(hbx.cell (p:=⟨ga,oa+3,none⟩) hga).trans c3
 replace hga:=Nat.lt_of_lt_of_le hga hbx.size
 clear c0
 clear hwx hbx RR12 HS12 HM12 HK12
 go_wp2_with fail
 refine (same_t _ _ (gl [5,4]) _ ?h1 ?h2).mono ?_
 case h1=>exact (RR13.out.2.1).below ((Below.refl _ _).alloc (Nat.le_refl _) _)
 case h2=>exact GRd.lit (gl [5,4]) (nwA _ _) rfl
 rintro e w14 ⟨rfl,hwx⟩
 have hbx:Below w13.heap.size w13 w14:=by rw [← hwx];exact (Below.refl _ _).alloc (Nat.le_refl _) _
 have RR14:=Hd (And.intro (RR13.out.1.below hbx) (And.intro (RR13.out.2.1.below hbx) (And.intro (RR13.out.2.2.1.below hbx) (RR13.out.2.2.2.below hbx))))
 have HS14:=Hd (HS13.out.below hbx)
 have HM14:=Hd (HM13.out.below hbx)
 have HK14:=Hd (HK13.out.below_step hbx)
 replace c2:=(hbx.cell (p:=⟨ga,oa+2,none⟩) hga).trans c2
 replace c3:=(hbx.cell (p:=⟨ga,oa+3,none⟩) hga).trans c3
 replace hga:=Nat.lt_of_lt_of_le hga hbx.size
 clear c1
 clear hwx hbx RR13 HS13 HM13 HK13
 go_wp2_with fail
 refine (same_t _ _ (gl [9,14]) _ ?h1 ?h2).mono ?_
 case h1=>exact (RR14.out.2.2.1).below ((Below.refl _ _).alloc (Nat.le_refl _) _)
 case h2=>exact GRd.lit (gl [9,14]) (nwA _ _) rfl
 rintro e w15 ⟨rfl,hwx⟩
 have hbx:Below w14.heap.size w14 w15:=by rw [← hwx];exact (Below.refl _ _).alloc (Nat.le_refl _) _
 have RR15:=Hd (And.intro (RR14.out.1.below hbx) (And.intro (RR14.out.2.1.below hbx) (And.intro (RR14.out.2.2.1.below hbx) (RR14.out.2.2.2.below hbx))))
 have HS15:=Hd (HS14.out.below hbx)
 have HM15:=Hd (HM14.out.below hbx)
 have HK15:=Hd (HK14.out.below_step hbx)
 replace c3:=(hbx.cell (p:=⟨ga,oa+3,none⟩) hga).trans c3
 replace hga:=Nat.lt_of_lt_of_le hga hbx.size
 clear c2
 clear hwx hbx RR14 HS14 HM14 HK14
 go_wp2_with fail
 refine (same_t _ _ (gl [17,26]) _ ?h1 ?h2).mono ?_
 case h1=>exact (RR15.out.2.2.2).below ((Below.refl _ _).alloc (Nat.le_refl _) _)
 case h2=>exact GRd.lit (gl [17,26]) (nwA _ _) rfl
 rintro e w16 ⟨rfl,hwx⟩
 have hbx:Below w15.heap.size w15 w16:=by rw [← hwx];exact (Below.refl _ _).alloc (Nat.le_refl _) _
 have RR16:=Hd (And.intro (RR15.out.1.below hbx) (And.intro (RR15.out.2.1.below hbx) (And.intro (RR15.out.2.2.1.below hbx) (RR15.out.2.2.2.below hbx))))
 have HS16:=Hd (HS15.out.below hbx)
 have HM16:=Hd (HM15.out.below hbx)
 have HK16:=Hd (HK15.out.below_step hbx)
 clear hwx hbx RR15 HS15 HM15 HK15
 go_wp2_with fail
 refine (same_t _ _ (gl [3,1]) _ ?h1 ?h2).mono ?_
 case h1=>exact (HS16.out.rd).below ((Below.refl _ _).alloc (Nat.le_refl _) _)
 case h2=>exact GRd.lit (gl [3,1]) (nwA _ _) rfl
 rintro e w17 ⟨rfl,hwx⟩
 have hbx:Below w16.heap.size w16 w17:=by rw [← hwx];exact (Below.refl _ _).alloc (Nat.le_refl _) _
 have RR17:=Hd (And.intro (RR16.out.1.below hbx) (And.intro (RR16.out.2.1.below hbx) (And.intro (RR16.out.2.2.1.below hbx) (RR16.out.2.2.2.below hbx))))
 have HS17:=Hd (HS16.out.below hbx)
 have HM17:=Hd (HM16.out.below hbx)
 have HK17:=Hd (HK16.out.below_step hbx)
 clear hwx hbx RR16 HS16 HM16 HK16
 go_wp2_with fail
 refine (same_t _ _ (gl [1,2,3]) _ ?h1 ?h2).mono ?_
 case h1=>exact (HM17.out.rd).below ((Below.refl _ _).alloc (Nat.le_refl _) _)
 case h2=>exact GRd.lit (gl [1,2,3]) (nwA _ _) rfl
 rintro e w18 ⟨rfl,hwx⟩
 have hbx:Below w17.heap.size w17 w18:=by rw [← hwx];exact (Below.refl _ _).alloc (Nat.le_refl _) _
 have RR18:=Hd (And.intro (RR17.out.1.below hbx) (And.intro (RR17.out.2.1.below hbx) (And.intro (RR17.out.2.2.1.below hbx) (RR17.out.2.2.2.below hbx))))
 have HS18:=Hd (HS17.out.below hbx)
 have HM18:=Hd (HM17.out.below hbx)
 have HK18:=Hd (HK17.out.below_step hbx)
 clear hwx hbx RR17 HS17 HM17 HK17
 go_wp2
 go_ret
 exact ⟨rfl,HB0.out.trans (HK18.out.below (by have:=HB0.out.size;omega) (fun x hx=>by have:=HFB.out;simp at hx;omega))⟩
end Go.Proofs.YtcclhhjcejmepaaGreat
