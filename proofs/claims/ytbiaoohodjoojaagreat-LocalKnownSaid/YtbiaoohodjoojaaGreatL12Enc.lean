/-
  The law LocalEncode.
-/
import Derived.Test.YtbiaoohodjoojaaGreatL12Works
import Derived.Test.YtbiaoohodjoojaaGreatL12A
import Derived.Test.YtbiaoohodjoojaaGreatR12A
namespace Go.Proofs.YtbiaoohodjoojaaGreat
open Go.RowKit Fld
set_option linter.unusedVariables false
set_option linter.unusedSimpArgs false

def I64 (x:Int):Prop:=-9223372036854775808≤x∧x≤9223372036854775807
set_option maxRecDepth 100000 in
set_option maxHeartbeats 4000000 in
theorem lenc12_any (n k r:Int) (mv:Value) (m:List GF) (w:World) (hnb:I64 n∧I64 k∧I64 r) (hm:GRd w mv m) :
  Calls Tryz.prog 4 #[.int .i64 n,.int .i64 k,.int .i64 r,mv] w fun e w'=>e=.returned (.bool true)∧Below w.heap.size w w':=by
 have HW:=Lib.hid (fun W=>works12_any W)
 have HFN:=Lib.hid (fun W=>fnew_g W)
 have HNB:=Lib.hid hnb
 obtain ⟨am,cm,rfl,hcm⟩:=hm.form
 obtain ⟨L,hL⟩:∃ L,m.length=L:=⟨_,rfl⟩
 have HM:=Lib.hid hm
 have HL:=Lib.hid hL
 rw [hL] at HM ⊢
 clear hm hL hcm hnb
 go_enter Tryz.func4,Tryz.ntmps4
 go_wp2_with fail
 refine (few_any n k r w).mono ?_
 rintro e w' ⟨b,rfl,rfl,hb⟩
 have HBW:Hid (Below w.heap.size w w):=Lib.hid (Below.refl _ _)
 cases b
 ·clear hb
  go_wp2_with fail
  refine (HW.out _).mono ?_
  rintro e w20 ⟨rfl,hb20⟩
  have HB20:Hid (Below w.heap.size w w20):=Lib.hid (HBW.out.trans (hb20.mono HBW.out.size))
  clear hb20
  go_wp2
  go_ret
  exact ⟨rfl,HB20.out⟩
 clear hb
 by_cases h40:40 < L
 ·have h40':(40:Int) < (L:Int):=by omega
  go_wp2_with fail
  refine (HW.out _).mono ?_
  rintro e w20 ⟨rfl,hb20⟩
  have HB20:Hid (Below w.heap.size w w20):=Lib.hid (HBW.out.trans (hb20.mono HBW.out.size))
  clear hb20
  go_wp2
  go_ret
  exact ⟨rfl,HB20.out⟩
 have h40':¬ (40:Int) < (L:Int):=by omega
 clear HBW
 go_wp2_with fail
 refine (HFN.out _).mono ?_
 rintro e w1 ⟨fb,rfl,hfb0,hf1,hb1⟩
 have HFO:=Lib.hid hf1
 have HB0:=Lib.hid hb1
 have HFB:=Lib.hid hfb0
 have hs1:=hf1.lt
 clear hf1 hb1 hfb0
 go_wp2_with fail
 refine (lnew_any fb n k r w1 HFO.out HNB.out.1 HNB.out.2.1 HNB.out.2.2).mono ?_
 rintro e w2 ⟨hk2,hf2,hcase⟩
 have HB2:Hid (Below w.heap.size w w2):=Lib.hid (HB0.out.trans (hk2.below HB0.out.size (by have:=HFB.out;simp;omega)))
 have HF2:=Lib.hid hf2
 have hfl2:=hf2.lt
 have hs2:=HB2.out.size
 clear hk2 hf2 HFO HB0
 rcases hcase with ⟨N,K,R,rfl,rfl,rfl,hok,lb,cb,cv,xv,rfl,hlb,hc2⟩ | ⟨hno,rfl⟩
 case inr =>
  have HBW:=HB2
  clear hno
  go_wp2_with fail
  refine (HW.out _).mono ?_
  rintro e w20 ⟨rfl,hb20⟩
  have HB20:Hid (Below w.heap.size w w20):=Lib.hid (HBW.out.trans (hb20.mono HBW.out.size))
  clear hb20
  go_wp2
  go_ret
  exact ⟨rfl,HB20.out⟩
 have HC2:=Lib.hid hc2
 have HOK:=Lib.hid hok
 have hM2:=HM.out.below HB2.out
 obtain ⟨st,cc,w3,hcv1,hcv2,hcc,hvw,hb3⟩:=own_copy w2 hM2
 have hrw:=View.list hvw rfl hcc
 rw [HL.out] at hcv2 hcc hrw
 have HC3:=Lib.hid (hc2.below hb3)
 have HB3:Hid (Below w.heap.size w w3):=Lib.hid (HB2.out.trans (hb3.mono HB2.out.size))
 have HR3:=Lib.hid hrw
 have HM3:=Lib.hid (hM2.below hb3)
 have hs3:=hb3.size
 have hs33:=hvw.1
 clear hc2 hok hM2 hvw hb3 hrw HC2 hlb
 go_wp2_with fail
 refine (lencode_any w3 lb cb fb N K R cv xv _ _ m HC3.out HOK.out HOK.out.len HR3.out (.inr (fun k hk hm=>by simp [Value.ownBlock] at hk hm;omega))).mono ?_
 rintro e w4 ⟨hk4,hf4,hcase⟩
 have HB4:Hid (Below w.heap.size w w4):=Lib.hid (HB3.out.trans (hk4.below (by omega) (by have:=HFB.out;simp;omega)))
 have HM4:=Lib.hid (HM.out.below HB4.out)
 have HR4:=Lib.hid (HR3.out.kp hk4 (fun k hk hm=>by simp [Value.ownBlock] at hk hm;omega))
 have HREN:=Lib.hid (renc12_any N K R _ m w4 HOK.out HM4.out (by rw [HL.out];omega))
 clear hk4 hf4 HR3 HM3
 rcases hcase with ⟨hlen,g,rfl,hg,hv⟩ | ⟨hne,rfl⟩
 ·have HV:=Lib.hid hv
  clear hv hcv1 hcv2
  go_wp2_with fail
  refine HREN.out.mono ?_
  rintro e w5 ⟨hb5,⟨-,v,rfl,ho⟩ | ⟨hne,-⟩⟩
  case inr=>exact absurd hlen hne
  have HB5:Hid (Below w.heap.size w w5):=Lib.hid (HB4.out.trans (hb5.mono HB4.out.size))
  have HR5:=Lib.hid (HR4.out.below hb5)
  have HM5:=Lib.hid (HM4.out.below hb5)
  have HO5:=Lib.hid ho.rd
  have HV5:=Lib.hid ((HV.out.below hb5).rowF (Nat.le_refl _))
  clear hb5 ho HREN
  go_wp2_with fail
  refine (same_g _ _ _ _ w5 HV5.out HO5.out).mono ?_
  rintro e w6 ⟨rfl,rfl⟩
  rw [decide_eq_true rfl]
  go_wp2_with fail
  refine (same_g _ _ m m w5 HR5.out HM5.out).mono ?_
  rintro e w6 ⟨rfl,rfl⟩
  rw [decide_eq_true rfl]
  have HBW:=HB5
  go_wp2_with fail
  refine (HW.out _).mono ?_
  rintro e w20 ⟨rfl,hb20⟩
  have HB20:Hid (Below w.heap.size w w20):=Lib.hid (HBW.out.trans (hb20.mono HBW.out.size))
  clear hb20
  go_wp2
  go_ret
  exact ⟨rfl,HB20.out⟩
 ·clear hcv1 hcv2
  go_wp2_with fail
  refine HREN.out.mono ?_
  rintro e w5 ⟨hb5,⟨hlen,-⟩ | ⟨-,rfl⟩⟩
  case inl=>exact absurd hlen hne
  have HB5:Hid (Below w.heap.size w w5):=Lib.hid (HB4.out.trans (hb5.mono HB4.out.size))
  have HR5:=Lib.hid (HR4.out.below hb5)
  have HM5:=Lib.hid (HM4.out.below hb5)
  clear hb5 HREN
  go_wp2_with fail
  refine (same_g _ _ [] [] w5 (OwnG.nil _ 0).rd (OwnG.nil _ 0).rd).mono ?_
  rintro e w6 ⟨rfl,rfl⟩
  rw [decide_eq_true rfl]
  go_wp2_with fail
  refine (same_g _ _ m m w5 HR5.out HM5.out).mono ?_
  rintro e w6 ⟨rfl,rfl⟩
  rw [decide_eq_true rfl]
  have HBW:=HB5
  go_wp2_with fail
  refine (HW.out _).mono ?_
  rintro e w20 ⟨rfl,hb20⟩
  have HB20:Hid (Below w.heap.size w w20):=Lib.hid (HBW.out.trans (hb20.mono HBW.out.size))
  clear hb20
  go_wp2
  go_ret
  exact ⟨rfl,HB20.out⟩
end Go.Proofs.YtbiaoohodjoojaaGreat
