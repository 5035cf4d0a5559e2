/-
  The law LocalTold.
-/
import Derived.Test.YtbiaoohodjoojaaGreatL12Enc
import Derived.Test.YtbiaoohodjoojaaGreatL12B
import Derived.Test.YtbiaoohodjoojaaGreatOwnSyG
import Derived.Test.YtbiaoohodjoojaaGreatR12B
import Derived.Test.YtbiaoohodjoojaaGreatR12A
namespace Go.Proofs.YtbiaoohodjoojaaGreat
open Go.RowKit Fld
set_option linter.unusedVariables false
set_option linter.unusedSimpArgs false

set_option maxRecDepth 100000 in
set_option maxHeartbeats 8000000 in
theorem ltold12_any (n k r tz t:Int) (hv:Value) (l:List Sy) (w:World) (hnb:I64 n∧I64 k∧I64 r) (ht:I64 t) (hl:SyAll w hv l) :
  Calls Tryz.prog 7 #[.int .i64 n,.int .i64 k,.int .i64 r,.int .i64 tz,hv,.int .i64 t] w fun e w'=>e=.returned (.bool true)∧Below w.heap.size w w':=by
 have HW:=Lib.hid (fun W=>works12_any W)
 have HFN:=Lib.hid (fun W=>fnew_g W)
 have HNB:=Lib.hid hnb
 have HT:=Lib.hid ht
 have HL:=Lib.hid hl
 clear hnb hl ht
 go_enter Tryz.func7,Tryz.ntmps7
 go_wp2_with fail
 refine (few_any n k r w).mono ?_
 rintro e w' ⟨b,rfl,rfl,hb⟩
 have HBW:Hid (Below w.heap.size w w):=Lib.hid (Below.refl _ _)
 cases b
 ·clear hb
  go_wp2_with fail
  refine (HW.out _).mono ?_
  rintro e w20 ⟨rfl,hb20⟩
  have HB20:Hid (Below w.heap.size w w20):=Lib.hid (HBW.out.trans (hb20.mono HBW.out.size))
  clear hb20
  go_wp2
  go_ret
  exact ⟨rfl,HB20.out⟩
 clear hb
 go_wp2_with fail
 refine (lite_any hv l 9 9 w HL.out (by omega) (by omega)).mono ?_
 rintro e w' ⟨b,rfl,rfl,hb⟩
 cases b
 ·clear hb
  go_wp2_with fail
  refine (HW.out _).mono ?_
  rintro e w20 ⟨rfl,hb20⟩
  have HB20:Hid (Below w.heap.size w w20):=Lib.hid (HBW.out.trans (hb20.mono HBW.out.size))
  clear hb20
  go_wp2
  go_ret
  exact ⟨rfl,HB20.out⟩
 have HLI:=Lib.hid (hb.1 rfl)
 have hl9:=HLI.out.1
 clear hb HBW
 go_wp2_with fail
 refine (HFN.out _).mono ?_
 rintro e w1 ⟨fb,rfl,hfb0,hf1,hb1⟩
 have HFO:=Lib.hid hf1
 have HB0:=Lib.hid hb1
 have HFB:=Lib.hid hfb0
 have hs1:=hf1.lt
 clear hf1 hb1 hfb0
 go_wp2_with fail
 refine (lnew_any fb n k r w1 HFO.out HNB.out.1 HNB.out.2.1 HNB.out.2.2).mono ?_
 rintro e w2 ⟨hk2,hf2,hcase⟩
 have HB2:Hid (Below w.heap.size w w2):=Lib.hid (HB0.out.trans (hk2.below HB0.out.size (by have:=HFB.out;simp;omega)))
 have HF2:=Lib.hid hf2
 have hfl2:=hf2.lt
 have hs2:=HB2.out.size
 clear hk2 hf2 HFO HB0
 rcases hcase with ⟨N,K,R,rfl,rfl,rfl,hok,lb,cb,cv,xv,rfl,hlb,hc2⟩ | ⟨hno,rfl⟩
 case inr =>
  have HBW:=HB2
  clear hno
  go_wp2_with fail
  refine (HW.out _).mono ?_
  rintro e w20 ⟨rfl,hb20⟩
  have HB20:Hid (Below w.heap.size w w20):=Lib.hid (HBW.out.trans (hb20.mono HBW.out.size))
  clear hb20
  go_wp2
  go_ret
  exact ⟨rfl,HB20.out⟩
 have HC2:=Lib.hid hc2
 have HOK:=Lib.hid hok
 have HXL:=Lib.hid hok.len
 have HXN:=Lib.hid hok.nodup
 have hr0:=hok.r1
 have hn0:=hok.n1
 clear hc2 hok
 obtain ⟨w3,hw3⟩:∃ w3,w3=w2.alloc (.cells #[.int .i64 N,.int .i64 K,.int .i64 R] 29):=⟨_,rfl⟩
 have hb3:Below w2.heap.size w2 w3:=by rw [hw3];exact (Below.refl _ _).alloc (Nat.le_refl _) _
 have hbx:w3.heap[w2.heap.size]? = some (.cells #[.int .i64 N,.int .i64 K,.int .i64 R] 29 (0,0)):=by rw [hw3];exact heap_newA _ _
 have HBX:=Lib.hid hbx
 have HW3:=Lib.hid hw3
 have HB3:Hid (Below w.heap.size w w3):=Lib.hid (HB2.out.trans (hb3.mono HB2.out.size))
 have HC3:=Lib.hid (HC2.out.below hb3)
 have hs3:=hb3.size
 have hs33:=lt_of_heap hbx
 have HOWN:=Lib.hid (ownsyms_any hv l w3 (HL.out.below HB3.out) (by omega))
 have HW3':=hw3
 clear hb3 hbx HC2 hw3
 go_wp2_with fail
 rw [← HW3']
 clear HW3'
 refine HOWN.out.mono ?_
 rintro e w4 ⟨ov,l',rfl,hos,hb4,hn4,hd4⟩
 have HSK:=Lib.hid (map_sk hn4 hd4)
 have HND:=Lib.hid (And.intro hn4 hd4)
 have hll:l'.length=l.length:=by have:=congrArg List.length hn4;simpa [Sy.nodes] using this
 have HLL:=Lib.hid hll
 have HB4:Hid (Below w.heap.size w w4):=Lib.hid (HB3.out.trans (hb4.mono HB3.out.size))
 have HC4:=Lib.hid (HC3.out.below hb4)
 have HX4:=Lib.hid (keepB hb4 HBX.out)
 have HSA:=Lib.hid (hos.apart (S:=[fb]) (by simp;omega))
 have HO4:=Lib.hid hos.all
 have hs4:=hb4.size
 clear hos hb4 hn4 hd4 hll HOWN HC3 HBX
 go_wp2_with fail
 refine (lnearz_any w4 lb cb fb N K R _ tz cv xv ov _ l' HC4.out hr0 hn0.2 HXL.out HXN.out HO4.out (by rw [HLL.out];omega)).mono ?_
 rintro e w5 ⟨hk5,hf5,b1,c1,rfl,hn1⟩
 have HNR:=Lib.hid (sk_nearZ.2 hn1)
 have HC5:=Lib.hid (HC4.out.step hk5 hf5)
 have HB5:Hid (Below w.heap.size w w5):=Lib.hid (HB4.out.trans (hk5.below (by omega) (by have:=HFB.out;simp;omega)))
 have HO5:=Lib.hid (SyAll.kp HO4.out hk5 HSA.out)
 have HX5:=Lib.hid (hk5.heap HX4.out (by simp;omega))
 have y0:=cell_of_heap HX5.out (j:=0) rfl
 have y1:=cell_of_heap HX5.out (j:=1) rfl
 have y2:=cell_of_heap HX5.out (j:=2) rfl
 have hs5:=hk5.size
 clear hk5 hf5 hn1 HC4 HO4 HX4
 go_wp2_with fail
 refine (rnear12_any N K R tz hv l w5 HOK.out (HL.out.below HB5.out) (by omega)).mono ?_
 rintro e w6 ⟨hb6,b2,c2,rfl,hn2⟩
 obtain ⟨rfl,rfl⟩:=nearZ_same HXL.out HXN.out (by rw [← HSK.out];exact HNR.out) (sk_nearZ.2 hn2)
 have HC6:=Lib.hid (HC5.out.below hb6)
 have HB6:Hid (Below w.heap.size w w6):=Lib.hid (HB5.out.trans (hb6.mono HB5.out.size))
 have HO6:=Lib.hid (HO5.out.below hb6)
 have HX6:=Lib.hid (keepB hb6 HX5.out)
 have hs6:=hb6.size
 clear hb6 hn2 HNR HC5 HO5 HX5 y0 y1 y2
 go_wp2_with fail
 refine (ldec_any w6 lb cb fb N K R cv xv ov _ l' t HC6.out HOK.out HXL.out HXN.out HO6.out HSA.out (by rw [HLL.out];omega) HT.out).mono ?_
 rintro e w7 ⟨hk7,hf7,hans⟩
 obtain ⟨c3,m,zs,v1,v2,rfl,his,ho1,hz2⟩:=hans.is
 have HIS:=Lib.hid (sk_dec.2 his)
 have HZL:=Lib.hid (his.len (by rw [HLL.out];omega))
 have HC7:=Lib.hid (HC6.out.step hk7 hf7)
 have HB7:Hid (Below w.heap.size w w7):=Lib.hid (HB6.out.trans (hk7.below (by omega) (by have:=HFB.out;simp;omega)))
 have HO7:=Lib.hid (SyAll.kp HO6.out hk7 HSA.out)
 have HX7:=Lib.hid (hk7.heap HX6.out (by simp;omega))
 have HM7:=Lib.hid ho1
 have HZ7:=Lib.hid hz2
 have y0:=cell_of_heap HX7.out (j:=0) rfl
 have y1:=cell_of_heap HX7.out (j:=1) rfl
 have y2:=cell_of_heap HX7.out (j:=2) rfl
 have hs7:=hk7.size
 clear hk7 hf7 his ho1 hz2 hans HC6 HO6 HX6
 go_wp2_with fail
 refine (rdec12_any N K R hv l t w7 HOK.out (HL.out.below HB7.out) (by omega) HT.out).mono ?_
 rintro e w8 ⟨hb8,hans⟩
 obtain ⟨c4,m',zs',u1,u2,rfl,his,ho1,hz2⟩:=hans.is
 obtain ⟨rfl,rfl,rfl⟩:=LDecIs.one (by omega) HXL.out HXN.out (by rw [← HSK.out];exact HIS.out) (sk_dec.2 his)
 have HC8:=Lib.hid (HC7.out.below hb8)
 have HB8:Hid (Below w.heap.size w w8):=Lib.hid (HB7.out.trans (hb8.mono HB7.out.size))
 have HO8:=Lib.hid (HO7.out.below hb8)
 have HX8:=Lib.hid (keepB hb8 HX7.out)
 have HM8:=Lib.hid (HM7.out.below hb8)
 have HZ8:=Lib.hid (HZ7.out.below hb8)
 have HR8:=Lib.hid ho1.1
 have HRA:Hid (Apart u1 [fb]):=Lib.hid (fun b hb hm=>by have:=ho1.2 b hb;simp at hm;omega)
 have HS8:=Lib.hid hz2
 have hs8:=hb8.size
 clear hb8 hans his ho1 hz2 HIS HC7 HO7 HX7 HM7 HZ7 y0 y1 y2
 go_wp2_with fail
 refine (lrep_any w8 lb cb fb N K R cv xv ov _ l' tz t HC8.out HOK.out HXL.out HXN.out HO8.out HSA.out (by rw [HLL.out];omega) HT.out).mono ?_
 rintro e w9 ⟨hk9,hf9,b5,c5,rfl,hrp⟩
 have HRP:=Lib.hid (sk_rep.2 hrp)
 have HB9:Hid (Below w.heap.size w w9):=Lib.hid (HB8.out.trans (hk9.below (by omega) (by have:=HFB.out;simp;omega)))
 have HO9:=Lib.hid (SyAll.kp HO8.out hk9 HSA.out)
 have HX9:=Lib.hid (hk9.heap HX8.out (by simp;omega))
 have HM9:=Lib.hid (HM8.out.kp hk9 (fun x hx hm=>by have:=(HM8.out.lt x hx).1;simp at hm;omega))
 have HZ9:=Lib.hid (HZ8.out.kp hk9 (by simp;omega))
 have HR9:=Lib.hid (GRd.kp2 HR8.out hk9 (fun _=>HRA.out))
 have HS9:=Lib.hid (HS8.out.kp hk9 (by simp;omega))
 have y0:=cell_of_heap HX9.out (j:=0) rfl
 have y1:=cell_of_heap HX9.out (j:=1) rfl
 have y2:=cell_of_heap HX9.out (j:=2) rfl
 have hs9:=hk9.size
 clear hk9 hf9 hrp HC8 HO8 HX8 HM8 HZ8 HR8 HS8
 go_wp2_with fail
 refine (rrep12_any N K R tz hv l t w9 HOK.out (HL.out.below HB9.out) (by omega) HT.out).mono ?_
 rintro e w10 ⟨hb10,b6,c6,rfl,hrp⟩
 obtain ⟨rfl,rfl⟩:=rep_same (by omega) HXL.out HXN.out (by rw [← HSK.out];exact HRP.out) (sk_rep.2 hrp)
 have HB10:Hid (Below w.heap.size w w10):=Lib.hid (HB9.out.trans (hb10.mono HB9.out.size))
 have HO10:=Lib.hid (HO9.out.below hb10)
 have HM10:=Lib.hid (HM9.out.below hb10)
 have HZ10:=Lib.hid (HZ9.out.below hb10)
 have HR10:=Lib.hid (GRd.below HR9.out hb10)
 have HS10:=Lib.hid (HS9.out.below hb10)
 clear hb10 hrp HRP HO9 HX9 HM9 HZ9 HR9 HS9 y0 y1 y2
 go_wp2_with fail
 refine (same_g _ _ m m w10 HM10.out.rd HR10.out).mono ?_
 rintro e w11 ⟨rfl,rfl⟩
 rw [decide_eq_true rfl]
 go_wp2_with fail
 refine (sameI_any _ _ zs zs w10 HZ10.out.rd HS10.out.rd (by have:=HZL.out;omega) (by have:=HZL.out;omega)).mono ?_
 rintro e w11 ⟨rfl,hb11⟩
 rw [decide_eq_true rfl]
 have HB11:Hid (Below w.heap.size w w11):=Lib.hid (HB10.out.trans (hb11.mono HB10.out.size))
 have HO11:=Lib.hid (HO10.out.below hb11)
 clear hb11
 go_wp2_with fail
 refine (samesyms_any ov hv l' l w11 HO11.out (HL.out.below HB11.out) (by rw [HLL.out];omega)).mono ?_
 rintro e w12 ⟨b,rfl,hb12,hbb⟩
 obtain rfl:b=true:=hbb.2 HND.out
 have HBW:Hid (Below w.heap.size w w12):=Lib.hid (HB11.out.trans (hb12.mono HB11.out.size))
 clear hb12 hbb
 go_wp2_with fail
 refine (HW.out _).mono ?_
 rintro e w20 ⟨rfl,hb20⟩
 have HB20:Hid (Below w.heap.size w w20):=Lib.hid (HBW.out.trans (hb20.mono HBW.out.size))
 clear hb20
 go_wp2
 go_ret
 exact ⟨rfl,HB20.out⟩
end Go.Proofs.YtbiaoohodjoojaaGreat
