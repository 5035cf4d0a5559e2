/-
  The law TransferTold.
-/
import Derived.Test.YtjdnicacnaokdaaGreatEncG
import Derived.Test.YtjdnicacnaokdaaGreatSkG
import Derived.Test.YtjdnicacnaokdaaGreatOwnSyG
import Derived.Test.YtjdnicacnaokdaaGreatTrRepG
import Derived.Test.YtjdnicacnaokdaaGreatR11G
namespace Go.Proofs.YtjdnicacnaokdaaGreat
open Go.RowKit Fld
set_option linter.unusedVariables false
set_option linter.unusedSimpArgs false

set_option maxRecDepth 100000 in
set_option maxHeartbeats 8000000 in
theorem ltold11_any (n k t:Int) (hv sv:Value) (l m:List Sy) (w:World) (hnb:I64 n∧I64 k) (hl:SyAll w hv l) (hm:SyAll w sv m) :
  Calls Tryz.prog 5 #[.int .i64 n,.int .i64 k,.int .i64 t,hv,sv] w fun e w'=>e=.returned (.bool true)∧Below w.heap.size w w':=by
 have HW:=Lib.hid (fun W=>works11_any W)
 have HFN:=Lib.hid (fun W=>fnew_g W)
 have HNB:=Lib.hid hnb
 have HL:=Lib.hid hl
 have HM:=Lib.hid hm
 clear hnb hl hm
 go_enter Tryz.func5,Tryz.ntmps5
 go_wp2_with fail
 refine (few11_any n k w).mono ?_
 rintro e w' ⟨b,rfl,rfl,hb⟩
 have HBW:Hid (Below w.heap.size w w):=Lib.hid (Below.refl _ _)
 cases b
 ·clear hb
  go_wp2_with fail
  refine (HW.out _).mono ?_
  rintro e w20 ⟨rfl,hb20⟩
  have HB20:Hid (Below w.heap.size w w20):=Lib.hid (HBW.out.trans (hb20.mono HBW.out.size))
  clear hb20
  go_wp2
  go_ret
  exact ⟨rfl,HB20.out⟩
 clear hb
 go_wp2_with fail
 refine (lite_any hv l 9 9 w HL.out (by omega) (by omega)).mono ?_
 rintro e w' ⟨b,rfl,rfl,hb⟩
 cases b
 ·clear hb
  go_wp2_with fail
  refine (HW.out _).mono ?_
  rintro e w20 ⟨rfl,hb20⟩
  have HB20:Hid (Below w.heap.size w w20):=Lib.hid (HBW.out.trans (hb20.mono HBW.out.size))
  clear hb20
  go_wp2
  go_ret
  exact ⟨rfl,HB20.out⟩
 have hl9:=(hb.1 rfl).1
 clear hb
 go_wp2_with fail
 refine (lite_any sv m 9 9 w HM.out (by omega) (by omega)).mono ?_
 rintro e w' ⟨b,rfl,rfl,hb⟩
 cases b
 ·clear hb
  go_wp2_with fail
  refine (HW.out _).mono ?_
  rintro e w20 ⟨rfl,hb20⟩
  have HB20:Hid (Below w.heap.size w w20):=Lib.hid (HBW.out.trans (hb20.mono HBW.out.size))
  clear hb20
  go_wp2
  go_ret
  exact ⟨rfl,HB20.out⟩
 have hm9:=(hb.1 rfl).1
 clear hb HBW
 go_wp2_with fail
 refine (HFN.out _).mono ?_
 rintro e w1 ⟨fb,rfl,hfb0,hf1,hb1⟩
 have HFO:=Lib.hid hf1
 have HB0:=Lib.hid hb1
 have HFB:=Lib.hid hfb0
 have hs1:=hf1.lt
 clear hf1 hb1 hfb0
 go_wp2_with fail
 refine (trnew_any fb n k w1 HFO.out HNB.out.1 HNB.out.2).mono ?_
 rintro e w2 ⟨hk2,hf2,hcase⟩
 have HB2:Hid (Below w.heap.size w w2):=Lib.hid (HB0.out.trans (hk2.below HB0.out.size (by have:=HFB.out;simp;omega)))
 have HF2:=Lib.hid hf2
 have hfl2:=hf2.lt
 have hs2:=HB2.out.size
 clear hk2 hf2 HFO HB0
 rcases hcase with ⟨N,K,rfl,rfl,hNK,lb,cb,mb,cv,rfl,hlb,hc2⟩ | ⟨hno,rfl⟩
 case inr =>
  have HBW:=HB2
  clear hno
  go_wp2_with fail
  refine (HW.out _).mono ?_
  rintro e w20 ⟨rfl,hb20⟩
  have HB20:Hid (Below w.heap.size w w20):=Lib.hid (HBW.out.trans (hb20.mono HBW.out.size))
  clear hb20
  go_wp2
  go_ret
  exact ⟨rfl,HB20.out⟩
 have HC2:=Lib.hid hc2
 have HNK:=Lib.hid hNK
 clear hc2 hNK
 obtain ⟨w3,hw3⟩:∃ w3,w3=w2.alloc (.cells #[.int .i64 N,.int .i64 K] 29):=⟨_,rfl⟩
 have hb3:Below w2.heap.size w2 w3:=by rw [hw3];exact (Below.refl _ _).alloc (Nat.le_refl _) _
 have hbx:w3.heap[w2.heap.size]? = some (.cells #[.int .i64 N,.int .i64 K] 29 (0,0)):=by rw [hw3];exact heap_newA _ _
 have HBX:=Lib.hid hbx
 have HB3:Hid (Below w.heap.size w w3):=Lib.hid (HB2.out.trans (hb3.mono HB2.out.size))
 have HC3:=Lib.hid (HC2.out.below hb3)
 have hs3:=hb3.size
 have hs33:=lt_of_heap hbx
 have HOWN:=Lib.hid (ownsyms_any hv l w3 (HL.out.below HB3.out) (by omega))
 have HW3':=hw3
 clear hb3 hbx HC2 hw3
 go_wp2_with fail
 rw [← HW3']
 clear HW3'
 refine HOWN.out.mono ?_
 rintro e w4 ⟨ov,l',rfl,hos,hb4,hn4,hd4⟩
 have HSK:=Lib.hid (map_sk hn4 hd4)
 have HND:=Lib.hid (And.intro hn4 hd4)
 have hll:l'.length=l.length:=by have:=congrArg List.length hn4;simpa [Sy.nodes] using this
 have HLL:=Lib.hid hll
 have HB4:Hid (Below w.heap.size w w4):=Lib.hid (HB3.out.trans (hb4.mono HB3.out.size))
 have HC4:=Lib.hid (HC3.out.below hb4)
 have HX4:=Lib.hid (keepB hb4 HBX.out)
 have HSA:=Lib.hid (hos.apart (S:=[fb]) (by simp;omega))
 have HO4:=Lib.hid hos.all
 have hs4:=hb4.size
 clear hos hb4 hn4 hd4 hll HOWN HC3 HBX
 have HOWN:=Lib.hid (ownsyms_any sv m w4 (HM.out.below HB4.out) (by omega))
 go_wp2_with fail
 refine HOWN.out.mono ?_
 rintro e w5 ⟨pv,m',rfl,hos,hb5,hn5,hd5⟩
 have HSK2:=Lib.hid (map_sk hn5 hd5)
 have HND2:=Lib.hid (And.intro hn5 hd5)
 have hll:m'.length=m.length:=by have:=congrArg List.length hn5;simpa [Sy.nodes] using this
 have HLL2:=Lib.hid hll
 have HB5:Hid (Below w.heap.size w w5):=Lib.hid (HB4.out.trans (hb5.mono HB4.out.size))
 have HC5:=Lib.hid (HC4.out.below hb5)
 have HX5:=Lib.hid (keepB hb5 HX4.out)
 have HSA2:=Lib.hid (hos.apart (S:=[fb]) (by simp;omega))
 have HO5:=Lib.hid (HO4.out.below hb5)
 have HP5:=Lib.hid hos.all
 have hs5:=hb5.size
 clear hos hb5 hn5 hd5 hll HOWN HC4 HX4 HO4
 go_wp2_with fail
 refine (trrep_any w5 lb cb fb mb N K cv ov t l' HC5.out (by have:=HNK.out;omega) HO5.out (by rw [HLL.out];omega)).mono ?_
 rintro e w6 ⟨v1,o1,c1,rfl,hr1,ho1,hb6⟩
 have HR1:=Lib.hid (sk_trep.2 hr1)
 have HV1:=Lib.hid ho1.rd
 have HVA:=Lib.hid ho1
 have HC6:=Lib.hid (HC5.out.below hb6)
 have HB6:Hid (Below w.heap.size w w6):=Lib.hid (HB5.out.trans (hb6.mono HB5.out.size))
 have HX6:=Lib.hid (keepB hb6 HX5.out)
 have HO6:=Lib.hid (HO5.out.below hb6)
 have HP6:=Lib.hid (HP5.out.below hb6)
 have y0:=cell_of_heap HX6.out (j:=0) rfl
 have y1:=cell_of_heap HX6.out (j:=1) rfl
 have hs6:=hb6.size
 clear hb6 hr1 ho1 HC5 HX5 HO5 HP5
 go_wp2_with fail
 refine (rtrep_any w6 N K hv t l (by have:=HNK.out;omega) (HL.out.below HB6.out) (by omega)).mono ?_
 rintro e w7 ⟨v2,o2,c2,rfl,hr2,ho2,hb7⟩
 obtain ⟨rfl,rfl⟩:=TrRepIs.one (by rw [← HSK.out];exact HR1.out) (sk_trep.2 hr2)
 have HVB:=Lib.hid ho2
 have HVA7:=Lib.hid (HVA.out.below hb7)
 have HC7:=Lib.hid (HC6.out.below hb7)
 have HB7:Hid (Below w.heap.size w w7):=Lib.hid (HB6.out.trans (hb7.mono HB6.out.size))
 have HX7:=Lib.hid (keepB hb7 HX6.out)
 have HO7:=Lib.hid (HO6.out.below hb7)
 have HP7:=Lib.hid (HP6.out.below hb7)
 have hs7:=hb7.size
 clear hb7 hr2 ho2 HR1 HV1 HVA HC6 HX6 HO6 HP6 y0 y1
 go_wp2_with fail
 refine (trdec_any w7 lb cb fb mb N K cv pv m' HC7.out HNK.out.1 HNK.out.2.1 HNK.out.2.2 HP7.out HSA2.out (by rw [HLL2.out];omega)).mono ?_
 rintro e w8 ⟨hk8,hf8,hans⟩
 obtain ⟨c3,M,v3,rfl,his,hg3,hb3⟩:=hans.is
 have HIS:=Lib.hid (sk_trdec.2 his)
 have HB8:Hid (Below w.heap.size w w8):=Lib.hid (HB7.out.trans (hk8.below (by omega) (by have:=HFB.out;simp;omega)))
 have HVA8:=Lib.hid (HVA7.out.rd.kp hk8 (fun x hx hm=>by have:=(HVA7.out.lt x hx).1;simp at hm;omega))
 have HVB8:=Lib.hid (HVB.out.rd.kp hk8 (fun x hx hm=>by have:=(HVB.out.lt x hx).1;simp at hm;omega))
 have HX8:=Lib.hid (hk8.heap HX7.out (by simp;omega))
 have HO8:=Lib.hid (SyAll.kp HO7.out hk8 HSA.out)
 have HP8:=Lib.hid (SyAll.kp HP7.out hk8 HSA2.out)
 have HG8:=Lib.hid hg3
 have y0:=cell_of_heap HX8.out (j:=0) rfl
 have y1:=cell_of_heap HX8.out (j:=1) rfl
 have hs8:=hk8.size
 clear hk8 hf8 his hg3 hb3 hans HVA7 HVB HC7 HX7 HO7 HP7
 go_wp2_with fail
 refine (rtdec_any w8 N K sv m HNK.out.1 HNK.out.2.1 HNK.out.2.2 (HM.out.below HB8.out) (by omega)).mono ?_
 rintro e w9 ⟨hb9,hans⟩
 obtain ⟨c4,M',v4,rfl,his,hg4,-⟩:=hans.is
 obtain ⟨rfl,rfl⟩:=TrDecIs.one (pows_nodup (by have:=eN_le HNK.out.2.2;omega)) (pows_len _) (by rw [← HSK2.out];exact HIS.out) (sk_trdec.2 his)
 have HB9:Hid (Below w.heap.size w w9):=Lib.hid (HB8.out.trans (hb9.mono HB8.out.size))
 have HVA9:=Lib.hid (HVA8.out.below hb9)
 have HVB9:=Lib.hid (HVB8.out.below hb9)
 have HO9:=Lib.hid (HO8.out.below hb9)
 have HP9:=Lib.hid (HP8.out.below hb9)
 have HG9:=Lib.hid (HG8.out.below hb9)
 have HH9:=Lib.hid hg4
 clear hb9 hans his hg4 HIS HVA8 HVB8 HX8 HO8 HP8 HG8 y0 y1
 go_wp2_with fail
 refine (same_t _ _ o1 w9 HVA9.out HVB9.out).mono ?_
 rintro e w10 ⟨rfl,rfl⟩
 go_wp2_with fail
 refine (same_t _ _ M w9 HG9.out HH9.out).mono ?_
 rintro e w10 ⟨rfl,rfl⟩
 go_wp2_with fail
 refine (samesyms_any ov hv l' l w9 HO9.out (HL.out.below HB9.out) (by rw [HLL.out];omega)).mono ?_
 rintro e w11 ⟨b,rfl,hb11,hbb⟩
 obtain rfl:b=true:=hbb.2 HND.out
 have HB11:Hid (Below w.heap.size w w11):=Lib.hid (HB9.out.trans (hb11.mono HB9.out.size))
 have HP11:=Lib.hid (HP9.out.below hb11)
 clear hb11 hbb
 go_wp2_with fail
 refine (samesyms_any pv sv m' m w11 HP11.out (HM.out.below HB11.out) (by rw [HLL2.out];omega)).mono ?_
 rintro e w12 ⟨b,rfl,hb12,hbb⟩
 obtain rfl:b=true:=hbb.2 HND2.out
 have HBW:Hid (Below w.heap.size w w12):=Lib.hid (HB11.out.trans (hb12.mono HB11.out.size))
 clear hb12 hbb
 go_wp2_with fail
 refine (HW.out _).mono ?_
 rintro e w20 ⟨rfl,hb20⟩
 have HB20:Hid (Below w.heap.size w w20):=Lib.hid (HBW.out.trans (hb20.mono HBW.out.size))
 clear hb20
 go_wp2
 go_ret
 exact ⟨rfl,HB20.out⟩
end Go.Proofs.YtjdnicacnaokdaaGreat
