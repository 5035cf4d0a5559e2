/-
  Each code that may be is made by its chapter.
-/
import Derived.Test.YtnjbkfeihbcalaaGreatZCfW
import Derived.Test.YtnjbkfeihbcalaaGreatZCfP
import Derived.Test.YtnjbkfeihbcalaaGreatZMbA
import Derived.Test.YtnjbkfeihbcalaaGreatZTr
import Derived.Test.YtnjbkfeihbcalaaGreatZLoc
import Derived.Test.YtnjbkfeihbcalaaGreatZMsN2
import Derived.Test.YtnjbkfeihbcalaaGreatZMsAB
import Derived.Test.YtnjbkfeihbcalaaGreatZKR
import Derived.Deep.Cut
/- Each code that may be is made by its chapter. -/
namespace Go.Proofs.YtnjbkfeihbcalaaGreat
open Go.RowKit Fld
set_option linter.unusedVariables false
set_option linter.unusedSimpArgs false

theorem mk_field (w:World):Calls Tryz.prog 7 #[] w fun e w'=>∃ fb,e=.returned (.pointer (some ⟨fb,0,none⟩))∧w.heap.size≤fb∧FOk w' fb∧Below w.heap.size w w':=by
 refine (fnew_any w).mono ?_
 rintro e w' ⟨rfl,rfl⟩
 exact ⟨_,rfl,Nat.le_refl _,fok_new w,(Below.refl _ _).alloc (Nat.le_refl _) _⟩

set_option maxRecDepth 100000 in
set_option maxHeartbeats 2000000 in
theorem mk_none (c n k d r t q:Int) (w:World) (h:checkF c n k d r t q=none) :
  Calls Tryz.prog 3 #[.agg #[.int .u8 c,.int .i64 n,.int .i64 k,.int .i64 d,.int .i64 r,.int .i64 t,.int .i64 q]] w fun e w'=>e=.returned (.bool true)∧Below w.heap.size w w':=by
 have hc:=fun w=>check_any c n k d r t q w
 rw [h] at hc
 simp only [checkV,Sh.zero,Sh.v] at hc
 clear h
 have HC:=Lib.hid hc
 have HW:=Lib.hid works_any
 have HFN:=Lib.hid mk_field
 clear hc
 go_enter Tryz.func3,Tryz.ntmps3
 go_wp2_with fail
 refine (HC.out _).mono ?_
 rintro e w1 ⟨rfl,hb1⟩
 obtain ⟨b1,hA,hs1,_⟩:=step_alloc _ (Below.refl w.heap.size w) hb1
 clear hb1
 obtain ⟨c0,c1,c2,c3,c4,c5,c6⟩:=cells7 hA
 have HA:=Lib.hid hA
 clear hA HC
 go_wp2_with fail
 refine (HW.out _).mono ?_
 rintro e w2 ⟨rfl,hb2⟩
 have b2:=(b1.alloc b1.size _).trans (hb2.mono (by have:=b1.size;simp;omega))
 clear hb2 b1
 go_wp2
 go_ret
 exact ⟨rfl,b2⟩
set_option maxRecDepth 100000 in
set_option maxHeartbeats 2000000 in
theorem mk_many (c n k d r t q:Int) (s:Sh) (w:World) (h:checkF c n k d r t q=some s) (hn:12 < n) :
  Calls Tryz.prog 3 #[.agg #[.int .u8 c,.int .i64 n,.int .i64 k,.int .i64 d,.int .i64 r,.int .i64 t,.int .i64 q]] w fun e w'=>e=.returned (.bool true)∧Below w.heap.size w w':=by
 have hc:=fun w=>check_any c n k d r t q w
 rw [h] at hc
 simp only [checkV,Sh.v] at hc
 have e12:decide (12 < n)=true:=decide_eq_true hn
 clear h
 have HC:=Lib.hid hc
 have HW:=Lib.hid works_any
 have HFN:=Lib.hid mk_field
 clear hc
 go_enter Tryz.func3,Tryz.ntmps3
 go_wp2_with fail
 refine (HC.out _).mono ?_
 rintro e w1 ⟨rfl,hb1⟩
 obtain ⟨b1,hA,hs1,_⟩:=step_alloc _ (Below.refl w.heap.size w) hb1
 clear hb1
 obtain ⟨c0,c1,c2,c3,c4,c5,c6⟩:=cells7 hA
 have HA:=Lib.hid hA
 clear hA HC
 go_wp2_with fail
 refine (HW.out _).mono ?_
 rintro e w2 ⟨rfl,hb2⟩
 have b2:=(b1.alloc b1.size _).trans (hb2.mono (by have:=b1.size;simp;omega))
 clear hb2 b1
 go_wp2
 go_ret
 exact ⟨rfl,b2⟩
set_option maxRecDepth 100000 in
set_option maxHeartbeats 4000000 in
theorem mk_reedW (N K:Nat) (d r t q b2 b3 b4:Int) (w:World) (hc:∀ w,Calls Tryz.prog 5 #[.agg #[.int .u8 1,.int .i64 (N:Nat),.int .i64 (K:Nat),.int .i64 d,.int .i64 r,.int .i64 t,.int .i64 q]] w fun e w'=>e=.returned (.tuple #[.agg #[.int .i64 1,.int .i64 (K:Nat),.int .i64 b2,.int .i64 b3,.int .i64 b4],.int .i64 0])∧Below w.heap.size w w') (hn:1≤K∧K≤N∧N≤12) :
  Calls Tryz.prog 3 #[.agg #[.int .u8 1,.int .i64 (N:Nat),.int .i64 (K:Nat),.int .i64 d,.int .i64 r,.int .i64 t,.int .i64 q]] w fun e w'=>e=.returned (.bool true)∧Below w.heap.size w w':=by
 have HRD:=Lib.hid (fun W=>kreed_any N K W (by omega) (by omega) (by omega) (by omega))
 have HC:=Lib.hid hc
 have HW:=Lib.hid works_any
 have HFN:=Lib.hid mk_field
 clear hc
 go_enter Tryz.func3,Tryz.ntmps3
 go_wp2_with fail
 refine (HC.out _).mono ?_
 rintro e w1 ⟨rfl,hb1⟩
 obtain ⟨b1,hA,hs1,_⟩:=step_alloc _ (Below.refl w.heap.size w) hb1
 clear hb1
 obtain ⟨c0,c1,c2,c3,c4,c5,c6⟩:=cells7 hA
 have HA:=Lib.hid hA
 clear hA HC
 have e12:decide (12 < (N:Int))=false:=decide_eq_false (by omega)
 go_wp2_with fail
 refine (HFN.out _).mono ?_
 rintro e w2 ⟨fb,rfl,hfb,hf2,hb2⟩
 obtain ⟨b2,hB,hs2,k2⟩:=step_alloc _ b1 hb2
 have hA:=(k2.block _ hs1).trans HA.out
 clear hb2 b1 HA c0 c1 c2 c3 c4 c5 c6 e12
 obtain ⟨c0,c1,c2,c3,c4,c5,c6⟩:=cells7 hA
 obtain ⟨d0,d1,d2,d3,d4⟩:=cells5 hB
 have HA:=Lib.hid hA
 have HB:=Lib.hid hB
 have HB2:=Lib.hid b2
 have HF2:=Lib.hid hf2
 have HFB:Hid (w1.heap.size+1≤fb):=Lib.hid (by simpa using hfb)
 clear hA hB hf2 hfb b2 k2 HFN
 go_wp2_with fail
 refine (HRD.out _).mono ?_
 rintro e w3 ⟨hb3,⟨-,cb,fb2,v,rfl,-⟩ | ⟨hno,rfl⟩⟩
 case inr=>omega
 have hA:=keepB hb3 HA.out
 have hB:=keepB hb3 HB.out
 have HB3:=Lib.hid (HB2.out.trans (hb3.mono HB2.out.size))
 have hs3:=HB3.out.size
 clear c0 c1 c2 c3 c4 c5 c6 d0 d1 d2 d3 d4 HA HB HB2 HF2 hb3 HFB hs1 hs2 HRD
 obtain ⟨c0,c1,c2,c3,c4,c5,c6⟩:=cells7 hA
 obtain ⟨d0,d1,d2,d3,d4⟩:=cells5 hB
 clear hA hB
 go_wp2_with fail
 refine (HW.out _).mono ?_
 rintro e w4 ⟨rfl,hb4⟩
 have HB4:=Lib.hid (HB3.out.trans (hb4.mono hs3))
 clear hb4 HB3
 go_wp2
 go_ret
 exact ⟨rfl,HB4.out⟩
set_option maxRecDepth 100000 in
set_option maxHeartbeats 4000000 in
theorem mk_msrW (N K D u a:Nat) (r t q b2 b3 b4:Int) (B:Nat) (w:World) (hok:MsOk N K D u a) (hKa:K * a=B) (hc:∀ w,Calls Tryz.prog 5 #[.agg #[.int .u8 2,.int .i64 (N:Nat),.int .i64 (K:Nat),.int .i64 (D:Nat),.int .i64 r,.int .i64 t,.int .i64 q]] w fun e w'=>e=.returned (.tuple #[.agg #[.int .i64 (a:Nat),.int .i64 (B:Nat),.int .i64 b2,.int .i64 b3,.int .i64 b4],.int .i64 0])∧Below w.heap.size w w') (hn:N≤12) :
  Calls Tryz.prog 3 #[.agg #[.int .u8 2,.int .i64 (N:Nat),.int .i64 (K:Nat),.int .i64 (D:Nat),.int .i64 r,.int .i64 t,.int .i64 q]] w fun e w'=>e=.returned (.bool true)∧Below w.heap.size w w':=by
 have hN:K≤1000∧a≤1000∧D < N:=by
  have h1:=hok.hd
  have h2:=hok.hu
  have h3:=hok.ha
  have h4:=hok.h16
  omega
 have HOK:=Lib.hid hok
 have HKA:=Lib.hid hKa
 clear hok hKa
 have HC:=Lib.hid hc
 have HW:=Lib.hid works_any
 have HFN:=Lib.hid mk_field
 clear hc
 go_enter Tryz.func3,Tryz.ntmps3
 go_wp2_with fail
 refine (HC.out _).mono ?_
 rintro e w1 ⟨rfl,hb1⟩
 obtain ⟨b1,hA,hs1,_⟩:=step_alloc _ (Below.refl w.heap.size w) hb1
 clear hb1
 obtain ⟨c0,c1,c2,c3,c4,c5,c6⟩:=cells7 hA
 have HA:=Lib.hid hA
 clear hA HC
 have e12:decide (12 < (N:Int))=false:=decide_eq_false (by omega)
 go_wp2_with fail
 refine (HFN.out _).mono ?_
 rintro e w2 ⟨fb,rfl,hfb,hf2,hb2⟩
 obtain ⟨b2,hB,hs2,k2⟩:=step_alloc _ b1 hb2
 have hA:=(k2.block _ hs1).trans HA.out
 clear hb2 b1 HA c0 c1 c2 c3 c4 c5 c6 e12
 obtain ⟨c0,c1,c2,c3,c4,c5,c6⟩:=cells7 hA
 obtain ⟨d0,d1,d2,d3,d4⟩:=cells5 hB
 have HA:=Lib.hid hA
 have HB:=Lib.hid hB
 have HB2:=Lib.hid b2
 have HF2:=Lib.hid hf2
 have HFB:Hid (w1.heap.size+1≤fb):=Lib.hid (by simpa using hfb)
 clear hA hB hf2 hfb b2 k2 HFN
 go_wp2_with fail
 refine (msnew_any fb N K D w2 HF2.out (by omega) (by omega) (by omega)).mono ?_
 rintro e w3 ⟨hk3,hf3,⟨N',K',D',u',a',e1,e2,e3,lb,pb,gb,vx,vl,X,rfl,hlb,hc3⟩ | ⟨hno,rfl⟩⟩
 case inr=>exact absurd ⟨N,K,D,u,a,rfl,rfl,rfl,HOK.out⟩ hno
 obtain rfl:N=N':=by omega
 obtain rfl:K=K':=by omega
 obtain rfl:D=D':=by omega
 obtain rfl:u=u':=by have:=HOK.out.hu;have:=hc3.ok.hu;omega
 obtain rfl:a=a':=by have:=HOK.out.ha;have:=hc3.ok.ha;omega
 clear hlb e1 e2 e3
 have hfb:=HFB.out
 have hA:=hk3.heap HA.out (by simp;omega)
 have hB:=hk3.heap HB.out (by simp;omega)
 have b3:=HB2.out.trans (hk3.below HB2.out.size (by simp;omega))
 have HB3:=Lib.hid b3
 have hs3:=b3.size
 clear c0 c1 c2 c3 c4 c5 c6 d0 d1 d2 d3 d4 b3 HA HB HB2 HF2 hk3 hf3 hfb HFB hs1 hs2
 obtain ⟨c0,c1,c2,c3,c4,c5,c6⟩:=cells7 hA
 obtain ⟨d0,d1,d2,d3,d4⟩:=cells5 hB
 have lA:=lt_of_heap hA
 have lB:=lt_of_heap hB
 clear hA hB
 have HAL:=Lib.hid (msa_any w3.drew lb a (cell_of_heap hc3.box (j:=5) rfl))
 have hbp:=msb_any w3.drew lb K a (cell_of_heap hc3.box (j:=2) rfl) (cell_of_heap hc3.box (j:=5) rfl) (lt_of_heap hc3.box) (by omega)
 rw [HKA.out] at hbp
 have HBP:=Lib.hid hbp
 clear hc3 hbp HKA HOK
 go_upto_region 10 with fail
 have hgr:=fun (w0 W:World) (p:Addr) (hp:(fun kk=>kk < w3.heap.size) p.block)=>graft_cell (w0:=w0) (keep:=(fun kk=>kk < w3.heap.size)) W hp
 refine wp_region_tree (fun kk=>kk < w3.heap.size) [4,11,17] (.sq [0,1,2,3,5,6,4,7,8,9,10,12,13,11,14,15,16,17,18,19] .done) (by kernel_rfl) (by kernel_rfl) ?_
 simp only [Tr.sq,List.foldr_cons,List.foldr_nil,slimTr,slimStep,Oper.slim,List.contains_cons,List.contains_nil,Option.map_none,Option.map_some,List.getElem?_toArray,List.getElem?_cons_zero,List.getElem?_cons_succ,Option.bind_some,beq_self_eq_true,Bool.or_false,Nat.reduceBEq,Nat.reduceAdd,Nat.zero_add]
 repeat' first | ((with_reducible refine wpSlimT_id ?_);first | (with_reducible refine wpSlimT_done ?_) | ((with_reducible refine wpSlimT_step (fun K hK=>?_));go_simp;first | (refine hK _ _ ?_;clear hK K) | (refine ⟨by (intro kk hkk;first | (simp (disch:=(simp;omega)) only [hp_drew,hp_drewN,hp_alloc,hp_set];done) | (simp [hp_drew,hp_drewN,hp_alloc_if,hkk];done) | fail),hK _ _ ?_⟩;clear hK K) | (go_at_call 10;(with_reducible refine HAL.out.mono ?_);rintro e wx ⟨rfl,hwx⟩;subst hwx;refine ⟨_,rfl,(fun kk hkk=>rfl),hK _ _ ?_⟩;clear hK K) | (go_at_call 11;(with_reducible refine HBP.out.mono ?_);rintro e wy ⟨rfl,hby⟩;have HBY:Hid (Below w3.heap.size w3 wy):=Lib.hid (((Below.refl w3.heap.size w3).drew).trans hby);refine ⟨_,rfl,(fun kk hkk=>HBY.out.block kk hkk),hK _ _ ?_⟩;clear hby hK K) | (go_at_call 6;(with_reducible refine (HW.out _).mono ?_);rintro e wv ⟨rfl,hbv⟩;have HBV:Hid (Below w3.heap.size w3 wv):=Lib.hid (HBY.out.trans (hbv.mono HBY.out.size));refine ⟨_,rfl,(fun kk hkk=>HBV.out.block kk hkk),hK _ _ ?_⟩;clear hbv hK K))) | fail
 clear hgr
 go_wp2
 go_ret
 exact ⟨rfl,HB3.out.trans (HBV.out.mono hs3)⟩
set_option maxRecDepth 100000 in
set_option maxHeartbeats 4000000 in
theorem mk_mbrW (N K D:Nat) (r t q b2 b3 b4:Int) (B:Nat) (w:World) (hok:1≤K∧K≤D∧D < N∧N≤255) (hKa:mbB K D=B) (hc:∀ w,Calls Tryz.prog 5 #[.agg #[.int .u8 3,.int .i64 (N:Nat),.int .i64 (K:Nat),.int .i64 (D:Nat),.int .i64 r,.int .i64 t,.int .i64 q]] w fun e w'=>e=.returned (.tuple #[.agg #[.int .i64 (D:Nat),.int .i64 (B:Nat),.int .i64 b2,.int .i64 b3,.int .i64 b4],.int .i64 0])∧Below w.heap.size w w') (hn:N≤12) :
  Calls Tryz.prog 3 #[.agg #[.int .u8 3,.int .i64 (N:Nat),.int .i64 (K:Nat),.int .i64 (D:Nat),.int .i64 r,.int .i64 t,.int .i64 q]] w fun e w'=>e=.returned (.bool true)∧Below w.heap.size w w':=by
 have HKA:=Lib.hid hKa
 clear hKa
 have HC:=Lib.hid hc
 have HW:=Lib.hid works_any
 have HFN:=Lib.hid mk_field
 clear hc
 go_enter Tryz.func3,Tryz.ntmps3
 go_wp2_with fail
 refine (HC.out _).mono ?_
 rintro e w1 ⟨rfl,hb1⟩
 obtain ⟨b1,hA,hs1,_⟩:=step_alloc _ (Below.refl w.heap.size w) hb1
 clear hb1
 obtain ⟨c0,c1,c2,c3,c4,c5,c6⟩:=cells7 hA
 have HA:=Lib.hid hA
 clear hA HC
 have e12:decide (12 < (N:Int))=false:=decide_eq_false (by omega)
 go_wp2_with fail
 refine (HFN.out _).mono ?_
 rintro e w2 ⟨fb,rfl,hfb,hf2,hb2⟩
 obtain ⟨b2,hB,hs2,k2⟩:=step_alloc _ b1 hb2
 have hA:=(k2.block _ hs1).trans HA.out
 clear hb2 b1 HA c0 c1 c2 c3 c4 c5 c6 e12
 obtain ⟨c0,c1,c2,c3,c4,c5,c6⟩:=cells7 hA
 obtain ⟨d0,d1,d2,d3,d4⟩:=cells5 hB
 have HA:=Lib.hid hA
 have HB:=Lib.hid hB
 have HB2:=Lib.hid b2
 have HF2:=Lib.hid hf2
 have HFB:Hid (w1.heap.size+1≤fb):=Lib.hid (by simpa using hfb)
 clear hA hB hf2 hfb b2 k2 HFN
 go_wp2_with fail
 refine (mbnew_any fb N K D w2 HF2.out (by omega) (by omega) (by omega) (fun h=>by simp only [sortMax];omega)).mono ?_
 rintro e w3 ⟨hk3,hf3,⟨N',K',D',e1,e2,e3,hNK,lb,t1,t2,pb,v1,v2,rfl,hlb,hc3⟩ | ⟨hno,rfl⟩⟩
 case inr=>omega
 obtain rfl:N=N':=by omega
 obtain rfl:K=K':=by omega
 obtain rfl:D=D':=by omega
 clear hlb e1 e2 e3 hNK
 have hfb:=HFB.out
 have hA:=hk3.heap HA.out (by simp;omega)
 have hB:=hk3.heap HB.out (by simp;omega)
 have b3:=HB2.out.trans (hk3.below HB2.out.size (by simp;omega))
 have HB3:=Lib.hid b3
 have hs3:=b3.size
 clear c0 c1 c2 c3 c4 c5 c6 d0 d1 d2 d3 d4 b3 HA HB HB2 HF2 hk3 hf3 hfb HFB hs1 hs2
 obtain ⟨c0,c1,c2,c3,c4,c5,c6⟩:=cells7 hA
 obtain ⟨d0,d1,d2,d3,d4⟩:=cells5 hB
 have lA:=lt_of_heap hA
 have lB:=lt_of_heap hB
 clear hA hB
 have HAL:=Lib.hid (mba_any w3.drew lb D (cell_of_heap hc3.box (j:=3) rfl))
 have hbp:=mbb_any w3.drew lb K D (cell_of_heap hc3.box (j:=2) rfl) (cell_of_heap hc3.box (j:=3) rfl) (lt_of_heap hc3.box) (by omega)
 rw [HKA.out] at hbp
 have HBP:=Lib.hid hbp
 clear hc3 hbp HKA
 go_upto_region 13 with fail
 have hgr:=fun (w0 W:World) (p:Addr) (hp:(fun kk=>kk < w3.heap.size) p.block)=>graft_cell (w0:=w0) (keep:=(fun kk=>kk < w3.heap.size)) W hp
 refine wp_region_tree (fun kk=>kk < w3.heap.size) [4,11,17] (.sq [0,1,2,3,5,6,4,7,8,9,10,12,13,11,14,15,16,17,18,19] .done) (by kernel_rfl) (by kernel_rfl) ?_
 simp only [Tr.sq,List.foldr_cons,List.foldr_nil,slimTr,slimStep,Oper.slim,List.contains_cons,List.contains_nil,Option.map_none,Option.map_some,List.getElem?_toArray,List.getElem?_cons_zero,List.getElem?_cons_succ,Option.bind_some,beq_self_eq_true,Bool.or_false,Nat.reduceBEq,Nat.reduceAdd,Nat.zero_add]
 repeat' first | ((with_reducible refine wpSlimT_id ?_);first | (with_reducible refine wpSlimT_done ?_) | ((with_reducible refine wpSlimT_step (fun K hK=>?_));go_simp;first | (refine hK _ _ ?_;clear hK K) | (refine ⟨by (intro kk hkk;first | (simp (disch:=(simp;omega)) only [hp_drew,hp_drewN,hp_alloc,hp_set];done) | (simp [hp_drew,hp_drewN,hp_alloc_if,hkk];done) | fail),hK _ _ ?_⟩;clear hK K) | (go_at_call 13;(with_reducible refine HAL.out.mono ?_);rintro e wx ⟨rfl,hwx⟩;subst hwx;refine ⟨_,rfl,(fun kk hkk=>rfl),hK _ _ ?_⟩;clear hK K) | (go_at_call 14;(with_reducible refine HBP.out.mono ?_);rintro e wy ⟨rfl,hby⟩;have HBY:Hid (Below w3.heap.size w3 wy):=Lib.hid (((Below.refl w3.heap.size w3).drew).trans hby);refine ⟨_,rfl,(fun kk hkk=>HBY.out.block kk hkk),hK _ _ ?_⟩;clear hby hK K) | (go_at_call 6;(with_reducible refine (HW.out _).mono ?_);rintro e wv ⟨rfl,hbv⟩;have HBV:Hid (Below w3.heap.size w3 wv):=Lib.hid (HBY.out.trans (hbv.mono HBY.out.size));refine ⟨_,rfl,(fun kk hkk=>HBV.out.block kk hkk),hK _ _ ?_⟩;clear hbv hK K))) | fail
 clear hgr
 go_wp2
 go_ret
 exact ⟨rfl,HB3.out.trans (HBV.out.mono hs3)⟩
set_option maxRecDepth 100000 in
set_option maxHeartbeats 4000000 in
theorem mk_trW (N K N1:Nat) (d r t q b2 b3 b4:Int) (B:Nat) (w:World) (hok:1≤K∧K < N∧N≤23) (hKa:trB N K=B) (hN1:N - 1=N1) (hc:∀ w,Calls Tryz.prog 5 #[.agg #[.int .u8 4,.int .i64 (N:Nat),.int .i64 (K:Nat),.int .i64 d,.int .i64 r,.int .i64 t,.int .i64 q]] w fun e w'=>e=.returned (.tuple #[.agg #[.int .i64 (N1:Nat),.int .i64 (B:Nat),.int .i64 b2,.int .i64 b3,.int .i64 b4],.int .i64 0])∧Below w.heap.size w w') (hn:N≤12) :
  Calls Tryz.prog 3 #[.agg #[.int .u8 4,.int .i64 (N:Nat),.int .i64 (K:Nat),.int .i64 d,.int .i64 r,.int .i64 t,.int .i64 q]] w fun e w'=>e=.returned (.bool true)∧Below w.heap.size w w':=by
 have HKA:=Lib.hid hKa
 have HN1:=Lib.hid hN1
 clear hKa hN1
 have HC:=Lib.hid hc
 have HW:=Lib.hid works_any
 have HFN:=Lib.hid mk_field
 clear hc
 go_enter Tryz.func3,Tryz.ntmps3
 go_wp2_with fail
 refine (HC.out _).mono ?_
 rintro e w1 ⟨rfl,hb1⟩
 obtain ⟨b1,hA,hs1,_⟩:=step_alloc _ (Below.refl w.heap.size w) hb1
 clear hb1
 obtain ⟨c0,c1,c2,c3,c4,c5,c6⟩:=cells7 hA
 have HA:=Lib.hid hA
 clear hA HC
 have e12:decide (12 < (N:Int))=false:=decide_eq_false (by omega)
 go_wp2_with fail
 refine (HFN.out _).mono ?_
 rintro e w2 ⟨fb,rfl,hfb,hf2,hb2⟩
 obtain ⟨b2,hB,hs2,k2⟩:=step_alloc _ b1 hb2
 have hA:=(k2.block _ hs1).trans HA.out
 clear hb2 b1 HA c0 c1 c2 c3 c4 c5 c6 e12
 obtain ⟨c0,c1,c2,c3,c4,c5,c6⟩:=cells7 hA
 obtain ⟨d0,d1,d2,d3,d4⟩:=cells5 hB
 have HA:=Lib.hid hA
 have HB:=Lib.hid hB
 have HB2:=Lib.hid b2
 have HF2:=Lib.hid hf2
 have HFB:Hid (w1.heap.size+1≤fb):=Lib.hid (by simpa using hfb)
 clear hA hB hf2 hfb b2 k2 HFN
 go_wp2_with fail
 refine (trnew_any fb N K w2 HF2.out (by omega) (by omega)).mono ?_
 rintro e w3 ⟨hk3,hf3,⟨N',K',e1,e2,hNK,lb,cb,mb,cv,rfl,hlb,hc3⟩ | ⟨hno,rfl⟩⟩
 case inr=>omega
 obtain rfl:N=N':=by omega
 obtain rfl:K=K':=by omega
 clear hlb e1 e2 hNK
 have hfb:=HFB.out
 have hA:=hk3.heap HA.out (by simp;omega)
 have hB:=hk3.heap HB.out (by simp;omega)
 have b3:=HB2.out.trans (hk3.below HB2.out.size (by simp;omega))
 have HB3:=Lib.hid b3
 have hs3:=b3.size
 clear c0 c1 c2 c3 c4 c5 c6 d0 d1 d2 d3 d4 b3 HA HB HB2 HF2 hk3 hf3 hfb HFB hs1 hs2
 obtain ⟨c0,c1,c2,c3,c4,c5,c6⟩:=cells7 hA
 obtain ⟨d0,d1,d2,d3,d4⟩:=cells5 hB
 have lA:=lt_of_heap hA
 have lB:=lt_of_heap hB
 clear hA hB
 have hal:=tra_any w3.drew lb N (cell_of_heap hc3.box (j:=0) rfl) (by omega)
 rw [HN1.out] at hal
 have HAL:=Lib.hid hal
 have hbp:=trb_any w3.drew lb N K (cell_of_heap hc3.box (j:=0) rfl) (cell_of_heap hc3.box (j:=1) rfl) (lt_of_heap hc3.box) (by omega) (by omega)
 rw [HKA.out] at hbp
 have HBP:=Lib.hid hbp
 clear hc3 hbp HKA hal HN1
 go_upto_region 16 with fail
 have hgr:=fun (w0 W:World) (p:Addr) (hp:(fun kk=>kk < w3.heap.size) p.block)=>graft_cell (w0:=w0) (keep:=(fun kk=>kk < w3.heap.size)) W hp
 refine wp_region_tree (fun kk=>kk < w3.heap.size) [4,11,17] (.sq [0,1,2,3,5,6,4,7,8,9,10,12,13,11,14,15,16,17,18,19] .done) (by kernel_rfl) (by kernel_rfl) ?_
 simp only [Tr.sq,List.foldr_cons,List.foldr_nil,slimTr,slimStep,Oper.slim,List.contains_cons,List.contains_nil,Option.map_none,Option.map_some,List.getElem?_toArray,List.getElem?_cons_zero,List.getElem?_cons_succ,Option.bind_some,beq_self_eq_true,Bool.or_false,Nat.reduceBEq,Nat.reduceAdd,Nat.zero_add]
 repeat' first | ((with_reducible refine wpSlimT_id ?_);first | (with_reducible refine wpSlimT_done ?_) | ((with_reducible refine wpSlimT_step (fun K hK=>?_));go_simp;first | (refine hK _ _ ?_;clear hK K) | (refine ⟨by (intro kk hkk;first | (simp (disch:=(simp;omega)) only [hp_drew,hp_drewN,hp_alloc,hp_set];done) | (simp [hp_drew,hp_drewN,hp_alloc_if,hkk];done) | fail),hK _ _ ?_⟩;clear hK K) | (go_at_call 16;(with_reducible refine HAL.out.mono ?_);rintro e wx ⟨rfl,hwx⟩;subst hwx;refine ⟨_,rfl,(fun kk hkk=>rfl),hK _ _ ?_⟩;clear hK K) | (go_at_call 17;(with_reducible refine HBP.out.mono ?_);rintro e wy ⟨rfl,hby⟩;have HBY:Hid (Below w3.heap.size w3 wy):=Lib.hid (((Below.refl w3.heap.size w3).drew).trans hby);refine ⟨_,rfl,(fun kk hkk=>HBY.out.block kk hkk),hK _ _ ?_⟩;clear hby hK K) | (go_at_call 6;(with_reducible refine (HW.out _).mono ?_);rintro e wv ⟨rfl,hbv⟩;have HBV:Hid (Below w3.heap.size w3 wv):=Lib.hid (HBY.out.trans (hbv.mono HBY.out.size));refine ⟨_,rfl,(fun kk hkk=>HBV.out.block kk hkk),hK _ _ ?_⟩;clear hbv hK K))) | fail
 clear hgr
 go_wp2
 go_ret
 exact ⟨rfl,HB3.out.trans (HBV.out.mono hs3)⟩
set_option maxRecDepth 100000 in
set_option maxHeartbeats 4000000 in
theorem mk_locW (N K R T:Nat) (d t q a0 a1 b3 b4:Int) (w:World) (hok:LOkN N K R) (hT:K+K / R - 1=T) (hc:∀ w,Calls Tryz.prog 5 #[.agg #[.int .u8 5,.int .i64 (N:Nat),.int .i64 (K:Nat),.int .i64 d,.int .i64 (R:Nat),.int .i64 t,.int .i64 q]] w fun e w'=>e=.returned (.tuple #[.agg #[.int .i64 a0,.int .i64 a1,.int .i64 (T:Nat),.int .i64 b3,.int .i64 b4],.int .i64 0])∧Below w.heap.size w w') (hn:N≤12) :
  Calls Tryz.prog 3 #[.agg #[.int .u8 5,.int .i64 (N:Nat),.int .i64 (K:Nat),.int .i64 d,.int .i64 (R:Nat),.int .i64 t,.int .i64 q]] w fun e w'=>e=.returned (.bool true)∧Below w.heap.size w w':=by
 have hN:K≤255∧R≤254:=⟨hok.k1.2,hok.r1.2⟩
 have HOK:=Lib.hid hok
 have HT:=Lib.hid hT
 clear hok hT
 have HC:=Lib.hid hc
 have HW:=Lib.hid works_any
 have HFN:=Lib.hid mk_field
 clear hc
 go_enter Tryz.func3,Tryz.ntmps3
 go_wp2_with fail
 refine (HC.out _).mono ?_
 rintro e w1 ⟨rfl,hb1⟩
 obtain ⟨b1,hA,hs1,_⟩:=step_alloc _ (Below.refl w.heap.size w) hb1
 clear hb1
 obtain ⟨c0,c1,c2,c3,c4,c5,c6⟩:=cells7 hA
 have HA:=Lib.hid hA
 clear hA HC
 have e12:decide (12 < (N:Int))=false:=decide_eq_false (by omega)
 go_wp2_with fail
 refine (HFN.out _).mono ?_
 rintro e w2 ⟨fb,rfl,hfb,hf2,hb2⟩
 obtain ⟨b2,hB,hs2,k2⟩:=step_alloc _ b1 hb2
 have hA:=(k2.block _ hs1).trans HA.out
 clear hb2 b1 HA c0 c1 c2 c3 c4 c5 c6 e12
 obtain ⟨c0,c1,c2,c3,c4,c5,c6⟩:=cells7 hA
 obtain ⟨d0,d1,d2,d3,d4⟩:=cells5 hB
 have HA:=Lib.hid hA
 have HB:=Lib.hid hB
 have HB2:=Lib.hid b2
 have HF2:=Lib.hid hf2
 have HFB:Hid (w1.heap.size+1≤fb):=Lib.hid (by simpa using hfb)
 clear hA hB hf2 hfb b2 k2 HFN
 go_wp2_with fail
 refine (lnew_any fb N K R w2 HF2.out (by omega) (by omega) (by omega)).mono ?_
 rintro e w3 ⟨hk3,hf3,⟨N',K',R',e1,e2,e3,-,lb,cb,cv,xv,rfl,hlb,hc3⟩ | ⟨hno,rfl⟩⟩
 case inr=>exact absurd ⟨N,K,R,rfl,rfl,rfl,HOK.out⟩ hno
 obtain rfl:N=N':=by omega
 obtain rfl:K=K':=by omega
 obtain rfl:R=R':=by omega
 clear hlb e1 e2 e3
 rw [HT.out] at hc3
 have hfb:=HFB.out
 have hA:=hk3.heap HA.out (by simp;omega)
 have hB:=hk3.heap HB.out (by simp;omega)
 have b3:=HB2.out.trans (hk3.below HB2.out.size (by simp;omega))
 have HB3:=Lib.hid b3
 have hs3:=b3.size
 clear c0 c1 c2 c3 c4 c5 c6 d0 d1 d2 d3 d4 b3 HA HB HB2 HF2 hk3 hf3 hfb HFB hs1 hs2
 obtain ⟨c0,c1,c2,c3,c4,c5,c6⟩:=cells7 hA
 obtain ⟨d0,d1,d2,d3,d4⟩:=cells5 hB
 have lA:=lt_of_heap hA
 have lB:=lt_of_heap hB
 clear hA hB
 have hal:=fun W (hb:Below w3.heap.size w3 W)=>ltells_any lb cb fb N K R T cv xv _ W (hc3.below hb)
 have HAL:=Lib.hid (hal w3.drew ((Below.refl _ _).drew))
 clear hc3 hal HT HOK
 go_upto_region 18 with fail
 have hgr:=fun (w0 W:World) (p:Addr) (hp:(fun kk=>kk < w3.heap.size) p.block)=>graft_cell (w0:=w0) (keep:=(fun kk=>kk < w3.heap.size)) W hp
 refine wp_region_tree (fun kk=>kk < w3.heap.size) [4,10] (.sq [0,1,2,3,5,6,4,7,8,9,10,11,12] .done) (by kernel_rfl) (by kernel_rfl) ?_
 simp only [Tr.sq,List.foldr_cons,List.foldr_nil,slimTr,slimStep,Oper.slim,List.contains_cons,List.contains_nil,Option.map_none,Option.map_some,List.getElem?_toArray,List.getElem?_cons_zero,List.getElem?_cons_succ,Option.bind_some,beq_self_eq_true,Bool.or_false,Nat.reduceBEq,Nat.reduceAdd,Nat.zero_add]
 repeat' first | ((with_reducible refine wpSlimT_id ?_);first | (with_reducible refine wpSlimT_done ?_) | ((with_reducible refine wpSlimT_step (fun K hK=>?_));go_simp;first | (refine hK _ _ ?_;clear hK K) | (refine ⟨by (intro kk hkk;first | (simp (disch:=(simp;omega)) only [hp_drew,hp_drewN,hp_alloc,hp_set];done) | (simp [hp_drew,hp_drewN,hp_alloc_if,hkk];done) | fail),hK _ _ ?_⟩;clear hK K) | (go_at_call 19;(with_reducible refine HAL.out.mono ?_);rintro e wx ⟨rfl,hwx⟩;subst hwx;refine ⟨_,rfl,(fun kk hkk=>rfl),hK _ _ ?_⟩;clear hK K) | (go_at_call 6;(with_reducible refine (HW.out _).mono ?_);rintro e wv ⟨rfl,hbv⟩;have HBV:Hid (Below w3.heap.size w3 wv):=Lib.hid (((Below.refl w3.heap.size w3).drew).trans hbv);refine ⟨_,rfl,(fun kk hkk=>HBV.out.block kk hkk),hK _ _ ?_⟩;clear hbv hK K))) | fail
 clear hgr
 go_wp2
 go_ret
 exact ⟨rfl,HB3.out.trans (HBV.out.mono hs3)⟩

theorem makes_any (c n k d r t q:Int) (w:World) :
  Calls Tryz.prog 3 #[.agg #[.int .u8 c,.int .i64 n,.int .i64 k,.int .i64 d,.int .i64 r,.int .i64 t,.int .i64 q]] w fun e w'=>e=.returned (.bool true)∧Below w.heap.size w w':=by
 cases h:checkF c n k d r t q with
 | none=>exact mk_none c n k d r t q w h
 | some s =>
  by_cases hn:12 < n
  ·exact mk_many c n k d r t q s w h hn
  have hc:=fun w=>check_any c n k d r t q w
  rw [h] at hc
  obtain ⟨hr,h1,⟨rfl,ho,rfl⟩ | ⟨rfl,ho,rfl⟩ | ⟨rfl,ho,rfl⟩ | ⟨rfl,ho,rfl⟩ | ⟨rfl,ho,rfl⟩⟩:=mk_kinds h
  ·obtain ⟨N,K,rfl,rfl,g1,g2,g3⟩:=mk_reed hr h1 ho
   exact mk_reedW N K d r t q _ _ _ w hc ⟨g1,g2,by omega⟩
  ·obtain ⟨N,K,D,u,a,rfl,rfl,rfl,hok,hal⟩:=mk_msr hr h1 ho
   simp only [checkV,shMsr,Sh.v,hal] at hc
   have e1:(K:Int) * (a:Int)=((K * a:Nat):Int):=by simp
   rw [e1] at hc
   exact mk_msrW N K D u a r t q _ _ _ _ w hok rfl hc (by omega)
  ·obtain ⟨N,K,D,rfl,rfl,rfl,hok,hB⟩:=mk_mbr hr h1 ho
   simp only [checkV,shMbr,Sh.v,hB] at hc
   exact mk_mbrW N K D r t q _ _ _ _ w hok rfl hc (by omega)
  ·obtain ⟨N,K,rfl,rfl,hok,hal,hB⟩:=mk_tr hr h1 ho
   simp only [checkV,shTr,Sh.v,hal,hB] at hc
   rw [hal] at hB
   simp only [hB] at hc
   exact mk_trW N K (N - 1) d r t q _ _ _ _ w hok rfl rfl hc (by omega)
  ·obtain ⟨N,K,R,rfl,rfl,rfl,hok,hT⟩:=mk_loc hr h1 ho
   simp only [checkV,shLoc,Sh.v,hT] at hc
   exact mk_locW N K R _ d t q _ _ _ _ w hok rfl hc (by omega)
end Go.Proofs.YtnjbkfeihbcalaaGreat
