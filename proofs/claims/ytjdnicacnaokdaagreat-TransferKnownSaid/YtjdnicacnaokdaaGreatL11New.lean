/-
  The law TransferNew.
-/
import Derived.Test.YtjdnicacnaokdaaGreatL11W
import Derived.Test.YtjdnicacnaokdaaGreatR11G
namespace Go.Proofs.YtjdnicacnaokdaaGreat
open Go.RowKit Fld
set_option linter.unusedVariables false
set_option linter.unusedSimpArgs false

set_option maxRecDepth 100000 in
set_option maxHeartbeats 4000000 in
theorem ltrnew_any (n k:Int) (w:World) (hn:-9223372036854775808≤n∧n≤9223372036854775807) (hk:-9223372036854775808≤k∧k≤9223372036854775807) :
  Calls Tryz.prog 3 #[.int .i64 n,.int .i64 k] w fun e w'=>e=.returned (.bool true)∧Below w.heap.size w w':=by
 have HFN:=Lib.hid (fun W=>fnew_g W)
 have HWK:=Lib.hid (fun W=>works11_any W)
 go_enter Tryz.func3,Tryz.ntmps3
 go_wp2_with fail
 refine (HFN.out _).mono ?_
 rintro e w1 ⟨fb,rfl,hfb0,hf1,hb1⟩
 have HNW:=Lib.hid (trnew_any fb n k w1 hf1 hn hk)
 have HB1:=Lib.hid hb1
 have hs1:=hb1.size
 clear hb1 HFN
 go_wp2_with fail
 refine HNW.out.mono ?_
 rintro e w2 ⟨hk2,hf2,⟨N,K,rfl,rfl,hNK,lb,cb,mb,cv,rfl,hlb,hc2⟩ | ⟨hbad,rfl⟩⟩
 ·have HB2:Hid (Below w.heap.size w w2):=Lib.hid (HB1.out.trans (hk2.below hs1 (by simp;omega)))
  have hs2:=HB2.out.size
  have hrn:=fun W=>rtnew_any (N:Int) (K:Int) W
  rw [if_pos (by omega)] at hrn
  have HRN:=Lib.hid hrn
  have HC2:=Lib.hid hc2
  clear hk2 hf2 hlb hc2 HNW hrn
  obtain ⟨wa,hwa⟩:∃ wa,wa=w2.alloc (.cells #[.int .i64 N,.int .i64 K] 29):=⟨_,rfl⟩
  have hba:Below w2.heap.size w2 wa:=by rw [hwa];exact (Below.refl _ _).alloc (Nat.le_refl _) _
  have d0:wa.heap[w2.heap.size]? = some (.cells #[.int .i64 N,.int .i64 K] 29 (0,0)):=by rw [hwa];exact heap_newA _ _
  have HBA:=Lib.hid (HB2.out.trans (hba.mono hs2))
  have HCA:=Lib.hid (HC2.out.below hba)
  have HDA:=Lib.hid d0
  have y0:=cell_of_heap d0 (j:=0) rfl
  have y1:=cell_of_heap d0 (j:=1) rfl
  have l0:=lt_of_heap d0
  clear hba d0
  go_wp2_with fail
  rw [← hwa]
  clear hwa
  refine (HRN.out _).mono ?_
  rintro e w3 ⟨rfl,hb3⟩
  have HB3:=Lib.hid (HBA.out.trans (hb3.mono HBA.out.size))
  have hc3:=HCA.out.below hb3
  have hd3:=keepB hb3 HDA.out
  have z0:=cell_of_heap hd3 (j:=0) rfl
  have z1:=cell_of_heap hd3 (j:=1) rfl
  have l3:=lt_of_heap hd3
  have HAL:=Lib.hid (tra_any w3.drew lb N (cell_of_heap hc3.box (j:=0) rfl) (by omega))
  have HBP0:=trb_any w3.drew lb N K (cell_of_heap hc3.box (j:=0) rfl) (cell_of_heap hc3.box (j:=1) rfl) (lt_of_heap hc3.box) (by omega) (by omega)
  have HBR0:=fun W=>rtb_any N K W (by omega) (by omega)
  obtain ⟨B,hB⟩:∃ B,trB N K=B:=⟨_,rfl⟩
  rw [hB] at HBP0 HBR0
  have HBP:=Lib.hid HBP0
  have HBR:=Lib.hid HBR0
  have x1:(N:Int) - 1=((N - 1:Nat):Int):=by omega
  have x2:IntKind.i64.wrap ((N - 1:Nat):Int)=((N - 1:Nat):Int):=IntWalk.i64_in _ (by omega)
  generalize hn1:N - 1=n1 at *
  have hs3:=HB3.out.size
  clear hb3 hc3 hd3 HBP0 HBR0 hB y0 y1 l0 hn1 HRN
  go_upto_region 7 with fail
  have hgr:=fun (w0 W:World) (p:Addr) (hp:(fun kk=>kk < w3.heap.size) p.block)=>graft_cell (w0:=w0) (keep:=(fun kk=>kk < w3.heap.size)) W hp
  refine wp_region_tree (fun kk=>kk < w3.heap.size) [1,7,9,13] (.sq [0,2,3,1,4,5,6,8,7,9,10,11,12,13,14,15] .done) (by kernel_rfl) (by kernel_rfl) ?_
  simp only [Tr.sq,List.foldr_cons,List.foldr_nil,slimTr,slimStep,Oper.slim,List.contains_cons,List.contains_nil,Option.map_none,Option.map_some,List.getElem?_toArray,List.getElem?_cons_zero,List.getElem?_cons_succ,Option.bind_some,beq_self_eq_true,Bool.or_false,Nat.reduceBEq,Nat.reduceAdd,Nat.zero_add]
  repeat' first | ((with_reducible refine wpSlimT_id ?_);first | (with_reducible refine wpSlimT_done ?_) | ((with_reducible refine wpSlimT_step (fun K hK=>?_));go_simp;first | (refine hK _ _ ?_;clear hK K) | (refine ⟨by (intro kk hkk;first | (simp (disch:=(simp;omega)) only [hp_drew,hp_drewN,hp_alloc,hp_set];done) | (simp [hp_drew,hp_drewN,hp_alloc_if,hkk];done) | fail),hK _ _ ?_⟩;clear hK K) | (go_at_call 13;(with_reducible refine HAL.out.mono ?_);rintro e wx ⟨rfl,hwx⟩;subst hwx;refine ⟨_,rfl,(fun kk hkk=>rfl),hK _ _ ?_⟩;clear hK K) | (go_at_call 14;(with_reducible refine HBP.out.mono ?_);rintro e wy ⟨rfl,hby⟩;have HBY:Hid (Below w3.heap.size w3 wy):=Lib.hid (((Below.refl w3.heap.size w3).drew).trans hby);refine ⟨_,rfl,(fun kk hkk=>HBY.out.block kk hkk),hK _ _ ?_⟩;clear hby hK K) | (go_at_call 15;(with_reducible refine (HBR.out _).mono ?_);rintro e wz ⟨rfl,hbz⟩;have HBZ:Hid (Below w3.heap.size w3 wz):=Lib.hid (HBY.out.trans (hbz.mono HBY.out.size));refine ⟨_,rfl,(fun kk hkk=>HBZ.out.block kk hkk),hK _ _ ?_⟩;clear hbz hK K) | (go_at_call 12;(with_reducible refine (HWK.out _).mono ?_);rintro e wv ⟨rfl,hbv⟩;have HBV:Hid (Below w3.heap.size w3 wv):=Lib.hid (HBZ.out.trans (hbv.mono HBZ.out.size));refine ⟨_,rfl,(fun kk hkk=>HBV.out.block kk hkk),hK _ _ ?_⟩;clear hbv hK K))) | fail
  clear hgr
  go_wp2
  go_ret
  exact ⟨rfl,HB3.out.trans (HBV.out.mono hs3)⟩
 ·have HB2:Hid (Below w.heap.size w w2):=Lib.hid (HB1.out.trans (hk2.below hs1 (by simp;omega)))
  have hs2:=HB2.out.size
  have hrn:=fun W=>rtnew_any n k W
  rw [if_neg hbad] at hrn
  have HRN:=Lib.hid hrn
  clear hk2 hf2 HNW hrn
  go_wp2_with fail
  refine (HRN.out _).mono ?_
  rintro e w3 ⟨rfl,hb3⟩
  have HB3:Hid (Below w.heap.size w w3):=Lib.hid (HB2.out.trans ((((Below.refl w2.heap.size w2).alloc (Nat.le_refl _) _).trans (hb3.mono (by simp))).mono hs2))
  have hs3:=HB3.out.size
  clear hb3
  go_wp2_with fail
  refine (HWK.out _).mono ?_
  rintro e w4 ⟨rfl,hb4⟩
  have HB4:=Lib.hid (HB3.out.trans (hb4.mono hs3))
  clear hb4
  go_wp2
  go_ret
  exact ⟨rfl,HB4.out⟩
end Go.Proofs.YtjdnicacnaokdaaGreat
