/-
  The law LocalNew.
-/
import Derived.Test.YtbiaoohodjoojaaGreatL12Enc
namespace Go.Proofs.YtbiaoohodjoojaaGreat
open Go.RowKit Fld
set_option linter.unusedVariables false
set_option linter.unusedSimpArgs false

theorem grp_div {r t i:Nat} (hi:i < r):grpF r t i / (r+1)=t / (r+1)∧grpF r t i ≠ t:=by
 refine grp_mem.1 ?_
 unfold rowN
 exact List.mem_map.2 ⟨i,List.mem_range.2 hi,rfl⟩
theorem grp_lt {r t i:Nat}:grpF r t i < grpF r t (i+1):=by
 unfold grpF
 split <;> split <;> omega
set_option maxRecDepth 100000 in
set_option maxHeartbeats 8000000 in
theorem lnew12_any (n k r node:Int) (w:World) (hnb:I64 n∧I64 k∧I64 r) (hnd:I64 node) :
  Calls Tryz.prog 3 #[.int .i64 n,.int .i64 k,.int .i64 r,.int .i64 node] w fun e w'=>e=.returned (.bool true)∧Below w.heap.size w w':=by
 have HW:=Lib.hid (fun W=>works12_any W)
 have HFN:=Lib.hid (fun W=>fnew_g W)
 have HNB:=Lib.hid hnb
 have HND:=Lib.hid hnd
 clear hnb hnd
 go_enter Tryz.func3,Tryz.ntmps3
 go_wp2_with fail
 refine (HFN.out _).mono ?_
 rintro e w1 ⟨fb,rfl,hfb0,hf1,hb1⟩
 have HFO:=Lib.hid hf1
 have HB0:=Lib.hid hb1
 have HFB:=Lib.hid hfb0
 have hs1:=hf1.lt
 clear hf1 hb1 hfb0
 go_wp2_with fail
 refine (lnew_any fb n k r w1 HFO.out HNB.out.1 HNB.out.2.1 HNB.out.2.2).mono ?_
 rintro e w2 ⟨hk2,hf2,hcase⟩
 have HB2:Hid (Below w.heap.size w w2):=Lib.hid (HB0.out.trans (hk2.below HB0.out.size (by have:=HFB.out;simp;omega)))
 have HF2:=Lib.hid hf2
 have hfl2:=hf2.lt
 have hs2:=HB2.out.size
 clear hk2 hf2 HFO HB0
 rcases hcase with ⟨N,K,R,rfl,rfl,rfl,hok,lb,cb,cv,xv,rfl,hlb,hc2⟩ | ⟨hno,rfl⟩
 case inr =>
  have HNO:=Lib.hid hno
  obtain ⟨w3,hw3⟩:∃ w3,w3=w2.alloc (.cells #[.int .i64 n,.int .i64 k,.int .i64 r] 29):=⟨_,rfl⟩
  have hb3:Below w2.heap.size w2 w3:=by rw [hw3];exact (Below.refl _ _).alloc (Nat.le_refl _) _
  have HRN:=Lib.hid (rnew12_any n k r w3 HNB.out.1 HNB.out.2.1 HNB.out.2.2)
  have HB3:Hid (Below w.heap.size w w3):=Lib.hid (HB2.out.trans (hb3.mono HB2.out.size))
  have hW3:=hw3
  clear hno hb3 hw3
  go_wp2_with fail
  rw [← hW3]
  clear hW3
  refine HRN.out.mono ?_
  rintro e w4 ⟨c,rfl,hb4,⟨-,ho⟩ | ⟨rfl,-⟩⟩
  case inl=>exact absurd ho HNO.out
  have HBW:Hid (Below w.heap.size w w4):=Lib.hid (HB3.out.trans (hb4.mono HB3.out.size))
  clear hb4
  go_wp2_with fail
  refine (HW.out _).mono ?_
  rintro e w20 ⟨rfl,hb20⟩
  have HB20:Hid (Below w.heap.size w w20):=Lib.hid (HBW.out.trans (hb20.mono HBW.out.size))
  clear hb20
  go_wp2
  go_ret
  exact ⟨rfl,HB20.out⟩
 have HC2:=Lib.hid hc2
 have HOK:=Lib.hid hok
 have hr0:=hok.r1
 have hn0:=hok.n1
 have hk0:=hok.k1
 clear hc2 hok
 obtain ⟨w3,hw3⟩:∃ w3,w3=w2.alloc (.cells #[.int .i64 N,.int .i64 K,.int .i64 R] 29):=⟨_,rfl⟩
 have hb3:Below w2.heap.size w2 w3:=by rw [hw3];exact (Below.refl _ _).alloc (Nat.le_refl _) _
 have hbx:w3.heap[w2.heap.size]? = some (.cells #[.int .i64 N,.int .i64 K,.int .i64 R] 29 (0,0)):=by rw [hw3];exact heap_newA _ _
 have HBX:=Lib.hid hbx
 have HB3:Hid (Below w.heap.size w w3):=Lib.hid (HB2.out.trans (hb3.mono HB2.out.size))
 have HC3:=Lib.hid (HC2.out.below hb3)
 have hs3:=hb3.size
 have HRN:=Lib.hid (rnew12_any N K R w3 HNB.out.1 HNB.out.2.1 HNB.out.2.2)
 have hW3:=hw3
 clear hb3 hbx HC2 hw3
 go_wp2_with fail
 rw [← hW3]
 clear hW3
 refine HRN.out.mono ?_
 rintro e w4 ⟨c,rfl,hb4,⟨rfl,-⟩ | ⟨-,ho⟩⟩
 case inr=>exact absurd ⟨N,K,R,rfl,rfl,rfl,HOK.out⟩ ho
 have HB4:Hid (Below w.heap.size w w4):=Lib.hid (HB3.out.trans (hb4.mono HB3.out.size))
 have HC4:=Lib.hid (HC3.out.below hb4)
 have HX4:=Lib.hid (keepB hb4 HBX.out)
 have HGR:=Lib.hid (lgroup_any lb N R node w4 (cell_of_heap HC4.out.box (j:=2) rfl) (cell_of_heap HC4.out.box (j:=4) rfl) (by omega) (by omega))
 clear hb4 HRN HC3 HBX
 go_wp2_with fail
 refine HGR.out.mono ?_
 rintro e w5 hg
 have hb45:Below w4.heap.size w4 w5:=by
  rcases hg with ⟨i,-,-,v,-,-,hb⟩ | ⟨-,-,rfl⟩
  ·exact hb
  ·exact Below.refl _ _
 have HB5:Hid (Below w.heap.size w w5):=Lib.hid (HB4.out.trans (hb45.mono HB4.out.size))
 have HC5:=Lib.hid (HC4.out.below hb45)
 have HX5:=Lib.hid (keepB hb45 HX4.out)
 have hx5:=lt_of_heap HX5.out
 have y0:=cell_of_heap HX5.out (j:=0) rfl
 have y1:=cell_of_heap HX5.out (j:=1) rfl
 have y2:=cell_of_heap HX5.out (j:=2) rfl
 obtain ⟨T,hT⟩:∃ T,K+K / R - 1=T:=⟨_,rfl⟩
 have HTL:Hid (∀ W,Below w5.heap.size w5 W→Calls Tryz.prog 15 #[.pointer (some ⟨lb,0,none⟩)] W fun e w'=>e=.returned (.int .i64 (T:Nat))∧W=w'):=Lib.hid fun W hb=>by
  rw [← hT]
  exact ltells_any lb cb fb N K R _ cv xv _ W (HC5.out.below hb)
 have HRT:Hid (∀ W,Calls Tryz.prog 16 #[.agg #[.int .i64 N,.int .i64 K,.int .i64 R]] W fun e w'=>e=.returned (.int .i64 (T:Nat))∧Below W.heap.size W w'):=Lib.hid fun W=>by
  rw [← hT]
  exact rtells_any N K R W (by omega) (by omega)
 obtain ⟨kp,hkp⟩:∃ kp:Nat→Bool,∀ j,kp j=true↔j < w5.heap.size:=⟨fun j=>decide (j < w5.heap.size),by simp⟩
 have k0:kp w2.heap.size=true:=(hkp _).2 hx5
 have HKP:=Lib.hid hkp
 clear hb45 HC4 HX4 HGR hT hkp
 rcases hg with ⟨i,rfl,hi,v,rfl,ho,-⟩ | ⟨hno,rfl,rfl⟩
 case inr =>
  have HNO:=Lib.hid hno
  by_cases hneg:node < 0
  ·clear hno
   go_upto_region 9 with fail
   have hgr:=fun (w0 W:World) (p:Addr) (hp:(fun j=>kp j=true) p.block)=>graft_cell (w0:=w0) (keep:=(fun j=>kp j=true)) W hp
   refine wp_region_tree (fun j=>kp j=true) [5,7,11] (.sq [0,1,2,3,4,6,5,7,8,9,10,11,12,13] .done) (by kernel_rfl) (by kernel_rfl) ?_
   simp only [Tr.sq,List.foldr_cons,List.foldr_nil,slimTr,slimStep,Oper.slim,List.contains_cons,List.contains_nil,Option.map_none,Option.map_some,List.getElem?_toArray,List.getElem?_cons_zero,List.getElem?_cons_succ,Option.bind_some,beq_self_eq_true,Bool.or_false,Nat.reduceBEq,Nat.reduceAdd,Nat.zero_add]
   repeat' first | ((with_reducible refine wpSlimT_id ?_);first | (with_reducible refine wpSlimT_done ?_) | ((with_reducible refine wpSlimT_step (fun K hK=>?_));go_simp;first | (refine hK _ _ ?_;clear hK K) | (refine ⟨by (intro kk hkk;first | (simp (disch:=(simp;omega)) only [hp_drew,hp_drewN,hp_alloc,hp_set];done) | (simp [hp_drew,hp_drewN,hp_alloc_if,hkk];done) | (have hkk2:=(HKP.out kk).1 hkk;simp (disch:=(first | omega | (simp;omega))) only [hp_drew,hp_drewN,hp_alloc,hp_set];done)),hK _ _ ?_⟩;clear hK K) | (go_at_call 15;refine (HTL.out _ (by (repeat' (first | (with_reducible exact Below.refl _ _) | (with_reducible refine Below.drew ?_))))).mono ?_;rintro e w6 ⟨rfl,rfl⟩;refine ⟨_,rfl,(fun kk hkk=>rfl),hK _ _ ?_⟩;clear hK K) | (go_at_call 16;refine (HRT.out _).mono ?_;rintro e w7 ⟨rfl,hb7⟩;refine ⟨_,rfl,(fun kk hkk=>hb7.block kk (by have hkk2:=(HKP.out kk).1 hkk;simp;omega)),hK _ _ ?_⟩;clear hK K) | (go_at_call 13;refine (HW.out _).mono ?_;rintro e w8 ⟨rfl,hb8⟩;refine ⟨_,rfl,(fun kk hkk=>(hb8.block kk (by have hkk2:=(HKP.out kk).1 hkk;have:=hb7.size;simp at this ⊢;omega)).trans (hb7.block kk (by have hkk2:=(HKP.out kk).1 hkk;simp;omega))),hK _ _ ?_⟩;clear hK K))) | fail
   clear hgr
   go_wp2
   go_ret
   exact ⟨rfl,HB5.out.trans (Below.mono ((((Below.refl _ _).drew.trans (hb7.mono (Nat.le_refl _))).trans (hb8.mono hb7.size))) HB5.out.size)⟩
  ·have hge:¬ node < (N:Int):=fun h=>hno ⟨by omega,h⟩
   clear hno
   go_upto_region 9 with fail
   have hgr:=fun (w0 W:World) (p:Addr) (hp:(fun j=>kp j=true) p.block)=>graft_cell (w0:=w0) (keep:=(fun j=>kp j=true)) W hp
   refine wp_region_tree (fun j=>kp j=true) [5,7,11] (.sq [0,1,2,3,4,6,5,7,8,9,10,11,12,13] .done) (by kernel_rfl) (by kernel_rfl) ?_
   simp only [Tr.sq,List.foldr_cons,List.foldr_nil,slimTr,slimStep,Oper.slim,List.contains_cons,List.contains_nil,Option.map_none,Option.map_some,List.getElem?_toArray,List.getElem?_cons_zero,List.getElem?_cons_succ,Option.bind_some,beq_self_eq_true,Bool.or_false,Nat.reduceBEq,Nat.reduceAdd,Nat.zero_add]
   repeat' first | ((with_reducible refine wpSlimT_id ?_);first | (with_reducible refine wpSlimT_done ?_) | ((with_reducible refine wpSlimT_step (fun K hK=>?_));go_simp;first | (refine hK _ _ ?_;clear hK K) | (refine ⟨by (intro kk hkk;first | (simp (disch:=(simp;omega)) only [hp_drew,hp_drewN,hp_alloc,hp_set];done) | (simp [hp_drew,hp_drewN,hp_alloc_if,hkk];done) | (have hkk2:=(HKP.out kk).1 hkk;simp (disch:=(first | omega | (simp;omega))) only [hp_drew,hp_drewN,hp_alloc,hp_set];done)),hK _ _ ?_⟩;clear hK K) | (go_at_call 15;refine (HTL.out _ (by (repeat' (first | (with_reducible exact Below.refl _ _) | (with_reducible refine Below.drew ?_))))).mono ?_;rintro e w6 ⟨rfl,rfl⟩;refine ⟨_,rfl,(fun kk hkk=>rfl),hK _ _ ?_⟩;clear hK K) | (go_at_call 16;refine (HRT.out _).mono ?_;rintro e w7 ⟨rfl,hb7⟩;refine ⟨_,rfl,(fun kk hkk=>hb7.block kk (by have hkk2:=(HKP.out kk).1 hkk;simp;omega)),hK _ _ ?_⟩;clear hK K) | (go_at_call 13;refine (HW.out _).mono ?_;rintro e w8 ⟨rfl,hb8⟩;refine ⟨_,rfl,(fun kk hkk=>(hb8.block kk (by have hkk2:=(HKP.out kk).1 hkk;have:=hb7.size;simp at this ⊢;omega)).trans (hb7.block kk (by have hkk2:=(HKP.out kk).1 hkk;simp;omega))),hK _ _ ?_⟩;clear hK K))) | fail
   clear hgr
   go_wp2
   go_ret
   exact ⟨rfl,HB5.out.trans (Below.mono ((((Below.refl _ _).drew.trans (hb7.mono (Nat.le_refl _))).trans (hb8.mono hb7.size))) HB5.out.size)⟩
 have hof:=ho.rd.form
 rw [rowN_len] at hof
 obtain ⟨av,vc,rfl⟩:=hof
 have HO:=Lib.hid ho
 have hge:¬ (i:Int) < 0:=by omega
 have hlt:(i:Int) < (N:Int):=by omega
 have hlt':¬ (N:Int)≤(i:Int):=by omega
 have hd1:decide (N≤i)=false:=decide_eq_false (by omega)
 have hd2:decide ((i:Int) < 0)=false:=decide_eq_false (by omega)
 clear ho
 go_wp2
 go_loopg [13] R (fun gk p wr=>∃ I:Nat,I≤R∧gk=R - I∧p=.int .i64 I∧Hid (Below w5.heap.size w5 wr))
 case atStart=>exact ⟨0,by omega,rfl,rfl,Lib.hid (Below.refl _ _)⟩
 case round =>
  obtain ⟨I,hI,rfl,rfl,HB⟩:=hrel
  have hsr:=HB.out.size
  by_cases hltI:I < R
  ·obtain ⟨x,hx⟩:∃ x,grpF R i I=x:=⟨_,rfl⟩
   obtain ⟨RP,hRP⟩:∃ RP,R+1=RP:=⟨_,rfl⟩
   obtain ⟨q,hq⟩:∃ q,i / RP=q:=⟨_,rfl⟩
   have hg:=grp_div (t:=i) hltI
   rw [hx,hRP,hq] at hg
   have hxi:(rowN R (grpF R i))[I]? = some (x:Int):=by rw [rowN_get hltI,hx]
   obtain ⟨-,-,b,o,rfl,hb,-⟩:=IRd.cell HO.out.rd hxi
   have cx:=IRd.cells (HO.out.rd.below HB.out) I x hxi
   have e1:(R:Int)+1=(RP:Int):=by omega
   have e2:IntKind.i64.wrap (RP:Int)=(RP:Int):=IntWalk.i64_in _ (by omega)
   have e3:(x:Int) / (RP:Int)=(q:Int):=by rw [← hg.1];rfl
   have e4:Int.tdiv (x:Int) (RP:Int)=(q:Int):=by rw [Int.tdiv_eq_ediv_of_nonneg (by omega),e3]
   have e5:(i:Int) / (RP:Int)=(q:Int):=by rw [← hq];rfl
   have e6:Int.tdiv (i:Int) (RP:Int)=(q:Int):=by rw [Int.tdiv_eq_ediv_of_nonneg (by omega),e5]
   have hqi:q≤i:=by rw [← hq];exact Nat.div_le_self _ _
   have e7:IntKind.i64.wrap (q:Int)=(q:Int):=IntWalk.i64_in _ (by omega)
   have e8:¬ RP=0:=by omega
   have e9:¬ (RP:Int)=0:=by omega
   have e10:¬ x=i:=hg.2
   have e11:¬ (x:Int)=(i:Int):=by omega
   have i1:(0:Int)≤(I:Int)∧(I:Int) < (R:Int):=by omega
   have kb:kp b=true:=(HKP.out _).2 hb
   have HBD:Hid (Below w5.heap.size w5 wr.drew):=Lib.hid HB.out.drew
   obtain ⟨kq,hkq⟩:∃ kq:Nat→Bool,∀ j,kq j=true↔j < wr.heap.size:=⟨fun j=>decide (j < wr.heap.size),by simp⟩
   have kb2:kq b=true:=(hkq _).2 (by omega)
   by_cases hI0:0 < I
   ·have hI0':(0:Int) < (I:Int):=by omega
    obtain ⟨J,hJ⟩:∃ J,J+1=I:=⟨I - 1,by omega⟩
    obtain ⟨y,hy⟩:∃ y,grpF R i J=y:=⟨_,rfl⟩
    have hyi:(rowN R (grpF R i))[J]? = some (y:Int):=by rw [rowN_get (by omega),hy]
    have cy:=IRd.cells (HO.out.rd.below HB.out) J y hyi
    have hyx:y < x:=by rw [← hx,← hy,← hJ];exact grp_lt
    have f1:(I:Int) - 1=(J:Int):=by omega
    have f2:IntKind.i64.wrap (J:Int)=(J:Int):=IntWalk.i64_in _ (by omega)
    have f3:¬ (x:Int)≤(y:Int):=by omega
    have f4:¬ x≤y:=by omega
    have i2:(0:Int)≤(J:Int)∧(J:Int) < (R:Int):=by omega
    clear hg hx hxi hq hRP hqi hyi hy hJ hkq kb
    go_upto_region 13 with fail
    have hgr:=fun (w0 W:World) (p:Addr) (hp:(fun j=>kq j=true) p.block)=>graft_cell (w0:=w0) (keep:=(fun j=>kq j=true)) W hp
    refine wp_region_tree (fun j=>kq j=true) [] (.sq [0,1,2,3,4,5,6,7,8,9,10,11,12,13,14,15,16,17,18,19,20,21,22,23,24,25,26,27,28,29,30,31,32,33,34,35] .done) (by kernel_rfl) (by kernel_rfl) ?_
    simp only [Tr.sq,List.foldr_cons,List.foldr_nil,slimTr,slimStep,Oper.slim,List.contains_cons,List.contains_nil,Option.map_none,Option.map_some,List.getElem?_toArray,List.getElem?_cons_zero,List.getElem?_cons_succ,Option.bind_some,beq_self_eq_true,Bool.or_false,Nat.reduceBEq,Nat.reduceAdd,Nat.zero_add]
    repeat' first | ((with_reducible refine wpSlimT_id ?_);first | (with_reducible refine wpSlimT_done ?_) | ((with_reducible refine wpSlimT_step (fun K hK=>?_));go_simp;(refine hK _ _ ?_;clear hK K))) | fail
    clear hgr
    go_wp2
    go_roundg (R - (I+1))
    case measure=>omega
    case rel=>exact ⟨I+1,by omega,rfl,by go_num,HBD⟩
   ·have hI0':¬ (0:Int) < (I:Int):=by omega
    clear hg hx hxi hq hRP hqi hkq kb
    go_upto_region 13 with fail
    have hgr:=fun (w0 W:World) (p:Addr) (hp:(fun j=>kq j=true) p.block)=>graft_cell (w0:=w0) (keep:=(fun j=>kq j=true)) W hp
    refine wp_region_tree (fun j=>kq j=true) [] (.sq [0,1,2,3,4,5,6,7,8,9,10,11,12,13,14,15,16,17,18,19,20,21,22,23,24,25,26,27,28,29,30,31,32,33,34,35] .done) (by kernel_rfl) (by kernel_rfl) ?_
    simp only [Tr.sq,List.foldr_cons,List.foldr_nil,slimTr,slimStep,Oper.slim,List.contains_cons,List.contains_nil,Option.map_none,Option.map_some,List.getElem?_toArray,List.getElem?_cons_zero,List.getElem?_cons_succ,Option.bind_some,beq_self_eq_true,Bool.or_false,Nat.reduceBEq,Nat.reduceAdd,Nat.zero_add]
    repeat' first | ((with_reducible refine wpSlimT_id ?_);first | (with_reducible refine wpSlimT_done ?_) | ((with_reducible refine wpSlimT_step (fun K hK=>?_));go_simp;(refine hK _ _ ?_;clear hK K))) | fail
    clear hgr
    go_wp2
    go_roundg (R - (I+1))
    case measure=>omega
    case rel=>exact ⟨I+1,by omega,rfl,by go_num,HBD⟩
  ·obtain rfl:I=R:=by omega
   obtain ⟨w9,rfl⟩:∃ w9:World,w9=wr:=⟨_,rfl⟩
   have y0:=cell_of_heap (keepB HB.out HX5.out) (j:=0) rfl
   have y1:=cell_of_heap (keepB HB.out HX5.out) (j:=1) rfl
   have y2:=cell_of_heap (keepB HB.out HX5.out) (j:=2) rfl
   have HTL9:Hid (∀ W,Below w9.heap.size w9 W→Calls Tryz.prog 15 #[.pointer (some ⟨lb,0,none⟩)] W fun e w'=>e=.returned (.int .i64 (T:Nat))∧W=w'):=Lib.hid fun W hb=>HTL.out W (HB.out.trans (hb.mono hsr))
   clear HTL
   have HTL:=HTL9
   clear HTL9
   go_upto_region 15 with fail
   have hgr:=fun (w0 W:World) (p:Addr) (hp:(fun j=>kp j=true) p.block)=>graft_cell (w0:=w0) (keep:=(fun j=>kp j=true)) W hp
   refine wp_region_tree (fun j=>kp j=true) [6,8,12] (.sq [0,1,2,3,4,5,7,6,8,9,10,11,12,13,14] .done) (by kernel_rfl) (by kernel_rfl) ?_
   simp only [Tr.sq,List.foldr_cons,List.foldr_nil,slimTr,slimStep,Oper.slim,List.contains_cons,List.contains_nil,Option.map_none,Option.map_some,List.getElem?_toArray,List.getElem?_cons_zero,List.getElem?_cons_succ,Option.bind_some,beq_self_eq_true,Bool.or_false,Nat.reduceBEq,Nat.reduceAdd,Nat.zero_add]
   repeat' first | ((with_reducible refine wpSlimT_id ?_);first | (with_reducible refine wpSlimT_done ?_) | ((with_reducible refine wpSlimT_step (fun K hK=>?_));go_simp;first | (refine hK _ _ ?_;clear hK K) | (refine ⟨by (intro kk hkk;first | (simp (disch:=(simp;omega)) only [hp_drew,hp_drewN,hp_alloc,hp_set];done) | (simp [hp_drew,hp_drewN,hp_alloc_if,hkk];done) | (have hkk2:=(HKP.out kk).1 hkk;simp (disch:=(first | omega | (simp;omega))) only [hp_drew,hp_drewN,hp_alloc,hp_set];done)),hK _ _ ?_⟩;clear hK K) | (go_at_call 15;refine (HTL.out _ (by (repeat' (first | (with_reducible exact Below.refl _ _) | (with_reducible refine Below.drew ?_))))).mono ?_;rintro e w6 ⟨rfl,rfl⟩;refine ⟨_,rfl,(fun kk hkk=>rfl),hK _ _ ?_⟩;clear hK K) | (go_at_call 16;refine (HRT.out _).mono ?_;rintro e w7 ⟨rfl,hb7⟩;refine ⟨_,rfl,(fun kk hkk=>hb7.block kk (by have hkk2:=(HKP.out kk).1 hkk;simp;omega)),hK _ _ ?_⟩;clear hK K) | (go_at_call 13;refine (HW.out _).mono ?_;rintro e w8 ⟨rfl,hb8⟩;refine ⟨_,rfl,(fun kk hkk=>(hb8.block kk (by have hkk2:=(HKP.out kk).1 hkk;have:=hb7.size;simp at this ⊢;omega)).trans (hb7.block kk (by have hkk2:=(HKP.out kk).1 hkk;simp;omega))),hK _ _ ?_⟩;clear hK K))) | fail
   clear hgr
   go_wp2
   go_ret
   exact ⟨rfl,HB5.out.trans ((HB.out.mono HB5.out.size).trans (Below.mono (((Below.refl _ _).drew.trans (hb7.mono (Nat.le_refl _))).trans (hb8.mono hb7.size)) (Nat.le_trans HB5.out.size hsr)))⟩
end Go.Proofs.YtbiaoohodjoojaaGreat
