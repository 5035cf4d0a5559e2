/-
  A node's share, of what others tell: the program's Repair.
-/
import Derived.Test.YtcclhhjcejmepaaGreatZMbA
import Derived.Test.YtcclhhjcejmepaaGreatZOwnSyG
import Derived.Test.YtcclhhjcejmepaaGreatZToldG
import Derived.Test.YtcclhhjcejmepaaGreatZAppG
import Derived.Test.YtcclhhjcejmepaaGreatZWeExG
/- A node's share, of what others tell: the program's Repair. -/
set_option maxRecDepth 100000
set_option maxHeartbeats 4000000
namespace Go.Proofs.YtcclhhjcejmepaaGreat
open Go.RowKit Fld
set_option linter.unusedVariables false
set_option linter.unusedSimpArgs false

def MbRepIs (B n d:Nat) (xs:List GF) (to_:Int) (l:List Sy) (t:Int) (e:Ending) (w':World):Prop :=
 ¬ (((0≤to_∧to_ < (n:Int))∧0≤t)∧SyGood n to_ 1 l)∧e=.returned (.tuple #[.slice none 0 0,.slice none 0 0,.int .i64 2]) ∨
 (((0≤to_∧to_ < (n:Int))∧0≤t)∧SyGood n to_ 1 l)∧WeAns B xs d (Sy.nodes l) (ysL l) t e w'
def MbRepPost (fb n d:Nat) (xs:List GF) (to_:Int) (l:List Sy) (t:Int) (w:World) (e:Ending) (w':World):Prop:=Kp [fb] w w'∧FOk w' fb∧MbRepIs w.heap.size n d xs to_ l t e w'
theorem mnodes_len (l:List Sy):(Sy.nodes l).length=l.length:=by simp [Sy.nodes]
theorem mnodes_take {l:List Sy} {I:Nat} {s:Sy} (h:l[I]? = some s):Sy.nodes (l.take (I+1))=Sy.nodes (l.take I) ++ [s.node]:=by
 rw [List.take_add_one,h]
 simp [Sy.nodes]
theorem mysL_take {l:List Sy} {I:Nat} {s:Sy} (h:l[I]? = some s):ysL (l.take (I+1))=ysL (l.take I) ++ [s.d.getD 0 0]:=by
 rw [List.take_add_one,h]
 simp [ysL]
theorem apart_nilG (V:Value):Apart V (Value.slice none 0 0).ownBlock.toList:=fun k _ hm=>by simp [Value.ownBlock] at hm
theorem mbrep_any (w:World) (lb t1 t2 fb pb n k d:Nat) (v1 v2 hv:Value) (to_ t:Int) (l:List Sy) (h:MbC w lb t1 t2 fb pb n k d v1 v2) (hn:1≤k∧k≤d∧d < n∧n≤255) (hnd:(pows n).Nodup) (hl:SyAll w hv l) (hll:l.length≤256) (ht:-9223372036854775808≤t∧t≤9223372036854775807) :
  Calls Tryz.prog 23 #[.pointer (some ⟨lb,0,none⟩),.int .i64 to_,hv,.int .i64 t] w (MbRepPost fb n d (pows n) to_ l t w):=by
 obtain ⟨ah,ch,rfl⟩:=hl.rd.form
 obtain ⟨L,hL⟩:∃ L,l.length=L:=⟨_,rfl⟩
 have hlb:=lOH h.box
 have hfl:=h.tells.ok.lt
 have y0:=cOH h.box (j:=1) rfl
 obtain ⟨w1,hw1⟩:∃ w1,w1=w.alloc (.cells #[.int .i64 to_] 3):=⟨_,rfl⟩
 have hb1:Below w.heap.size w w1:=by rw [hw1];exact (Below.refl _ _).alloc (Nat.le_refl _) _
 have d0:w1.heap[w.heap.size]? = some (.cells #[.int .i64 to_] 3 (0,0)):=by rw [hw1];exact nwA _ _
 have z0:=cOH d0 (j:=0) rfl
 have l0:=lOH d0
 have y1:w1.cell? ⟨lb,1,none⟩=some (.int .i64 n):=(hb1.cell (p:=⟨lb,1,none⟩) hlb).trans y0
 have hlb1:lb < w1.heap.size:=Nat.lt_of_lt_of_le hlb hb1.size
 have HIS0:=mbis_any w1 lb n to_ y1
 unfold NodePost at HIS0
 obtain ⟨b1,hbb1⟩:∃ b1,decide (0≤to_∧to_ < (n:Int))=b1:=⟨_,rfl⟩
 rw [hbb1] at HIS0
 have HIS:=Hd HIS0
 obtain ⟨b2,hbb2⟩:=bool_ex (SyGood n (-1) 1 l)
 obtain ⟨b3,hbb3⟩:=bool_ex (∃ s ∈ l,s.node=to_)
 obtain ⟨b4,hbb4⟩:∃ b4,decide (t < 0)=b4:=⟨_,rfl⟩
 have HFIT0:=(mbfit_any w1 lb n 1 _ l y1 hlb1 (hl.below hb1) (by omega) (by omega)).mono fun e w' h=>h.bool hbb2
 have HCF0:∀ W,Below w1.heap.size w1 W→Calls Tryz.prog 51 #[.slice ah l.length ch,.func (.func 52) #[] #[.pointer (some ⟨w.heap.size,0,none⟩)]] W fun e w'=>e=.returned (.bool b3)∧Below W.heap.size W w':=fun W hW =>
  (mbf_contains W w.heap.size to_ _ l ((hl.below hb1).below hW).rd ((hW.cell (p:=⟨w.heap.size,0,none⟩) l0).trans z0) (Nat.lt_of_lt_of_le l0 hW.size) (by omega)).mono fun e w' h=>h.bool hbb3
 rw [hL] at HFIT0 HCF0
 rw [show ((1:Nat):Int)=1 from rfl] at HFIT0
 have HFIT:=Hd HFIT0
 have HCF:=Hd HCF0
 have hgood:(b1 && !b4 && b2 && !b3)=true↔(((0≤to_∧to_ < (n:Int))∧0≤t)∧SyGood n to_ 1 l):=by
  simp only [Bool.and_eq_true,Bool.not_eq_true',← hbb1,← hbb4,hbb2,decide_eq_true_eq,decide_eq_false_iff_not]
  have h3:b3=false↔¬ ∃ s ∈ l,s.node=to_:=by rw [← hbb3];simp
  rw [h3]
  constructor
  ·rintro ⟨⟨⟨h1,h4⟩,h2⟩,h3⟩
   exact ⟨⟨h1,by omega⟩,h2.1,fun s hs=>⟨fun e=>h3 ⟨s,hs,e⟩,(h2.2 s hs).2⟩⟩
  ·rintro ⟨⟨h1,h4⟩,h2⟩
   exact ⟨⟨⟨h1,by omega⟩,h2.1,fun s hs=>⟨by have:=h2.1.1 s.node (List.mem_map.2 ⟨s,hs,rfl⟩);omega,(h2.2 s hs).2⟩⟩,fun ⟨s,hs,e⟩=>(h2.2 s hs).1 e⟩
 have HGD:=Hd hgood
 have HS:=Hd hl
 have HB1:=Hd hb1
 have HL:=Hd hL
 have HD0:=Hd d0
 have H:=Hd h
 have HND:=Hd hnd
 rw [hL] at HS hll ⊢
 have hmf:∀ (fn:Fn) (first cap:Array Value) (w:World),(Instr.makeFunc fn first cap).run Tryz.prog w=.ok (.func fn first cap) w:=fun _ _ _ _=>rfl
 clear h hl hL hb1 d0 HIS0 HFIT0 HCF0 hbb1 hbb2 hbb3 hgood hnd
 go_enter Tryz.func23,Tryz.ntmps23
 go_upto_region 3 with fail
 rw [← hw1]
 clear hw1
 refine wp_region_units (.step 0 (.step 1 (.step 2 (.step 3 (.step 4 (.unit 4 false (.step 5 (.step 6 .done)) 7 6 (.step 8 (.unit 8 false (.step 9 (.step 10 (.step 11 (.step 12 .done)))) 13 12 (.step 14 (.unit 14 false (.step 15 (.step 16 (.step 17 .done))) 18 17 (.step 19 .done))))))))))) (by kernel_rfl) (by kernel_rfl) ?_
 simp only [mkUT,dstOf,bare,Oper.slim,List.contains_cons,List.contains_nil,Option.map_none,Option.map_some,List.getElem?_toArray,List.getElem?_cons_zero,List.getElem?_cons_succ,Option.bind_some,beq_self_eq_true,Bool.or_false,Nat.reduceBEq,Nat.reduceAdd,Nat.zero_add,Option.getD_some,Option.isSome_some,Option.isSome_none,Bool.false_and,Bool.true_and,Bool.false_eq_true,if_false,if_true,Option.some_beq_some,Option.some_beq_none,Option.none_beq_some,reduceCtorEq,ite_true,ite_false]
 repeat ((with_reducible refine wpUT_step (fun K hK=>?_));go_simp;first | (refine hK _ _ ?_;clear hK K) | (refine ⟨by (intro kk hkk;first | exact hkk.elim | (simp (disch:=(simp;omega)) only [h_D,h_N,h_A,h_S];done) | (simp [h_D,h_N,h_I,hkk];done) | (have hkk2:=((HKP.out kk).1 hkk).1;first | exact h_A _ _ _ (by simp;omega) | exact (h_A _ _ _ (by simp;omega)).trans (h_A _ _ _ (by simp;omega)) | (refine (h_A _ _ _ ?_).trans (HKE7.out kk hkk);omega))),hK _ _ ?_⟩;clear hK K)| (go_at_call 47;(with_reducible refine HIS.out.mono ?_);rintro e wc ⟨rfl,rfl⟩;refine ⟨_,rfl,(fun kk hkk=>hkk.elim),hK _ _ ?_⟩;clear hK K) | (go_at_call 50;(with_reducible refine HFIT.out.mono ?_);rintro e wc ⟨rfl,hbc⟩;refine ⟨_,rfl,(fun kk hkk=>hkk.elim),hK _ _ ?_⟩;clear hK K) | (go_at_call 51;(with_reducible refine (HCF.out _ hbu).mono ?_);rintro e wc ⟨rfl,hbc⟩;refine ⟨_,rfl,(fun kk hkk=>hkk.elim),hK _ _ ?_⟩;clear hK K))
 refine wpUT_unit (x:=?_) (by rfl) ?_ ?_
 rotate_left
 ·intro hgd
  repeat ((with_reducible refine wpUT_step (fun K hK=>?_));go_simp;first | (refine hK _ _ ?_;clear hK K) | (refine ⟨by (intro kk hkk;first | exact hkk.elim | (simp (disch:=(simp;omega)) only [h_D,h_N,h_A,h_S];done) | (simp [h_D,h_N,h_I,hkk];done) | (have hkk2:=((HKP.out kk).1 hkk).1;first | exact h_A _ _ _ (by simp;omega) | exact (h_A _ _ _ (by simp;omega)).trans (h_A _ _ _ (by simp;omega)) | (refine (h_A _ _ _ ?_).trans (HKE7.out kk hkk);omega))),hK _ _ ?_⟩;clear hK K)| (go_at_call 47;(with_reducible refine HIS.out.mono ?_);rintro e wc ⟨rfl,rfl⟩;refine ⟨_,rfl,(fun kk hkk=>hkk.elim),hK _ _ ?_⟩;clear hK K) | (go_at_call 50;(with_reducible refine HFIT.out.mono ?_);rintro e wc ⟨rfl,hbc⟩;refine ⟨_,rfl,(fun kk hkk=>hkk.elim),hK _ _ ?_⟩;clear hK K) | (go_at_call 51;(with_reducible refine (HCF.out _ hbu).mono ?_);rintro e wc ⟨rfl,hbc⟩;refine ⟨_,rfl,(fun kk hkk=>hkk.elim),hK _ _ ?_⟩;clear hK K))
  exact wpUT_done ⟨by rfl,rfl⟩
 intro js
 simp only [UT.dsts,junk,SOp.dst,Option.toList_some,Option.toList_none,List.cons_append,List.nil_append,List.append_nil,cond_true,cond_false]
 repeat ((with_reducible refine wpUT_step (fun K hK=>?_));go_simp;first | (refine hK _ _ ?_;clear hK K) | (refine ⟨by (intro kk hkk;first | exact hkk.elim | (simp (disch:=(simp;omega)) only [h_D,h_N,h_A,h_S];done) | (simp [h_D,h_N,h_I,hkk];done) | (have hkk2:=((HKP.out kk).1 hkk).1;first | exact h_A _ _ _ (by simp;omega) | exact (h_A _ _ _ (by simp;omega)).trans (h_A _ _ _ (by simp;omega)) | (refine (h_A _ _ _ ?_).trans (HKE7.out kk hkk);omega))),hK _ _ ?_⟩;clear hK K)| (go_at_call 47;(with_reducible refine HIS.out.mono ?_);rintro e wc ⟨rfl,rfl⟩;refine ⟨_,rfl,(fun kk hkk=>hkk.elim),hK _ _ ?_⟩;clear hK K) | (go_at_call 50;(with_reducible refine HFIT.out.mono ?_);rintro e wc ⟨rfl,hbc⟩;refine ⟨_,rfl,(fun kk hkk=>hkk.elim),hK _ _ ?_⟩;clear hK K) | (go_at_call 51;(with_reducible refine (HCF.out _ hbu).mono ?_);rintro e wc ⟨rfl,hbc⟩;refine ⟨_,rfl,(fun kk hkk=>hkk.elim),hK _ _ ?_⟩;clear hK K))
 refine wpUT_unit_below (x:=?_) (by rfl) ?_ ?_
 rotate_left
 ·intro hgd
  repeat ((with_reducible refine wpUT_step (fun K hK=>?_));go_simp;first | (refine hK _ _ ?_;clear hK K) | (refine ⟨by (intro kk hkk;first | exact hkk.elim | (simp (disch:=(simp;omega)) only [h_D,h_N,h_A,h_S];done) | (simp [h_D,h_N,h_I,hkk];done) | (have hkk2:=((HKP.out kk).1 hkk).1;first | exact h_A _ _ _ (by simp;omega) | exact (h_A _ _ _ (by simp;omega)).trans (h_A _ _ _ (by simp;omega)) | (refine (h_A _ _ _ ?_).trans (HKE7.out kk hkk);omega))),hK _ _ ?_⟩;clear hK K)| (go_at_call 47;(with_reducible refine HIS.out.mono ?_);rintro e wc ⟨rfl,rfl⟩;refine ⟨_,rfl,(fun kk hkk=>hkk.elim),hK _ _ ?_⟩;clear hK K) | (go_at_call 50;(with_reducible refine HFIT.out.mono ?_);rintro e wc ⟨rfl,hbc⟩;refine ⟨_,rfl,(fun kk hkk=>hkk.elim),hK _ _ ?_⟩;clear hK K) | (go_at_call 51;(with_reducible refine (HCF.out _ hbu).mono ?_);rintro e wc ⟨rfl,hbc⟩;refine ⟨_,rfl,(fun kk hkk=>hkk.elim),hK _ _ ?_⟩;clear hK K))
  exact wpUT_done ⟨by rfl,by (repeat' (first | (with_reducible exact RowKit.Below.refl _ _) | (with_reducible assumption) | (with_reducible refine RowKit.Below.drew ?_) | (with_reducible refine RowKit.Below.alloc ?_ ?_ _) | omega | (simp;done) | (simp;omega)))⟩
 intro js wu hbu
 first | (have hbB:Below w1.heap.size w1 wu:=hbA.trans (hbu.mono hbA.size)) | (have hbA:Below w1.heap.size w1 wu:=hbu)
 simp only [UT.dsts,junk,SOp.dst,Option.toList_some,Option.toList_none,List.cons_append,List.nil_append,List.append_nil,cond_true,cond_false]
 repeat ((with_reducible refine wpUT_step (fun K hK=>?_));go_simp;first | (refine hK _ _ ?_;clear hK K) | (refine ⟨by (intro kk hkk;first | exact hkk.elim | (simp (disch:=(simp;omega)) only [h_D,h_N,h_A,h_S];done) | (simp [h_D,h_N,h_I,hkk];done) | (have hkk2:=((HKP.out kk).1 hkk).1;first | exact h_A _ _ _ (by simp;omega) | exact (h_A _ _ _ (by simp;omega)).trans (h_A _ _ _ (by simp;omega)) | (refine (h_A _ _ _ ?_).trans (HKE7.out kk hkk);omega))),hK _ _ ?_⟩;clear hK K)| (go_at_call 47;(with_reducible refine HIS.out.mono ?_);rintro e wc ⟨rfl,rfl⟩;refine ⟨_,rfl,(fun kk hkk=>hkk.elim),hK _ _ ?_⟩;clear hK K) | (go_at_call 50;(with_reducible refine HFIT.out.mono ?_);rintro e wc ⟨rfl,hbc⟩;refine ⟨_,rfl,(fun kk hkk=>hkk.elim),hK _ _ ?_⟩;clear hK K) | (go_at_call 51;(with_reducible refine (HCF.out _ hbu).mono ?_);rintro e wc ⟨rfl,hbc⟩;refine ⟨_,rfl,(fun kk hkk=>hkk.elim),hK _ _ ?_⟩;clear hK K))
 refine wpUT_unit_below (x:=?_) (by rfl) ?_ ?_
 rotate_left
 ·intro hgd
  repeat ((with_reducible refine wpUT_step (fun K hK=>?_));go_simp;first | (refine hK _ _ ?_;clear hK K) | (refine ⟨by (intro kk hkk;first | exact hkk.elim | (simp (disch:=(simp;omega)) only [h_D,h_N,h_A,h_S];done) | (simp [h_D,h_N,h_I,hkk];done) | (have hkk2:=((HKP.out kk).1 hkk).1;first | exact h_A _ _ _ (by simp;omega) | exact (h_A _ _ _ (by simp;omega)).trans (h_A _ _ _ (by simp;omega)) | (refine (h_A _ _ _ ?_).trans (HKE7.out kk hkk);omega))),hK _ _ ?_⟩;clear hK K)| (go_at_call 47;(with_reducible refine HIS.out.mono ?_);rintro e wc ⟨rfl,rfl⟩;refine ⟨_,rfl,(fun kk hkk=>hkk.elim),hK _ _ ?_⟩;clear hK K) | (go_at_call 50;(with_reducible refine HFIT.out.mono ?_);rintro e wc ⟨rfl,hbc⟩;refine ⟨_,rfl,(fun kk hkk=>hkk.elim),hK _ _ ?_⟩;clear hK K) | (go_at_call 51;(with_reducible refine (HCF.out _ hbu).mono ?_);rintro e wc ⟨rfl,hbc⟩;refine ⟨_,rfl,(fun kk hkk=>hkk.elim),hK _ _ ?_⟩;clear hK K))
  exact wpUT_done ⟨by rfl,by (repeat' (first | (with_reducible exact RowKit.Below.refl _ _) | (with_reducible assumption) | (with_reducible refine RowKit.Below.drew ?_) | (with_reducible refine RowKit.Below.alloc ?_ ?_ _) | omega | (simp;done) | (simp;omega)))⟩
 intro js wu hbu
 first | (have hbB:Below w1.heap.size w1 wu:=hbA.trans (hbu.mono hbA.size)) | (have hbA:Below w1.heap.size w1 wu:=hbu)
 simp only [UT.dsts,junk,SOp.dst,Option.toList_some,Option.toList_none,List.cons_append,List.nil_append,List.append_nil,cond_true,cond_false]
 repeat ((with_reducible refine wpUT_step (fun K hK=>?_));go_simp;first | (refine hK _ _ ?_;clear hK K) | (refine ⟨by (intro kk hkk;first | exact hkk.elim | (simp (disch:=(simp;omega)) only [h_D,h_N,h_A,h_S];done) | (simp [h_D,h_N,h_I,hkk];done) | (have hkk2:=((HKP.out kk).1 hkk).1;first | exact h_A _ _ _ (by simp;omega) | exact (h_A _ _ _ (by simp;omega)).trans (h_A _ _ _ (by simp;omega)) | (refine (h_A _ _ _ ?_).trans (HKE7.out kk hkk);omega))),hK _ _ ?_⟩;clear hK K)| (go_at_call 47;(with_reducible refine HIS.out.mono ?_);rintro e wc ⟨rfl,rfl⟩;refine ⟨_,rfl,(fun kk hkk=>hkk.elim),hK _ _ ?_⟩;clear hK K) | (go_at_call 50;(with_reducible refine HFIT.out.mono ?_);rintro e wc ⟨rfl,hbc⟩;refine ⟨_,rfl,(fun kk hkk=>hkk.elim),hK _ _ ?_⟩;clear hK K) | (go_at_call 51;(with_reducible refine (HCF.out _ hbu).mono ?_);rintro e wc ⟨rfl,hbc⟩;refine ⟨_,rfl,(fun kk hkk=>hkk.elim),hK _ _ ?_⟩;clear hK K))
 refine wpUT_done ?_
 have HBU:Hid (Below w.heap.size w wu):=Hd (HB1.out.trans (hbB.mono HB1.out.size))
 have hgd:(!b1 || b4 || !b2 || b3)=!(b1 && !b4 && b2 && !b3):=by cases b1 <;> cases b2 <;> cases b3 <;> cases b4 <;> rfl
 have HGQ0:(!b1 || b4 || !b2 || b3)=false↔(((0≤to_∧to_ < (n:Int))∧0≤t)∧SyGood n to_ 1 l):=by rw [← HGD.out,hgd];simp
 have hlu:=Nat.lt_of_lt_of_le hlb1 hbB.size
 have HGQ:Hid ((!b1 || b4 || !b2 || b3)=false↔(((0≤to_∧to_ < (n:Int))∧0≤t)∧SyGood n to_ 1 l)):=Hd HGQ0
 generalize hq:(!b1 || b4 || !b2 || b3)=q at *
 clear hgd hbu hbA hbB HIS HFIT HCF HGD y0 y1 z0 HGQ0 hq hbb4
 cases q
 case true =>
  have HNG:Hid (¬ (((0≤to_∧to_ < (n:Int))∧0≤t)∧SyGood n to_ 1 l)):=Hd fun hg=>by have:=HGQ.out.2 hg;cases this
  go_wp2
  go_ret3
  exact ⟨Kp.of_below HBU.out,H.out.tells.ok.below HBU.out,.inl ⟨HNG.out,rfl⟩⟩
 case false =>
 have hg:=HGQ.out.1 (by trivial)
 obtain ⟨T,rfl⟩:∃ T:Nat,to_=(T:Int):=⟨to_.toNat,by omega⟩
 obtain ⟨tn,rfl⟩:∃ tn:Nat,t=(tn:Int):=⟨t.toNat,by omega⟩
 have HG:=Hd hg
 clear hg HGQ
 obtain ⟨w2,rfl⟩:∃ w2:World,w2=wu:=⟨_,rfl⟩
 have hs2:=HBU.out.size
 go_wp2
 go_loopg [11,12,40] L (fun gk p q i wr=>∃ (V1 V2:Value) (I:Nat),V1=p∧V2=q∧I≤L∧gk=L - I∧i=.int .i64 I∧Hid (OwnZ wr w2.heap.size V1 (Sy.nodes (l.take I)))∧Hid (OwnG wr w2.heap.size V2 (ysL (l.take I)))∧Hid (Apart V2 V1.ownBlock.toList)∧Hid (Below w2.heap.size w2 wr))
 case atStart=>exact ⟨_,_,0,rfl,rfl,by omega,rfl,rfl,Hd (OwnZ.nil _ _),Hd (OwnG.nil _ _),Hd (apart_nilG _),Hd (Below.refl _ _)⟩
 case round =>
  obtain ⟨V1,V2,I,rfl,rfl,hI,rfl,rfl,HO1,HO2,HAP,HBR⟩:=hrel
  have hsr:=HBR.out.size
  have HBX:Hid (Below w.heap.size w wr):=Hd (HBU.out.trans (HBR.out.mono HBU.out.size))
  by_cases hlt:I < L
  ·obtain ⟨s,hs⟩:∃ s,l[I]? = some s:=⟨_,List.getElem?_eq_getElem (by rw [HL.out];exact hlt)⟩
   obtain ⟨-,hcap,b,o,rfl,hb,hat⟩:=SRd.at (HS.out.below HBX.out).rd hs
   have c0:wr.cell? ⟨b,o+I * 2,none⟩=some (.int .i64 s.node):=hat 0 _ rfl
   have c1:wr.cell? ⟨b,o+I * 2+1,none⟩=some (.slice s.a s.d.length s.cp):=hat 1 _ rfl
   obtain ⟨-,-,hsd⟩:=HG.out.2.at hs
   rw [hsd] at c1
   obtain ⟨x,hx⟩:∃ x,s.node=x:=⟨_,rfl⟩
   rw [hx] at c0
   have i1:(0:Int)≤(I:Int)∧(I:Int) < (L:Int):=by omega
   have hsrd:=HS.out.each s (List.mem_of_getElem? hs)
   unfold Sy.rd at hsrd
   rw [hsd] at hsrd
   obtain ⟨y,hy,hyd⟩:=at_get (l:=s.d) (i:=0) (by rw [hsd];exact Nat.one_pos)
   obtain ⟨sa,sd,hsa⟩:∃ sa sd,sa=s.a∧sd=s.cp:=⟨_,_,rfl,rfl⟩
   rw [← hsa.1,← hsa.2] at hsrd c1
   obtain ⟨bd,od,rfl,hbd,-⟩:=hsrd.at hy
   obtain ⟨w6,hw6⟩:∃ w6,w6=wr.alloc (.cells #[.int .i64 x,.slice (some ⟨bd,od,none⟩) 1 sd] 59):=⟨_,rfl⟩
   have hb6:Below wr.heap.size wr w6:=by rw [hw6];exact (Below.refl _ _).alloc (Nat.le_refl _) _
   have hs6':w6.heap.size=wr.heap.size+1:=by rw [hw6];simp
   have d0:w6.cell? ⟨wr.heap.size,0,none⟩=some (.int .i64 x):=by rw [hw6];exact cOH (nwA _ _) (j:=0) rfl
   have d1:w6.cell? ⟨wr.heap.size,1,none⟩=some (.slice (some ⟨bd,od,none⟩) 1 sd):=by rw [hw6];exact cOH (nwA _ _) (j:=1) rfl
   obtain ⟨_,_,e,-,cy6⟩:=(hsrd.below (HBX.out.trans (hb6.mono HBX.out.size))).at hy
   cases e
   rw [Nat.add_zero] at cy6
   obtain ⟨yn,hyn⟩:∃ yn,y.n=yn:=⟨_,rfl⟩
   rw [hyn] at cy6
   have HX1:Hid (x=x):=Hd rfl
   have HX2:=Hd hyn
   have hlen:(l.take I).length≤256:=by rw [List.length_take,HL.out];omega
   have HL1:Hid ((Sy.nodes (l.take I)).length≤1000000):=Hd (by rw [mnodes_len];omega)
   have HL2:Hid ((ysL (l.take I)).length≤1000000):=Hd (by rw [ysL_len];omega)
   have HE:Hid (Sy.nodes (l.take (I+1))=Sy.nodes (l.take I) ++ [x]∧ysL (l.take (I+1))=ysL (l.take I) ++ [y]):=Hd ⟨by rw [mnodes_take hs,hx],by rw [mysL_take hs,hyd]⟩
   have HV1:Hid (∀ b ∈ V1.ownBlock.toList,b < wr.heap.size∧w2.heap.size≤b):=Hd fun b hb=>by have:=HO1.out.lt b (by simpa using hb);exact ⟨this.2,this.1⟩
   have HV2:Hid (∀ b ∈ V2.ownBlock.toList,b < wr.heap.size∧w2.heap.size≤b):=Hd fun b hb=>by have:=HO2.out.lt b (by simpa using hb);exact ⟨this.2,this.1⟩
   have HBW2:Hid (Below w2.heap.size w2 w6):=Hd (HBR.out.trans (hb6.mono hsr))
   have HO1:=Hd (HO1.out.below hb6)
   have HO2:=Hd (HO2.out.below hb6)
   obtain ⟨kp,hkp⟩:∃ kp:Nat→Bool,∀ k,kp k=true↔k < w6.heap.size∧k ∉ V1.ownBlock.toList∧k ∉ V2.ownBlock.toList:=⟨fun k=>decide (k < w6.heap.size∧k ∉ V1.ownBlock.toList∧k ∉ V2.ownBlock.toList),by simp⟩
   have k1:kp wr.heap.size=true:=(hkp _).2 ⟨by omega,fun hm=>by have:=(HV1.out _ hm).1;omega,fun hm=>by have:=(HV2.out _ hm).1;omega⟩
   have k4:kp bd=true:=(hkp _).2 ⟨by omega,fun hm=>by have:=(HV1.out _ hm).2;omega,fun hm=>by have:=(HV2.out _ hm).2;omega⟩
   have HKP:=Hd hkp
   have hs6:wr.heap.size < w6.heap.size:=by omega
   clear hat hs hx hsd hsrd hy hyd hsa hb6 hyn hlen hkp hs6'
   go_upto_region 10 with fail
   rw [← hw6]
   clear hw6
   have hgr:=fun (w0 W:World) (p:Addr) (hp:(fun k=>kp k=true) p.block)=>g_C (w0:=w0) (keep:=(fun k=>kp k=true)) W hp
   refine w_T (fun k=>kp k=true) [3,4,10,11] (.sq [0,1,2,5,6,7,8,9] (.fork 3 (.fork 4 (.sq [10,11,12,13] .done) 10 (.sq [4,11,12,13] .done)) 10 (.sq [3,4,11,12,13] .done))) (by kernel_rfl) (by kernel_rfl) ?_
   simp only [Tr.sq,List.foldr_cons,List.foldr_nil,slimTr,slimStep,Oper.slim,List.contains_cons,List.contains_nil,Option.map_none,Option.map_some,List.getElem?_toArray,List.getElem?_cons_zero,List.getElem?_cons_succ,Option.bind_some,beq_self_eq_true,Bool.or_false,Nat.reduceBEq,Nat.reduceAdd,Nat.zero_add]
   repeat' first | ((with_reducible refine w_I ?_);first | (with_reducible refine w_D ?_) | (with_reducible refine wpSlimT_fork ?_ ?_) | (first | (refine wpSlimT_appE _ _ _ rfl rfl rfl rfl rfl (app_int_at _ (HO1.out.below (by (repeat' (first | (with_reducible exact RowKit.Below.refl _ _) | (with_reducible assumption) | (with_reducible refine RowKit.Below.drew ?_) | (with_reducible refine RowKit.Below.alloc ?_ ?_ _) | omega | (simp;done) | (simp;omega))))) HL1.out (by simp;omega) HX1.out (cOH (by first | exact nwA _ _ | exact keepA (nwA _ _) _ | exact nwE _ _ _ (by simp) | exact keepA (nwE _ _ _ (by simp)) _) (j:=0) rfl)) ?_;rintro v1 w7 ⟨ho1,hk1,hb1,hat1⟩;have HO1':=Hd ho1;have HK1:=Hd hk1;have HAT1:Hid (∀ b,v1.ownBlock=some b→b ∈ V1.ownBlock.toList ∨ w6.heap.size≤b):=Hd (fun b hb=>by rcases hat1 with e | e <;> rw [e] at hb;exact .inl (by simpa using hb);(cases hb;exact .inr (by first | (simp;done) | (simp;omega))));have HBN7:Hid (Below w2.heap.size w2 w7):=Hd ((HBW2.out.trans (by (repeat' (first | (with_reducible exact RowKit.Below.refl _ _) | (with_reducible assumption) | (with_reducible refine RowKit.Below.drew ?_) | (with_reducible refine RowKit.Below.alloc ?_ ?_ _) | omega | (simp;done) | (simp;omega))))).trans hb1);have HO2':=Hd ((HO2.out.below (by (repeat' (first | (with_reducible exact RowKit.Below.refl _ _) | (with_reducible assumption) | (with_reducible refine RowKit.Below.drew ?_) | (with_reducible refine RowKit.Below.alloc ?_ ?_ _) | omega | (simp;done) | (simp;omega))))).kp hk1 HAP.out);have hs7:w6.heap.size < w7.heap.size:=Nat.lt_of_lt_of_le (by first | (simp;done) | (simp;omega)) hk1.size;have HB7:=Hd hb1;have HKE7:Hid (∀ kk,kp kk=true→w7.heap[kk]? = w6.heap[kk]?):=Hd (fun kk hkk=>(HK1.out.block kk (by have:=((HKP.out kk).1 hkk).1;simp;omega) ((HKP.out kk).1 hkk).2.1).trans (by have:=((HKP.out kk).1 hkk).1;first | exact h_A _ _ _ (by simp;omega) | exact (h_A _ _ _ (by simp;omega)).trans (h_A _ _ _ (by simp;omega))));clear ho1 hk1 hb1 hat1;refine ⟨(fun kk hkk=>HKE7.out kk hkk),?_⟩) | (refine wpSlimT_appE _ _ _ rfl rfl rfl rfl rfl (app_byte_at _ (HO2'.out.below (by (repeat' (first | (with_reducible exact RowKit.Below.refl _ _) | (with_reducible assumption) | (with_reducible refine RowKit.Below.drew ?_) | (with_reducible refine RowKit.Below.alloc ?_ ?_ _) | omega | (simp;done) | (simp;omega))))) HL2.out (by first | omega | (simp;omega)) HX2.out (cOH (by first | (first | exact nwA _ _ | exact keepA (nwA _ _) _ | exact nwE _ _ _ (by simp) | exact keepA (nwE _ _ _ (by simp)) _) | (refine HK1.out.heap (by first | exact nwA _ _ | exact keepA (nwA _ _) _ | exact nwE _ _ _ (by simp) | exact keepA (nwE _ _ _ (by simp)) _) ?_;intro hm;have h9:=HV1.out _ hm;first | omega | (simp at h9;omega) | (have h8:w6.drew.heap.size=w6.heap.size:=rfl;omega))) (j:=0) rfl)) ?_;rintro v2 w8 ⟨ho2,hk2,hb2,hat2⟩;have HO2'':=Hd ho2;have HK2:=Hd hk2;have HBN8:Hid (Below w2.heap.size w2 w8):=Hd ((HBN7.out.trans (by (repeat' (first | (with_reducible exact RowKit.Below.refl _ _) | (with_reducible assumption) | (with_reducible refine RowKit.Below.drew ?_) | (with_reducible refine RowKit.Below.alloc ?_ ?_ _) | omega | (simp;done) | (simp;omega))))).trans hb2);have HAP8:Hid (Apart v2 v1.ownBlock.toList):=Hd (fun b hb hm=>by have hm0:v1.ownBlock=some b:=(by simpa using hm);have hm:=HO1'.out.lt b hm0;rcases hat2 with e | e <;> rw [e] at hb;(rcases HAT1.out b hm0 with h | h;exact HAP.out b hb h;have:=HV2.out b (by simpa using hb);omega);(cases hb;first | omega | (simp at hm;omega)));have HO1'':=Hd ((HO1'.out.below (by (repeat' (first | (with_reducible exact RowKit.Below.refl _ _) | (with_reducible assumption) | (with_reducible refine RowKit.Below.drew ?_) | (with_reducible refine RowKit.Below.alloc ?_ ?_ _) | omega | (simp;done) | (simp;omega))))).kp hk2 (fun b hb hm=>by have h9:=HV2.out b hm;rcases HAT1.out b hb with h | h;exact HAP.out b (by simpa using hm) h;omega));have hs8:w6.heap.size < w8.heap.size:=Nat.lt_of_lt_of_le (by first | omega | (simp;omega)) hk2.size;have HB8:=Hd hb2;clear ho2 hk2 hb2 hat2;refine ⟨?keep,?_⟩;(case keep=>(intro kk hkk;have hkk2:=((HKP.out kk).1 hkk).1;refine (HK2.out.block kk (by first | omega | (simp;omega)) ((HKP.out kk).1 hkk).2.2).trans ?_;first | exact HKE7.out kk hkk | (refine (h_A _ _ _ ?_).trans (HKE7.out kk hkk);omega))))) | ((with_reducible refine w_S (fun K hK=>?_));go_simp;first | (refine hK _ _ ?_;clear hK K) | (refine ⟨by (intro kk hkk;first | (simp (disch:=(simp;omega)) only [h_D,h_N,h_A,h_S];done) | (simp [h_D,h_N,h_I,hkk];done) | (have hkk2:=((HKP.out kk).1 hkk).1;first | exact h_A _ _ _ (by simp;omega) | exact (h_A _ _ _ (by simp;omega)).trans (h_A _ _ _ (by simp;omega)) | (refine (h_A _ _ _ ?_).trans (HKE7.out kk hkk);omega))),hK _ _ ?_⟩;clear hK K))) | fail
   all_goals clear hgr
   all_goals
    have HO1n:Hid (OwnZ w8 w2.heap.size v1 (Sy.nodes (l.take (I+1)))):=Hd (by
     rw [HE.out.1]
     exact HO1''.out)
    have HO2n:Hid (OwnG w8 w2.heap.size v2 (ysL (l.take (I+1)))):=Hd (by
     rw [HE.out.2]
     exact HO2''.out)
    clear HO1 HO2 HO1' HO2' HO1'' HO2'' HK1 HK2 HB7 HB8 HKE7 HAT1
    go_wp2
    go_roundg (L - (I+1))
    case measure=>omega
    case rel=>exact ⟨v1,v2,I+1,rfl,rfl,by omega,rfl,by go_num,HO1n,HO2n,HAP8,HBN8⟩
  ·obtain rfl:I=L:=by omega
   have hLt:l.take I=l:=by rw [← HL.out,List.take_length]
   rw [hLt] at HO1 HO2
   have hnl:(Sy.nodes l).length=I:=by rw [mnodes_len,HL.out]
   have hyl:(ysL l).length=I:=by rw [ysL_len,HL.out]
   obtain ⟨a1,c1,rfl⟩:=HO1.out.rd.form
   obtain ⟨a2,c2,rfl,-⟩:=HO2.out.form
   rw [hnl] at HO1 HAP ⊢
   rw [hyl] at HO2 HAP ⊢
   have HH:=Hd (H.out.below HBX.out)
   have hpl:=pows_len n
   have HWD:=Hd (wdec_any wr t2 fb d v2 (.slice a1 I c1) (.slice a2 I c2) (pows n) (Sy.nodes l) (ysL l) (tn:Int) HH.out.mends HND.out (by omega) (by rw [hpl];omega) (by rw [hpl];omega) HO1.out.rd HO2.out.rd (.inr (fun b hb hm=>by have:=(HO1.out.lt b hb).1;simp at hm;omega)) (.inr (fun b hb hm=>by have:=(HO2.out.lt b hb).1;simp at hm;omega)) (by rw [hnl];omega) (by rw [hyl];omega) ht)
   have q1:wr.cell? ⟨lb,8,none⟩=some (.pointer (some ⟨t2,0,none⟩)):=cOH HH.out.box rfl
   have g1:=lOH HH.out.box
   have HKW:Hid (Kp [fb] w wr):=Hd (Kp.of_below HBX.out)
   have hsx:=HBX.out.size
   clear hLt hnl hyl hpl
   go_wp2_with fail
   refine HWD.out.mono ?_
   rintro e w3 ⟨hk3,hf3,han⟩
   have HK3:Hid (Kp [fb] w w3):=Hd (HKW.out.trans hk3)
   have HF3:=Hd hf3
   have HFIN:Hid (∀ v1 v2 c,e=.returned (.tuple #[v1,v2,c])→MbRepPost fb n d (pows n) (T:Int) l (tn:Int) w (.returned (.tuple #[v1,v2,c])) w3):=Hd fun v1 v2 c he=>⟨HK3.out,HF3.out,.inr ⟨HG.out,by
    rw [he] at han
    have hB:w.heap.size≤wr.heap.size:=hsx
    unfold WeAns at han ⊢
    rcases han with h | ⟨h1,h | ⟨h2,⟨m,u1,u2,e1,e2,e3,e4⟩ | h⟩⟩
    ·exact .inl h
    ·exact .inr ⟨h1,.inl h⟩
    ·exact .inr ⟨h1,.inr ⟨h2,.inl ⟨m,u1,u2,e1,e2,e3.mono hB,e4.mono hB⟩⟩⟩
    ·exact .inr ⟨h1,.inr ⟨h2,.inr h⟩⟩⟩⟩
   have hform:∃ v1 v2 c,e=.returned (.tuple #[v1,v2,c]):=by
    unfold WeAns at han
    rcases han with ⟨-,h⟩ | ⟨-,⟨-,h⟩ | ⟨-,⟨m,u1,u2,h,-⟩ | ⟨h,-⟩⟩⟩
    ·exact ⟨_,_,_,h⟩
    ·exact ⟨_,_,_,h⟩
    ·exact ⟨_,_,_,h⟩
    ·exact ⟨_,_,_,h⟩
   obtain ⟨u1,u2,u3,rfl⟩:=hform
   clear han hk3 hf3
   go_wp2
   go_ret3
   exact HFIN.out _ _ _ rfl
end Go.Proofs.YtcclhhjcejmepaaGreat
