import Derived.Test.YtcclhhjcejmepaaGreatZWorks
import Derived.Test.YtcclhhjcejmepaaGreatZR10
set_option linter.all false
set_option maxRecDepth 100000
set_option maxHeartbeats 8000000
namespace Go.Proofs.YtcclhhjcejmepaaGreat
section
variable {P:Program} {ops:Array Oper} {md:Region.Mode} {S:World→Prop} {cs:List Nat}
def Tr.okL (md:Region.Mode) (ops:Array Oper) (cs:List Nat):Tr→Array Bool→Bool
 | .done,l=>(Region.ready md ops l).isEmpty
 | .step i r,l=>(Region.ready md ops l).contains i && Region.free md ops l i && (!cs.contains i || cs.all fun j=>j == i || l.getD j false || reach md ops 40 j i) && r.okL md ops cs (l.setIfInBounds i true)
 | _,_=>false
theorem zkf {Q:Act→World→Prop} (hs:Region.noSelect ops=true):∀(t:Tr) (listed:Array Bool) (a:Act) (w:World),S w→zxx md ops listed →
  t.okL md ops cs listed=true→zop P ops S cs Q t a w→zc5 P md ops S cs Q t.len listed a w
 | .done,listed,a,w,_,_,hB,h=>⟨by simpa[Tr.okL] using hB,h⟩
 | .fork i s j t,listed,a,w,hS,hD,hB,h=>by simp[Tr.okL] at hB
 | .fork3 i s j t k u,listed,a,w,hS,hD,hB,h=>by simp[Tr.okL] at hB
 | .step k r,listed,a,w,hS,hD,hB,h=>by
  simp only[Tr.okL,Zay] at hB;obtain⟨⟨⟨hr,hf⟩,hc⟩,hB'⟩:=hB;have hr':k∈Region.ready md ops listed:=by simpa using hr
  obtain⟨o,h0⟩:∃o,ops[k]? = some o:=by obtain⟨_,o,ho,_⟩:=mem_ready.1 hr';exact⟨o,ho⟩
  have hgo:∀a' w',S w'→zop P ops S cs Q r a' w'→zc5 P md ops S cs Q r.len (listed.setIfInBounds k true) a' w':=fun a' w' hS' hh =>
   zkf hs r _ a' w' hS' (hD.step hr') hB' hh
  simp only[zop] at h;unfold mixOp at h;simp only[h0] at h;by_cases hw:Region.wanted o (yielded ops a.tmps)=true
  ·simp only[hw,if_true] at h;by_cases hcs:cs.contains k=true
   ·simp only[hcs,if_true] at h;refine zhg (f:=40) h0 (Region.noSelect_spec hs) r.len listed a w hS hD (Region.free_spec h0 hf) (fun j hj hjk=>?_) hr' hcs hw (za3 (fun v w' hk=>⟨hk.1,hgo _ _ hk.1 hk.2⟩) h);simp only[hcs,Bool.not_true,Bool.false_or,List.all_eq_true] at hc;have:=hc j (by simpa using hj);simp only[Bool.or_eq_true,beq_iff_eq] at this;rcases this with (h1|h1)|h1
    ·exact absurd h1 hjk
    ·exact .inl h1
    ·exact .inr h1
   ·simp only[hcs] at h;obtain⟨v,h1,h2⟩:=h;exact zc4 h0 (Region.noSelect_spec hs) r.len listed a w hS (Region.free_spec h0 hf) hr' (.inr (by simpa using hcs)) (.inl ⟨hw,h1⟩) (hgo _ _ h2.1 h2.2)
  ·simp only[hw] at h;exact zc4 h0 (Region.noSelect_spec hs) r.len listed a w hS (Region.free_spec h0 hf) hr' (.inl (by simpa using hw)) (.inr ⟨by simpa using hw,rfl⟩) (hgo _ _ h.1 h.2)
def zt3 (l:List Oper) (cs:List Nat) (t:Tr):Bool:=Region.noSelect l.toArray && (t.len == l.length) && t.okL .any l.toArray cs (Array.replicate l.length false)
theorem zih {id:Nat} {Q:Exit→Act→World→Prop} {a:Act} {w:World} {l:List Oper} (keep:Nat→Prop) (cs:List Nat) (t:Tr) (hm:P.follows .mixedOrders=true) (hB:zt3 l cs t=true)
  (h:zan P w.drew keep (fun a' w'=>Q .normal a' w') (zbn l.toArray cs t) a w.drew):(Code.region id l.toArray true).wp P Q a w:=by
 have h:=zbg t a w.drew (Cls.refl _ _) h;simp only[zt3,Zay,beq_iff_eq] at hB;obtain⟨⟨hn,hl⟩,hch⟩:=hB;refine wp_region_any hm (zd6 (S:=Cls w.drew keep) (cs:=cs) (Q:=fun a' w'=>Q .normal a' w') (fun _ _ h=>h) _ _ _ _ (Cls.refl _ _) ?_);have:=zkf (S:=Cls w.drew keep) (cs:=cs) (md:=.any) hn t (Array.replicate l.length false) a w.drew (Cls.refl _ _) (fun j o _ hl=>by simp[Array.getElem?_replicate] at hl;split at hl<;>simp at hl) hch h;rw[hl] at this;simpa using this
end
open Go.RowKit Fld
theorem zew (n k d:Int) (w:World) (hnb:I64 n∧I64 k∧I64 d) :
  Calls Tryz.prog 8 #[.int .i64 n,.int .i64 k,.int .i64 d] w fun e w'=>e=.returned (.bool true)∧Below w.heap.size w w':=by
 have HW:=Hd (yf6 w);have HW0:=Hd (fun W=>zb1 W);have HFN:=Hd (fun W=>zjk W);have HNB:=Hd hnb;clear hnb;go_enter Tryz.func8,Tryz.ntmps8;go_wp2_with fail;refine (zds n k d w).mono ?_;rintro e w' ⟨b,rfl,rfl,hb⟩;have HBW:Hid (Below w.heap.size w w):=Hd (Zaa _ _);cases b
 ·clear hb;by_cases c1:255<n
  ·go_wp2_with fail;refine (HFN.out _).mono ?_;rintro e w1 ⟨fb,rfl,hfb0,hf1,hb1⟩;have HFO:=Hd hf1;have HB0:=Hd hb1;have HFB:=Hd hfb0;have hs1:=hf1.lt;clear hf1 hb1 hfb0;go_wp2_with fail;refine (zbo fb n k d w1 HFO.out HNB.out.1 HNB.out.2.1 HNB.out.2.2 (fun h=>by simp only[zbl];first|omega|(have:=h9.out;omega))).mono ?_;rintro e w2 ⟨hk2,hf2,hcase⟩;have HB2:Hid (Below w.heap.size w w2):=Hd (HB0.out.trans (hk2.below HB0.out.size (by have:=HFB.out;simp;omega)));have HF2:=Hd hf2;have hfl2:=hf2.lt;have hs2:=HB2.out.size;clear hk2 hf2 HFO HB0;rcases hcase with ⟨N,K,D,rfl,rfl,rfl,hNK,lb,t1,t2,pb,cv,cv2,rfl,hlb,hc2⟩|⟨hno,rfl⟩
   case inl=>omega
   have hrn:=fun W=>zec n k d W;rw[if_neg hno] at hrn;have HRN:=Hd hrn;clear hno hrn;go_wp2_with fail;refine (HRN.out _).mono ?_;rintro e w3 ⟨rfl,hb3⟩;have HBW:Hid (Below w.heap.size w w3):=Hd (HB2.out.trans ((((Zaa w2.heap.size w2).alloc (zE3 _) _).trans (hb3.mono (by simp))).mono hs2));clear hb3;go_wp2_with fail;refine (HW.out _ HBW.out).mono ?_;rintro e w20 ⟨rfl,HB20⟩;go_wp2;go_ret;exact⟨rfl,HB20.out⟩
  by_cases c2:255<k
  ·go_wp2_with fail;refine (HFN.out _).mono ?_;rintro e w1 ⟨fb,rfl,hfb0,hf1,hb1⟩;have HFO:=Hd hf1;have HB0:=Hd hb1;have HFB:=Hd hfb0;have hs1:=hf1.lt;clear hf1 hb1 hfb0;go_wp2_with fail;refine (zbo fb n k d w1 HFO.out HNB.out.1 HNB.out.2.1 HNB.out.2.2 (fun h=>by simp only[zbl];first|omega|(have:=h9.out;omega))).mono ?_;rintro e w2 ⟨hk2,hf2,hcase⟩;have HB2:Hid (Below w.heap.size w w2):=Hd (HB0.out.trans (hk2.below HB0.out.size (by have:=HFB.out;simp;omega)));have HF2:=Hd hf2;have hfl2:=hf2.lt;have hs2:=HB2.out.size;clear hk2 hf2 HFO HB0;rcases hcase with ⟨N,K,D,rfl,rfl,rfl,hNK,lb,t1,t2,pb,cv,cv2,rfl,hlb,hc2⟩|⟨hno,rfl⟩
   case inl=>omega
   have hrn:=fun W=>zec n k d W;rw[if_neg hno] at hrn;have HRN:=Hd hrn;clear hno hrn;go_wp2_with fail;refine (HRN.out _).mono ?_;rintro e w3 ⟨rfl,hb3⟩;have HBW:Hid (Below w.heap.size w w3):=Hd (HB2.out.trans ((((Zaa w2.heap.size w2).alloc (zE3 _) _).trans (hb3.mono (by simp))).mono hs2));clear hb3;go_wp2_with fail;refine (HW.out _ HBW.out).mono ?_;rintro e w20 ⟨rfl,HB20⟩;go_wp2;go_ret;exact⟨rfl,HB20.out⟩
  by_cases c3:255<d
  ·go_wp2_with fail;refine (HFN.out _).mono ?_;rintro e w1 ⟨fb,rfl,hfb0,hf1,hb1⟩;have HFO:=Hd hf1;have HB0:=Hd hb1;have HFB:=Hd hfb0;have hs1:=hf1.lt;clear hf1 hb1 hfb0;go_wp2_with fail;refine (zbo fb n k d w1 HFO.out HNB.out.1 HNB.out.2.1 HNB.out.2.2 (fun h=>by simp only[zbl];first|omega|(have:=h9.out;omega))).mono ?_;rintro e w2 ⟨hk2,hf2,hcase⟩;have HB2:Hid (Below w.heap.size w w2):=Hd (HB0.out.trans (hk2.below HB0.out.size (by have:=HFB.out;simp;omega)));have HF2:=Hd hf2;have hfl2:=hf2.lt;have hs2:=HB2.out.size;clear hk2 hf2 HFO HB0;rcases hcase with ⟨N,K,D,rfl,rfl,rfl,hNK,lb,t1,t2,pb,cv,cv2,rfl,hlb,hc2⟩|⟨hno,rfl⟩
   case inl=>omega
   have hrn:=fun W=>zec n k d W;rw[if_neg hno] at hrn;have HRN:=Hd hrn;clear hno hrn;go_wp2_with fail;refine (HRN.out _).mono ?_;rintro e w3 ⟨rfl,hb3⟩;have HBW:Hid (Below w.heap.size w w3):=Hd (HB2.out.trans ((((Zaa w2.heap.size w2).alloc (zE3 _) _).trans (hb3.mono (by simp))).mono hs2));clear hb3;go_wp2_with fail;refine (HW.out _ HBW.out).mono ?_;rintro e w20 ⟨rfl,HB20⟩;go_wp2;go_ret;exact⟨rfl,HB20.out⟩
  have e1:decide (255<n)=false:=decide_eq_false c1;have e2:decide (255<k)=false:=decide_eq_false c2;have e3:decide (255<d)=false:=decide_eq_false c3;go_wp2_with fail;refine (HW.out _ HBW.out).mono ?_;rintro e w20 ⟨rfl,HB20⟩;go_wp2;go_ret;exact⟨rfl,HB20.out⟩
 have h9:=Hd (hb.1 rfl);clear hb HBW;go_wp2_with fail;refine (HFN.out _).mono ?_;rintro e w1 ⟨fb,rfl,hfb0,hf1,hb1⟩;have HFO:=Hd hf1;have HB0:=Hd hb1;have HFB:=Hd hfb0;have hs1:=hf1.lt;clear hf1 hb1 hfb0;go_wp2_with fail;refine (zbo fb n k d w1 HFO.out HNB.out.1 HNB.out.2.1 HNB.out.2.2 (fun h=>by simp only[zbl];first|omega|(have:=h9.out;omega))).mono ?_;rintro e w2 ⟨hk2,hf2,hcase⟩;have HB2:Hid (Below w.heap.size w w2):=Hd (HB0.out.trans (hk2.below HB0.out.size (by have:=HFB.out;simp;omega)));have HF2:=Hd hf2;have hfl2:=hf2.lt;have hs2:=HB2.out.size;clear hk2 hf2 HFO HB0;rcases hcase with ⟨N,K,D,rfl,rfl,rfl,hNK,lb,t1,t2,pb,cv,cv2,rfl,hlb,hc2⟩|⟨hno,rfl⟩
 case inr =>
  have hrn:=fun W=>zec n k d W;rw[if_neg hno] at hrn;have HRN:=Hd hrn;clear hno hrn;go_wp2_with fail;refine (HRN.out _).mono ?_;rintro e w3 ⟨rfl,hb3⟩;have HBW:Hid (Below w.heap.size w w3):=Hd (HB2.out.trans ((((Zaa w2.heap.size w2).alloc (zE3 _) _).trans (hb3.mono (by simp))).mono hs2));clear hb3;go_wp2_with fail;refine (HW.out _ HBW.out).mono ?_;rintro e w20 ⟨rfl,HB20⟩;go_wp2;go_ret;exact⟨rfl,HB20.out⟩
 have h99:=h9.out;have hrn:=fun W=>zec (N:Int) (K:Int) (D:Int) W;rw[if_pos (by omega)] at hrn;have HRN:=Hd hrn;have HC2:=Hd hc2;clear hrn hc2 hlb HFN;obtain⟨wa,hwa⟩:=zE5 (w2.alloc (.cells #[.int .i64 N,.int .i64 K,.int .i64 D] 32));have hba:Below w2.heap.size w2 wa:=by rw[hwa];exact (Zaa _ _).alloc (zE3 _) _
 have d0:wa.heap[w2.heap.size]? = some (.cells #[.int .i64 N,.int .i64 K,.int .i64 D] 32 (0,0)):=by rw[hwa];exact nwA _ _
 have HBA:=Hd (HB2.out.trans (hba.mono hs2));have HCA:=Hd (HC2.out.below hba);have HDA:=Hd d0;have y0:=cOH d0 (j:=0) rfl;have y1:=cOH d0 (j:=1) rfl;have y2:=cOH d0 (j:=2) rfl;have l0:=lOH d0;clear hba d0;go_wp2_with fail;rw[←hwa];clear hwa;refine (HRN.out _).mono ?_;rintro e w3 ⟨rfl,hb3⟩;have HB3:=Hd (HBA.out.trans (hb3.mono HBA.out.size));have hc3:=HCA.out.below hb3;have hd3:=zad hb3 HDA.out;clear y0 y1 y2;have z0:=cOH hd3 (j:=0) rfl;have z1:=cOH hd3 (j:=1) rfl;have z2:=cOH hd3 (j:=2) rfl;have l3:=lOH hd3;have HAL:Hid (∀W,Below w3.heap.size w3 W→Calls Tryz.prog 33 #[.pointer (some ⟨lb,0,none⟩)] W fun e w'=>e=.returned (.int .i64 (D:Nat))∧W=w'):=Hd fun W hb=>yb1 W lb D (cOH (hc3.below hb).box (j:=3) rfl);have HRA:=Hd (fun W=>zyg (N:Int) (K:Int) (D:Int) W);have hbp:=fun W (hb:Below w3.heap.size w3 W)=>zje W lb K D (cOH (hc3.below hb).box (j:=2) rfl) (cOH (hc3.below hb).box (j:=3) rfl) (lOH (hc3.below hb).box) (by omega);have hbr:=fun W=>zo5 N K D W (by omega);obtain⟨k1,hk1⟩:=zE4 (K-1);obtain⟨p,hp⟩:=zE4 (K*D);obtain⟨q,hq⟩:=zE4 (K*k1);obtain⟨h,hh⟩:=zE4 (q / 2);obtain⟨B,hB⟩:=zE4 (mbB K D);have hBe:p-h=B:=by rw[←hB,zhl (by omega),hk1,hp,hq,hh]
 have hpl:p≤255*255:=by rw[←hp];exact Zai (by omega) (by omega)
 have hql:q≤p:=by rw[←hp,←hq];exact Nat.mul_le_mul_left _ (by omega)
 rw[hB] at hbp hbr;have HBP:=Hd hbp;have HBR:=Hd hbr;have x3:(K:Int)-1=(k1:Int):=by omega
 have x4:=zE6 (k1:Int) (by omega);have x5:(K:Int)*(D:Int)=(p:Int):=by rw[←hp];simp
 have x6:=zE6 (p:Int) (by omega);have x7:(K:Int)*(k1:Int)=(q:Int):=by rw[←hq];simp
 have x8:=zE6 (q:Int) (by omega);have x9:(q:Int).tdiv 2=(h:Int):=by rw[←hh];exact (Int.ofNat_tdiv q 2).symm
 have x10:=zE6 (h:Int) (by omega);have x11:(p:Int)-(h:Int)=(B:Int):=by omega
 have x12:=zE6 (B:Int) (by omega);have hs3:=HB3.out.size;clear hb3 hc3 hd3 hbp hbr hB hBe hp hq hh hk1 l0 HRN h99 hpl hql;go_upto_region 9 with fail
 have hgr:=hgK (fun kk=>kk<w3.heap.size);refine zih (fun kk=>kk<w3.heap.size) [1,3,7,9,14,20,33] (.sq [0,1,2,3,4,5,6,7,8,9,10,11,12,13,14,15,16,17,18,19,20,21,22,23,24,25,26,27,28,29,30,31,32,33,34,35] .done) (by kernel_rfl) (by kernel_rfl) ?_;simp only[TQ,Oper.slim,Nat.reduceBEq,Nat.reduceAdd]
 repeat (first|(fail)|((with_reducible refine w_S (fun K hK=>?_));go_simp;first|(refine hK _ _ ?_;clear hK K)|(refine⟨by (intro kk hkk;first|(simp (disch:=(simp;omega)) only[h_D,h_N,h_A,h_S];done)|(simp[h_D,h_N,h_I,hkk];done)|fail),hK _ _ ?_⟩;clear hK K)| (go_at_call 33;(with_reducible refine (HAL.out _ (by (repeat' (first|with_reducible (first|exact Zaa _ _|assumption|refine Zac ?_|refine Zab ?_ ?_ _)|omega|(simp;done)|(simp;omega))))).mono ?_);rintro e wx ⟨rfl,hwx⟩;subst hwx;refine⟨_,rfl,(fun kk hkk=>(show Below w3.heap.size w3 _ from by (repeat' (first|with_reducible (first|exact Zaa _ _|assumption|refine Zac ?_|refine Zab ?_ ?_ _)|omega|(simp;done)|(simp;omega)))).block kk hkk),hK _ _ ?_⟩;clear hK K)|(go_at_call 34;(with_reducible refine (HRA.out _).mono ?_);rintro e wy ⟨rfl,hby⟩;have hBY:Below w3.heap.size w3 wy:=zbh (by (repeat' (first|with_reducible (first|exact Zaa _ _|assumption|refine Zac ?_|refine Zab ?_ ?_ _)|omega|(simp;done)|(simp;omega)))) hby;clear hby;refine⟨_,rfl,(fun kk hkk=>hBY.block kk hkk),hK _ _ ?_⟩;clear hK K)|(go_at_call 30;(with_reducible refine (HBP.out _ (by (repeat' (first|with_reducible (first|exact Zaa _ _|assumption|refine Zac ?_|refine Zab ?_ ?_ _)|omega|(simp;done)|(simp;omega))))).mono ?_);rintro e wy ⟨rfl,hby⟩;have hBY:Below w3.heap.size w3 wy:=zbh (by (repeat' (first|with_reducible (first|exact Zaa _ _|assumption|refine Zac ?_|refine Zab ?_ ?_ _)|omega|(simp;done)|(simp;omega)))) hby;clear hby;refine⟨_,rfl,(fun kk hkk=>hBY.block kk hkk),hK _ _ ?_⟩;clear hK K)|(go_at_call 35;(with_reducible refine (HBR.out _).mono ?_);rintro e wy ⟨rfl,hby⟩;have hBY:Below w3.heap.size w3 wy:=zbh (by (repeat' (first|with_reducible (first|exact Zaa _ _|assumption|refine Zac ?_|refine Zab ?_ ?_ _)|omega|(simp;done)|(simp;omega)))) hby;clear hby;refine⟨_,rfl,(fun kk hkk=>hBY.block kk hkk),hK _ _ ?_⟩;clear hK K)|(go_at_call 12;(with_reducible refine (HW0.out _).mono ?_);rintro e wv ⟨rfl,hbv⟩;have hBV:Below w3.heap.size w3 wv:=zbh (by (repeat' (first|with_reducible (first|exact Zaa _ _|assumption|refine Zac ?_|refine Zab ?_ ?_ _)|omega|(simp;done)|(simp;omega)))) hbv;clear hbv;refine⟨_,rfl,(fun kk hkk=>hBV.block kk hkk),hK _ _ ?_⟩;clear hK K)))
 refine w_D ?_;clear hgr
 all_goals
  go_wp2;go_ret;exact⟨rfl,HB3.out.trans (hBV.mono hs3)⟩
end Go.Proofs.YtcclhhjcejmepaaGreat
namespace Go.Proofs.YtcclhhjcejmepaaGreat
open Go.RowKit
end Go.Proofs.YtcclhhjcejmepaaGreat
