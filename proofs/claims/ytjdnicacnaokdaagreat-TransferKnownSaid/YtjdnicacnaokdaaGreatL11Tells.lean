/-
  The law TransferTells.
-/
import Derived.Test.YtjdnicacnaokdaaGreatEncG
import Derived.Test.YtjdnicacnaokdaaGreatSkG
import Derived.Test.YtjdnicacnaokdaaGreatToldG
import Derived.Test.YtjdnicacnaokdaaGreatKit
import Derived.Test.YtjdnicacnaokdaaGreatOwnSyG
namespace Go.Proofs.YtjdnicacnaokdaaGreat
open Go.RowKit Fld
set_option linter.unusedVariables false
set_option linter.unusedSimpArgs false

theorem gf_of {x:Nat} (h:x < 256):∃ d:GF,d.n=x:=⟨⟨x,h⟩,rfl⟩
theorem gf_add_zero {x d:GF} (h:d.n=0):x+d=x:=by
 obtain rfl:d=0:=by cases d;simp only at h;subst h;rfl
 exact addz x
theorem gf_add_ne {x d:GF} (h:d.n ≠ 0):x+d ≠ x:=fun e=>h (by
 obtain rfl:d=0:=add_cancel (a:=x) (e.trans (addz x).symm)
 rfl)
theorem TRow.kpS {S:List Nat} {w w':World} {B:Nat} {V:Value} {l:List Sy} (h:TRow w B V l) (hk:Kp S w w') (hS:∀ x ∈ S,x < B):TRow w' B V l:=by
 have ha:=h.own.apart hS
 have hsz:=hk.size
 refine ⟨⟨h.own.row.kp hk (fun k hkk hm=>by have:=(h.own.row.lt k hkk).1;have:=hS k hm;omega),(SyAll.kp h.own.all hk ha).each,fun s hs a hA=>?_⟩,fun s hs=>?_,h.dist⟩
 ·have h1:=h.own.new s hs a hA
  exact ⟨h1.1,h1.2.1,by omega⟩
 ·obtain ⟨b,h1,h2,h3⟩:=h.view s hs
  have h4:=(h.own.new s hs _ h1).1
  exact ⟨b,h1,h2,h3.kp hk (fun hm=>by have:=hS b hm;simp only at h4;omega)⟩
set_option maxRecDepth 100000 in
set_option maxHeartbeats 8000000 in
theorem ltells11_any (n k:Int) (um:Value) (A:List GF) (bs ta by_:Nat) (tu:Bool) (w:World) (hnb:I64 n∧I64 k) (hm:GRd w um A) (hbs:bs < 18446744073709551616) (hta:ta < 256) (hby:by_ < 256) :
  Calls Tryz.prog 6 #[.int .i64 n,.int .i64 k,um,.int .u64 bs,.bool tu,.int .u8 ta,.int .u8 by_] w fun e w'=>e=.returned (.bool true)∧Below w.heap.size w w':=by
 have HW:=Lib.hid (fun W=>works11_any W)
 have HFN:=Lib.hid (fun W=>fnew_g W)
 have HNB:=Lib.hid hnb
 have HM:=Lib.hid hm
 have HBS:=Lib.hid hbs
 clear hnb hm hbs
 go_enter Tryz.func6,Tryz.ntmps6
 go_wp2_with fail
 refine (few11_any n k w).mono ?_
 rintro e w' ⟨b,rfl,rfl,hb⟩
 have HBW:Hid (Below w.heap.size w w):=Lib.hid (Below.refl _ _)
 cases b
 ·clear hb
  go_wp2_with fail
  refine (HW.out _).mono ?_
  rintro e w20 ⟨rfl,hb20⟩
  have HB20:Hid (Below w.heap.size w w20):=Lib.hid (HBW.out.trans (hb20.mono HBW.out.size))
  clear hb20
  go_wp2
  go_ret
  exact ⟨rfl,HB20.out⟩
 have h9:=hb.1 rfl
 clear hb HBW
 go_wp2_with fail
 refine (HFN.out _).mono ?_
 rintro e w1 ⟨fb,rfl,hfb0,hf1,hb1⟩
 have HFO:=Lib.hid hf1
 have HB0:=Lib.hid hb1
 have HFB:=Lib.hid hfb0
 have hs1:=hf1.lt
 clear hf1 hb1 hfb0
 go_wp2_with fail
 refine (trnew_any fb n k w1 HFO.out HNB.out.1 HNB.out.2).mono ?_
 rintro e w2 ⟨hk2,hf2,hcase⟩
 have HB2:Hid (Below w.heap.size w w2):=Lib.hid (HB0.out.trans (hk2.below HB0.out.size (by have:=HFB.out;simp;omega)))
 have HF2:=Lib.hid hf2
 have hfl2:=hf2.lt
 have hs2:=HB2.out.size
 clear hk2 hf2 HFO HB0
 rcases hcase with ⟨N,K,rfl,rfl,hNK,lb,cb,mb,cv,rfl,hlb,hc2⟩ | ⟨hno,rfl⟩
 case inr =>
  have HBW:=HB2
  clear hno
  go_wp2_with fail
  refine (HW.out _).mono ?_
  rintro e w20 ⟨rfl,hb20⟩
  have HB20:Hid (Below w.heap.size w w20):=Lib.hid (HBW.out.trans (hb20.mono HBW.out.size))
  clear hb20
  go_wp2
  go_ret
  exact ⟨rfl,HB20.out⟩
 have HC2:=Lib.hid hc2
 have HNK:=Lib.hid hNK
 clear hc2 hNK
 have HTB:=Lib.hid (trb_any w2 lb N K (cell_of_heap HC2.out.box (j:=0) rfl) (cell_of_heap HC2.out.box (j:=1) rfl) (lt_of_heap HC2.out.box) (by have:=HNK.out;omega) HNK.out.2.2)
 obtain ⟨BN,hBN⟩:∃ BN,trB N K=BN:=⟨_,rfl⟩
 rw [hBN] at HTB
 have HBL:Hid (BN≤253):=Lib.hid (by have:=eN_le HNK.out.2.2;have:=trB_le HNK.out.2.1;omega)
 have HBN:=Lib.hid hBN
 clear hBN
 go_wp2_with fail
 refine HTB.out.mono ?_
 rintro e w3 ⟨rfl,hb3⟩
 have HC3:=Lib.hid (HC2.out.below hb3)
 have HB3:Hid (Below w.heap.size w w3):=Lib.hid (HB2.out.trans (hb3.mono HB2.out.size))
 have hs3:=hb3.size
 clear hb3 HC2 HTB
 go_wp2_with fail
 refine (kfull_any _ A BN w3 (HM.out.below HB3.out) (by have:=HBL.out;omega)).mono ?_
 rintro e w4 ⟨gm,rfl,hgm,hvm,hrm,hb4⟩
 have HC4:=Lib.hid (HC3.out.below hb4)
 have HB4:Hid (Below w.heap.size w w4):=Lib.hid (HB3.out.trans (hb4.mono HB3.out.size))
 obtain ⟨M,hM⟩:∃ M,fullG A BN=M:=⟨_,rfl⟩
 have hml:M.length=BN:=by rw [← hM,fullG_len]
 rw [hM] at hrm
 have HM4:=Lib.hid hrm
 have HML:Hid (M.length=trB N K):=Lib.hid (by rw [hml,HBN.out])
 have hs4:=hb4.size
 have hgl:=hvm.1
 clear hvm hrm hb4 HC3 HM hM hml
 have HENC:=Lib.hid (trenc_any w4 lb cb fb mb N K cv _ M HC4.out HNK.out.1 HNK.out.2.1 HNK.out.2.2 HM4.out (.inr (fun k hk hm=>by simp [Value.ownBlock] at hk hm;omega)))
 go_wp2_with fail
 refine HENC.out.mono ?_
 rintro e w5 (⟨hne,-⟩ | ⟨-,hk5,hf5,v5,S5,rfl,hsh⟩)
 ·exact absurd HML.out hne
 have HC5:=Lib.hid (HC4.out.step hk5 hf5)
 have HF5:=Lib.hid hf5
 have HM5:=Lib.hid (HM4.out.kp hk5 (fun k hk hm=>by simp [Value.ownBlock] at hk hm;omega))
 have HB5:Hid (Below w.heap.size w w5):=Lib.hid (HB4.out.trans (hk5.below HB4.out.size (by have:=HFB.out;simp;omega)))
 have hs5:=hk5.size
 have hsl:S5.length=N:=by have:=congrArg List.length hsh.eq;simpa using this
 have hsd:=hsh.eq
 have HTO:=Lib.hid (toldR_any v5 S5 bs 0 tu (.slice none 0 0) (.slice none 0 0) [] [] w5 hsh.all (by have:=HNK.out;omega) (fun s hs=>by
  have:s.d ∈ S5.map Ro.d:=List.mem_map.2 ⟨s,hs,rfl⟩
  rw [hsd] at this
  obtain ⟨x,-,hx⟩:=List.mem_map.1 this
  rw [← hx,trSh_len]
  have:=HNK.out
  omega) HBS.out (OwnG.nil w5 0).rd (OwnG.nil w5 0).rd (by omega))
 unfold ToldRPost at HTO
 rw [hsd,hsl] at HTO
 have e0:((0:Nat):Int)=0:=rfl
 rw [e0] at HTO
 clear hk5 hf5 hsh hsl hsd e0 HC4 HM4 HENC
 go_wp2_with fail
 refine HTO.out.mono ?_
 rintro e w6 ⟨tv,ov,l,zs,rfl,htr,-,hb6,-,hti⟩
 have hgt:=told_tr (k:=K) (by have:=HNK.out;omega) HML.out hti
 have HGT:=Lib.hid hgt
 have hll:l.length≤N:=by
  have h2:=hgt.1.1.2.length_le_of_subset (l₂:=(List.range N).map fun (x:Nat)=>(x:Int)) (fun x hx=>by
   have:=hgt.1.1.1 x hx
   exact List.mem_map.2 ⟨x.toNat,List.mem_range.2 (by omega),by omega⟩)
  simpa [Sy.nodes] using h2
 have HT6:=Lib.hid htr
 have HSA:=Lib.hid (htr.own.apart (S:=[fb]) (by simp;omega))
 have HB6:Hid (Below w.heap.size w w6):=Lib.hid (HB5.out.trans (hb6.mono HB5.out.size))
 have HK56:Hid (Kp [fb] w5 w6):=Lib.hid (Kp.of_below hb6)
 have HM6:=Lib.hid (HM5.out.below hb6)
 have hs6:=hb6.size
 obtain ⟨L,hL⟩:∃ L,l.length=L:=⟨_,rfl⟩
 have HL:=Lib.hid hL
 obtain ⟨av,vc,rfl⟩:=htr.own.all.rd.form
 rw [hL] at HSA HT6 hll ⊢
 have HDE:=Lib.hid (trdec_any w6 lb cb fb mb N K cv _ l (HC5.out.below hb6) HNK.out.1 HNK.out.2.1 HNK.out.2.2 HT6.out.own.all HSA.out (by rw [HL.out];have:=HNK.out;omega))
 clear htr hb6 hti hgt hL HTO HM5
 go_wp2_with fail
 refine HDE.out.mono ?_
 rintro e w7 ⟨hk7,hf7,hans⟩
 obtain ⟨c,m,v,rfl,his,hg7,-⟩:=hans.is
 have HIS:=Lib.hid his
 have HK57:=Lib.hid (HK56.out.trans hk7)
 have HF7:=Lib.hid hf7
 have HB7:Hid (Below w.heap.size w w7):=Lib.hid (HB6.out.trans (hk7.below (by omega) (by have:=HFB.out;simp;omega)))
 have HM7:=Lib.hid (HM6.out.kp hk7 (fun k hk hm=>by simp [Value.ownBlock] at hk hm;omega))
 have HA7:=Lib.hid hg7
 have HT7:=Lib.hid (HT6.out.kpS hk7 (by simp;omega))
 have hs7:=hk7.size
 clear hk7 hf7 hans his hg7 HDE HM6 HT6 HK56
 by_cases hfew:L < K
 ·have hfew':(L:Int) < (K:Int):=by omega
  obtain ⟨rfl,rfl⟩:=TrDecIs.one (pows_nodup (by have:=eN_le HNK.out.2.2;omega)) (pows_len _) HIS.out (.inr ⟨HGT.out.1,.inl ⟨by rw [HL.out];exact hfew,rfl,rfl⟩⟩)
  have HBW:=HB7
  go_wp2_with fail
  refine (HW.out _).mono ?_
  rintro e w20 ⟨rfl,hb20⟩
  have HB20:Hid (Below w.heap.size w w20):=Lib.hid (HBW.out.trans (hb20.mono HBW.out.size))
  clear hb20
  go_wp2
  go_ret
  exact ⟨rfl,HB20.out⟩
 have hfew':¬ (L:Int) < (K:Int):=by omega
 have HMANY:Hid (K≤l.length):=Lib.hid (by rw [HL.out];omega)
 obtain ⟨rfl,rfl⟩:=TrDecIs.one (pows_nodup (by have:=eN_le HNK.out.2.2;omega)) (pows_len _) HIS.out (.inr ⟨HGT.out.1,.inr ⟨HMANY.out,.inl ⟨rfl,HGT.out.2⟩⟩⟩)
 go_wp2_with fail
 refine (same_t _ _ m w7 HA7.out HM7.out).mono ?_
 rintro e w8 ⟨rfl,rfl⟩
 clear HIS HA7
 have hK1:=HNK.out
 obtain ⟨r,hr⟩:∃ r,ta % L=r:=⟨_,rfl⟩
 have hrL:r < L:=by rw [← hr];exact Nat.mod_lt _ (by omega)
 have z1:(ta:Int) % (L:Int)=(r:Int):=by rw [← hr];rfl
 have z2:Int.tmod (ta:Int) (L:Int)=(r:Int):=by rw [Int.tmod_eq_emod_of_nonneg (by omega),z1]
 have z3:IntKind.i64.wrap (r:Int)=(r:Int):=IntWalk.i64_in _ (by omega)
 have z4:¬ (L:Int)=0:=by omega
 have z5:¬ L=0:=by omega
 have z6:((L:Int) == 0)=false:=by simp;omega
 have z7:(L:Int) ≠ 0:=by omega
 have z8:IntKind.i64.wrap (ta:Int)=(ta:Int):=IntWalk.i64_in _ (by omega)
 obtain ⟨q,hq⟩:∃ q,ta / 16=q:=⟨_,rfl⟩
 have y1:(ta:Int) / 16=(q:Int):=by omega
 have y2:Int.tdiv (ta:Int) 16=(q:Int):=by rw [Int.tdiv_eq_ediv_of_nonneg (by omega),y1]
 have y3:IntKind.u8.wrap (q:Int)=(q:Int):=IntWalk.u8_in _ (by omega)
 have y4:IntKind.i64.wrap (q:Int)=(q:Int):=IntWalk.i64_in _ (by omega)
 obtain ⟨n1,hn1⟩:∃ n1,N - 1=n1:=⟨_,rfl⟩
 have hAL:=tra_any w7.drew lb N (cell_of_heap ((HC5.out.step HK57.out HF7.out).below ((Below.refl _ w7).drew)).box (j:=0) rfl) (by omega)
 rw [hn1] at hAL
 have HAL:=Lib.hid hAL
 have hn0:0 < n1:=by omega
 obtain ⟨p,hp⟩:∃ p,q % n1=p:=⟨_,rfl⟩
 have hpn:p < n1:=by rw [← hp];exact Nat.mod_lt _ hn0
 have x1:(q:Int) % (n1:Int)=(p:Int):=by rw [← hp];rfl
 have x2:Int.tmod (q:Int) (n1:Int)=(p:Int):=by rw [Int.tmod_eq_emod_of_nonneg (by omega),x1]
 have x3:IntKind.i64.wrap (p:Int)=(p:Int):=IntWalk.i64_in _ (by omega)
 have x4:¬ (n1:Int)=0:=by omega
 have x5:¬ n1=0:=by omega
 have x6:((n1:Int) == 0)=false:=by simp;omega
 have x7:(n1:Int) ≠ 0:=by omega
 obtain ⟨g,rfl,hgB,hgl7,hgc⟩:=HT7.out.own.form0 (by omega)
 obtain ⟨s,hs⟩:∃ s,l[r]? = some s:=⟨_,List.getElem?_eq_getElem (by rw [HL.out];exact hrL)⟩
 obtain ⟨b,hb,hcap,hv⟩:=HT7.out.view s (List.mem_of_getElem? hs)
 have hbn:=HT7.out.own.new s (List.mem_of_getElem? hs) _ hb
 have cv1:=(HT7.out.own.at0 hs).2
 have hsl:s.d.length=n1:=by rw [(HGT.out.1.2 s (List.mem_of_getElem? hs)).2,hn1]
 rw [hb,hsl] at cv1
 rw [hsl] at hv hcap
 have hbB:w5.heap.size≤b:=hbn.1
 have hgb:g ≠ b:=fun e=>hbn.2.1 (by rw [e];rfl)
 have hbl:b < w7.heap.size:=hbn.2.2
 obtain ⟨d,hd⟩:=gf_of hby
 have cE:=(hv.2 p hpn).1
 have fE:=(hv.2 p hpn).2
 have hxor:=GF.u8_xor (s.d.getD p 0) d
 obtain ⟨y,hy⟩:∃ y,s.d.getD p 0+d=y:=⟨_,rfl⟩
 have hvs:=hv.set hpn y
 rw [hy] at hxor
 obtain ⟨fn,hfn⟩:∃ fn,(s.d.getD p 0).n=fn:=⟨_,rfl⟩
 obtain ⟨zn,hzn⟩:∃ zn,y.n=zn:=⟨_,rfl⟩
 rw [hfn,hd,hzn] at hxor
 rw [hzn] at hvs
 rw [hfn] at cE
 obtain ⟨w9,hw9⟩:∃ w9,w9=(w7.setCell ⟨b,p,none⟩ (.int .u8 (zn:Nat))).drew:=⟨_,rfl⟩
 have hk9:Kp [b] w7 w9:=by rw [hw9];exact ((Kp.refl _ _).setCell (.inl (by simp)) _).drew
 have hv9:View w9 b s.d.length (fun i=>(s.d.set p y).getD i 0):=by
  rw [hw9,hsl]
  refine View.congr hvs.drew fun j hj=>?_
  simp only [List.getD_eq_getElem?_getD,List.getElem?_set]
  by_cases hjp:j=p
  ·subst hjp
   rw [if_pos rfl,if_pos rfl,if_pos (by omega)]
   rfl
  ·rw [if_neg hjp,if_neg (fun e=>hjp e.symm)]
 have HT9:=Lib.hid (HT7.out.wr hs hb hk9 (d:=s.d.set p y) (by simp) hv9)
 have HK9:Hid (Kp [fb] w5 w9):=Lib.hid (HK57.out.step hk9 (by simp;omega))
 have HF9:Hid (FOk w9 fb):=Lib.hid (HF7.out.kp hk9 (by simp;omega))
 have HM9:=Lib.hid (HM7.out.kp hk9 (fun k hk hm=>by simp [Value.ownBlock] at hk hm;omega))
 have HB9:Hid (Below w.heap.size w w9):=Lib.hid (HB7.out.trans (hk9.below (by have:=HB5.out.size;omega) (by simp;have:=HB5.out.size;omega)))
 have HLN:Hid ((l.set r ⟨s.node,s.a,s.cp,s.d.set p y⟩).length=L):=Lib.hid (by rw [List.length_set];exact HL.out)
 have HRES:Hid (∀ c' b',TrDecIs N K (pows (eN N)) (l.set r ⟨s.node,s.a,s.cp,s.d.set p y⟩) c' b'→(by_=0→c'=0∧b'=m)∧(by_ ≠ 0→c'=80 ∨ c'=0∧L=K∧b' ≠ m)):=Lib.hid fun c' b' h=>by
  rw [← hn1] at hpn
  constructor
  ·intro h0
   have hyy:s.d.getD p 0=y:=by rw [← hy,gf_add_zero (by rw [hd];exact h0)]
   have h2:=tell_same HGT.out.1 hs hpn hyy h
   exact TrDecIs.one (pows_nodup (by have:=eN_le HNK.out.2.2;omega)) (pows_len _) h2 (.inr ⟨HGT.out.1,.inr ⟨HMANY.out,.inl ⟨rfl,HGT.out.2⟩⟩⟩)
  ·intro h0
   have:=tell_other (pows_nodup (by have:=eN_le HNK.out.2.2;omega)) (pows_len _) HGT.out.1 HGT.out.2 hs hpn (by rw [← hy];exact gf_add_ne (by rw [hd];exact h0)) HMANY.out h
   rwa [HL.out] at this
 have HAP:Hid (SyApart (.slice (some ⟨g,0,none⟩) L vc) (l.set r ⟨s.node,s.a,s.cp,s.d.set p y⟩) [fb]):=Lib.hid (HT9.out.own.apart (S:=[fb]) (by simp;omega))
 have HS9:=Lib.hid hk9.size
 obtain ⟨kp,hkp⟩:∃ kp:Nat→Bool,∀ j,kp j=true↔j ≠ b:=⟨fun j=>decide (j ≠ b),by simp⟩
 have hk2:kp g=true:=(hkp _).2 hgb
 have HKP:=Lib.hid hkp
 have j1:(0:Int)≤(r:Int)∧(r:Int) < (L:Int):=by omega
 have j2:(0:Int)≤(p:Int)∧(p:Int) < (n1:Int):=by omega
 have HW9:=Lib.hid hw9
 have HBY:=Lib.hid hby
 clear hkp hr hq hn1 hp hs hb hv hbn hsl hd hy hfn hzn hvs hk9 hv9 hw9 hAL HM7 HT7 hK1 hby HNB h9
 go_upto_region 16 with fail
 have hgr:=fun (w0 W:World) (p:Addr) (hp:(fun j=>kp j=true) p.block)=>graft_cell (w0:=w0) (keep:=(fun j=>kp j=true)) W hp
 refine wp_region_tree (fun j=>kp j=true) [13,16,20] (.sq [0,1,2,3,4,5,6,7,8,9,10,11,12,17,13,14,15,16,18,19,20] .done) (by kernel_rfl) (by kernel_rfl) ?_
 simp only [Tr.sq,List.foldr_cons,List.foldr_nil,slimTr,slimStep,Oper.slim,List.contains_cons,List.contains_nil,Option.map_none,Option.map_some,List.getElem?_toArray,List.getElem?_cons_zero,List.getElem?_cons_succ,Option.bind_some,beq_self_eq_true,Bool.or_false,Nat.reduceBEq,Nat.reduceAdd,Nat.zero_add]
 repeat' first | ((with_reducible refine wpSlimT_id ?_);first | (with_reducible refine wpSlimT_done ?_) | ((with_reducible refine wpSlimT_step (fun K hK=>?_));go_simp;first | (refine hK _ _ ?_;clear hK K) | (refine ⟨by (intro kk hkk;first | (simp (disch:=(simp;omega)) only [hp_drew,hp_drewN,hp_alloc,hp_set];done) | (simp [hp_drew,hp_drewN,hp_alloc_if,hkk];done) | (have hkk2:=(HKP.out kk).1 hkk;simp (disch:=(first | exact hkk2 | (simp;done) | (simp;omega))) only [hp_drew,hp_drewN,hp_alloc,hp_set];done)),hK _ _ ?_⟩;clear hK K) | (go_at_call 13;(with_reducible refine HAL.out.mono ?_);rintro e wx ⟨rfl,hwx⟩;subst hwx;refine ⟨_,rfl,(fun kk hkk=>rfl),hK _ _ ?_⟩;clear hK K))) | fail
 clear hgr
 go_wp2_with fail
 rw [← HW9.out]
 have hs9:=HS9.out
 refine (trdec_any w9 lb cb fb mb N K cv _ _ (HC5.out.step HK9.out HF9.out) HNK.out.1 HNK.out.2.1 HNK.out.2.2 HT9.out.own.all HAP.out (by rw [HLN.out];have:=HNK.out;omega)).mono ?_
 rintro e w10 ⟨hk10,hf10,hans⟩
 obtain ⟨c',b',v',rfl,his,hg10,-⟩:=hans.is
 have hres:=HRES.out _ _ his
 have HB10:Hid (Below w.heap.size w w10):=Lib.hid (HB9.out.trans (hk10.below (by omega) (by have:=HFB.out;simp;omega)))
 have HM10:=Lib.hid (HM9.out.kp hk10 (fun k hk hm=>by simp [Value.ownBlock] at hk hm;omega))
 have HA10:=Lib.hid hg10
 clear hk10 hf10 hans his hg10 cE fE cv1 hxor HRES HM9 HT9
 by_cases h0:by_=0
 ·obtain ⟨rfl,rfl⟩:=hres.1 h0
  subst h0
  go_wp2_with fail
  refine (same_t _ _ b' w10 HA10.out HM10.out).mono ?_
  rintro e w11 ⟨rfl,rfl⟩
  have HBW:=HB10
  go_wp2_with fail
  refine (HW.out _).mono ?_
  rintro e w20 ⟨rfl,hb20⟩
  have HB20:Hid (Below w.heap.size w w20):=Lib.hid (HBW.out.trans (hb20.mono HBW.out.size))
  clear hb20
  go_wp2
  go_ret
  exact ⟨rfl,HB20.out⟩
 ·have h0':¬ (by_:Int)=0:=by omega
  rcases hres.2 h0 with rfl | ⟨rfl,rfl,hne⟩
  ·have HBW:=HB10
   clear hres
   go_wp2_with fail
   refine (HW.out _).mono ?_
   rintro e w20 ⟨rfl,hb20⟩
   have HB20:Hid (Below w.heap.size w w20):=Lib.hid (HBW.out.trans (hb20.mono HBW.out.size))
   clear hb20
   go_wp2
   go_ret
   exact ⟨rfl,HB20.out⟩
  ·have HNE:=Lib.hid hne
   clear hres hne
   go_wp2_with fail
   refine (same_g _ _ b' m w10 HA10.out HM10.out).mono ?_
   rintro e w11 ⟨rfl,rfl⟩
   rw [decide_eq_false HNE.out]
   have HBW:=HB10
   go_wp2_with fail
   refine (HW.out _).mono ?_
   rintro e w20 ⟨rfl,hb20⟩
   have HB20:Hid (Below w.heap.size w w20):=Lib.hid (HBW.out.trans (hb20.mono HBW.out.size))
   clear hb20
   go_wp2
   go_ret
   exact ⟨rfl,HB20.out⟩
end Go.Proofs.YtjdnicacnaokdaaGreat
