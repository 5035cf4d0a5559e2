/-
  The examples of the chapter on codes whose nodes are repaired within groups.
-/
import Derived.Test.YtbiaoohodjoojaaGreatL12A
import Derived.Test.YtbiaoohodjoojaaGreatOwnSyG
import Derived.Test.YtbiaoohodjoojaaGreatLocDG
import Derived.Test.YtbiaoohodjoojaaGreatLocA
import Derived.Test.YtbiaoohodjoojaaGreatLocEG
import Derived.Test.YtbiaoohodjoojaaGreatWeKit
import Derived.Test.YtbiaoohodjoojaaGreatOwnC
namespace Go.Proofs.YtbiaoohodjoojaaGreat
open Go.RowKit Fld
set_option linter.unusedVariables false
set_option linter.unusedSimpArgs false

theorem SyAll.lit {W:World} {b:Nat} {t:TypeId} (l:List Sy) (h:W.heap[b]? = some (.cells (flatS Sy.cells l).toArray t (0,0))) {n:Nat} (hn:l.length=n) (hs:∀ s ∈ l,s.rd W):SyAll W (.slice (some ⟨b,0,none⟩) n n) l:=by
 subst hn
 refine ⟨⟨_,_,rfl,Nat.le_refl _,fun hne=>⟨b,0,rfl,lt_of_heap h,fun i c hi j u hj=>?_⟩⟩,hs⟩
 rw [cell_of_row _ _ _ _ _ (0,0) h]
 have:=flatS_at Sy.cells_length l i c j u hi hj
 simp only [Nat.zero_add]
 rw [List.getElem?_toArray,this]
theorem five_form {l:List Sy} (h:Sy.nodes l=[0,1,2,3,4,5]) (hd:∀ s ∈ l,s.d=gl [5]):∃ a0 c0 a1 c1 a2 c2 a3 c3 a4 c4 a5 c5,l=[⟨0,a0,c0,gl [5]⟩,⟨1,a1,c1,gl [5]⟩,⟨2,a2,c2,gl [5]⟩,⟨3,a3,c3,gl [5]⟩,⟨4,a4,c4,gl [5]⟩,⟨5,a5,c5,gl [5]⟩]:=by
 have key:∀ (s:Sy) (x:Int),s.node=x→s.d=gl [5]→s=⟨x,s.a,s.cp,gl [5]⟩:=fun s x h1 h2=>by
  cases s
  simp only at h1 h2
  subst h1 h2
  rfl
 unfold Sy.nodes at h
 obtain ⟨s0,l0,rfl,h0,h⟩:=List.map_eq_cons_iff.1 h
 obtain ⟨s1,l1,rfl,h1,h⟩:=List.map_eq_cons_iff.1 h
 obtain ⟨s2,l2,rfl,h2,h⟩:=List.map_eq_cons_iff.1 h
 obtain ⟨s3,l3,rfl,h3,h⟩:=List.map_eq_cons_iff.1 h
 obtain ⟨s4,l4,rfl,h4,h⟩:=List.map_eq_cons_iff.1 h
 obtain ⟨s5,l5,rfl,h5,h⟩:=List.map_eq_cons_iff.1 h
 obtain rfl:=List.map_eq_nil_iff.1 h
 refine ⟨s0.a,s0.cp,s1.a,s1.cp,s2.a,s2.cp,s3.a,s3.cp,s4.a,s4.cp,s5.a,s5.cp,?_⟩
 rw [← key s0 0 h0 (hd _ (by simp)),← key s1 1 h1 (hd _ (by simp)),← key s2 2 h2 (hd _ (by simp)),← key s3 3 h3 (hd _ (by simp)),← key s4 4 h4 (hd _ (by simp)),← key s5 5 h5 (hd _ (by simp))]
theorem k12_ok:LOkN 6 2 2:=⟨by decide,by decide,by decide,by decide,by decide,by decide,by decide⟩
theorem k12_new {fb:Nat} {w w':World} {e:Ending} (h:LNewPost fb 6 2 2 w e w'):Kp [fb] w w'∧FOk w' fb∧∃ lb cb cv xv,e=.returned (.tuple #[.pointer (some ⟨lb,0,none⟩),.int .i64 0])∧w.heap.size≤lb∧LCode w' lb cb fb 6 2 2 2 cv xv (cosL 2 (6 / (2+1))):=by
 obtain ⟨h1,h2,⟨N,K,R,e1,e2,e3,-,lb,cb,cv,xv,h4⟩ | ⟨h3,-⟩⟩:=h
 ·obtain rfl:N=6:=by omega
  obtain rfl:K=2:=by omega
  obtain rfl:R=2:=by omega
  exact ⟨h1,h2,lb,cb,cv,xv,h4⟩
 ·exact absurd ⟨6,2,2,rfl,rfl,rfl,k12_ok⟩ h3
theorem k12_bad {fb:Nat} {n k r:Int} {w w':World} {e:Ending} (h:LNewPost fb n k r w e w') (hb:¬ LOk n k r):Kp [fb] w w'∧FOk w' fb∧e=.returned (.tuple #[.pointer none,.int .i64 2]):=by
 obtain ⟨h1,h2,⟨N,K,R,e1,e2,e3,h4,-⟩ | ⟨h3,h4⟩⟩:=h
 ·exact absurd ⟨N,K,R,e1,e2,e3,h4⟩ hb
 ·exact ⟨h1,h2,h4⟩
theorem k12_bad1:¬ LOk 6 3 2:=by
 rintro ⟨N,K,R,h1,h2,h3,h4⟩
 have:=h4.kr
 obtain rfl:K=3:=by omega
 obtain rfl:R=2:=by omega
 cases this
theorem k12_bad2:¬ LOk 8 2 3:=by
 rintro ⟨N,K,R,h1,h2,h3,h4⟩
 have:=h4.kr
 obtain rfl:K=2:=by omega
 obtain rfl:R=3:=by omega
 cases this
theorem k12_near {fb:Nat} {xs:List GF} {l:List Sy} {w w':World} {e:Ending} (hx:xs.length=6) (hn:xs.Nodup) (hd:∀ s ∈ l,s.d=gl [5]) (hns:Sy.nodes l=[1,2]) (h:LNearZPost fb 2 0 6 xs l w e w'):e=.returned (.tuple #[.int .u8 5,.int .i64 0])∧Kp [fb] w w'∧FOk w' fb:=by
 obtain ⟨h1,h2,b,c,rfl,⟨t,ht,-,h⟩ | ⟨h,-⟩⟩:=h
 ·obtain rfl:t=0:=by omega
  have hg:SyGood 6 ((0:Nat):Int) 1 l:=⟨by rw [hns];exact ⟨by decide,by decide⟩,fun s hs=>⟨fun e0=>by
   have:s.node ∈ Sy.nodes l:=List.mem_map.2 ⟨s,hs,rfl⟩
   rw [hns,e0] at this
   simp at this,by rw [hd s hs];rfl⟩⟩
  obtain ⟨rfl,rfl⟩:=near_const h hd hx hn (by omega) hg (by omega) (by
   unfold Sy.nodes at hns
   obtain ⟨s,l0,rfl,h3,h4⟩:=List.map_eq_cons_iff.1 hns
   obtain ⟨t,l1,rfl,h5,h6⟩:=List.map_eq_cons_iff.1 h4
   obtain rfl:=List.map_eq_nil_iff.1 h6
   simp [nearL,inG,h3,h5])
  exact ⟨rfl,h1,h2⟩
 ·exact absurd ⟨by omega,by omega⟩ h
theorem k12_few {fb:Nat} {xs:List GF} {l:List Sy} {w w':World} {e:Ending} (hd:∀ s ∈ l,s.d=gl [5]) (hns:Sy.nodes l=[1,4]) (h:LNearZPost fb 2 0 6 xs l w e w'):e=.returned (.tuple #[.int .u8 0,.int .i64 70])∧Kp [fb] w w'∧FOk w' fb:=by
 obtain ⟨h1,h2,b,c,rfl,⟨t,ht,-,h⟩ | ⟨h,-⟩⟩:=h
 ·obtain rfl:t=0:=by omega
  have hg:SyGood 6 ((0:Nat):Int) 1 l:=⟨by rw [hns];exact ⟨by decide,by decide⟩,fun s hs=>⟨fun e0=>by
   have:s.node ∈ Sy.nodes l:=List.mem_map.2 ⟨s,hs,rfl⟩
   rw [hns,e0] at this
   simp at this,by rw [hd s hs];rfl⟩⟩
  obtain ⟨rfl,rfl⟩:=near_few h (by omega) hg (by
   unfold Sy.nodes at hns
   obtain ⟨s,l0,rfl,h3,h4⟩:=List.map_eq_cons_iff.1 hns
   obtain ⟨t,l1,rfl,h5,h6⟩:=List.map_eq_cons_iff.1 h4
   obtain rfl:=List.map_eq_nil_iff.1 h6
   simp [nearL,inG,h3,h5])
  exact ⟨rfl,h1,h2⟩
 ·exact absurd ⟨by omega,by omega⟩ h
theorem k12_dec {fb:Nat} {xs:List GF} {l:List Sy} {w w':World} {e:Ending} (hx:xs.length=6) (hn:xs.Nodup) (hd:∀ s ∈ l,s.d=gl [5]) (hns:Sy.nodes l=[3,5]) (h:LDecPost fb 6 2 1 xs l 0 w e w') :
  ∃ a1 c1 a2 c2,e=.returned (.tuple #[.slice a1 2 c1,.slice a2 0 c2,.int .i64 0])∧Kp [fb] w w'∧FOk w' fb∧OwnG w' w.heap.size (.slice a1 2 c1) (gl [5,0]):=by
 obtain ⟨h1,h2,h⟩:=h
 have hll:l.length=2:=by have:=congrArg List.length hns;simpa [Sy.nodes] using this
 have hg:SyGood 6 (-1) 1 l:=⟨by rw [hns];exact ⟨by decide,by decide⟩,fun s hs=>⟨fun e0=>by
   have:s.node ∈ Sy.nodes l:=List.mem_map.2 ⟨s,hs,rfl⟩
   rw [hns,e0] at this
   simp at this,by rw [hd s hs];rfl⟩⟩
 have hys:∀ i,i < (Sy.nodes l).length→(ysL l).getD i 0=(⟨5,by omega⟩:GF):=fun i hi=>by
  have hi':i < l.length:=by simpa [Sy.nodes] using hi
  rw [ysL,List.getD_eq_getElem?_getD,List.getElem?_map,List.getElem?_eq_getElem hi']
  show (List.getD _ 0 0)=_
  rw [hd _ (List.getElem_mem hi')]
  rfl
 have hgp:GoodP xs.length (Sy.nodes l):=by rw [hx];exact hg.1
 have hlen:2≤(Sy.nodes l).length:=by rw [hns];decide
 rcases h with ⟨hb | hb,-⟩ | ⟨-,⟨hb,-⟩ | ⟨-,⟨m,v1,v2,rfl,ht,ho,hz⟩ | ⟨-,ht⟩⟩⟩
 ·omega
 ·exact absurd hg hb
 ·rw [hll] at hb
  omega
 ·have e1:=tell_const (⟨5,by omega⟩:GF) hys hgp hn hlen ht
  cases e1
  have hw:wrS xs (Sy.nodes l) (ysL l) (polyL 2 1 [(⟨5,by omega⟩:GF),0])=[]:=by
   rw [polyL_two]
   exact List.eq_nil_of_length_eq_zero (wrS_const _ hys hgp)
  rw [hw] at hz
  obtain ⟨a1,c1,rfl,-⟩:=ho.form
  obtain ⟨a2,c2,rfl⟩:=hz.rd.form
  exact ⟨a1,c1,a2,c2,rfl,h1,h2,ho⟩
 ·have e1:=tell_const (⟨5,by omega⟩:GF) hys hgp hn hlen ht
  cases e1
theorem k12_enc {fb:Nat} {xs:List GF} {w w':World} {e:Ending} (hx:xs.length=6) (h:LEncPost fb 6 2 2 (gl [5,0]) xs w e w'):∃ g,e=.returned (.tuple #[.slice (some ⟨g,0,none⟩) 6 6,.int .i64 0])∧Kp [fb] w w'∧FOk w' fb∧w.heap.size≤g∧GRd w' (.slice (some ⟨g,0,none⟩) 6 6) (gl [5,5,5,5,5,5]):=by
 obtain ⟨h1,h2,⟨-,g,rfl,hg,hv⟩ | ⟨h3,-⟩⟩:=h
 ·refine ⟨g,rfl,h1,h2,hg,?_⟩
  refine View.list (hv.congr fun i hi=>?_) rfl (Nat.le_refl _)
  rw [show gl [5,0]=[(⟨5,by omega⟩:GF),0] from rfl,show (2 / 2:Nat)=1 from rfl,polyL_two,ev_const]
  rcases (show i=0 ∨ i=1 ∨ i=2 ∨ i=3 ∨ i=4 ∨ i=5 by omega) with rfl | rfl | rfl | rfl | rfl | rfl <;> rfl
 ·exact absurd rfl h3
theorem k12_grp {w w':World} {e:Ending} (h:LGrpPost 6 2 4 w e w'):∃ a c,e=.returned (.slice a 2 c)∧Below w.heap.size w w'∧IRd w' (.slice a 2 c) [3,5]:=by
 rcases h with ⟨i,hi,-,v,rfl,ho,hb⟩ | ⟨h,-⟩
 ·obtain rfl:i=4:=by omega
  have hr:=ho.rd
  rw [show rowN 2 (grpF 2 4)=[3,5] from rfl] at hr
  obtain ⟨a,c,rfl⟩:=hr.form
  exact ⟨a,c,rfl,hb,hr⟩
 ·exact absurd ⟨by omega,by omega⟩ h
set_option maxRecDepth 100000 in
set_option maxHeartbeats 8000000 in
theorem works12_any (w:World):Calls Tryz.prog 13 #[] w fun e w'=>e=.returned (.bool true)∧Below w.heap.size w w':=by
 have HFN:=Lib.hid (fun W=>fnew_g W)
 go_enter Tryz.func13,Tryz.ntmps13
 go_wp2_with fail
 refine (HFN.out _).mono ?_
 rintro e w1 ⟨fb,rfl,hfb0,hf1,hb1⟩
 have HFO:=Lib.hid hf1
 have HB0:=Lib.hid hb1
 have HFB:=Lib.hid hfb0
 have hs1:=hf1.lt
 clear hf1 hb1 hfb0
 go_wp2_with fail
 refine (lnew_any fb 6 2 2 w1 HFO.out (by omega) (by omega) (by omega)).mono ?_
 rintro e w2 hp
 obtain ⟨hk2,hf2,lb,cb,cv,xv,rfl,hlb,hc2⟩:=k12_new hp
 obtain ⟨xs,hxs⟩:∃ xs,cosL 2 (6 / (2+1))=xs:=⟨_,rfl⟩
 have HXL:Hid (xs.length=6):=Lib.hid (hxs ▸ k12_ok.len)
 have HXN:Hid (xs.Nodup):=Lib.hid (hxs ▸ k12_ok.nodup)
 rw [hxs] at hc2
 have HC2:=Lib.hid hc2
 have HK2:=Lib.hid hk2
 have HF2:=Lib.hid hf2
 have hs2:=hk2.size
 clear hxs hp hk2 hf2 hlb hc2 HFO
 go_wp2_with fail
 refine (fives_any _ [0,1,2,3,4,5] _ (IRd.lit [0,1,2,3,4,5] (heap_newA _ _) rfl) (by decide)).mono ?_
 rintro e w3 ⟨sv,l,rfl,ho,hb3,hns,hd⟩
 obtain ⟨a0,c0,a1,c1,a2,c2,a3,c3,a4,c4,a5,c5,hl⟩:=five_form hns hd
 have hb23:Below w2.heap.size w2 w3:=((Below.refl _ _).alloc (Nat.le_refl _) _).trans (hb3.mono (by simp))
 have HS3:Hid (SyOwn w3 w2.heap.size sv l):=Lib.hid (ho.mono (by simp))
 obtain ⟨av,vc,rfl⟩:=ho.all.rd.form
 have hlen:l.length=6:=by rw [hl];rfl
 rw [hlen] at HS3 ⊢
 obtain ⟨-,hvc,g,o,rfl,hg,-⟩:=SRd.at ho.all.rd (i:=0) (by rw [hl];rfl)
 have HC3:=Lib.hid (HC2.out.step (Kp.of_below hb23) (HF2.out.below hb23))
 have HK3:=Lib.hid (HK2.out.below_step hb23)
 have HF3:=Lib.hid (HF2.out.below hb23)
 have HL:=Lib.hid hl
 have HD:=Lib.hid hd
 have hs3:=hb23.size
 have hg2:w2.heap.size≤g:=(HS3.out.row.lt g rfl).1
 clear hb23 ho hb3 hns hd hl hlen HC2 HK2 HF2
 go_wp2_with fail
 refine (lencode_any _ lb cb fb 6 2 2 cv xv _ xs (gl [5,0]) (HC3.out.step (Kp.of_below ((Below.refl _ _).alloc (Nat.le_refl _) _)) (HF3.out.below ((Below.refl _ _).alloc (Nat.le_refl _) _))) k12_ok HXL.out (GRd.lit (gl [5,0]) (heap_newA _ _) rfl) (.inr (fun k hk hm=>by simp [Value.ownBlock] at hk hm;omega))).mono ?_
 rintro e w4 hp
 obtain ⟨ge,rfl,hk4,hf4,hge,hr4⟩:=k12_enc HXL.out hp
 have hk34:Kp [fb] w3 w4:=(Kp.of_below ((Below.refl _ _).alloc (Nat.le_refl _) _)).trans hk4
 have HC4:=Lib.hid (HC3.out.step hk34 hf4)
 have HK4:=Lib.hid (HK3.out.trans hk34)
 have HF4:=Lib.hid hf4
 have HE4:=Lib.hid hr4
 have hsa:=HS3.out.apart (S:=[fb]) (by simp;omega)
 have HS4:=Lib.hid (SyAll.kp HS3.out.all hk34 hsa)
 have HSA:=Lib.hid hsa
 have hge3:w3.heap.size≤ge:=by simp at hge;omega
 have hs4:=hk34.size
 clear hp hk4 hf4 hr4 hk34 hge HC3 HK3 HF3 hsa
 obtain ⟨an,cn,hsl,hsn,hbn⟩:=slice_sys HS4.out (i:=1) (j:=3) (n:=2) (I:=1) (J:=3) rfl rfl (by omega) (by rw [HL.out];simp) rfl
 have HSN:=Lib.hid hsn
 clear hsn hbn
 go_wp2_with fail
 refine (lnearz_any w4 lb cb fb 6 2 2 2 0 cv xv _ xs ((l.take 3).drop 1) HC4.out (by omega) (by omega) HXL.out HXN.out HSN.out (by rw [HL.out];simp)).mono ?_
 rintro e w5 hp
 obtain ⟨rfl,hk5,hf5⟩:=k12_near HXL.out HXN.out (fun s hs=>HD.out s (List.mem_of_mem_take (List.mem_of_mem_drop hs))) (by rw [HL.out];rfl) hp
 have HC5:=Lib.hid (HC4.out.step hk5 hf5)
 have HK5:=Lib.hid (HK4.out.trans hk5)
 have HF5:=Lib.hid hf5
 have HE5:=Lib.hid (HE4.out.kp hk5 (fun k hk hm=>by simp [Value.ownBlock] at hk hm;omega))
 have HS5:=Lib.hid (SyAll.kp HS4.out hk5 HSA.out)
 have hs5:=hk5.size
 clear hp hk5 hf5 hsl HC4 HK4 HF4 HE4 HS4 HSN
 obtain ⟨-,-,_,_,e0,-,hat3⟩:=SRd.at HS5.out.rd (i:=3) (c:=⟨3,a3,c3,gl [5]⟩) (by rw [HL.out];rfl)
 cases e0
 obtain ⟨-,-,_,_,e0,-,hat5⟩:=SRd.at HS5.out.rd (i:=5) (c:=⟨5,a5,c5,gl [5]⟩) (by rw [HL.out];rfl)
 cases e0
 have d30:w5.cell? ⟨g,o+6,none⟩=some (.int .i64 3):=hat3 0 _ rfl
 have d31:w5.cell? ⟨g,o+7,none⟩=some (.slice a3 1 c3):=hat3 1 _ rfl
 have d50:w5.cell? ⟨g,o+10,none⟩=some (.int .i64 5):=hat5 0 _ rfl
 have d51:w5.cell? ⟨g,o+11,none⟩=some (.slice a5 1 c5):=hat5 1 _ rfl
 have HDEC:Hid (∀ W:World,Below w5.heap.size w5 W→W.heap[w5.heap.size]? = some (.cells #[.int .i64 3,.slice a3 1 c3,.int .i64 5,.slice a5 1 c5] 45 (0,0))→Calls Tryz.prog 27 #[.pointer (some ⟨lb,0,none⟩),.slice (some ⟨w5.heap.size,0,none⟩) 2 2,.int .i64 0] W fun e w' =>
   ∃ a1 c1 a2 c2,e=.returned (.tuple #[.slice a1 2 c1,.slice a2 0 c2,.int .i64 0])∧Kp [fb] W w'∧FOk w' fb∧OwnG w' W.heap.size (.slice a1 2 c1) (gl [5,0])):=Lib.hid fun W hb hh=>by
  have hrd:∀ s ∈ [(⟨3,a3,c3,gl [5]⟩:Sy),⟨5,a5,c5,gl [5]⟩],s.rd W:=fun s hs=>by
   refine (HS5.out.each s ?_).below hb
   rw [HL.out]
   simp at hs ⊢
   rcases hs with rfl | rfl <;> simp
  have hsa:SyApart (.slice (some ⟨w5.heap.size,0,none⟩) 2 2) [(⟨3,a3,c3,gl [5]⟩:Sy),⟨5,a5,c5,gl [5]⟩] [fb]:=by
   refine ⟨fun _=>fun k hk hm=>by simp [Value.ownBlock] at hk hm;omega,fun s hs=>HSA.out.2 s ?_⟩
   rw [HL.out]
   simp at hs ⊢
   rcases hs with rfl | rfl <;> simp
  refine (ldec_any W lb cb fb 6 2 2 cv xv _ xs [⟨3,a3,c3,gl [5]⟩,⟨5,a5,c5,gl [5]⟩] 0 (HC5.out.below hb) k12_ok HXL.out HXN.out (SyAll.lit _ hh rfl hrd) hsa (by simp) (by omega)).mono ?_
  intro e w' hp
  exact k12_dec HXL.out HXN.out (fun s hs=>by simp at hs;rcases hs with rfl | rfl <;> rfl) rfl hp
 obtain ⟨kp,hkp⟩:∃ kp:Nat→Bool,∀ j,kp j=true↔j=g:=⟨fun j=>decide (j=g),by simp⟩
 have kg:kp g=true:=(hkp _).2 rfl
 have HKP:=Lib.hid hkp
 have hgl:g < w5.heap.size:=by omega
 have hgf:fb < g:=by omega
 clear hkp hat3 hat5
 go_upto_region 8 with fail
 have hgr:=fun (w0 W:World) (p:Addr) (hp:(fun j=>kp j=true) p.block)=>graft_cell (w0:=w0) (keep:=(fun j=>kp j=true)) W hp
 refine wp_region_tree (fun j=>kp j=true) [7,8] (.sq [0,1,2,3,4,5,6,7,8,9,10,11,12,13,14,15] .done) (by kernel_rfl) (by kernel_rfl) ?_
 simp only [Tr.sq,List.foldr_cons,List.foldr_nil,slimTr,slimStep,Oper.slim,List.contains_cons,List.contains_nil,Option.map_none,Option.map_some,List.getElem?_toArray,List.getElem?_cons_zero,List.getElem?_cons_succ,Option.bind_some,beq_self_eq_true,Bool.or_false,Nat.reduceBEq,Nat.reduceAdd,Nat.zero_add]
 repeat' first | ((with_reducible refine wpSlimT_id ?_);first | (with_reducible refine wpSlimT_done ?_) | ((with_reducible refine wpSlimT_step (fun K hK=>?_));go_simp;first | (refine hK _ _ ?_;clear hK K) | (refine ⟨by (intro kk hkk;first | (simp (disch:=(simp;omega)) only [hp_drew,hp_drewN,hp_alloc,hp_set];done) | (simp [hp_drew,hp_drewN,hp_alloc_if,hkk];done) | (have hkk2:=(HKP.out kk).1 hkk;simp (disch:=(first | omega | (simp;omega))) only [hp_drew,hp_drewN,hp_alloc,hp_set];done)),hK _ _ ?_⟩;clear hK K) | (go_at_call 27;refine (HDEC.out _ (by (repeat' (first | (with_reducible exact Below.refl _ _) | (with_reducible refine Below.drew ?_) | (with_reducible refine Below.alloc ?_ ?_ _) | (simp;done)))) (by exact heap_newA _ _)).mono ?_;rintro e w6 ⟨a1',c1',a2',c2',rfl,hk6,hf6,ho6⟩;refine ⟨_,rfl,(fun kk hkk=>(hk6.block kk (by have hkk2:=(HKP.out kk).1 hkk;simp;omega) (by have hkk2:=(HKP.out kk).1 hkk;simp;omega)).trans (hp_alloc _ _ _ (by have hkk2:=(HKP.out kk).1 hkk;omega))),hK _ _ ?_⟩;clear hK K))) | fail
 clear hgr
 have hk56:Kp [fb] w5 w6:=(Kp.of_below (by (repeat' (first | (with_reducible exact Below.refl _ _) | (with_reducible refine Below.drew ?_) | (with_reducible refine Below.alloc ?_ ?_ _) | (simp;done))))).trans hk6
 have HC6:=Lib.hid (HC5.out.step hk56 hf6)
 have HK6:=Lib.hid (HK5.out.trans hk56)
 have HF6:=Lib.hid hf6
 have HE6:=Lib.hid (HE5.out.kp hk56 (fun k hk hm=>by simp [Value.ownBlock] at hk hm;omega))
 have HS6:=Lib.hid (SyAll.kp HS5.out hk56 HSA.out)
 have HO6:=Lib.hid (OwnG.mono ho6 (B':=w5.heap.size) (by simp))
 have hs6:=hk56.size
 clear hk6 hf6 ho6 hk56 HDEC HC5 HK5 HF5 HE5 HS5 d30 d31 d50 d51
 obtain ⟨-,-,_,_,e0,-,hat1⟩:=SRd.at HS6.out.rd (i:=1) (c:=⟨1,a1,c1,gl [5]⟩) (by rw [HL.out];rfl)
 cases e0
 obtain ⟨-,-,_,_,e0,-,hat4⟩:=SRd.at HS6.out.rd (i:=4) (c:=⟨4,a4,c4,gl [5]⟩) (by rw [HL.out];rfl)
 cases e0
 have d10:w6.cell? ⟨g,o+2,none⟩=some (.int .i64 1):=hat1 0 _ rfl
 have d11:w6.cell? ⟨g,o+3,none⟩=some (.slice a1 1 c1):=hat1 1 _ rfl
 have d40:w6.cell? ⟨g,o+8,none⟩=some (.int .i64 4):=hat4 0 _ rfl
 have d41:w6.cell? ⟨g,o+9,none⟩=some (.slice a4 1 c4):=hat4 1 _ rfl
 have HNR:Hid (∀ W:World,Below w6.heap.size w6 W→W.heap[w6.heap.size]? = some (.cells #[.int .i64 1,.slice a1 1 c1,.int .i64 4,.slice a4 1 c4] 45 (0,0))→Calls Tryz.prog 22 #[.pointer (some ⟨lb,0,none⟩),.int .i64 0,.slice (some ⟨w6.heap.size,0,none⟩) 2 2] W fun e w' =>
   e=.returned (.tuple #[.int .u8 0,.int .i64 70])∧Kp [fb] W w'∧FOk w' fb):=Lib.hid fun W hb hh=>by
  have hrd:∀ s ∈ [(⟨1,a1,c1,gl [5]⟩:Sy),⟨4,a4,c4,gl [5]⟩],s.rd W:=fun s hs=>by
   refine (HS6.out.each s ?_).below hb
   rw [HL.out]
   simp at hs ⊢
   rcases hs with rfl | rfl <;> simp
  refine (lnearz_any W lb cb fb 6 2 2 2 0 cv xv _ xs [⟨1,a1,c1,gl [5]⟩,⟨4,a4,c4,gl [5]⟩] (HC6.out.below hb) (by omega) (by omega) HXL.out HXN.out (SyAll.lit _ hh rfl hrd) (by simp)).mono ?_
  intro e w' hp
  exact k12_few (fun s hs=>by simp at hs;rcases hs with rfl | rfl <;> rfl) rfl hp
 have hgl6:g < w6.heap.size:=by omega
 clear hat1 hat4
 go_upto_region 9 with fail
 have hgr:=fun (w0 W:World) (p:Addr) (hp:(fun j=>kp j=true) p.block)=>graft_cell (w0:=w0) (keep:=(fun j=>kp j=true)) W hp
 refine wp_region_tree (fun j=>kp j=true) [7,8] (.sq [0,1,2,3,4,5,6,7,8,9,10,11,12,13] .done) (by kernel_rfl) (by kernel_rfl) ?_
 simp only [Tr.sq,List.foldr_cons,List.foldr_nil,slimTr,slimStep,Oper.slim,List.contains_cons,List.contains_nil,Option.map_none,Option.map_some,List.getElem?_toArray,List.getElem?_cons_zero,List.getElem?_cons_succ,Option.bind_some,beq_self_eq_true,Bool.or_false,Nat.reduceBEq,Nat.reduceAdd,Nat.zero_add]
 repeat' first | ((with_reducible refine wpSlimT_id ?_);first | (with_reducible refine wpSlimT_done ?_) | ((with_reducible refine wpSlimT_step (fun K hK=>?_));go_simp;first | (refine hK _ _ ?_;clear hK K) | (refine ⟨by (intro kk hkk;first | (simp (disch:=(simp;omega)) only [hp_drew,hp_drewN,hp_alloc,hp_set];done) | (simp [hp_drew,hp_drewN,hp_alloc_if,hkk];done) | (have hkk2:=(HKP.out kk).1 hkk;simp (disch:=(first | omega | (simp;omega))) only [hp_drew,hp_drewN,hp_alloc,hp_set];done)),hK _ _ ?_⟩;clear hK K) | (go_at_call 22;refine (HNR.out _ (by (repeat' (first | (with_reducible exact Below.refl _ _) | (with_reducible refine Below.drew ?_) | (with_reducible refine Below.alloc ?_ ?_ _) | (simp;done)))) (by exact heap_newA _ _)).mono ?_;rintro e w7 ⟨rfl,hk7,hf7⟩;refine ⟨_,rfl,(fun kk hkk=>(hk7.block kk (by have hkk2:=(HKP.out kk).1 hkk;simp;omega) (by have hkk2:=(HKP.out kk).1 hkk;simp;omega)).trans (hp_alloc _ _ _ (by have hkk2:=(HKP.out kk).1 hkk;omega))),hK _ _ ?_⟩;clear hK K))) | fail
 clear hgr
 have hk67:Kp [fb] w6 w7:=(Kp.of_below (by (repeat' (first | (with_reducible exact Below.refl _ _) | (with_reducible refine Below.drew ?_) | (with_reducible refine Below.alloc ?_ ?_ _) | (simp;done))))).trans hk7
 have HC7:=Lib.hid (HC6.out.step hk67 hf7)
 have HK7:=Lib.hid (HK6.out.trans hk67)
 have HF7:=Lib.hid hf7
 have HE7:=Lib.hid (HE6.out.kp hk67 (fun k hk hm=>by simp [Value.ownBlock] at hk hm;omega))
 have hoa:Apart (.slice a1' 2 c1') [fb]:=fun x hx hm=>by have:=(HO6.out.lt x hx).1;simp at hm;omega
 have HOA:=Lib.hid hoa
 have HO7:=Lib.hid (HO6.out.kp hk67 hoa)
 have hs7:=hk67.size
 clear hk7 hf7 hk67 HNR HC6 HK6 HF6 HE6 HS6 HO6 d10 d11 d40 d41 hoa
 go_wp2_with fail
 refine (lnew_any fb 6 3 2 w7 HF7.out (by omega) (by omega) (by omega)).mono ?_
 rintro e w8 hp
 obtain ⟨hk8,hf8,rfl⟩:=k12_bad hp k12_bad1
 have HC8:=Lib.hid (HC7.out.step hk8 hf8)
 have HK8:=Lib.hid (HK7.out.trans hk8)
 have HF8:=Lib.hid hf8
 have HE8:=Lib.hid (HE7.out.kp hk8 (fun k hk hm=>by simp [Value.ownBlock] at hk hm;omega))
 have HO8:=Lib.hid (HO7.out.kp hk8 HOA.out)
 have hs8:=hk8.size
 clear hp hk8 hf8 HC7 HK7 HF7 HE7 HO7
 go_wp2_with fail
 refine (lnew_any fb 8 2 3 w8 HF8.out (by omega) (by omega) (by omega)).mono ?_
 rintro e w9 hp
 obtain ⟨hk9,hf9,rfl⟩:=k12_bad hp k12_bad2
 have HC9:=Lib.hid (HC8.out.step hk9 hf9)
 have HK9:=Lib.hid (HK8.out.trans hk9)
 have HE9:=Lib.hid (HE8.out.kp hk9 (fun k hk hm=>by simp [Value.ownBlock] at hk hm;omega))
 have HO9:=Lib.hid (HO8.out.kp hk9 HOA.out)
 have hs9:=hk9.size
 clear hp hk9 hf9 HC8 HK8 HF8 HE8 HO8
 go_wp2_with fail
 refine (ltells_any lb cb fb 6 2 2 2 cv xv _ w9 HC9.out).mono ?_
 rintro e w9' ⟨rfl,rfl⟩
 go_wp2_with fail
 refine (lgroup_any lb 6 2 4 w9 (cell_of_heap HC9.out.box (j:=2) rfl) (cell_of_heap HC9.out.box (j:=4) rfl) (by omega) (by omega)).mono ?_
 rintro e w10 hp
 obtain ⟨ag,cg,rfl,hb10,hg10⟩:=k12_grp hp
 have HK10:=Lib.hid (HK9.out.below_step hb10)
 have HE10:=Lib.hid (HE9.out.below hb10)
 have HO10:=Lib.hid (HO9.out.below hb10)
 have HG10:=Lib.hid hg10
 have hs10:=hb10.size
 clear hp hb10 hg10 HK9 HE9 HO9 HC9
 go_wp2_with fail
 refine (sameI_any _ _ [3,5] [3,5] _ (HG10.out.below ((Below.refl _ _).alloc (Nat.le_refl _) _)) (IRd.lit [3,5] (heap_newA _ _) rfl) (by decide) (by decide)).mono ?_
 rintro e w11 ⟨rfl,hb11⟩
 rw [decide_eq_true rfl]
 have hb1011:Below w10.heap.size w10 w11:=((Below.refl _ _).alloc (Nat.le_refl _) _).trans (hb11.mono (by simp))
 have HK11:=Lib.hid (HK10.out.below_step hb1011)
 have HE11:=Lib.hid (HE10.out.below hb1011)
 have HO11:=Lib.hid (HO10.out.below hb1011)
 clear hb11 hb1011 HK10 HE10 HO10 HG10
 go_wp2_with fail
 refine (same_g _ _ (gl [5,5,5,5,5,5]) (gl [5,5,5,5,5,5]) _ (HE11.out.below ((Below.refl _ _).alloc (Nat.le_refl _) _)) (GRd.lit (gl [5,5,5,5,5,5]) (heap_newA _ _) rfl)).mono ?_
 rintro e w12 ⟨rfl,hw12⟩
 rw [decide_eq_true rfl]
 have hb12:Below w11.heap.size w11 w12:=by rw [← hw12];exact (Below.refl _ _).alloc (Nat.le_refl _) _
 have HK12:=Lib.hid (HK11.out.below_step hb12)
 have HO12:=Lib.hid (HO11.out.below hb12)
 clear hw12 hb12 HK11 HE11 HO11
 go_wp2_with fail
 refine (same_g _ _ (gl [5,0]) (gl [5,0]) _ (HO12.out.rd.below ((Below.refl _ _).alloc (Nat.le_refl _) _)) (GRd.lit (gl [5,0]) (heap_newA _ _) rfl)).mono ?_
 rintro e w13 ⟨rfl,hw13⟩
 rw [decide_eq_true rfl]
 have hb13:Below w12.heap.size w12 w13:=by rw [← hw13];exact (Below.refl _ _).alloc (Nat.le_refl _) _
 have HK13:=Lib.hid (HK12.out.below_step hb13)
 clear hw13 hb13 HK12 HO12
 go_wp2
 go_ret
 exact ⟨rfl,HB0.out.trans (HK13.out.below (by have:=HB0.out.size;omega) (fun x hx=>by have:=HFB.out;simp at hx;omega))⟩
end Go.Proofs.YtbiaoohodjoojaaGreat
