/-
  A group mends its own: the plain law.
  The law LocalNear.
-/
import Derived.Test.YtbiaoohodjoojaaGreatNearG
import Derived.Test.YtbiaoohodjoojaaGreatLocDG
import Derived.Test.YtbiaoohodjoojaaGreatL12Enc
import Derived.Test.YtbiaoohodjoojaaGreatOwnSyG
import Derived.Test.YtbiaoohodjoojaaGreatL12B
import Derived.Test.YtbiaoohodjoojaaGreatLocA
import Derived.Test.YtbiaoohodjoojaaGreatKit
/- A group mends its own: the plain law. -/
namespace Go.Proofs.YtbiaoohodjoojaaGreat
open Go.RowKit Fld
set_option linter.unusedVariables false
set_option linter.unusedSimpArgs false

theorem sm_blocks {F:Type} [Fld F] (m:Nat) (f:Nat→F):∀ d,sm (d * m) f=sm d fun c=>sm m fun e=>f (c * m+e)
 | 0=>by rw [Nat.zero_mul];rfl
 | d+1=>by rw [Nat.add_mul,Nat.one_mul,sm_split,sm_blocks m f d,sm_succ]
noncomputable def qL (r d:Nat) (m:List GF) (h:GF):List GF:=rowF (fun e=>sm d fun c=>m.getD (c * r+e) 0 * pw h c) r
theorem ev_qL {r d:Nat} (m:List GF) (x:GF) (hd:0 < d):ev (polyL r d m) x=ev (qL r d m (pw x (r+1))) x:=by
 have h1:ev (polyL r d m) x=sm (d * (r+1)) fun i=>pF r m i * pw x i:=by
  obtain ⟨k,rfl⟩:∃ k,d=k+1:=⟨d - 1,by omega⟩
  have hn:(k+1) * (r+1)=(k * (r+1)+r)+1:=by rw [Nat.add_mul,Nat.one_mul];omega
  rw [hn,sm_succ,pF_out,zmul,addz,ev_sm,polyL_len,hn,Nat.add_sub_cancel]
  refine sm_congr fun i hi=>?_
  unfold polyL
  rw [rowF_get _ (by omega)]
 rw [h1,sm_blocks,ev_sm]
 unfold qL
 rw [rowF_len]
 have h2:∀ c,(sm (r+1) fun e=>pF r m (c * (r+1)+e) * pw x (c * (r+1)+e))=sm r fun e=>m.getD (c * r+e) 0 * pw (pw x (r+1)) c * pw x e:=fun c=>by
  rw [sm_succ,pF_out,zmul,addz]
  refine sm_congr fun e he=>?_
  rw [pF_in m he,pw_add,pw_pw,Nat.mul_comm (r+1) c]
  exact (Fld.mulA _ _ _).symm
 rw [sm_congr (fun c _=>h2 c),sm_swap]
 refine sm_congr fun e he=>?_
 rw [rowF_get _ he,sm_mulr]
theorem cosF_pw {r i j:Nat} (h:255 % (r+1)=0) (e:i / (r+1)=j / (r+1)):pw (cosF r i) (r+1)=pw (cosF r j) (r+1):=by
 have h255:255 / (r+1) * (r+1)=255:=Nat.div_mul_cancel (Nat.dvd_of_mod_eq_zero h)
 have key:∀ i,pw (cosF r i) (r+1)=GF.pown GF.two (i / (r+1) * (r+1)):=fun i=>by
  have hm:∀ k n,GF.pown GF.two (n+k * 255)=GF.pown GF.two n:=fun k n=>by
   rw [← GF.pow_mod,Nat.add_mul_mod_self_right,GF.pow_mod]
  unfold cosF
  rw [GF.pown_pw,pw_pw,← GF.pown_pw,Nat.add_mul,Nat.mul_assoc,h255,hm]
 rw [key,key,e]
theorem thru_ev {X Y p q:List GF} (hn:X.Nodup) (hp:Thru X Y p) (hq:q.length≤X.length) (h:∀ j,j < X.length→ev q (X.getD j 0)=Y.getD j 0) (x:GF):ev p x=ev q x:=by
 rw [← padTo_ev p X.length,← padTo_ev q X.length]
 congr 1
 refine ev_inj hn (by rw [padTo_len _ hp.2.1,padTo_len _ hq]) (by rw [padTo_len _ hp.2.1];exact Nat.le_refl _) fun y hy=>?_
 obtain ⟨j,hj,rfl⟩:=List.mem_iff_getElem.1 hy
 have e:X[j]=X.getD j 0:=by rw [List.getD_eq_getElem?_getD,List.getElem?_eq_getElem hj];rfl
 rw [padTo_ev,padTo_ev,e,hp.2.2 j hj,h j hj]
theorem near_word {r d t N K:Nat} {M:List GF} {l:List Sy} {b:GF} {c:Int} (hok:LOkN N K r) (hd:0 < d) (ht:t < N) (hg:SyGood N (t:Int) 1 l) (hk:r≤(nearL r t l).length)
  (hw:∀ s ∈ nearL r t l,s.d=[ev (polyL r d M) ((cosL r (N / (r+1))).getD s.node.toNat 0)]) (h:NearIs r t N (cosL r (N / (r+1))) l b c):b=ev (polyL r d M) ((cosL r (N / (r+1))).getD t 0)∧c=0:=by
 have hlen:=hok.len
 have hnr:N / (r+1) * (r+1)=N:=Nat.div_mul_cancel (Nat.dvd_of_mod_eq_zero hok.nr)
 rcases h with ⟨h1,-,-⟩ | ⟨-,⟨h1,-,-⟩ | ⟨-,rfl,p,hp,rfl⟩⟩
 ·exact absurd ⟨ht,hg⟩ h1
 ·omega
 ·refine ⟨?_,rfl⟩
  have hcos:∀ i,i < N→(cosL r (N / (r+1))).getD i 0=cosF r i:=fun i hi=>cosL_get (by rw [hnr];exact hi)
  have hq:=thru_ev (near_nodup hg hlen hok.nodup) hp (q:=qL r d M (pw (cosF r t) (r+1))) (by rw [atL_len];unfold qL;rw [rowF_len];exact hk) (fun j hj=>by
   rw [atL_len] at hj
   obtain ⟨s,hs⟩:∃ s,(nearL r t l)[j]? = some s:=⟨_,List.getElem?_eq_getElem hj⟩
   have hm:=List.mem_of_getElem? hs
   have hml:=(nearL_sub r t l).mem hm
   have hn:=hg.1.1 s.node (List.mem_map.2 ⟨s,hml,rfl⟩)
   have hin:s.node.toNat / (r+1)=t / (r+1):=of_decide_eq_true (List.mem_filter.1 hm).2
   have e1:(atL (cosL r (N / (r+1))) (nearL r t l)).getD j 0=cosF r s.node.toNat:=by
    rw [atL,List.getD_eq_getElem?_getD,List.getElem?_map,hs]
    exact hcos _ (by omega)
   have e2:(ysL (nearL r t l)).getD j 0=ev (polyL r d M) (cosF r s.node.toNat):=by
    rw [ysL,List.getD_eq_getElem?_getD,List.getElem?_map,hs]
    show s.d.getD 0 0=_
    rw [hw s hm,hcos _ (by omega)]
    rfl
   rw [e1,e2,ev_qL M _ hd,cosF_pw hok.dv hin]) ((cosL r (N / (r+1))).getD t 0)
  rw [hq,hcos t ht,ev_qL M _ hd]
end Go.Proofs.YtbiaoohodjoojaaGreat
/- The law LocalNear. -/
namespace Go.Proofs.YtbiaoohodjoojaaGreat
open Go.RowKit Fld
set_option linter.unusedVariables false
set_option linter.unusedSimpArgs false

def grpD (r t I:Nat):List Int:=rowN (r - I) fun e=>grpF r t (r - 1 - e)
theorem grpD_succ {r t I:Nat} (h:I < r):grpD r t I=grpD r t (I+1) ++ [((grpF r t I:Nat):Int)]:=by
 unfold grpD
 rw [show r - I=(r - (I+1))+1 by omega,rowN_succ,show r - 1 - (r - (I+1))=I by omega]
theorem grpD_mem {r t I:Nat} {x:Int} (h:x ∈ grpD r t I):∃ e,e < r∧x=((grpF r t e:Nat):Int):=by
 unfold grpD rowN at h
 obtain ⟨e,he,rfl⟩:=List.mem_map.1 h
 have:=List.mem_range.1 he
 exact ⟨r - 1 - e,by omega,rfl⟩
theorem grpF_lt {r t i j:Nat} (h:i < j):grpF r t i < grpF r t j:=by
 unfold grpF
 split <;> split <;> omega
theorem grpD_nodup (r t I:Nat):(grpD r t I).Nodup:=by
 unfold grpD rowN
 refine List.pairwise_map.2 (List.nodup_range.imp_of_mem fun {a b} ha hb hne e=>hne ?_)
 have ha:=List.mem_range.1 ha
 have hb:=List.mem_range.1 hb
 have he:grpF r t (r - 1 - a)=grpF r t (r - 1 - b):=by
  have e':((grpF r t (r - 1 - a):Nat):Int)=((grpF r t (r - 1 - b):Nat):Int):=e
  omega
 rcases Nat.lt_trichotomy (r - 1 - a) (r - 1 - b) with h | h | h
 ·have:=grpF_lt (r:=r) (t:=t) h;omega
 ·omega
 ·have:=grpF_lt (r:=r) (t:=t) h;omega
theorem grpF_in {r t i N:Nat} (hn:N % (r+1)=0) (ht:t < N) (hi:i < r):grpF r t i < N∧grpF r t i / (r+1)=t / (r+1)∧grpF r t i ≠ t:=by
 have h1:grpF r t i / (r+1)=t / (r+1)∧grpF r t i ≠ t:=by
  refine grp_mem.1 ?_
  unfold rowN
  exact List.mem_map.2 ⟨i,List.mem_range.2 hi,rfl⟩
 refine ⟨?_,h1⟩
 have h2:N / (r+1) * (r+1)=N:=Nat.div_mul_cancel (Nat.dvd_of_mod_eq_zero hn)
 have h3:t / (r+1) < N / (r+1):=Nat.div_lt_of_lt_mul (by rw [Nat.mul_comm,h2];exact ht)
 rw [← h1.1] at h3
 have:=(Nat.div_lt_iff_lt_mul (by omega:0 < r+1)).1 h3
 rwa [h2] at this
section
variable {r t N:Nat} {U:Nat→GF} {l:List Sy}
structure GrpSy (r t:Nat) (U:Nat→GF) (l:List Sy):Prop where
 nodes:Sy.nodes l=grpD r t 0
 data:∀ s ∈ l,s.d=[U s.node.toNat]
theorem GrpSy.each (h:GrpSy r t U l) (hn:N % (r+1)=0) (ht:t < N) {s:Sy} (hs:s ∈ l):(0≤s.node∧s.node < (N:Int))∧s.node ≠ (t:Int)∧s.node.toNat / (r+1)=t / (r+1):=by
 have hm:s.node ∈ Sy.nodes l:=List.mem_map.2 ⟨s,hs,rfl⟩
 rw [h.nodes] at hm
 obtain ⟨e,he,hx⟩:=grpD_mem hm
 obtain ⟨h1,h2,h3⟩:=grpF_in hn ht he
 refine ⟨by omega,by omega,?_⟩
 rw [hx,Int.toNat_natCast]
 exact h2
theorem GrpSy.good (h:GrpSy r t U l) (hn:N % (r+1)=0) (ht:t < N):SyGood N (t:Int) 1 l :=
 ⟨⟨fun x hx=>by
  obtain ⟨s,hs,rfl⟩:=List.mem_map.1 hx
  exact (h.each hn ht hs).1,by rw [h.nodes];exact grpD_nodup _ _ _⟩,fun s hs=>⟨(h.each hn ht hs).2.1,by rw [h.data s hs];rfl⟩⟩
theorem GrpSy.near (h:GrpSy r t U l) (hn:N % (r+1)=0) (ht:t < N):nearL r t l=l:=by
 unfold nearL
 refine List.filter_eq_self.2 fun s hs=>?_
 exact decide_eq_true (h.each hn ht hs).2.2
theorem GrpSy.len (h:GrpSy r t U l):l.length=r:=by
 have:=congrArg List.length h.nodes
 unfold grpD at this
 rw [rowN_len] at this
 simpa [Sy.nodes] using this
theorem GrpSy.far (h:GrpSy r t U l) (hn:N % (r+1)=0) (ht:t < N) {s:Sy} (h0:0≤s.node∧s.node < (N:Int)) (h1:s.d.length=1) (h2:s.node.toNat / (r+1) ≠ t / (r+1)):SyGood N (t:Int) 1 (l ++ [s])∧nearL r t (l ++ [s])=l:=by
 have hg:=h.good hn ht
 refine ⟨⟨⟨fun x hx=>?_,?_⟩,fun q hq=>?_⟩,?_⟩
 ·unfold Sy.nodes at hx
  rw [List.map_append,List.mem_append] at hx
  rcases hx with hx | hx
  ·exact hg.1.1 x hx
  ·simp only [List.map_cons,List.map_nil,List.mem_singleton] at hx
   rw [hx]
   exact h0
 ·unfold Sy.nodes
  rw [List.map_append,List.nodup_append]
  refine ⟨hg.1.2,by simp,fun x hx y hy e=>?_⟩
  simp only [List.map_cons,List.map_nil,List.mem_singleton] at hy
  obtain ⟨q,hq,rfl⟩:=List.mem_map.1 hx
  have:=(h.each hn ht hq).2.2
  rw [e,hy] at this
  exact h2 this
 ·rcases List.mem_append.1 hq with hq | hq
  ·exact hg.2 q hq
  ·rw [List.mem_singleton.1 hq]
   refine ⟨fun e=>h2 ?_,h1⟩
   rw [e,Int.toNat_natCast]
 ·unfold nearL
  rw [List.filter_append]
  have e1:l.filter (inG r t)=l:=h.near hn ht
  have e2:[s].filter (inG r t)=[]:=by
   have:inG r t s=false:=decide_eq_false h2
   simp [this]
  rw [e1,e2,List.append_nil]
end
theorem nearZ_nat {r t N:Nat} {xs:List GF} {l:List Sy} {b:GF} {c:Int} (ht:t < N) (h:NearZ r (t:Int) N xs l b c):NearIs r t N xs l b c:=by
 rcases h with ⟨t',e,-,h⟩ | ⟨h,-⟩
 ·obtain rfl:t=t':=by omega
  exact h
 ·exact absurd ⟨by omega,by omega⟩ h
theorem GrpSy.less {r t N:Nat} {U:Nat→GF} {l:List Sy} {xs:List GF} {b:GF} {c:Int} (h:GrpSy r t U l) (hn:N % (r+1)=0) (ht:t < N) (hr:0 < r) (hz:NearZ r (t:Int) N xs (l.drop 1) b c):b=0∧c=70:=by
 have hg:=h.good hn ht
 have hs:List.Sublist (l.drop 1) l:=List.drop_sublist _ _
 have hg2:SyGood N (t:Int) 1 (l.drop 1):=⟨⟨fun x hx=>hg.1.1 x ((hs.map Sy.node).mem hx),hg.1.2.sublist (hs.map Sy.node)⟩,fun s hs2=>hg.2 s (hs.mem hs2)⟩
 refine (fun (q:NearIs r t N xs (l.drop 1) b c)=>?_) (nearZ_nat ht hz)
 have hlen:=near_len r t (l.drop 1)
 rw [List.length_drop,h.len] at hlen
 rcases q with ⟨h1,-,-⟩ | ⟨h1,⟨h2,h3,h4⟩ | ⟨h2,-⟩⟩
 ·exact absurd ⟨ht,hg2⟩ h1
 ·exact ⟨h3,h4⟩
 ·omega
set_option maxRecDepth 100000 in
set_option maxHeartbeats 8000000 in
theorem lnear12_any (n k r:Int) (um:Value) (A:List GF) (tg by_:Nat) (w:World) (hnb:I64 n∧I64 k∧I64 r) (hm:GRd w um A) (hto:tg < 256) (hby:by_ < 256) :
  Calls Tryz.prog 5 #[.int .i64 n,.int .i64 k,.int .i64 r,um,.int .u8 tg,.int .u8 by_] w fun e w'=>e=.returned (.bool true)∧Below w.heap.size w w':=by
 have HW:=Lib.hid (fun W=>works12_any W)
 have HFN:=Lib.hid (fun W=>fnew_g W)
 have HNB:=Lib.hid hnb
 have HM:=Lib.hid hm
 obtain ⟨bg,hbg⟩:∃ g:GF,g.n=by_:=⟨⟨by_,hby⟩,rfl⟩
 have HBG:=Lib.hid hbg
 clear hnb hm hbg hby
 go_enter Tryz.func5,Tryz.ntmps5
 have HBW:Hid (Below w.heap.size w w):=Lib.hid (Below.refl _ _)
 by_cases h1:51 < n
 ·go_wp2_with fail
  refine (HW.out _).mono ?_
  rintro e w20 ⟨rfl,hb20⟩
  have HB20:Hid (Below w.heap.size w w20):=Lib.hid (HBW.out.trans (hb20.mono HBW.out.size))
  clear hb20
  go_wp2
  go_ret
  exact ⟨rfl,HB20.out⟩
 by_cases h2:51 < k
 ·go_wp2_with fail
  refine (HW.out _).mono ?_
  rintro e w20 ⟨rfl,hb20⟩
  have HB20:Hid (Below w.heap.size w w20):=Lib.hid (HBW.out.trans (hb20.mono HBW.out.size))
  clear hb20
  go_wp2
  go_ret
  exact ⟨rfl,HB20.out⟩
 by_cases h3:51 < r
 ·go_wp2_with fail
  refine (HW.out _).mono ?_
  rintro e w20 ⟨rfl,hb20⟩
  have HB20:Hid (Below w.heap.size w w20):=Lib.hid (HBW.out.trans (hb20.mono HBW.out.size))
  clear hb20
  go_wp2
  go_ret
  exact ⟨rfl,HB20.out⟩
 clear HBW
 go_wp2_with fail
 refine (HFN.out _).mono ?_
 rintro e w1 ⟨fb,rfl,hfb0,hf1,hb1⟩
 have HFO:=Lib.hid hf1
 have HB0:=Lib.hid hb1
 have HFB:=Lib.hid hfb0
 have hs1:=hf1.lt
 clear hf1 hb1 hfb0
 go_wp2_with fail
 refine (lnew_any fb n k r w1 HFO.out HNB.out.1 HNB.out.2.1 HNB.out.2.2).mono ?_
 rintro e w2 ⟨hk2,hf2,hcase⟩
 have HB2:Hid (Below w.heap.size w w2):=Lib.hid (HB0.out.trans (hk2.below HB0.out.size (by have:=HFB.out;simp;omega)))
 have HF2:=Lib.hid hf2
 have hfl2:=hf2.lt
 have hs2:=HB2.out.size
 clear hk2 hf2 HFO HB0
 rcases hcase with ⟨N,K,R,rfl,rfl,rfl,hok,lb,cb,cv,xv,rfl,hlb,hc2⟩ | ⟨hno,rfl⟩
 case inr =>
  have HBW:=HB2
  clear hno
  go_wp2_with fail
  refine (HW.out _).mono ?_
  rintro e w20 ⟨rfl,hb20⟩
  have HB20:Hid (Below w.heap.size w w20):=Lib.hid (HBW.out.trans (hb20.mono HBW.out.size))
  clear hb20
  go_wp2
  go_ret
  exact ⟨rfl,HB20.out⟩
 have HC2:=Lib.hid hc2
 have HOK:=Lib.hid hok
 have HXL:=Lib.hid hok.len
 have HXN:=Lib.hid hok.nodup
 have hn1:=hok.n1
 have hk1:=hok.k1
 have hr1:=hok.r1
 have HNR:=Lib.hid hok.nr
 have htl:=hok.tells
 clear hc2 hok hlb
 go_wp2_with fail
 refine (kfull_any _ A K w2 (HM.out.below HB2.out) (by omega)).mono ?_
 rintro e w3 ⟨gm,rfl,hgm,-,hrm,hb3⟩
 have HC3:=Lib.hid (HC2.out.below hb3)
 have HB3:Hid (Below w.heap.size w w3):=Lib.hid (HB2.out.trans (hb3.mono HB2.out.size))
 have HM3:=Lib.hid hrm
 have hs3:=hb3.size
 clear hrm hb3 HC2 HM
 obtain ⟨M,hM⟩:∃ M,fullG A K=M:=⟨_,rfl⟩
 have hml:M.length=K:=by rw [← hM,fullG_len]
 rw [hM] at HM3
 have HENC:=Lib.hid (lencode_any w3 lb cb fb N K R cv xv _ _ M HC3.out HOK.out HXL.out HM3.out (.inr (fun k hk hm=>by simp [Value.ownBlock] at hk hm;omega)))
 have HML:=Lib.hid hml
 clear hM hml
 go_wp2_with fail
 refine HENC.out.mono ?_
 rintro e w4 ⟨hk4,hf4,⟨-,gu,rfl,hgu,hvu⟩ | ⟨hne,-⟩⟩
 case inr=>exact absurd HML.out hne
 have HC4:=Lib.hid (HC3.out.step hk4 hf4)
 have HU4:=Lib.hid hvu
 have HB4:Hid (Below w.heap.size w w4):=Lib.hid (HB3.out.trans (hk4.below (by omega) (by have:=HFB.out;simp;omega)))
 have hs4:=hk4.size
 have hgu4:=hvu.1
 have hgf:fb < gu:=by omega
 clear hvu hk4 hf4 HC3 HM3 HENC
 obtain ⟨J,hJ⟩:∃ J,tg % N=J:=⟨_,rfl⟩
 have hJN:J < N:=by rw [← hJ];exact Nat.mod_lt _ (by omega)
 have z0:IntKind.i64.wrap (tg:Int)=(tg:Int):=IntWalk.i64_in _ (by omega)
 have z1:(tg:Int) % (N:Int)=(J:Int):=by rw [← hJ];rfl
 have z2:Int.tmod (tg:Int) (N:Int)=(J:Int):=by rw [Int.tmod_eq_emod_of_nonneg (by omega),z1]
 have z3:IntKind.i64.wrap (J:Int)=(J:Int):=IntWalk.i64_in _ (by omega)
 have z4:¬ (N:Int)=0:=by omega
 have z5:¬ N=0:=by omega
 have z6:((N:Int) == 0)=false:=by simp;omega
 have HGR:=Lib.hid (lgroup_any lb N R (J:Int) w4 (cell_of_heap HC4.out.box (j:=2) rfl) (cell_of_heap HC4.out.box (j:=4) rfl) (by omega) (by omega))
 clear hJ
 go_wp2_with fail
 refine HGR.out.mono ?_
 rintro e w5 (⟨i,hi,-,v,rfl,hog,hb5⟩ | ⟨hno,-⟩)
 case inr=>exact absurd ⟨by omega,by omega⟩ hno
 obtain rfl:i=J:=by omega
 have hof:=hog.rd.form
 rw [rowN_len] at hof
 obtain ⟨av,vc,rfl⟩:=hof
 have HG5:=Lib.hid hog.rd
 have HC5:=Lib.hid (HC4.out.below hb5)
 have HU5:=Lib.hid (HU4.out.below hb5)
 have HB5:Hid (Below w.heap.size w w5):=Lib.hid (HB4.out.trans (hb5.mono HB4.out.size))
 have hs5:=hb5.size
 obtain ⟨R1,hR1⟩:∃ R1,R - 1=R1:=⟨_,rfl⟩
 have y1:(R:Int) - 1=(R1:Int):=by omega
 have y2:IntKind.i64.wrap (R1:Int)=(R1:Int):=IntWalk.i64_in _ (by omega)
 obtain ⟨U,hU⟩:∃ U:Nat→GF,U=fun i=>ev (polyL R (K / R) M) ((cosL R (N / (R+1))).getD i 0):=⟨_,rfl⟩
 have HUU:=Lib.hid hU
 rw [← hU] at HU5
 clear hog hb5 hi HGR HC4 HU4 hU
 go_wp2
 go_loopg [19,20] R (fun gk p q wr=>∃ (V:Value) (l:List Sy) (I:Nat) (z:Int),V=p∧I≤R∧I=gk∧q=.int .i64 z∧z+1=(I:Int)∧Hid (SyOwn wr w5.heap.size V l)∧Hid (Below w5.heap.size w5 wr)∧Hid (Sy.nodes l=grpD R i I)∧Hid (∀ s ∈ l,s.d=[U s.node.toNat]))
 case atStart=>exact ⟨_,[],R,(R1:Int),rfl,by omega,rfl,rfl,by omega,Lib.hid (SyOwn.nil _ _),Lib.hid (Below.refl _ _),Lib.hid (by unfold grpD;rw [Nat.sub_self];rfl),Lib.hid (by simp)⟩
 case round =>
  obtain ⟨V,l,I,z,rfl,hI,rfl,rfl,hz,HO,HBR,HND,HDD⟩:=hrel
  have hsr:=HBR.out.size
  by_cases hI0:0 < I
  ·obtain ⟨E,rfl⟩:∃ E,I=E+1:=⟨I - 1,by omega⟩
   obtain rfl:z=(E:Int):=by omega
   have hER:E < R:=by omega
   obtain ⟨x,hx⟩:∃ x,grpF R i E=x:=⟨_,rfl⟩
   have hxi:(rowN R (grpF R i))[E]? = some (x:Int):=by rw [rowN_get hER,hx]
   have hxN:=(grpF_in HNR.out hJN hER).1
   rw [hx] at hxN
   obtain ⟨-,-,b,o,rfl,hb,-⟩:=IRd.cell HG5.out hxi
   have cx:=IRd.cells (HG5.out.below HBR.out) E x hxi
   have cu:=((HU5.out.below HBR.out).2 x hxN).1
   obtain ⟨y,hy⟩:∃ y,(U x).n=y:=⟨_,rfl⟩
   rw [hy] at cu
   obtain ⟨W,hW⟩:∃ W,W=wr.drew.alloc (.cells #[.int .u8 (y:Nat)] 5):=⟨_,rfl⟩
   have hWs:W.heap.size=wr.heap.size+1:=by rw [hW];simp
   have hWb:Below wr.heap.size wr W:=by rw [hW];exact (Below.refl _ _).drew.alloc (Nat.le_refl _) _
   have hrd:GRd W (.slice (some ⟨wr.heap.size,0,none⟩) 1 1) [U x]:=by
    refine GRd.lit (t:=5) [U x] ?_ rfl
    rw [hW]
    refine (heap_newA _ _).trans ?_
    simp [gv,hy]
   have hll:l.length≤1000:=by
    have:=congrArg List.length HND.out
    unfold grpD at this
    rw [rowN_len] at this
    simp [Sy.nodes] at this
    omega
   obtain ⟨v1,w6,hap,ho1,-,hb6,-⟩:=app_sy (W:=W) (s:=⟨x,some ⟨wr.heap.size,0,none⟩,1,[U x]⟩) (HO.out.below hWb) hrd (fun a ha=>by
    cases ha
    exact ⟨hsr,fun e=>by have:=(HO.out.row.lt _ e).2;simp at this,by simp only [];omega⟩) (by omega) (by omega) (ad:=wr.heap.size+1) hWs.symm
   have HO6:=Lib.hid ho1
   have HKE:Hid (Below w5.heap.size wr w6):=Lib.hid ((hWb.mono hsr).trans hb6)
   have HB6:Hid (Below w5.heap.size w5 w6):=Lib.hid (HBR.out.trans HKE.out)
   have HN6:Hid (Sy.nodes (l ++ [⟨x,some ⟨wr.heap.size,0,none⟩,1,[U x]⟩])=grpD R i E):=Lib.hid (by
    rw [grpD_succ hER,← HND.out,hx]
    simp [Sy.nodes])
   have HD6:Hid (∀ s ∈ l ++ [(⟨x,some ⟨wr.heap.size,0,none⟩,1,[U x]⟩:Sy)],s.d=[U s.node.toNat]):=Lib.hid (fun s hs=>by
    rcases List.mem_append.1 hs with hs | hs
    ·exact HDD.out s hs
    ·simp only [List.mem_singleton] at hs
     rw [hs]
     simp)
   rw [hW] at hap
   have hap':=hap
   simp only [show [U x].length=1 from rfl] at hap'
   obtain ⟨kp,hkp⟩:∃ kp:Nat→Bool,∀ j,kp j=true↔j < w5.heap.size:=⟨fun j=>decide (j < w5.heap.size),by simp⟩
   have k1:kp b=true:=(hkp _).2 hb
   have k2:kp gu=true:=(hkp _).2 (by omega)
   have HKP:=Lib.hid hkp
   have i1:(0:Int)≤(E:Int)∧(E:Int) < (R:Int):=by omega
   have i2:(0:Int)≤(x:Int)∧(x:Int) < (N:Int):=by omega
   have i3:¬ (E:Int) < 0:=by omega
   clear hx hxi hy hW hWs hWb hrd hll hap ho1 hb6 hkp hz hxN
   have hap:=hap'
   clear hap'
   obtain ⟨zz,hzz⟩:∃ zz,(E:Int) - 1=zz:=⟨_,rfl⟩
   have hzw:IntKind.i64.wrap zz=zz:=IntWalk.i64_in _ (by omega)
   go_upto_region 15 with fail
   have hgr:=fun (w0 W:World) (p:Addr) (hp:(fun j=>kp j=true) p.block)=>graft_cell (w0:=w0) (keep:=(fun j=>kp j=true)) W hp
   refine wp_region_tree (fun j=>kp j=true) [12,14,15] (.sq [0,1,2,3,4,5,6,7,8,9,10,11,12,13,14,15,16] .done) (by kernel_rfl) (by kernel_rfl) ?_
   simp only [Tr.sq,List.foldr_cons,List.foldr_nil,slimTr,slimStep,Oper.slim,List.contains_cons,List.contains_nil,Option.map_none,Option.map_some,List.getElem?_toArray,List.getElem?_cons_zero,List.getElem?_cons_succ,Option.bind_some,beq_self_eq_true,Bool.or_false,Nat.reduceBEq,Nat.reduceAdd,Nat.zero_add]
   repeat' first | ((with_reducible refine wpSlimT_id ?_);first | (with_reducible refine wpSlimT_done ?_) | (refine wpSlimT_append _ _ _ rfl rfl rfl rfl rfl hap (fun kk hkk=>HKE.out.block kk ((HKP.out kk).1 hkk)) ?_) | ((with_reducible refine wpSlimT_step (fun K hK=>?_));go_simp;first | (refine hK _ _ ?_;clear hK K) | (refine ⟨by (intro kk hkk;first | (simp (disch:=(simp;omega)) only [hp_drew,hp_drewN,hp_alloc,hp_set];done) | (simp [hp_drew,hp_drewN,hp_alloc_if,hkk];done) | (have hkk2:=(HKP.out kk).1 hkk;first | (simp (disch:=(first | omega | (simp;omega))) only [hp_drew,hp_drewN,hp_alloc,hp_set];done) | exact (hp_alloc _ _ _ (by omega)).trans (hp_alloc _ _ _ (by omega)))),hK _ _ ?_⟩;clear hK K))) | fail
   clear hgr
   go_wp2
   go_roundg E
   case measure=>omega
   case rel=>exact ⟨v1,_,E,zz,rfl,by omega,rfl,rfl,by omega,HO6,HB6,HN6,HD6⟩
  ·obtain rfl:I=0:=by omega
   obtain rfl:z=-1:=by omega
   obtain ⟨w6,rfl⟩:∃ w6:World,w6=wr:=⟨_,rfl⟩
   have hgs:GrpSy R i U l:=⟨HND.out,HDD.out⟩
   have HGS:=Lib.hid hgs
   have hlen:=hgs.len
   have hvf:=HO.out.row.rd.form
   rw [hlen] at hvf
   obtain ⟨a0,c0,rfl⟩:=hvf
   have HLN:=Lib.hid hlen
   have HS6:=Lib.hid HO.out.all
   have HSA:=Lib.hid (HO.out.apart (S:=[fb]) (by simp;omega))
   have HC6:=Lib.hid (HC5.out.below HBR.out)
   have HU6:=Lib.hid (HU5.out.below HBR.out)
   have HB6:Hid (Below w.heap.size w w6):=Lib.hid (HB5.out.trans (HBR.out.mono HB5.out.size))
   have HNW:Hid (∀ (l2 l1:List Sy) (b:GF) (c:Int),SyGood N (i:Int) 1 l2→nearL R i l2=l1∧GrpSy R i U l1→NearZ R (i:Int) N (cosL R (N / (R+1))) l2 b c→b=U i∧c=0):=Lib.hid fun l2 l1 b c hg hnl hz=>by
    have:=near_word (M:=M) HOK.out htl.2.2 hJN hg (by rw [hnl.1,hnl.2.len];exact Nat.le_refl _) (fun s hs=>by
     rw [hnl.1] at hs
     rw [hnl.2.data s hs,HUU.out]) (nearZ_nat hJN hz)
    rw [HUU.out]
    exact this
   clear hgs hlen HO HND HDD HBR HC5 HU5 hI0 hz hI
   have HNM:=Lib.hid (lnearz_any w6 lb cb fb N K R _ (i:Int) cv xv _ _ l HC6.out hr1 hn1.2 HXL.out HXN.out HS6.out (by rw [HLN.out];omega))
   go_wp2_with fail
   refine HNM.out.mono ?_
   rintro e w7 ⟨hk7,hf7,b1,c1,rfl,hz1⟩
   obtain ⟨rfl,rfl⟩:=HNW.out l l b1 c1 (HGS.out.good HNR.out hJN) ⟨HGS.out.near HNR.out hJN,HGS.out⟩ hz1
   have HC7:=Lib.hid (HC6.out.step hk7 hf7)
   have HU7:=Lib.hid (HU6.out.kp hk7 (by simp;omega))
   have HS7:=Lib.hid (SyAll.kp HS6.out hk7 HSA.out)
   have HB7:Hid (Below w.heap.size w w7):=Lib.hid (HB6.out.trans (hk7.below (by have:=HB6.out.size;omega) (by have:=HFB.out;simp;omega)))
   have hs7:=hk7.size
   clear hk7 hf7 hz1 HNM HC6 HU6 HS6
   obtain ⟨ad,cd,hsl,hsd,-⟩:=slice_sys_l HS7.out (i:=1) (n:=R1) (I:=1) rfl (by rw [HLN.out];omega) (by rw [HLN.out];omega)
   have HSD:=Lib.hid hsd
   have HNM:=Lib.hid (lnearz_any w7 lb cb fb N K R _ (i:Int) cv xv _ _ (l.drop 1) HC7.out hr1 hn1.2 HXL.out HXN.out HSD.out (by rw [List.length_drop,HLN.out];omega))
   clear hsd
   go_wp2_with fail
   refine HNM.out.mono ?_
   rintro e w8 ⟨hk8,hf8,b2,c2,rfl,hz2⟩
   obtain ⟨rfl,rfl⟩:=HGS.out.less HNR.out hJN (by omega) hz2
   have HC8:=Lib.hid (HC7.out.step hk8 hf8)
   have HU8:=Lib.hid (HU7.out.kp hk8 (by simp;omega))
   have HS8:=Lib.hid (SyAll.kp HS7.out hk8 HSA.out)
   have HB8:Hid (Below w.heap.size w w8):=Lib.hid (HB7.out.trans (hk8.below (by have:=HB7.out.size;omega) (by have:=HFB.out;simp;omega)))
   have hs8:=hk8.size
   clear hk8 hf8 hz2 HNM HC7 HU7 HS7 HSD hsl
   obtain ⟨F,hF⟩:∃ F,(i+R+1) % N=F:=⟨_,rfl⟩
   obtain ⟨P1,hP1⟩:∃ P1,i+R=P1:=⟨_,rfl⟩
   obtain ⟨P2,hP2⟩:∃ P2,P1+1=P2:=⟨_,rfl⟩
   obtain ⟨RP,hRP⟩:∃ RP,R+1=RP:=⟨_,rfl⟩
   have hFN:F < N:=by rw [← hF];exact Nat.mod_lt _ (by omega)
   have q1:(i:Int)+(R:Int)=(P1:Int):=by omega
   have q2:IntKind.i64.wrap (P1:Int)=(P1:Int):=IntWalk.i64_in _ (by omega)
   have q3:(P1:Int)+1=(P2:Int):=by omega
   have q4:IntKind.i64.wrap (P2:Int)=(P2:Int):=IntWalk.i64_in _ (by omega)
   have hF2:P2 % N=F:=by rw [← hP2,← hP1];exact hF
   have q5:(P2:Int) % (N:Int)=(F:Int):=by rw [← hF2];rfl
   have q6:Int.tmod (P2:Int) (N:Int)=(F:Int):=by rw [Int.tmod_eq_emod_of_nonneg (by omega),q5]
   have q7:IntKind.i64.wrap (F:Int)=(F:Int):=IntWalk.i64_in _ (by omega)
   have q8:(R:Int)+1=(RP:Int):=by omega
   have q9:IntKind.i64.wrap (RP:Int)=(RP:Int):=IntWalk.i64_in _ (by omega)
   obtain ⟨G1,hG1⟩:∃ G1,F / RP=G1:=⟨_,rfl⟩
   obtain ⟨G2,hG2⟩:∃ G2,i / RP=G2:=⟨_,rfl⟩
   have g1:(F:Int) / (RP:Int)=(G1:Int):=by rw [← hG1];rfl
   have g2:Int.tdiv (F:Int) (RP:Int)=(G1:Int):=by rw [Int.tdiv_eq_ediv_of_nonneg (by omega),g1]
   have hl1:G1≤F:=by rw [← hG1];exact Nat.div_le_self _ _
   have hl2:G2≤i:=by rw [← hG2];exact Nat.div_le_self _ _
   have g3:IntKind.i64.wrap (G1:Int)=(G1:Int):=IntWalk.i64_in _ (by omega)
   have g4:(i:Int) / (RP:Int)=(G2:Int):=by rw [← hG2];rfl
   have g5:Int.tdiv (i:Int) (RP:Int)=(G2:Int):=by rw [Int.tdiv_eq_ediv_of_nonneg (by omega),g4]
   have g6:IntKind.i64.wrap (G2:Int)=(G2:Int):=IntWalk.i64_in _ (by omega)
   have g7:¬ RP=0:=by omega
   have g8:¬ (RP:Int)=0:=by omega
   have HGG:Hid (F / (R+1)=G1∧i / (R+1)=G2):=Lib.hid (by rw [hRP];exact ⟨hG1,hG2⟩)
   obtain ⟨kp,hkp⟩:∃ kp:Nat→Bool,∀ j,kp j=true↔j < w8.heap.size:=⟨fun j=>decide (j < w8.heap.size),by simp⟩
   clear hF hP1 hP2 hRP hF2 hG1 hG2 hkp
   by_cases hgg:G1=G2
   ·have HBZ:Hid (Below w.heap.size w w8.drew):=Lib.hid HB8.out.drew
    have HCZ:Hid (LCode w8.drew lb cb fb N K R (K+K / R - 1) cv xv (cosL R (N / (R+1)))):=Lib.hid (HC8.out.below (Below.refl _ _).drew)
    have HUZ:Hid (View w8.drew gu N U):=Lib.hid (HU8.out.drew)
    have HSZ:=Lib.hid (HS8.out.below (Below.refl _ _).drew)
    subst hgg
    go_upto_region 20 with fail
    have hgr:=fun (w0 W:World) (p:Addr) (hp:(fun j=>kp j=true) p.block)=>graft_cell (w0:=w0) (keep:=(fun j=>kp j=true)) W hp
    refine wp_region_tree (fun j=>kp j=true) [] (.sq [0,1,2,3,4,5,6,7,8] .done) (by kernel_rfl) (by kernel_rfl) ?_
    simp only [Tr.sq,List.foldr_cons,List.foldr_nil,slimTr,slimStep,Oper.slim,List.contains_cons,List.contains_nil,Option.map_none,Option.map_some,List.getElem?_toArray,List.getElem?_cons_zero,List.getElem?_cons_succ,Option.bind_some,beq_self_eq_true,Bool.or_false,Nat.reduceBEq,Nat.reduceAdd,Nat.zero_add]
    repeat' first | ((with_reducible refine wpSlimT_id ?_);first | (with_reducible refine wpSlimT_done ?_) | (refine wpSlimT_append _ _ _ rfl rfl rfl rfl rfl hap (fun kk hkk=>HKE.out.block kk ((HKP.out kk).1 hkk)) ?_) | ((with_reducible refine wpSlimT_step (fun K hK=>?_));go_simp;(refine hK _ _ ?_;clear hK K))) | fail
    clear hgr
    have HLZ:Hid (l.length≤1000):=Lib.hid (by rw [HLN.out];omega)
    have HNM:=Lib.hid (lnearz_any w8.drew lb cb fb N K R _ (i:Int) cv xv _ _ (l) HCZ.out hr1 hn1.2 HXL.out HXN.out HSZ.out HLZ.out)
    go_wp2_with fail
    refine HNM.out.mono ?_
    rintro e w12 ⟨hk12,hf12,b3,c3,rfl,hz3⟩
    obtain ⟨rfl,rfl⟩:=HNW.out _ _ b3 c3 (HGS.out.good HNR.out hJN) ⟨HGS.out.near HNR.out hJN,HGS.out⟩ hz3
    have HBW:Hid (Below w.heap.size w w12):=Lib.hid (HBZ.out.trans (hk12.below (by have:=HBZ.out.size;omega) (by have:=HFB.out;simp;omega)))
    have cu:=((HUZ.out.kp hk12 (by simp;omega)).2 i hJN).1
    have i5:(0:Int)≤(i:Int)∧(i:Int) < (N:Int):=by omega
    clear hk12 hf12 hz3 HNM
    go_wp2_with fail
    refine (HW.out _).mono ?_
    rintro e w20 ⟨rfl,hb20⟩
    have HB20:Hid (Below w.heap.size w w20):=Lib.hid (HBW.out.trans (hb20.mono HBW.out.size))
    clear hb20
    go_wp2
    go_ret
    exact ⟨rfl,HB20.out⟩
   ·have hggz:¬ (G1:Int)=(G2:Int):=by omega
    have hb9:Below w8.heap.size w8 w8.drew:=(Below.refl _ _).drew
    have HC9:Hid (LCode w8.drew lb cb fb N K R (K+K / R - 1) cv xv (cosL R (N / (R+1)))):=Lib.hid (HC8.out.below hb9)
    have HU9:Hid (View w8.drew gu N U):=Lib.hid (HU8.out.drew)
    have HOS:=Lib.hid (ownsyms_any _ l w8.drew (HS8.out.below hb9) (by rw [HLN.out];omega))
    have HB9:Hid (Below w.heap.size w w8.drew):=Lib.hid HB8.out.drew
    obtain ⟨w9,hw9⟩:∃ w9:World,w9=w8.drew:=⟨_,rfl⟩
    have hs9:w9.heap.size=w8.heap.size:=by rw [hw9];rfl
    rw [← hw9] at HC9 HU9 HOS HB9
    clear hb9 HC8 HU8 HS8
    go_upto_region 20 with fail
    have hgr:=fun (w0 W:World) (p:Addr) (hp:(fun j=>kp j=true) p.block)=>graft_cell (w0:=w0) (keep:=(fun j=>kp j=true)) W hp
    refine wp_region_tree (fun j=>kp j=true) [] (.sq [0,1,2,3,4,5,6,7,8] .done) (by kernel_rfl) (by kernel_rfl) ?_
    simp only [Tr.sq,List.foldr_cons,List.foldr_nil,slimTr,slimStep,Oper.slim,List.contains_cons,List.contains_nil,Option.map_none,Option.map_some,List.getElem?_toArray,List.getElem?_cons_zero,List.getElem?_cons_succ,Option.bind_some,beq_self_eq_true,Bool.or_false,Nat.reduceBEq,Nat.reduceAdd,Nat.zero_add]
    repeat' first | ((with_reducible refine wpSlimT_id ?_);first | (with_reducible refine wpSlimT_done ?_) | (refine wpSlimT_append _ _ _ rfl rfl rfl rfl rfl hap (fun kk hkk=>HKE.out.block kk ((HKP.out kk).1 hkk)) ?_) | ((with_reducible refine wpSlimT_step (fun K hK=>?_));go_simp;(refine hK _ _ ?_;clear hK K))) | fail
    clear hgr
    rw [← hw9]
    clear hw9
    go_wp2_with fail
    refine HOS.out.mono ?_
    rintro e w10 ⟨ov,l',rfl,hos,hb10,hn10,hd10⟩
    have hg10:GrpSy R i U l':=⟨hn10.trans HGS.out.nodes,fun s hs=>by
     have hsk:s.sk ∈ l.map Sy.sk:=by rw [← map_sk hn10 hd10];exact List.mem_map.2 ⟨s,hs,rfl⟩
     obtain ⟨t,ht,e⟩:=List.mem_map.1 hsk
     have e1:t.sk.node=s.sk.node:=congrArg Sy.node e
     have e2:t.sk.d=s.sk.d:=congrArg Sy.d e
     have e3:=HGS.out.data t ht
     have e1':t.node=s.node:=e1
     have e2':t.d=s.d:=e2
     rw [e1',e2'] at e3
     exact e3⟩
    have HG10:=Lib.hid hg10
    obtain ⟨W,hW⟩:∃ W,W=w10.alloc (.cells #[.int .u8 (by_:Nat)] 5):=⟨_,rfl⟩
    have hWs:W.heap.size=w10.heap.size+1:=by rw [hW];simp
    have hWb:Below w10.heap.size w10 W:=by rw [hW];exact (Below.refl _ _).alloc (Nat.le_refl _) _
    have hrd:GRd W (.slice (some ⟨w10.heap.size,0,none⟩) 1 1) [bg]:=by
     refine GRd.lit (t:=5) [bg] ?_ rfl
     rw [hW]
     refine (heap_newA _ _).trans ?_
     simp [gv,HBG.out]
    have hs10:=hb10.size
    obtain ⟨v1,w11,hap,ho1,-,hb11,-⟩:=app_sy (W:=W) (s:=⟨F,some ⟨w10.heap.size,0,none⟩,1,[bg]⟩) (hos.below hWb) hrd (fun a ha=>by
     cases ha
     exact ⟨hs10,fun e=>by have:=(hos.row.lt _ e).2;simp at this,by simp only [];omega⟩) (by rw [hg10.len];omega) (by omega) (ad:=w10.heap.size+1) hWs.symm
    have hbz:Below w9.heap.size w9 w11:=hb10.trans ((hWb.mono hs10).trans hb11)
    have HBZ:Hid (Below w.heap.size w w11):=Lib.hid (HB9.out.trans (hbz.mono HB9.out.size))
    have HCZ:=Lib.hid (HC9.out.below hbz)
    have HUZ:=Lib.hid (HU9.out.below hbz)
    have HSZ:=Lib.hid ho1.all
    have HLZ:Hid ((l' ++ [(⟨F,some ⟨w10.heap.size,0,none⟩,1,[bg]⟩:Sy)]).length≤1000):=Lib.hid (by rw [List.length_append,hg10.len];simp;omega)
    have hfar:=hg10.far HNR.out hJN (s:=⟨F,some ⟨w10.heap.size,0,none⟩,1,[bg]⟩) ⟨by simp only [];omega,by simp only [];omega⟩ rfl (by
     simp only [Int.toNat_natCast]
     rw [HGG.out.1,HGG.out.2]
     exact hgg)
    have HFAR:=Lib.hid hfar
    rw [hW] at hap
    have hap':=hap
    simp only [show [bg].length=1 from rfl] at hap'
    have hszz:=hbz.size
    clear hos hb10 hn10 hd10 hg10 hW hWs hWb hrd hap ho1 hb11 hbz hfar HOS HC9 HU9 HB9
    go_wp2_with (at_builtin;refine wpList_append rfl _ _ _ rfl rfl rfl hap' ?_)
    clear hap'
    have HNM:=Lib.hid (lnearz_any w11 lb cb fb N K R _ (i:Int) cv xv _ _ ((l' ++ [(⟨F,some ⟨w10.heap.size,0,none⟩,1,[bg]⟩:Sy)])) HCZ.out hr1 hn1.2 HXL.out HXN.out HSZ.out HLZ.out)
    go_wp2_with fail
    refine HNM.out.mono ?_
    rintro e w12 ⟨hk12,hf12,b3,c3,rfl,hz3⟩
    obtain ⟨rfl,rfl⟩:=HNW.out _ _ b3 c3 HFAR.out.1 ⟨HFAR.out.2,HG10.out⟩ hz3
    have HBW:Hid (Below w.heap.size w w12):=Lib.hid (HBZ.out.trans (hk12.below (by have:=HBZ.out.size;omega) (by have:=HFB.out;simp;omega)))
    have cu:=((HUZ.out.kp hk12 (by simp;omega)).2 i hJN).1
    have i5:(0:Int)≤(i:Int)∧(i:Int) < (N:Int):=by omega
    clear hk12 hf12 hz3 HNM
    go_wp2_with fail
    refine (HW.out _).mono ?_
    rintro e w20 ⟨rfl,hb20⟩
    have HB20:Hid (Below w.heap.size w w20):=Lib.hid (HBW.out.trans (hb20.mono HBW.out.size))
    clear hb20
    go_wp2
    go_ret
    exact ⟨rfl,HB20.out⟩
end Go.Proofs.YtbiaoohodjoojaaGreat
