/-
  A code whose nodes are repaired within groups: as it lies; which nodes there are; which rows fit.
  A code of groups: it is made; how many tell; who is of a group.
  The others of a node's group; how many tell.
-/
import Derived.Test.YtnjbkfeihbcalaaGreatZSyG
import Derived.Test.YtnjbkfeihbcalaaGreatZCos
import Derived.Test.YtnjbkfeihbcalaaGreatZPlainM
import Derived.Test.YtnjbkfeihbcalaaGreatZAts
/- A code whose nodes are repaired within groups: as it lies; which nodes there are; which rows fit. -/
namespace Go.Proofs.YtnjbkfeihbcalaaGreat
open Go.RowKit Fld
set_option linter.unusedVariables false
set_option linter.unusedSimpArgs false

structure LCode (w:World) (lb cb fb n k r K:Nat) (cv xv:Value) (xs:List GF):Prop where
 box:w.heap[lb]? = some (.cells #[.pointer (some ⟨cb,0,none⟩),.pointer (some ⟨fb,0,none⟩),.int .i64 n,.int .i64 k,.int .i64 r,xv] 95 (0,0))
 code:CodeAt w cb fb K cv xs
 rd:GRd w xv xs
 apart:Apart xv [fb]
 ne:lb ≠ fb
theorem LCode.step {w w':World} {lb cb fb n k r K:Nat} {cv xv:Value} {xs:List GF} (h:LCode w lb cb fb n k r K cv xv xs) (hk:Kp [fb] w w') (hf:FOk w' fb):LCode w' lb cb fb n k r K cv xv xs :=
 ⟨hk.heap h.box (by simpa using h.ne),h.code.step hk hf,h.rd.kp hk h.apart,h.apart,h.ne⟩
theorem LCode.below {w w':World} {lb cb fb n k r K:Nat} {cv xv:Value} {xs:List GF} (h:LCode w lb cb fb n k r K cv xv xs) (hb:Below w.heap.size w w'):LCode w' lb cb fb n k r K cv xv xs :=
 ⟨keepB hb h.box,h.code.below hb,h.rd.below hb,h.apart,h.ne⟩
def LIsPost (n:Nat) (x:Int) (w:World) (e:Ending) (w':World):Prop:=e=.returned (.bool (decide (0≤x∧x < (n:Int))))∧w=w'
end Go.Proofs.YtnjbkfeihbcalaaGreat
/- A code of groups: it is made; how many tell; who is of a group. -/
namespace Go.Proofs.YtnjbkfeihbcalaaGreat
open Go.RowKit Fld
set_option linter.unusedVariables false
set_option linter.unusedSimpArgs false

def LNewPost (fb:Nat) (n k r:Int) (w:World) (e:Ending) (w':World):Prop :=
 Kp [fb] w w'∧FOk w' fb∧((∃ N K R:Nat,n=(N:Int)∧k=(K:Int)∧r=(R:Int)∧LOkN N K R∧∃ lb cb cv xv,e=.returned (.tuple #[.pointer (some ⟨lb,0,none⟩),.int .i64 0])∧w.heap.size≤lb∧LCode w' lb cb fb N K R (K+K / R - 1) cv xv (cosL R (N / (R+1)))) ∨
  ¬ LOk n k r∧e=.returned (.tuple #[.pointer none,.int .i64 2]))
set_option maxRecDepth 100000 in
set_option maxHeartbeats 4000000 in
theorem lnew_any (fb:Nat) (n k r:Int) (w:World) (hF:FOk w fb) (hn:-9223372036854775808≤n∧n≤9223372036854775807) (hk:-9223372036854775808≤k∧k≤9223372036854775807) (hr:-9223372036854775808≤r∧r≤9223372036854775807) :
  Calls Tryz.prog 18 #[.pointer (some ⟨fb,0,none⟩),.int .i64 n,.int .i64 k,.int .i64 r] w (LNewPost fb n k r w):=by
 have hfl:=hF.lt
 have HF:=Lib.hid hF
 clear hF
 by_cases c1:r < 1
 ·have HFF:Hid (¬ LOk n k r):=Lib.hid (fun ⟨N,K,R,e1,e2,e3,h⟩=>by have h1:=h.r1;have h2:=h.n1;have h3:=h.k1;omega)
  go_enter Tryz.func18,Tryz.ntmps18
  go_wp2
  go_ret2
  exact ⟨Kp.refl _ _,HF.out,.inr ⟨HFF.out,rfl⟩⟩
 by_cases c2:r > 254
 ·have HFF:Hid (¬ LOk n k r):=Lib.hid (fun ⟨N,K,R,e1,e2,e3,h⟩=>by have h1:=h.r1;have h2:=h.n1;have h3:=h.k1;omega)
  go_enter Tryz.func18,Tryz.ntmps18
  go_wp2
  go_ret2
  exact ⟨Kp.refl _ _,HF.out,.inr ⟨HFF.out,rfl⟩⟩
 by_cases c3:n < 1
 ·have HFF:Hid (¬ LOk n k r):=Lib.hid (fun ⟨N,K,R,e1,e2,e3,h⟩=>by have h1:=h.r1;have h2:=h.n1;have h3:=h.k1;omega)
  go_enter Tryz.func18,Tryz.ntmps18
  go_wp2
  go_ret2
  exact ⟨Kp.refl _ _,HF.out,.inr ⟨HFF.out,rfl⟩⟩
 by_cases c4:n > 255
 ·have HFF:Hid (¬ LOk n k r):=Lib.hid (fun ⟨N,K,R,e1,e2,e3,h⟩=>by have h1:=h.r1;have h2:=h.n1;have h3:=h.k1;omega)
  go_enter Tryz.func18,Tryz.ntmps18
  go_wp2
  go_ret2
  exact ⟨Kp.refl _ _,HF.out,.inr ⟨HFF.out,rfl⟩⟩
 obtain ⟨R,rfl⟩:∃ R:Nat,r=(R:Int):=⟨r.toNat,by omega⟩
 obtain ⟨N,rfl⟩:∃ N:Nat,n=(N:Int):=⟨n.toNat,by omega⟩
 obtain ⟨R1,hR1⟩:∃ R1,R+1=R1:=⟨_,rfl⟩
 obtain ⟨m,hm⟩:∃ m,N % R1=m:=⟨_,rfl⟩
 have x1:(R:Int)+1=(R1:Int):=by omega
 have x2:IntKind.i64.wrap (R1:Int)=(R1:Int):=IntWalk.i64_in _ (by omega)
 have x3:(N:Int).tmod (R1:Int)=(m:Int):=by rw [← hm];exact (Int.ofNat_tmod N R1).symm
 have x4:IntKind.i64.wrap (m:Int)=(m:Int):=IntWalk.i64_in _ (by have:=Nat.mod_le N R1;omega)
 have x5:¬ (R1:Int)=0:=by omega
 subst hR1
 by_cases c5:m=0
 case neg =>
  have c5':¬ (m:Int)=0:=by omega
  have HFF:Hid (¬ LOk (N:Int) k (R:Int)):=Lib.hid (fun ⟨N',K,R',e1,e2,e3,h⟩=>by
   obtain rfl:N=N':=by omega
   obtain rfl:R=R':=by omega
   have:=h.nr
   omega)
  generalize hRR:R+1=R1 at *
  clear hm c5
  go_enter Tryz.func18,Tryz.ntmps18
  go_wp2
  go_ret2
  exact ⟨Kp.refl _ _,HF.out,.inr ⟨HFF.out,rfl⟩⟩
 subst c5
 have HNR:=Lib.hid hm
 generalize hRR:R+1=R1 at *
 clear hm
 by_cases c6:k < 1
 ·have HFF:Hid (¬ LOk (N:Int) k (R:Int)):=Lib.hid (fun ⟨N',K,R',e1,e2,e3,h⟩=>by have h3:=h.k1;omega)
  clear hRR
  go_enter Tryz.func18,Tryz.ntmps18
  go_wp2
  go_ret2
  exact ⟨Kp.refl _ _,HF.out,.inr ⟨HFF.out,rfl⟩⟩
 by_cases c7:k > 255
 ·have HFF:Hid (¬ LOk (N:Int) k (R:Int)):=Lib.hid (fun ⟨N',K,R',e1,e2,e3,h⟩=>by have h3:=h.k1;omega)
  clear hRR
  go_enter Tryz.func18,Tryz.ntmps18
  go_wp2
  go_ret2
  exact ⟨Kp.refl _ _,HF.out,.inr ⟨HFF.out,rfl⟩⟩
 obtain ⟨K,rfl⟩:∃ K:Nat,k=(K:Int):=⟨k.toNat,by omega⟩
 obtain ⟨q,hq⟩:∃ q,K % R=q:=⟨_,rfl⟩
 have y3:(K:Int).tmod (R:Int)=(q:Int):=by rw [← hq];exact (Int.ofNat_tmod K R).symm
 have y4:IntKind.i64.wrap (q:Int)=(q:Int):=IntWalk.i64_in _ (by have:=Nat.mod_le K R;omega)
 have y5:¬ (R:Int)=0:=by omega
 by_cases c8:q=0
 case neg =>
  have c8':¬ (q:Int)=0:=by omega
  have HFF:Hid (¬ LOk (N:Int) (K:Int) (R:Int)):=Lib.hid (fun h=>by have h1:=h.nat.kr;omega)
  clear hRR hq c8
  go_enter Tryz.func18,Tryz.ntmps18
  go_wp2
  go_ret2
  exact ⟨Kp.refl _ _,HF.out,.inr ⟨HFF.out,rfl⟩⟩
 subst c8
 have HKR:=Lib.hid hq
 obtain ⟨G,hG⟩:∃ G,N / R1=G:=⟨_,rfl⟩
 obtain ⟨D,hD⟩:∃ D,K / R=D:=⟨_,rfl⟩
 have hGle:G≤N:=by rw [← hG];exact Nat.div_le_self _ _
 have hDle:D≤K:=by rw [← hD];exact Nat.div_le_self _ _
 have hD1:1≤D:=by rw [← hD];exact Nat.div_pos (Nat.le_of_dvd (by omega) (Nat.dvd_of_mod_eq_zero hq)) (by omega)
 obtain ⟨T,hT⟩:∃ T,K+D - 1=T:=⟨_,rfl⟩
 have z1:(N:Int).tdiv (R1:Int)=(G:Int):=by rw [← hG];exact (Int.ofNat_tdiv N R1).symm
 have z2:IntKind.i64.wrap (G:Int)=(G:Int):=IntWalk.i64_in _ (by omega)
 have z3:(K:Int).tdiv (R:Int)=(D:Int):=by rw [← hD];exact (Int.ofNat_tdiv K R).symm
 have z4:IntKind.i64.wrap (D:Int)=(D:Int):=IntWalk.i64_in _ (by omega)
 obtain ⟨T1,hT1⟩:∃ T1,K+D=T1:=⟨_,rfl⟩
 have z5:(K:Int)+(D:Int)=(T1:Int):=by omega
 have z6:IntKind.i64.wrap (T1:Int)=(T1:Int):=IntWalk.i64_in _ (by omega)
 have z7:(T1:Int) - 1=(T:Int):=by omega
 have z8:IntKind.i64.wrap (T:Int)=(T:Int):=IntWalk.i64_in _ (by omega)
 have HCO:=Lib.hid (cosets_any fb R G w HF.out (by omega) (by omega))
 have HAR:Hid (LOk (N:Int) (K:Int) (R:Int)↔255 % (R+1)=0∧T≤N):=Lib.hid ⟨fun h=>by
  have h1:=h.nat.dv
  have h2:=h.nat.le
  rw [hD] at h2
  exact ⟨h1,by omega⟩,fun ⟨h1,h2⟩=>⟨N,K,R,rfl,rfl,rfl,⟨by omega,by omega,by rw [hRR];exact HNR.out,by omega,HKR.out,h1,by rw [hD];omega⟩⟩⟩
 have HGG:Hid (N / (R+1)=G∧K / R=D∧K+D - 1=T):=Lib.hid ⟨by rw [hRR];exact hG,hD,hT⟩
 have HNN:Hid (255 % (R+1)=0→G≤255 / (R+1)∧(cosL R G).length=N):=Lib.hid (fun h=>⟨by rw [← hG,← hRR];exact Nat.div_le_div_right (by omega),by rw [cosL_len,← hG,hRR,Nat.div_mul_cancel (Nat.dvd_of_mod_eq_zero HNR.out)]⟩)
 clear hRR hq hG hD hT hT1
 go_enter Tryz.func18,Tryz.ntmps18
 go_wp2_with fail
 refine HCO.out.mono ?_
 rintro e w1 ⟨hk1,hf1,⟨⟨hdv,hgl⟩,v,rfl,ho⟩ | ⟨hno,rfl⟩⟩
 case inr =>
  have HK1:=Lib.hid hk1
  have HF1:=Lib.hid hf1
  have HFF:Hid (¬ LOk (N:Int) (K:Int) (R:Int)):=Lib.hid (fun h=>hno ⟨(HAR.out.1 h).1,(HNN.out (HAR.out.1 h).1).1⟩)
  clear hk1 hf1 hno HCO
  go_wp2
  go_ret2
  exact ⟨HK1.out,HF1.out,.inr ⟨HFF.out,rfl⟩⟩
 have HK1:=Lib.hid hk1
 have HF1:=Lib.hid hf1
 have hlen:=(HNN.out hdv).2
 have HO:=Lib.hid ho
 have HDV:=Lib.hid (And.intro hdv hgl)
 have HLEN:=Lib.hid hlen
 have HNW:=Lib.hid (new_any fb v (cosL R G) (T:Int) w1 hf1 ho.rd (by rw [hlen];simp only [sortMax];omega) (by omega))
 obtain ⟨av,cv,rfl,hcv⟩:=ho.form
 rw [hlen] at HNW HO hcv ⊢
 have hs1:=hk1.size
 clear hk1 hf1 hdv hgl hlen ho HCO
 go_wp2_with fail
 refine HNW.out.mono ?_
 rintro e w2 ⟨hb2,⟨⟨hnd,hT1,hTN⟩,cb,v2,rfl,hcb,hcode,hov⟩ | ⟨hno,rfl⟩⟩
 case inr =>
  have HK2:=Lib.hid (HK1.out.below_step hb2)
  have HF2:=Lib.hid (HF1.out.below hb2)
  have HFF:Hid (¬ LOk (N:Int) (K:Int) (R:Int)):=Lib.hid (fun h=>hno ⟨cosL_nodup HDV.out.1 HDV.out.2,by have:=h.nat.tells.1;rw [HGG.out.2.1,HGG.out.2.2] at this;omega,by rw [HLEN.out];have:=(HAR.out.1 h).2;omega⟩)
  clear hb2 hno HNW
  go_wp2
  go_ret2
  exact ⟨HK2.out,HF2.out,.inr ⟨HFF.out,rfl⟩⟩
 have hs2:=hb2.size
 have hb3:Below w2.heap.size w2 (w2.alloc (.cells #[.pointer (some ⟨cb,0,none⟩),.pointer (some ⟨fb,0,none⟩),.int .i64 N,.int .i64 K,.int .i64 R,.slice av N cv] 95)):=(Below.refl _ _).alloc (Nat.le_refl _) _
 have HP:Hid (LNewPost fb (N:Int) (K:Int) (R:Int) w (.returned (.tuple #[.pointer (some ⟨w2.heap.size,0,none⟩),.int .i64 0])) (w2.alloc (.cells #[.pointer (some ⟨cb,0,none⟩),.pointer (some ⟨fb,0,none⟩),.int .i64 N,.int .i64 K,.int .i64 R,.slice av N cv] 95))):=Lib.hid (by
  refine ⟨(HK1.out.below_step hb2).below_step hb3,(HF1.out.below hb2).below hb3,.inl ⟨N,K,R,rfl,rfl,rfl,(HAR.out.2 ⟨HDV.out.1,by rw [HLEN.out] at hTN;omega⟩).nat,w2.heap.size,cb,v2,.slice av N cv,rfl,by omega,heap_newA _ _,?_,?_,?_,by omega⟩⟩
  ·rw [HGG.out.1,HGG.out.2.1,HGG.out.2.2]
   have:=hcode.below hb3
   rwa [Int.toNat_natCast] at this
  ·rw [HGG.out.1]
   exact ((HO.out.below hb2).below hb3).rd
  ·intro b hb hm
   have:=(HO.out.lt b hb).1
   simp at hm
   omega)
 clear hb2 hb3 hnd hT1 hTN hcb hcode hov HNW
 go_wp2
 go_ret2
 exact HP.out
end Go.Proofs.YtnjbkfeihbcalaaGreat
/- The others of a node's group; how many tell. -/
namespace Go.Proofs.YtnjbkfeihbcalaaGreat
open Go.RowKit Fld
set_option linter.unusedVariables false
set_option linter.unusedSimpArgs false

def GrpPost (r i:Nat) (w:World) (e:Ending) (w':World):Prop:=∃ v,e=.returned v∧OwnZ w' w.heap.size v (rowN r (grpF r i))∧Below w.heap.size w w'
def LGrpPost (n r:Nat) (x:Int) (w:World) (e:Ending) (w':World):Prop :=
 (∃ i:Nat,x=(i:Int)∧i < n∧GrpPost r i w e w') ∨ (¬ (0≤x∧x < (n:Int))∧e=.returned (.slice none 0 0)∧w=w')
set_option maxHeartbeats 1000000 in
theorem ltells_any (lb cb fb n k r K:Nat) (cv xv:Value) (xs:List GF) (w:World) (h:LCode w lb cb fb n k r K cv xv xs) :
  Calls Tryz.prog 19 #[.pointer (some ⟨lb,0,none⟩)] w fun e w'=>e=.returned (.int .i64 K)∧w=w':=by
 have HK:=Lib.hid (codeK_any w cb fb K cv xs h.code)
 have c0:=cell_of_heap h.box (j:=0) rfl
 clear h
 go_enter Tryz.func19,Tryz.ntmps19
 go_wp2_with fail
 refine HK.out.mono ?_
 rintro e w' ⟨rfl,rfl⟩
 go_wp2
 go_ret
 exact ⟨rfl,rfl⟩
end Go.Proofs.YtnjbkfeihbcalaaGreat
