/-
  The law TransferMends.
-/
import Derived.Test.YtjdnicacnaokdaaGreatEncG
import Derived.Test.YtjdnicacnaokdaaGreatTrRepG
import Derived.Test.YtjdnicacnaokdaaGreatOwnSyG
import Derived.Test.YtjdnicacnaokdaaGreatKit
namespace Go.Proofs.YtjdnicacnaokdaaGreat
open Go.RowKit Fld
set_option linter.unusedVariables false
set_option linter.unusedSimpArgs false

structure MendI (n j:Nat) (val:Nat→GF) (I:Nat) (l:List Sy):Prop where
 nd:(Sy.nodes l).Nodup
 mem:∀ s ∈ l,∃ i,I≤i∧i < n∧i ≠ j∧s.node=(i:Int)∧s.d=[val i]
 len:l.length+(if I≤j then 1 else 0)=n - I
theorem MendI.start (n j:Nat) (val:Nat→GF) (hj:j < n):MendI n j val n []:=⟨List.nodup_nil,by simp,by rw [if_neg (by omega)];simp⟩
theorem MendI.skip {n j:Nat} {val:Nat→GF} {l:List Sy} (h:MendI n j val (j+1) l) (hj:j < n):MendI n j val j l :=
 ⟨h.nd,fun s hs=>by
  obtain ⟨i,h1,h2⟩:=h.mem s hs
  exact ⟨i,by omega,h2⟩,by
  have:=h.len
  rw [if_neg (by omega)] at this
  rw [if_pos (Nat.le_refl _)]
  omega⟩
theorem MendI.add {n j E:Nat} {val:Nat→GF} {l:List Sy} (h:MendI n j val (E+1) l) (hE:E < n) (hj:E ≠ j) (a:Option Addr) (c:Nat):MendI n j val E (l ++ [⟨(E:Int),a,c,[val E]⟩]):=by
 refine ⟨?_,fun s hs=>?_,?_⟩
 ·rw [Sy.nodes,List.map_append,List.nodup_append]
  refine ⟨h.nd,by simp,fun x hx y hy=>?_⟩
  obtain ⟨s,hs,rfl⟩:=List.mem_map.1 hx
  obtain ⟨i,h1,h2,h3,h4,h5⟩:=h.mem s hs
  simp at hy
  subst hy
  rw [h4]
  omega
 ·rcases List.mem_append.1 hs with hs | hs
  ·obtain ⟨i,h1,h2⟩:=h.mem s hs
   exact ⟨i,by omega,h2⟩
  ·simp only [List.mem_singleton] at hs
   subst hs
   exact ⟨E,Nat.le_refl _,hE,hj,rfl,rfl⟩
 ·have:=h.len
  rw [List.length_append,List.length_singleton]
  by_cases h1:E+1≤j
  ·rw [if_pos h1] at this
   rw [if_pos (by omega)]
   omega
  ·rw [if_neg h1] at this
   rw [if_neg (by omega)]
   omega
theorem MendI.good {n j:Nat} {val:Nat→GF} {l:List Sy} (h:MendI n j val 0 l) (hj:j < n):SyGood n (j:Int) 1 l∧l.length=n - 1:=by
 refine ⟨⟨⟨fun x hx=>?_,h.nd⟩,fun s hs=>?_⟩,?_⟩
 ·obtain ⟨s,hs,rfl⟩:=List.mem_map.1 hx
  obtain ⟨i,h1,h2,h3,h4,h5⟩:=h.mem s hs
  rw [h4]
  omega
 ·obtain ⟨i,h1,h2,h3,h4,h5⟩:=h.mem s hs
  rw [h4,h5]
  exact ⟨by omega,rfl⟩
 ·have:=h.len
  rw [if_pos (Nat.zero_le _)] at this
  omega
theorem tr_at {n p j:Nat} {xs M:List GF} (h:p < n - 1):(trSh n xs M j).getD p 0=ev M (xs.getD (eE n j (othN j p)) 0):=by
 unfold trSh
 rw [rowF_get _ h]
theorem MendI.rep {n j:Nat} {xs M o:List GF} {c:Int} {l:List Sy} (h:MendI n j (fun i=>ev M (xs.getD (eE n i j) 0)) 0 l) (hj:j < n) (hr:TrRepIs n (j:Int) l o c):o=trSh n xs M j∧c=0:=by
 obtain ⟨hg,hl⟩:=h.good hj
 rcases hr with ⟨h1,-,-⟩ | ⟨-,⟨h2,-,-⟩ | ⟨-,rfl,hlen,hp⟩⟩
 ·exact absurd ⟨by omega,hg⟩ h1
 ·omega
 ·refine ⟨List.ext_getElem (by rw [hlen,trSh_len]) fun p h1 h2=>?_,rfl⟩
  have hp1:p < n - 1:=by omega
  obtain ⟨s,hs,h3,h4⟩:=hp p hp1
  obtain ⟨i,h5,h6,h7,h8,h9⟩:=h.mem s hs
  have e1:=tr_at (xs:=xs) (M:=M) (j:=j) hp1
  rw [List.getD_eq_getElem?_getD,List.getElem?_eq_getElem h1,Option.getD_some] at h4
  rw [List.getD_eq_getElem?_getD,List.getElem?_eq_getElem h2,Option.getD_some] at e1
  rw [h4,e1,h9]
  have:i=othN j p:=by
   rw [h8,Int.toNat_natCast] at h3
   omega
  rw [← this,eE_comm n j i]
  rfl
theorem MendI.few {n j q:Nat} {val:Nat→GF} {o:List GF} {c:Int} {l:List Sy} (h:MendI n j val 0 l) (hj:j < n) (hq:q < l.length) (hr:TrRepIs n (j:Int) (l.take q ++ l.drop (q+1)) o c):c=70:=by
 obtain ⟨hg,hl⟩:=h.good hj
 rw [← List.eraseIdx_eq_take_drop_succ] at hr
 have hsub:(l.eraseIdx q).Sublist l:=List.eraseIdx_sublist l q
 have hg2:SyGood n (j:Int) 1 (l.eraseIdx q):=⟨⟨fun x hx=>hg.1.1 x ((hsub.map Sy.node).subset hx),hg.1.2.sublist (hsub.map Sy.node)⟩,fun s hs=>hg.2 s (hsub.subset hs)⟩
 have hl2:(l.eraseIdx q).length=l.length - 1:=by rw [List.length_eraseIdx,if_pos hq]
 rcases hr with ⟨h1,-,-⟩ | ⟨-,⟨-,-,h2⟩ | ⟨h2,-,-⟩⟩
 ·exact absurd ⟨by omega,hg2⟩ h1
 ·exact h2
 ·omega
theorem help_val {n i j:Nat} {xs M:List GF} {b:GF} {c:Int} (hi:i < n) (hj:j < n) (hij:i ≠ j) (h:TrHelpIs n (i:Int) (j:Int) (trSh n xs M i) b c):b=ev M (xs.getD (eE n i j) 0)∧c=0:=by
 obtain ⟨rfl,rfl⟩:=h.one (.inr ⟨⟨by omega,by omega,by omega,trSh_len _ _ _ _⟩,rfl,rfl⟩)
 refine ⟨?_,rfl⟩
 rw [Int.toNat_natCast,Int.toNat_natCast,tr_at (plc_lt (fun e=>hij e.symm) hj hi),oth_plc (fun e=>hij e.symm)]
theorem row_at {w:World} {ga oa N c5 n1:Nat} {S:List Ro} {f:Nat→List GF} (h:RoAll w (.slice (some ⟨ga,oa,none⟩) N c5) S) (hd:S.map Ro.d=(List.range N).map f) {i:Nat} (hi:i < N) (hf:(f i).length=n1):∃ a c,w.cell? ⟨ga,oa+i,none⟩=some (.slice a n1 c)∧GRd w (.slice a n1 c) (f i):=by
 have hsl:S.length=N:=by have:=congrArg List.length hd;simpa using this
 obtain ⟨s,hs⟩:∃ s,S[i]? = some s:=⟨_,List.getElem?_eq_getElem (by rw [hsl];exact hi)⟩
 have hsd:s.d=f i:=by
  have:=congrArg (·[i]?) hd
  simp only [List.getElem?_map,hs,List.getElem?_range hi,Option.map_some,Option.some.injEq] at this
  exact this
 obtain ⟨-,-,b,o,e,-,hat⟩:=SRd.at h.rd hs
 cases e
 have h1:=hat 0 _ rfl
 have h2:=h.each s (List.mem_of_getElem? hs)
 unfold Ro.v at h1 h2
 rw [hsd,hf] at h1 h2
 exact ⟨s.a,s.cp,by simpa using h1,h2⟩
set_option maxRecDepth 100000 in
set_option maxHeartbeats 8000000 in
theorem lmends11_any (n k:Int) (um:Value) (A:List GF) (tj ls:Nat) (w:World) (hnb:I64 n∧I64 k) (hm:GRd w um A) (htj:tj < 256) (hls:ls < 256) :
  Calls Tryz.prog 7 #[.int .i64 n,.int .i64 k,um,.int .u8 tj,.int .u8 ls] w fun e w'=>e=.returned (.bool true)∧Below w.heap.size w w':=by
 have HW:=Lib.hid (fun W=>works11_any W)
 have HFN:=Lib.hid (fun W=>fnew_g W)
 have HNB:=Lib.hid hnb
 have HM:=Lib.hid hm
 clear hnb hm
 go_enter Tryz.func7,Tryz.ntmps7
 go_wp2_with fail
 refine (few11_any n k w).mono ?_
 rintro e w' ⟨b,rfl,rfl,hb⟩
 have HBW:Hid (Below w.heap.size w w):=Lib.hid (Below.refl _ _)
 cases b
 ·clear hb
  go_wp2_with fail
  refine (HW.out _).mono ?_
  rintro e w20 ⟨rfl,hb20⟩
  have HB20:Hid (Below w.heap.size w w20):=Lib.hid (HBW.out.trans (hb20.mono HBW.out.size))
  clear hb20
  go_wp2
  go_ret
  exact ⟨rfl,HB20.out⟩
 clear hb HBW
 go_wp2_with fail
 refine (HFN.out _).mono ?_
 rintro e w1 ⟨fb,rfl,hfb0,hf1,hb1⟩
 have HFO:=Lib.hid hf1
 have HB0:=Lib.hid hb1
 have HFB:=Lib.hid hfb0
 have hs1:=hf1.lt
 clear hf1 hb1 hfb0
 go_wp2_with fail
 refine (trnew_any fb n k w1 HFO.out HNB.out.1 HNB.out.2).mono ?_
 rintro e w2 ⟨hk2,hf2,hcase⟩
 have HB2:Hid (Below w.heap.size w w2):=Lib.hid (HB0.out.trans (hk2.below HB0.out.size (by have:=HFB.out;simp;omega)))
 have HF2:=Lib.hid hf2
 have hfl2:=hf2.lt
 have hs2:=HB2.out.size
 clear hk2 hf2 HFO HB0
 rcases hcase with ⟨N,K,rfl,rfl,hNK,lb,cb,mb,cv,rfl,hlb,hc2⟩ | ⟨hno,rfl⟩
 case inr =>
  have HBW:=HB2
  clear hno
  go_wp2_with fail
  refine (HW.out _).mono ?_
  rintro e w20 ⟨rfl,hb20⟩
  have HB20:Hid (Below w.heap.size w w20):=Lib.hid (HBW.out.trans (hb20.mono HBW.out.size))
  clear hb20
  go_wp2
  go_ret
  exact ⟨rfl,HB20.out⟩
 have HC2:=Lib.hid hc2
 have HNK:=Lib.hid hNK
 clear hc2 hNK
 have HTB:=Lib.hid (trb_any w2 lb N K (cell_of_heap HC2.out.box (j:=0) rfl) (cell_of_heap HC2.out.box (j:=1) rfl) (lt_of_heap HC2.out.box) (by have:=HNK.out;omega) HNK.out.2.2)
 obtain ⟨BN,hBN⟩:∃ BN,trB N K=BN:=⟨_,rfl⟩
 rw [hBN] at HTB
 have HBL:Hid (BN≤253):=Lib.hid (by have:=eN_le HNK.out.2.2;have:=trB_le HNK.out.2.1;omega)
 have HBN:=Lib.hid hBN
 clear hBN
 go_wp2_with fail
 refine HTB.out.mono ?_
 rintro e w3 ⟨rfl,hb3⟩
 have HC3:=Lib.hid (HC2.out.below hb3)
 have HB3:Hid (Below w.heap.size w w3):=Lib.hid (HB2.out.trans (hb3.mono HB2.out.size))
 have hs3:=hb3.size
 clear hb3 HC2 HTB
 go_wp2_with fail
 refine (kfull_any _ A BN w3 (HM.out.below HB3.out) (by have:=HBL.out;omega)).mono ?_
 rintro e w4 ⟨gm,rfl,hgm,hvm,hrm,hb4⟩
 have HC4:=Lib.hid (HC3.out.below hb4)
 have HB4:Hid (Below w.heap.size w w4):=Lib.hid (HB3.out.trans (hb4.mono HB3.out.size))
 obtain ⟨M,hM⟩:∃ M,fullG A BN=M:=⟨_,rfl⟩
 have hml:M.length=BN:=by rw [← hM,fullG_len]
 rw [hM] at hrm
 have HM4:=Lib.hid hrm
 have HML:Hid (M.length=trB N K):=Lib.hid (by rw [hml,HBN.out])
 have hs4:=hb4.size
 clear hvm hrm hb4 HC3 HM hM hml
 have HENC:=Lib.hid (trenc_any w4 lb cb fb mb N K cv _ M HC4.out HNK.out.1 HNK.out.2.1 HNK.out.2.2 HM4.out (.inr (fun k hk hm=>by simp [Value.ownBlock] at hk hm;omega)))
 go_wp2_with fail
 refine HENC.out.mono ?_
 rintro e w5 (⟨hne,-⟩ | ⟨-,hk5,hf5,v5,S5,rfl,hsh⟩)
 ·exact absurd HML.out hne
 have HC5:=Lib.hid (HC4.out.step hk5 hf5)
 have HB5:Hid (Below w.heap.size w w5):=Lib.hid (HB4.out.trans (hk5.below HB4.out.size (by have:=HFB.out;simp;omega)))
 have hs5:=hk5.size
 have hsl:S5.length=N:=by have:=congrArg List.length hsh.eq;simpa using this
 obtain ⟨a5,c5,rfl⟩:=hsh.all.rd.form
 obtain ⟨s0,hs0⟩:∃ s0,S5[0]? = some s0:=⟨_,List.getElem?_eq_getElem (by rw [hsl];have:=HNK.out;omega)⟩
 obtain ⟨-,-,ga,oa,rfl,-,-⟩:=SRd.at hsh.all.rd hs0
 have hall:=hsh.all
 rw [hsl] at hall ⊢
 have HA5:=Lib.hid hall
 have HAE:=Lib.hid hsh.eq
 have hK1:=HNK.out
 obtain ⟨n1,hn1⟩:∃ n1,N - 1=n1:=⟨_,rfl⟩
 have HTL:Hid (∀ i,(trSh N (pows (eN N)) M i).length=n1):=Lib.hid fun i=>by rw [trSh_len,hn1]
 have hn0:0 < n1:=by omega
 obtain ⟨j,hj⟩:∃ j,tj % N=j:=⟨_,rfl⟩
 have hjN:j < N:=by rw [← hj];exact Nat.mod_lt _ (by omega)
 have z1:(tj:Int) % (N:Int)=(j:Int):=by rw [← hj];rfl
 have z2:Int.tmod (tj:Int) (N:Int)=(j:Int):=by rw [Int.tmod_eq_emod_of_nonneg (by omega),z1]
 have z3:IntKind.i64.wrap (j:Int)=(j:Int):=IntWalk.i64_in _ (by omega)
 have z4:¬ (N:Int)=0:=by omega
 have z5:¬ N=0:=by omega
 have z6:((N:Int) == 0)=false:=by simp;omega
 have z7:(N:Int) ≠ 0:=by omega
 have z8:IntKind.i64.wrap (tj:Int)=(tj:Int):=IntWalk.i64_in _ (by omega)
 have x1:(N:Int) - 1=(n1:Int):=by omega
 have x2:IntKind.i64.wrap (n1:Int)=(n1:Int):=IntWalk.i64_in _ (by omega)
 have hNn:N=n1+1:=by omega
 have HNN:=Lib.hid hNn
 have hN23:N≤23:=hK1.2.2
 clear hj hk5 hf5 hsh hsl hs0 hall HC4 HM4 HENC HML HB4 hK1 hNn hn1
 go_wp2
 go_loopg [16,17] N (fun gk hv iv wr=>∃ (V:Value) (l:List Sy) (I:Nat) (z:Int),V=hv∧I≤N∧I=gk∧iv=.int .i64 z∧z+1=(I:Int)∧Hid (SyOwn wr w5.heap.size V l)∧Hid (Below w5.heap.size w5 wr)∧Hid (MendI N j (fun i=>ev M ((pows (eN N)).getD (eE N i j) 0)) I l))
 case atStart=>exact ⟨_,[],N,(n1:Int),rfl,Nat.le_refl _,rfl,rfl,by have:=HNN.out;omega,Lib.hid (SyOwn.nil _ _),Lib.hid (Below.refl _ _),Lib.hid (MendI.start _ _ _ hjN)⟩
 case round =>
  obtain ⟨V,l,I,z,rfl,hI,rfl,rfl,hz,HO,HBR,HI⟩:=hrel
  have hsr:=HBR.out.size
  by_cases hI0:0 < I
  ·obtain ⟨E,rfl⟩:∃ E,I=E+1:=⟨I - 1,by omega⟩
   obtain rfl:z=(E:Int):=by omega
   obtain ⟨zz,hzz⟩:∃ zz,(E:Int) - 1=zz:=⟨_,rfl⟩
   have hzw:IntKind.i64.wrap zz=zz:=IntWalk.i64_in _ (by omega)
   have hzE:zz+1=(E:Int):=by omega
   have HZE:=Lib.hid hzE
   have i3:(0:Int)≤(E:Int):=by omega
   clear hzE hz
   by_cases hEj:E=j
   ·subst hEj
    have HI2:=Lib.hid (HI.out.skip hjN)
    have HBR2:=HBR
    have HO2:=HO
    go_wp2
    go_roundg E
    case measure=>omega
    case rel=>exact ⟨_,l,E,zz,rfl,by omega,rfl,rfl,HZE.out,HO2,HBR2,HI2⟩
   ·have hEj':¬ (E:Int)=(j:Int):=by omega
    have HCR:=Lib.hid (HC5.out.below HBR.out)
    obtain ⟨aE,cE,ce,hge⟩:=row_at (HA5.out.below HBR.out) HAE.out (show E < N by omega) (HTL.out E)
    have HGE:=Lib.hid hge
    have i1:(0:Int)≤(E:Int)∧(E:Int) < (N:Int):=by omega
    have i2:(0:Int)≤(j:Int)∧(j:Int) < (N:Int):=by omega
    clear hge
    go_wp2_with fail
    refine (trhelp_any wr lb cb fb mb N K cv _ (E:Int) (j:Int) _ HCR.out (by omega) HGE.out (by rw [HTL.out];omega)).mono ?_
    rintro e w6 ⟨b1,e1,rfl,hp1,hb6⟩
    obtain ⟨hbv,rfl⟩:=help_val (by omega) hjN hEj hp1
    have HBV:=Lib.hid hbv
    obtain ⟨y,hy⟩:∃ y,b1.n=y:=⟨_,rfl⟩
    rw [hy]
    have HY:=Lib.hid hy
    clear hbv hy
    have HB6:Hid (Below w5.heap.size w5 w6):=Lib.hid (HBR.out.trans (hb6.mono hsr))
    have HC6:=Lib.hid (HCR.out.below hb6)
    have HO6:=Lib.hid (HO.out.below hb6)
    obtain ⟨aj,cj,cej,hgj⟩:=row_at (HA5.out.below HB6.out) HAE.out hjN (HTL.out j)
    have HGJ:=Lib.hid hgj
    clear hp1 hb6 hgj ce HGE HCR HO HBR
    go_wp2_with fail
    refine (trhelp_any w6 lb cb fb mb N K cv _ (j:Int) (E:Int) _ HC6.out (by omega) HGJ.out (by rw [HTL.out];omega)).mono ?_
    rintro e w7 ⟨b2,e2,rfl,hp2,hb7⟩
    obtain ⟨hbv2,rfl⟩:=help_val hjN (by omega) (fun e=>hEj e.symm) hp2
    obtain rfl:b2=b1:=by rw [hbv2,HBV.out,eE_comm N j E]
    rw [HY.out]
    have hy:=HY.out
    have HB7:Hid (Below w5.heap.size w5 w7):=Lib.hid (HB6.out.trans (hb7.mono HB6.out.size))
    have HO7:=Lib.hid (HO6.out.below hb7)
    have hs7:=HB7.out.size
    obtain ⟨W,hW⟩:∃ W,W=w7.alloc (.cells #[.int .u8 (y:Nat)] 5):=⟨_,rfl⟩
    have hWs:W.heap.size=w7.heap.size+1:=by rw [hW];simp
    have hWb:Below w7.heap.size w7 W:=by rw [hW];exact (Below.refl _ _).alloc (Nat.le_refl _) _
    have hrd:GRd W (.slice (some ⟨w7.heap.size,0,none⟩) 1 1) [b2]:=by
     refine GRd.lit (t:=5) [b2] ?_ rfl
     rw [hW]
     refine (heap_newA _ _).trans ?_
     simp [gv,hy]
    have hll:l.length≤1000:=by
     have:=HI.out.len
     omega
    obtain ⟨v1,w8,hap,ho1,-,hb8,-⟩:=app_sy (W:=W) (s:=⟨E,some ⟨w7.heap.size,0,none⟩,1,[b2]⟩) (HO7.out.below hWb) hrd (fun a ha=>by
     cases ha
     exact ⟨hs7,fun e=>by have:=(HO7.out.row.lt _ e).2;simp at this,by simp only [];omega⟩) (by omega) (by omega) (ad:=w7.heap.size+1) hWs.symm
    have HO8:=Lib.hid ho1
    have HB8:Hid (Below w5.heap.size w5 w8):=Lib.hid (HB7.out.trans ((hWb.mono hs7).trans hb8))
    have HI8:Hid (MendI N j (fun i=>ev M ((pows (eN N)).getD (eE N i j) 0)) E (l ++ [⟨(E:Int),some ⟨w7.heap.size,0,none⟩,1,[b2]⟩])):=Lib.hid (by
     have h9:=HI.out.add (by omega) hEj (some ⟨w7.heap.size,0,none⟩) 1
     rw [← HBV.out] at h9
     exact h9)
    rw [hW] at hap
    have hap':=hap
    simp only [show [b2].length=1 from rfl] at hap'
    clear hp2 hb7 hbv2 hy hW hWs hWb hrd hll hap ho1 hb8 HO6 HO7 HC6 HGJ cej HI
    go_wp2_with (at_builtin;refine wpList_append rfl _ _ _ rfl rfl rfl hap' ?_)
    clear hap'
    go_roundg E
    case measure=>omega
    case rel=>exact ⟨v1,_,E,zz,rfl,by omega,rfl,rfl,HZE.out,HO8,HB8,HI8⟩
  ·obtain rfl:I=0:=by omega
   obtain rfl:z=-1:=by omega
   obtain ⟨w6,rfl⟩:∃ w6:World,w6=wr:=⟨_,rfl⟩
   have hll:l.length=n1:=by have:=(HI.out.good hjN).2;have:=HNN.out;omega
   have HLL:=Lib.hid hll
   have hvf:=HO.out.row.rd.form
   rw [hll] at hvf
   obtain ⟨a0,c0,rfl⟩:=hvf
   obtain ⟨g,rfl,hgB,hgl,hgc⟩:=HO.out.form0 hn0
   have HS6:=Lib.hid HO.out.all
   have HC6:=Lib.hid (HC5.out.below HBR.out)
   have HB6:Hid (Below w.heap.size w w6):=Lib.hid (HB5.out.trans (HBR.out.mono HB5.out.size))
   have HA6:=Lib.hid (HA5.out.below HBR.out)
   have HMR:Hid (∀ o c,TrRepIs N (j:Int) l o c→o=trSh N (pows (eN N)) M j∧c=0):=Lib.hid fun o c h=>HI.out.rep hjN h
   have HMF:Hid (∀ q o c,q < n1→TrRepIs N (j:Int) (l.take q ++ l.drop (q+1)) o c→c=70):=Lib.hid fun q o c hq h=>HI.out.few hjN (by rw [HLL.out];exact hq) h
   clear hll HO HI hz hI0 HC5 HA5
   go_wp2_with fail
   refine (trrep_any w6 lb cb fb mb N K cv _ (j:Int) l HC6.out (by omega) HS6.out (by rw [HLL.out];omega)).mono ?_
   rintro e w7 ⟨v1,o1,c1,rfl,hr1,ho1,hb7⟩
   obtain ⟨rfl,rfl⟩:=HMR.out _ _ hr1
   have HV7:=Lib.hid ho1.rd
   have HC7:=Lib.hid (HC6.out.below hb7)
   have HA7:=Lib.hid (HA6.out.below hb7)
   have HS7:=Lib.hid (HS6.out.below hb7)
   have HB7:Hid (Below w.heap.size w w7):=Lib.hid (HB6.out.trans (hb7.mono HB6.out.size))
   obtain ⟨q,hq⟩:∃ q,ls % n1=q:=⟨_,rfl⟩
   have hqn:q < n1:=by rw [← hq];exact Nat.mod_lt _ hn0
   have y1:(ls:Int) % (n1:Int)=(q:Int):=by rw [← hq];rfl
   have y2:Int.tmod (ls:Int) (n1:Int)=(q:Int):=by rw [Int.tmod_eq_emod_of_nonneg (by omega),y1]
   have y3:IntKind.i64.wrap (q:Int)=(q:Int):=IntWalk.i64_in _ (by omega)
   have y4:¬ (n1:Int)=0:=by omega
   have y5:¬ n1=0:=by omega
   have y6:((n1:Int) == 0)=false:=by simp;omega
   have y7:(n1:Int) ≠ 0:=by omega
   have y8:IntKind.i64.wrap (ls:Int)=(ls:Int):=IntWalk.i64_in _ (by omega)
   obtain ⟨q1,hq1⟩:∃ q1,q+1=q1:=⟨_,rfl⟩
   have y9:(q:Int)+1=(q1:Int):=by omega
   have y10:IntKind.i64.wrap (q1:Int)=(q1:Int):=IntWalk.i64_in _ (by omega)
   obtain ⟨A1,d1,hsl1,hsa1⟩:=slice_syA_h HS7.out (j:=q) rfl (by rw [HLL.out];omega)
   obtain ⟨n2,hn2⟩:∃ n2,n1 - q1=n2:=⟨_,rfl⟩
   obtain ⟨A2,d2,hsl2,hsa2⟩:=slice_syA_l HS7.out (i:=q1) rfl (by rw [HLL.out];omega) (n:=n2) (by rw [HLL.out];exact hn2)
   obtain ⟨v2,w8,hap1,ho2,-,hb8⟩:=app_sys (OwnS.nil w7 w7.heap.size) hsa1.rd (by rw [List.length_take,HLL.out];omega) (by rw [List.length_take,HLL.out];simp;omega) (Nat.le_refl _)
   have hsa2':=hsa2.below hb8
   obtain ⟨v3,w9,hap2,ho3,-,hb9⟩:=app_sys ho2 hsa2'.rd (by rw [List.length_drop,HLL.out];omega) (by rw [List.nil_append,List.length_take,List.length_drop,HLL.out];omega) hb8.size
   have hb79:=hb8.trans hb9
   have HC9:=Lib.hid (HC7.out.below hb79)
   have HA9:=Lib.hid (HA7.out.below hb79)
   have HV9:=Lib.hid (HV7.out.below hb79)
   have HB9:Hid (Below w.heap.size w w9):=Lib.hid (HB7.out.trans (hb79.mono HB7.out.size))
   have HS9:Hid (SyAll w9 v3 (l.take q ++ l.drop q1)):=Lib.hid ⟨by have:=ho3.rd;rwa [List.nil_append] at this,fun s hs=>by
    have h9:=HS7.out.below hb79
    rcases List.mem_append.1 hs with hs | hs
    ·exact h9.each s (List.mem_of_mem_take hs)
    ·exact h9.each s (List.mem_of_mem_drop hs)⟩
   have HL9:Hid ((l.take q ++ l.drop q1).length≤100):=Lib.hid (by rw [List.length_append,List.length_take,List.length_drop,HLL.out];omega)
   have HQ1:=Lib.hid hq1
   have hq2:q≤n1:=by omega
   have hq3:q1≤n1:=by omega
   clear hq hq1 hn2 hsa1 hsa2 hsa2' ho2 ho3 hb8 hb9 hb79 hr1 ho1 hb7 HC6 HA6 HS6 HV7
   go_wp2_with (at_builtin;first | refine wpList_append rfl _ _ _ rfl rfl rfl hap1 ?_ | refine wpList_append rfl _ _ _ rfl rfl rfl hap2 ?_)
   refine (trrep_any w9 lb cb fb mb N K cv _ (j:Int) _ HC9.out (by omega) HS9.out HL9.out).mono ?_
   rintro e w10 ⟨v4,o4,c4,rfl,hr4,-,hb10⟩
   rw [← HQ1.out] at hr4
   obtain rfl:=HMF.out q _ _ hqn hr4
   have HB10:Hid (Below w.heap.size w w10):=Lib.hid (HB9.out.trans (hb10.mono HB9.out.size))
   have HV10:=Lib.hid (HV9.out.below hb10)
   obtain ⟨aj,cj,cej,hgj⟩:=row_at (HA9.out.below hb10) HAE.out hjN (HTL.out j)
   have HGJ:=Lib.hid hgj
   have i2:(0:Int)≤(j:Int)∧(j:Int) < (N:Int):=by omega
   clear hr4 hb10 hgj HA9 HC9 HV9 hap1 hap2 hsl1 hsl2
   go_wp2_with fail
   refine (same_t _ _ _ w10 HV10.out HGJ.out).mono ?_
   rintro e w11 ⟨rfl,rfl⟩
   have HBW:=HB10
   go_wp2_with fail
   refine (HW.out _).mono ?_
   rintro e w20 ⟨rfl,hb20⟩
   have HB20:Hid (Below w.heap.size w w20):=Lib.hid (HBW.out.trans (hb20.mono HBW.out.size))
   clear hb20
   go_wp2
   go_ret
   exact ⟨rfl,HB20.out⟩
end Go.Proofs.YtjdnicacnaokdaaGreat
