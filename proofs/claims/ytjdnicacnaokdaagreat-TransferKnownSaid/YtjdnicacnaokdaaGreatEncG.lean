/-
  Arguments as the frame has them.
  A small code?
  Are two rows of shares the same?
  The law TransferEncode.
-/
import Derived.Test.YtjdnicacnaokdaaGreatSyG
import Derived.ChangeSlices
import Derived.Test.YtjdnicacnaokdaaGreatToldG
import Derived.Test.YtjdnicacnaokdaaGreatKit
import Derived.Test.YtjdnicacnaokdaaGreatL11W
import Derived.Test.YtjdnicacnaokdaaGreatR11G
/- Arguments as the frame has them. -/
namespace Go.Proofs.YtjdnicacnaokdaaGreat
open Go.RowKit
theorem u8_natS {a:Int} (h:(Lit.int .u8 a).wf=true):∃ n:Nat,a=(n:Int)∧n < 256:=⟨a.toNat,by have:=byte_wf h;omega,by have:=byte_wf h;omega⟩
theorem u64_wfS {a:Int} (h:(Lit.int .u64 a).wf=true):∃ n:Nat,a=(n:Int)∧n < 18446744073709551616:=by
 have h1:IntKind.u64.min=0:=rfl
 have h2:IntKind.u64.max=18446744073709551615:=rfl
 simp only [Lit.wf,Bool.and_eq_true,decide_eq_true_eq] at h
 exact ⟨a.toNat,by omega,by omega⟩
end Go.Proofs.YtjdnicacnaokdaaGreat
/- A small code? -/
namespace Go.Proofs.YtjdnicacnaokdaaGreat
open Go.RowKit Fld
set_option linter.unusedVariables false
set_option linter.unusedSimpArgs false

def Few11Post (n k:Int) (w:World) (e:Ending) (w':World):Prop:=∃ b,e=.returned (.bool b)∧w=w'∧(b=true↔n≤9∧k≤9)
set_option maxHeartbeats 1000000 in
theorem few11_any (n k:Int) (w:World) :
  Calls Tryz.prog 16 #[.int .i64 n,.int .i64 k] w (Few11Post n k w):=by
 by_cases h1:n≤9
 ·by_cases h2:k≤9
  ·have HP:Hid (Few11Post n k w (.returned (.bool true)) w):=Lib.hid ⟨true,rfl,rfl,fun _=>⟨h1,h2⟩,fun _=>rfl⟩
   go_enter Tryz.func16,Tryz.ntmps16
   go_wp2
   go_ret
   exact HP.out
  ·have HP:Hid (Few11Post n k w (.returned (.bool false)) w):=Lib.hid ⟨false,rfl,rfl,(fun h=>by cases h),fun h=>absurd h.2 h2⟩
   go_enter Tryz.func16,Tryz.ntmps16
   go_wp2
   go_ret
   exact HP.out
 ·have HP:Hid (Few11Post n k w (.returned (.bool false)) w):=Lib.hid ⟨false,rfl,rfl,(fun h=>by cases h),fun h=>absurd h.1 h1⟩
  go_enter Tryz.func16,Tryz.ntmps16
  go_wp2
  go_ret
  exact HP.out
end Go.Proofs.YtjdnicacnaokdaaGreat
/- Are two rows of shares the same? -/
namespace Go.Proofs.YtjdnicacnaokdaaGreat
open Go.RowKit Fld
set_option linter.unusedVariables false
set_option linter.unusedSimpArgs false

def SameShPost (l m:List Ro) (w:World) (e:Ending) (w':World):Prop:=∃ b,e=.returned (.bool b)∧Below w.heap.size w w'∧(b=true↔l.map Ro.d=m.map Ro.d)
theorem sameSh_take {l m:List Ro} {I:Nat} {s t:Ro} (hs:l[I]? = some s) (ht:m[I]? = some t) (h:(l.take I).map Ro.d=(m.take I).map Ro.d) (h2:s.d=t.d) :
  (l.take (I+1)).map Ro.d=(m.take (I+1)).map Ro.d:=by
 rw [List.take_add_one,List.take_add_one,hs,ht,List.map_append,List.map_append,h]
 simp [h2]
theorem sameSh_at {l m:List Ro} {I:Nat} {s t:Ro} (hs:l[I]? = some s) (ht:m[I]? = some t) (h:l.map Ro.d=m.map Ro.d):s.d=t.d:=by
 have h2:=congrArg (fun x:List (List GF)=>x[I]?) h
 simp only [List.getElem?_map,hs,ht,Option.map_some,Option.some.injEq] at h2
 exact h2
set_option maxRecDepth 100000 in
set_option maxHeartbeats 4000000 in
theorem sameshares_any (u v:Value) (l m:List Ro) (w:World) (h:RoAll w u l) (h':RoAll w v m) (hll:l.length≤1000000) :
  Calls Tryz.prog 21 #[u,v] w (SameShPost l m w):=by
 obtain ⟨a,cap,rfl⟩:=h.rd.form
 obtain ⟨a',cap',rfl⟩:=h'.rd.form
 obtain ⟨L,hL⟩:∃ L,l.length=L:=⟨_,rfl⟩
 obtain ⟨M,hM⟩:∃ M,m.length=M:=⟨_,rfl⟩
 have H:=Lib.hid h
 have H':=Lib.hid h'
 have HL:=Lib.hid hL
 have HM:=Lib.hid hM
 rw [hL] at H hll ⊢
 rw [hM] at H' ⊢
 clear h h' hL hM
 by_cases hne:L=M
 case neg =>
  have hne':¬ (L:Int)=(M:Int):=by omega
  have HP:Hid (SameShPost l m w (.returned (.bool false)) w):=Lib.hid ⟨false,rfl,Below.refl _ _,(fun h=>by cases h),fun h=>by
   have:=congrArg List.length h
   simp at this
   rw [HL.out,HM.out] at this
   exact absurd this hne⟩
  clear hne
  go_enter Tryz.func21,Tryz.ntmps21
  go_wp2
  go_ret
  exact HP.out
 subst hne
 go_enter Tryz.func21,Tryz.ntmps21
 go_wp2
 go_loopg [5] L (fun gk i wr=>∃ I:Nat,I≤L∧gk=L - I∧i=.int .i64 I∧Hid (Below w.heap.size w wr)∧Hid ((l.take I).map Ro.d=(m.take I).map Ro.d))
 case atStart=>exact ⟨0,by omega,rfl,rfl,Lib.hid (Below.refl _ _),Lib.hid rfl⟩
 case round =>
  obtain ⟨I,hI,rfl,rfl,HB,HG⟩:=hrel
  have hsr:=HB.out.size
  by_cases hlt:I < L
  ·obtain ⟨s,hs⟩:∃ s,l[I]? = some s:=⟨_,List.getElem?_eq_getElem (by rw [HL.out];exact hlt)⟩
   obtain ⟨t,ht⟩:∃ t,m[I]? = some t:=⟨_,List.getElem?_eq_getElem (by rw [HM.out];exact hlt)⟩
   have hA:=H.out.below HB.out
   have hA':=H'.out.below HB.out
   obtain ⟨-,-,b,o,rfl,hb,hat⟩:=SRd.at hA.rd hs
   obtain ⟨-,-,b',o',rfl,hb',hat'⟩:=SRd.at hA'.rd ht
   have c1:wr.cell? ⟨b,o+I,none⟩=some s.v:=by have:=hat 0 _ rfl;rwa [Nat.mul_one] at this
   have d1:wr.cell? ⟨b',o'+I,none⟩=some t.v:=by have:=hat' 0 _ rfl;rwa [Nat.mul_one] at this
   have q1:=hA.each s (List.mem_of_getElem? hs)
   have q2:=hA'.each t (List.mem_of_getElem? ht)
   obtain ⟨ax,cx,es,-⟩:=q1.form
   obtain ⟨ay,cy,et,-⟩:=q2.form
   rw [es] at c1 q1
   rw [et] at d1 q2
   have v1:=BytesRd.conv (GRd.below q1 (Below.refl _ _).drew)
   have v2:=BytesRd.conv (GRd.below q2 (Below.refl _ _).drew)
   have hst:strOf (s.d.map GF.n)=strOf (t.d.map GF.n)↔s.d=t.d:=(strOf_inj q1.1 q2.1).trans ⟨fun e=>mapn_inj e,fun e=>by rw [e]⟩
   obtain ⟨st1,hst1⟩:∃ st,strOf (s.d.map GF.n)=st:=⟨_,rfl⟩
   obtain ⟨st2,hst2⟩:∃ st,strOf (t.d.map GF.n)=st:=⟨_,rfl⟩
   rw [hst1] at v1 hst
   rw [hst2] at v2 hst
   have HLT:=Lib.hid hlt
   have HBD:Hid (Below w.heap.size w wr.drew):=Lib.hid HB.out.drew
   have HST:=Lib.hid (And.intro hs (And.intro ht hst))
   obtain ⟨kp,hkp⟩:∃ kp:Nat→Bool,∀ j,kp j=true↔j < wr.heap.size:=⟨fun j=>decide (j < wr.heap.size),by simp⟩
   have k1:kp b=true:=(hkp _).2 hb
   have k2:kp b'=true:=(hkp _).2 hb'
   have HKP:=Lib.hid hkp
   have i1:(0:Int)≤(I:Int)∧(I:Int) < (L:Int):=by omega
   clear hat hat' hs ht hA hA' q1 q2 hst hst1 hst2 hkp es et
   by_cases hss:st1=st2
   ·subst hss
    have HG2:=Lib.hid (sameSh_take HST.out.1 HST.out.2.1 HG.out (HST.out.2.2.1 rfl))
    go_upto_region 6 with fail
    have hgr:=fun (w0 W:World) (p:Addr) (hp:(fun j=>kp j=true) p.block)=>graft_cell (w0:=w0) (keep:=(fun j=>kp j=true)) W hp
    refine wp_region_tree (fun j=>kp j=true) [4,9] (.sq [0,1,2,3,5,6,7,8] (.fork 4 (.step 9 (.step 10 .done)) 9 (.step 4 (.step 10 .done)))) (by kernel_rfl) (by kernel_rfl) ?_
    simp only [Tr.sq,List.foldr_cons,List.foldr_nil,slimTr,slimStep,Oper.slim,List.contains_cons,List.contains_nil,Option.map_none,Option.map_some,List.getElem?_toArray,List.getElem?_cons_zero,List.getElem?_cons_succ,Option.bind_some,beq_self_eq_true,Bool.or_false,Nat.reduceBEq,Nat.reduceAdd,Nat.zero_add]
    repeat' first | ((with_reducible refine wpSlimT_id ?_);first | (with_reducible refine wpSlimT_done ?_) | (with_reducible refine wpSlimT_fork ?_ ?_) | ((with_reducible refine wpSlimT_step (fun K hK=>?_));go_simp;first | (refine hK _ _ ?_;clear hK K) | (refine ⟨by (intro kk hkk;first | (simp (disch:=(simp;omega)) only [hp_drew,hp_drewN,hp_alloc,hp_set];done) | (simp [hp_drew,hp_drewN,hp_alloc_if,hkk];done) | fail),hK _ _ ?_⟩;clear hK K))) | fail
    all_goals clear hgr
    all_goals go_wp2
    all_goals go_roundg (L - (I+1))
    all_goals first
     | omega
     | exact Nat.sub_lt_sub_left HLT.out (Nat.lt_succ_self I)
     | exact ⟨I+1,HLT.out,rfl,by go_num,HBD,HG2⟩
   ·have hsl:¬ st1.data.toList=st2.data.toList:=fun e=>hss (by
     have e2:st1.data=st2.data:=Array.toList_inj.1 e
     cases st1;cases st2;simp only at e2;rw [e2])
    have hb1:(st1.data.toList == st2.data.toList)=false:=by simpa using hsl
    have hb2:(st1.toList == st2.toList)=false:=by rw [ByteArray.toList_eq,ByteArray.toList_eq];exact hb1
    have HP:Hid (SameShPost l m w (.returned (.bool false)) wr.drew):=Lib.hid ⟨false,rfl,HBD.out,(fun h=>by cases h),fun h=>absurd (HST.out.2.2.2 (sameSh_at HST.out.1 HST.out.2.1 h)) hss⟩
    go_upto_region 6 with fail
    have hgr:=fun (w0 W:World) (p:Addr) (hp:(fun j=>kp j=true) p.block)=>graft_cell (w0:=w0) (keep:=(fun j=>kp j=true)) W hp
    refine wp_region_tree (fun j=>kp j=true) [4,9] (.sq [0,1,2,3,5,6,7,8] (.fork 4 (.step 9 (.step 10 .done)) 9 (.step 4 (.step 10 .done)))) (by kernel_rfl) (by kernel_rfl) ?_
    simp only [Tr.sq,List.foldr_cons,List.foldr_nil,slimTr,slimStep,Oper.slim,List.contains_cons,List.contains_nil,Option.map_none,Option.map_some,List.getElem?_toArray,List.getElem?_cons_zero,List.getElem?_cons_succ,Option.bind_some,beq_self_eq_true,Bool.or_false,Nat.reduceBEq,Nat.reduceAdd,Nat.zero_add]
    repeat' first | ((with_reducible refine wpSlimT_id ?_);first | (with_reducible refine wpSlimT_done ?_) | (with_reducible refine wpSlimT_fork ?_ ?_) | ((with_reducible refine wpSlimT_step (fun K hK=>?_));go_simp;first | (refine hK _ _ ?_;clear hK K) | (refine ⟨by (intro kk hkk;first | (simp (disch:=(simp;omega)) only [hp_drew,hp_drewN,hp_alloc,hp_set];done) | (simp [hp_drew,hp_drewN,hp_alloc_if,hkk];done) | fail),hK _ _ ?_⟩;clear hK K))) | fail
    all_goals clear hgr
    all_goals go_wp2
    all_goals go_ret
    all_goals exact HP.out
  ·obtain rfl:I=L:=by omega
   have HP:Hid (SameShPost l m w (.returned (.bool true)) wr):=Lib.hid ⟨true,rfl,HB.out,(fun _=>by have:=HG.out;rwa [← HL.out,List.take_length,show l.length=m.length by rw [HL.out,HM.out],List.take_length] at this),fun _=>rfl⟩
   go_wp2
   go_ret
   exact HP.out
end Go.Proofs.YtjdnicacnaokdaaGreat
/- The law TransferEncode. -/
namespace Go.Proofs.YtjdnicacnaokdaaGreat
open Go.RowKit Fld
set_option linter.unusedVariables false
set_option linter.unusedSimpArgs false

def I64 (x:Int):Prop:=-9223372036854775808≤x∧x≤9223372036854775807
theorem sameBool {p:Prop} {P:Bool→Prop} (hp:p) (h:∃ b,P b∧(b=true↔p)):P true:=by
 obtain ⟨b,h1,h2⟩:=h
 rw [h2.2 hp] at h1
 exact h1
theorem sh_t (u v:Value) (l m:List Ro) (w:World) (hu:RoAll w u l) (hv:RoAll w v m) (hl:l.length≤1000000) (he:l.map Ro.d=m.map Ro.d) :
  Calls Tryz.prog 21 #[u,v] w fun e w'=>e=.returned (.bool true)∧Below w.heap.size w w':=by
 refine (sameshares_any u v l m w hu hv hl).mono ?_
 rintro e w' ⟨b,rfl,hb,hbb⟩
 rw [hbb.2 he]
 exact ⟨rfl,hb⟩
def EncAns (n k:Nat) (ms:List GF) (D:List (List GF)) (c:Int):Prop:=(ms.length=trB n k∧D=(List.range n).map (trSh n (pows (eN n)) ms)∧c=0) ∨ (ms.length ≠ trB n k∧D=[]∧c=2)
theorem EncAns.one {n k:Nat} {ms:List GF} {D D':List (List GF)} {c c':Int} (h:EncAns n k ms D c) (h':EncAns n k ms D' c'):D=D'∧c=c':=by
 rcases h with ⟨a,rfl,rfl⟩ | ⟨a,rfl,rfl⟩ <;> rcases h' with ⟨b,rfl,rfl⟩ | ⟨b,rfl,rfl⟩
 ·exact ⟨rfl,rfl⟩
 ·exact absurd a b
 ·exact absurd b a
 ·exact ⟨rfl,rfl⟩
theorem EncAns.len {n k:Nat} {ms:List GF} {D:List (List GF)} {c:Int} (h:EncAns n k ms D c):D.length≤n:=by
 rcases h with ⟨a,rfl,rfl⟩ | ⟨a,rfl,rfl⟩ <;> simp
theorem roNil (w:World):RoAll w (.slice none 0 0) []:=⟨(OwnR.nil w 0).all (by simp) |>.rd,by simp⟩
set_option maxRecDepth 100000 in
set_option maxHeartbeats 4000000 in
theorem lenc11_any (n k f t:Int) (mv sv:Value) (m s:List GF) (w:World) (hnb:I64 n∧I64 k) (hm:GRd w mv m) (hs:GRd w sv s) :
  Calls Tryz.prog 4 #[.int .i64 n,.int .i64 k,mv,.int .i64 f,.int .i64 t,sv] w fun e w'=>e=.returned (.bool true)∧Below w.heap.size w w':=by
 have HW:=Lib.hid (fun W=>works11_any W)
 have HFN:=Lib.hid (fun W=>fnew_g W)
 have HNB:=Lib.hid hnb
 obtain ⟨am,cm,rfl,hcm⟩:=hm.form
 obtain ⟨az,cz,rfl,hcz⟩:=hs.form
 obtain ⟨L,hL⟩:∃ L,m.length=L:=⟨_,rfl⟩
 obtain ⟨Z,hZ⟩:∃ Z,s.length=Z:=⟨_,rfl⟩
 have HM:=Lib.hid hm
 have HS:=Lib.hid hs
 have HL:=Lib.hid hL
 have HZ:=Lib.hid hZ
 rw [hL] at HM ⊢
 rw [hZ] at HS ⊢
 clear hm hs hL hZ hcm hcz hnb
 go_enter Tryz.func4,Tryz.ntmps4
 go_wp2_with fail
 refine (few11_any n k w).mono ?_
 rintro e w' ⟨b,rfl,rfl,hb⟩
 have HBW:Hid (Below w.heap.size w w):=Lib.hid (Below.refl _ _)
 cases b
 ·clear hb
  go_wp2_with fail
  refine (HW.out _).mono ?_
  rintro e w20 ⟨rfl,hb20⟩
  have HB20:Hid (Below w.heap.size w w20):=Lib.hid (HBW.out.trans (hb20.mono HBW.out.size))
  clear hb20
  go_wp2
  go_ret
  exact ⟨rfl,HB20.out⟩
 clear hb
 by_cases h60:60 < L
 ·have h60':(60:Int) < (L:Int):=by omega
  go_wp2_with fail
  refine (HW.out _).mono ?_
  rintro e w20 ⟨rfl,hb20⟩
  have HB20:Hid (Below w.heap.size w w20):=Lib.hid (HBW.out.trans (hb20.mono HBW.out.size))
  clear hb20
  go_wp2
  go_ret
  exact ⟨rfl,HB20.out⟩
 have h60':¬ (60:Int) < (L:Int):=by omega
 by_cases z60:60 < Z
 ·have z60':(60:Int) < (Z:Int):=by omega
  go_wp2_with fail
  refine (HW.out _).mono ?_
  rintro e w20 ⟨rfl,hb20⟩
  have HB20:Hid (Below w.heap.size w w20):=Lib.hid (HBW.out.trans (hb20.mono HBW.out.size))
  clear hb20
  go_wp2
  go_ret
  exact ⟨rfl,HB20.out⟩
 have z60':¬ (60:Int) < (Z:Int):=by omega
 clear HBW
 go_wp2_with fail
 refine (HFN.out _).mono ?_
 rintro e w1 ⟨fb,rfl,hfb0,hf1,hb1⟩
 have HFO:=Lib.hid hf1
 have HB0:=Lib.hid hb1
 have HFB:=Lib.hid hfb0
 have hs1:=hf1.lt
 clear hf1 hb1 hfb0
 go_wp2_with fail
 refine (trnew_any fb n k w1 HFO.out HNB.out.1 HNB.out.2).mono ?_
 rintro e w2 ⟨hk2,hf2,hcase⟩
 have HB2:Hid (Below w.heap.size w w2):=Lib.hid (HB0.out.trans (hk2.below HB0.out.size (by have:=HFB.out;simp;omega)))
 have HF2:=Lib.hid hf2
 have hfl2:=hf2.lt
 have hs2:=HB2.out.size
 clear hk2 hf2 HFO HB0
 rcases hcase with ⟨N,K,rfl,rfl,hNK,lb,cb,mb,cv,rfl,hlb,hc2⟩ | ⟨hno,rfl⟩
 case inr =>
  have HBW:=HB2
  clear hno
  go_wp2_with fail
  refine (HW.out _).mono ?_
  rintro e w20 ⟨rfl,hb20⟩
  have HB20:Hid (Below w.heap.size w w20):=Lib.hid (HBW.out.trans (hb20.mono HBW.out.size))
  clear hb20
  go_wp2
  go_ret
  exact ⟨rfl,HB20.out⟩
 obtain ⟨wa,hwa⟩:∃ wa,wa=w2.alloc (.cells #[.int .i64 N,.int .i64 K] 29):=⟨_,rfl⟩
 have hba:Below w2.heap.size w2 wa:=by rw [hwa];exact (Below.refl _ _).alloc (Nat.le_refl _) _
 have hda:wa.heap[w2.heap.size]? = some (.cells #[.int .i64 N,.int .i64 K] 29 (0,0)):=by rw [hwa];exact heap_newA _ _
 have HBA:=Lib.hid (HB2.out.trans (hba.mono hs2))
 have hsa:=hba.size
 have hrl:=lt_of_heap hda
 have HDA:=Lib.hid hda
 have HCA:=Lib.hid (hc2.below hba)
 have hMa:=HM.out.below HBA.out
 obtain ⟨st,cc,w3,hcv1,hcv2,hcc,hvw,hb3⟩:=own_copy wa hMa
 have hrw:=View.list hvw rfl hcc
 rw [HL.out] at hcv2 hcc hrw
 have HC3:=Lib.hid (HCA.out.below hb3)
 have HB3:Hid (Below w.heap.size w w3):=Lib.hid (HBA.out.trans (hb3.mono HBA.out.size))
 have HR3:=Lib.hid hrw
 have HD3:=Lib.hid (keepB hb3 HDA.out)
 have hs3:=hb3.size
 have hs33:=hvw.1
 have HNK:=Lib.hid hNK
 clear hc2 hMa hvw hb3 hrw hba hda HDA HCA hNK
 have hcw:=hcv1
 conv at hcw=>lhs;rw [hwa]
 clear hcv1 hwa
 go_wp2_with fail
 refine (trenc_any w3 lb cb fb mb N K cv _ m HC3.out HNK.out.1 HNK.out.2.1 HNK.out.2.2 HR3.out (.inr (fun k hk hm=>by simp [Value.ownBlock] at hk hm;omega))).mono ?_
 rintro e w4 hcase
 have hx4:Kp [fb] w3 w4∧FOk w4 fb∧∃ v S D c,e=.returned (.tuple #[v,.int .i64 c])∧RoAll w4 v S∧S.map Ro.d=D∧EncAns N K m D c:=by
  rcases hcase with ⟨hne,rfl,h⟩ | ⟨heq,hk,hf,v,S,rfl,hsh⟩
  ·exact ⟨Kp.of_below h,HC3.out.code.ok.below h,_,[],[],2,rfl,roNil _,rfl,.inr ⟨hne,rfl,rfl⟩⟩
  ·exact ⟨hk,hf,v,S,_,0,rfl,hsh.all,hsh.eq,.inl ⟨heq,rfl,rfl⟩⟩
 obtain ⟨hk4,hf4,v4,S4,D,c,rfl,hro4,hd4,hans⟩:=hx4
 have hfbw:=HFB.out
 have HB4:Hid (Below w.heap.size w w4):=Lib.hid (HB3.out.trans (hk4.below HB3.out.size (by simp;omega)))
 have HC4:=Lib.hid (HC3.out.step hk4 hf4)
 have HO4:=Lib.hid hro4
 have HR4:=Lib.hid (HR3.out.kp hk4 (fun k hk hm=>by simp [Value.ownBlock] at hk hm;omega))
 have hfb2:w2.heap.size ≠ fb:=by omega
 have HD4:=Lib.hid (hk4.heap HD3.out (by simpa using hfb2))
 have hs4:=hk4.size
 have hlr4:=lt_of_heap HD4.out
 have HM4:=Lib.hid (HM.out.below HB4.out)
 have y0:=cell_of_heap HD4.out (j:=0) rfl
 have y1:=cell_of_heap HD4.out (j:=1) rfl
 have HANS:=Lib.hid hans
 have HD:=Lib.hid hd4
 have HREN:=Lib.hid (rtenc_any w4 N K _ m HNK.out.1 HNK.out.2.1 HNK.out.2.2 HM4.out (by rw [HL.out];omega))
 clear hcase hk4 hf4 hro4 hd4 hans HC3 HR3 HD3 hcw hcv2 hcc
 go_wp2_with fail
 refine HREN.out.mono ?_
 rintro e w5 ⟨hb5,hcase⟩
 have hx5:∃ v S,e=.returned (.tuple #[v,.int .i64 c])∧RoAll w5 v S∧S.map Ro.d=D:=by
  rcases hcase with ⟨hne,rfl⟩ | ⟨heq,v,S,rfl,hsh⟩
  ·obtain ⟨rfl,rfl⟩:=HANS.out.one (.inr ⟨hne,rfl,rfl⟩)
   exact ⟨_,[],rfl,roNil _,rfl⟩
  ·obtain ⟨rfl,rfl⟩:=HANS.out.one (.inl ⟨heq,rfl,rfl⟩)
   exact ⟨v,S,rfl,hsh.all,hsh.eq⟩
 obtain ⟨v5,S5,rfl,hro5,hd5⟩:=hx5
 have HB5:Hid (Below w.heap.size w w5):=Lib.hid (HB4.out.trans (hb5.mono HB4.out.size))
 have HC5:=Lib.hid (HC4.out.below hb5)
 have HO5:=Lib.hid (HO4.out.below hb5)
 have HP5:=Lib.hid hro5
 have HR5:=Lib.hid (HR4.out.below hb5)
 have HD5:=Lib.hid (keepB hb5 HD4.out)
 have HE:=Lib.hid (HD.out.trans hd5.symm)
 clear hcase hb5 hro5 hd5 HC4 HO4 HR4 y0 y1 HREN HM4
 go_wp2_with fail
 refine (trhelp_any w5 lb cb fb mb N K cv _ f t s HC5.out (by have:=HNK.out;omega) (HS.out.below HB5.out) (by rw [HZ.out];omega)).mono ?_
 rintro e w6 ⟨x,i,rfl,hi,hb6⟩
 have HB6:Hid (Below w.heap.size w w6):=Lib.hid (HB5.out.trans (hb6.mono HB5.out.size))
 have HO6:=Lib.hid (HO5.out.below hb6)
 have HP6:=Lib.hid (HP5.out.below hb6)
 have HR6:=Lib.hid (HR5.out.below hb6)
 have HD6:=Lib.hid (keepB hb6 HD5.out)
 have HI:=Lib.hid hi
 have y0:=cell_of_heap HD6.out (j:=0) rfl
 have y1:=cell_of_heap HD6.out (j:=1) rfl
 have hlr6:=lt_of_heap HD6.out
 have HRH:=Lib.hid (rthelp_any w6 N K _ f t s (by have:=HNK.out;omega) (HS.out.below HB6.out) (by rw [HZ.out];omega))
 clear hb6 hi HC5 HO5 HP5 HR5 HD5
 go_wp2_with fail
 refine HRH.out.mono ?_
 rintro e w7 ⟨x',i',rfl,hi',hb7⟩
 obtain ⟨rfl,rfl⟩:=HI.out.one hi'
 have HB7:Hid (Below w.heap.size w w7):=Lib.hid (HB6.out.trans (hb7.mono HB6.out.size))
 have HO7:=Lib.hid (HO6.out.below hb7)
 have HP7:=Lib.hid (HP6.out.below hb7)
 have HR7:=Lib.hid (HR6.out.below hb7)
 have HSL:Hid (S4.length≤1000000):=Lib.hid (by
  have h1:=HANS.out.len
  have h2:=HNK.out
  rw [← HD.out,List.length_map] at h1
  omega)
 clear hb7 hi' HO6 HP6 HR6 HRH y0 y1
 go_wp2_with fail
 refine (sh_t _ _ _ _ w7 HO7.out HP7.out HSL.out HE.out).mono ?_
 rintro e w8 ⟨rfl,hb8⟩
 have HB8:Hid (Below w.heap.size w w8):=Lib.hid (HB7.out.trans (hb8.mono HB7.out.size))
 have HR8:=Lib.hid (HR7.out.below hb8)
 clear hb8 HO7 HP7 HR7
 go_wp2_with fail
 refine (same_t _ _ m w8 HR8.out (HM.out.below HB8.out)).mono ?_
 rintro e w9 ⟨rfl,rfl⟩
 have HBW:=HB8
 go_wp2_with fail
 refine (HW.out _).mono ?_
 rintro e w20 ⟨rfl,hb20⟩
 have HB20:Hid (Below w.heap.size w w20):=Lib.hid (HBW.out.trans (hb20.mono HBW.out.size))
 clear hb20
 go_wp2
 go_ret
 exact ⟨rfl,HB20.out⟩
end Go.Proofs.YtjdnicacnaokdaaGreat
