/-
  The examples of the chapter on codes that are repaired by just what they store: plain laws.
  What chapters' examples share: rows written out, shares.
  Rows of numbers that are the same; whether a number is in a row.
  A small code? What shares are answered with: the one answer that there is.
  Arguments as the frame has them.
  Sizes of small codes.
  One call behind another.
-/
import Derived.Test.YtcclhhjcejmepaaGreatZMbA
import Derived.Test.YtcclhhjcejmepaaGreatZMbEnc
import Derived.Test.YtcclhhjcejmepaaGreatZMbRep
import Derived.Test.YtcclhhjcejmepaaGreatZMbD4
import Derived.Test.YtcclhhjcejmepaaGreatZKit
import Derived.Test.YtcclhhjcejmepaaGreatZAppG
import Derived.Test.YtcclhhjcejmepaaGreatZSyG
import Derived.Test.YtcclhhjcejmepaaGreatZWeD
import Derived.Test.YtcclhhjcejmepaaGreatZMbD3
import Derived.Test.YtcclhhjcejmepaaGreatZToldG
import Derived.ChangeSlices
import Derived.Test.YtcclhhjcejmepaaGreatZBase
/- The examples of the chapter on codes that are repaired by just what they store: plain laws. -/
set_option maxRecDepth 100000
set_option maxHeartbeats 4000000
namespace Go.Proofs.YtcclhhjcejmepaaGreat
open Go.RowKit Fld
set_option linter.unusedVariables false
set_option linter.unusedSimpArgs false

theorem k10_B:mbB 2 2=3:=rfl
theorem k10_a:mbSh 4 2 2 (gl [1,2,3])=[gl [3,1],gl [5,4],gl [9,14],gl [17,26]]:=by kernel_rfl
theorem k10_s1:mbF 4 2 2 (gl [1,2,3]) 1=gl [5,4]:=by kernel_rfl
theorem k10_s3:mbF 4 2 2 (gl [1,2,3]) 3=gl [17,26]:=by kernel_rfl
theorem k10_new {fb:Nat} {w w':World} {e:Ending} (h:MbNewPost fb 4 2 2 w e w'):Kp [fb] w w'∧FOk w' fb∧∃ lb t1 t2 pb v1 v2,e=.returned (.tuple #[.pointer (some ⟨lb,0,none⟩),.int .i64 0])∧w.heap.size≤lb∧MbC w' lb t1 t2 fb pb 4 2 2 v1 v2:=by
 obtain ⟨h1,h2,⟨N,K,D,e1,e2,e3,-,lb,t1,t2,pb,v1,v2,h4⟩ | ⟨h3,-⟩⟩:=h
 ·obtain rfl:N=4:=by omega
  obtain rfl:K=2:=by omega
  obtain rfl:D=2:=by omega
  exact ⟨h1,h2,lb,t1,t2,pb,v1,v2,h4⟩
 ·exact absurd ⟨by omega,by omega,by omega,by omega⟩ h3
theorem k10_bad {fb:Nat} {n k d:Int} {w w':World} {e:Ending} (h:MbNewPost fb n k d w e w') (hn:¬ (1≤k∧k≤d∧d < n∧n≤255)):Kp [fb] w w'∧FOk w' fb∧e=.returned (.tuple #[.pointer none,.int .i64 2]):=by
 obtain ⟨h1,h2,⟨N,K,D,e1,e2,e3,h3,-⟩ | ⟨-,h3⟩⟩:=h
 ·exact absurd ⟨by omega,by omega,by omega,by omega⟩ hn
 ·exact ⟨h1,h2,h3⟩
theorem k10_hb:(sm 2 fun i=>(gl [5,4]).getD i 0 * pw ((pows 4).getD (0:Int).toNat 0) i)=gfn 1:=GF.ext' (by rfl)
theorem k10_help {fb:Nat} {w w':World} {e:Ending} (h:MbHelpPost fb 4 2 1 0 (gl [5,4]) w e w'):e=.returned (.tuple #[.int .u8 1,.int .i64 0])∧Kp [fb] w w'∧FOk w' fb:=by
 obtain ⟨b,c,rfl,h1,h2,h3⟩:=h
 rcases h1 with ⟨h1,-⟩ | ⟨-,rfl,rfl⟩
 ·exact absurd ⟨by decide,by decide,by decide,rfl⟩ h1
 ·rw [k10_hb]
  exact ⟨rfl,h2,h3⟩
theorem k10_r1:ev (gl [3,1]) ((pows 4).getD 1 0)=gfn 1:=GF.ext' (by rfl)
theorem k10_r2:ev (gl [3,1]) ((pows 4).getD 2 0)=gfn 7:=by kernel_rfl
theorem k10_wr:wrS (pows 4) [1,2] (gl [1,7]) (gl [3,1])=[]:=by
 have h:wrI (ptsOf (pows 4) [1,2]) (gl [1,7]) (gl [3,1])=[]:=by
  unfold wrI
  refine List.filter_eq_nil_iff.2 fun i hi=>?_
  have hi':i < 2:=List.mem_range.1 hi
  rw [decide_eq_true_eq]
  intro hne
  rcases (show i=0 ∨ i=1 by omega) with rfl | rfl
  ·exact hne k10_r1
  ·exact hne k10_r2
 rw [wrS,wrP,h]
 simp [riseI]
theorem k10_rep {B:Nat} {w':World} {e:Ending} {a0 a1:Option Addr} {c0 c1:Nat} (h:MbRepIs B 4 2 (pows 4) 0 [⟨1,a0,c0,gl [1]⟩,⟨2,a1,c1,gl [7]⟩] 0 e w'):∃ a c v,e=.returned (.tuple #[.slice a 2 c,v,.int .i64 0])∧OwnG w' B (.slice a 2 c) (gl [3,1]):=by
 have hg:GoodP (pows 4).length [1,2]:=⟨by decide,by decide⟩
 have hy:ysL [⟨1,a0,c0,gl [1]⟩,⟨2,a1,c1,gl [7]⟩]=gl [1,7]:=rfl
 have ht:WeTells (pows 4) 2 [1,2] (gl [1,7]) 0 (some (gl [3,1])):=⟨rfl,by rw [k10_wr];exact Nat.le_refl _⟩
 rcases h with ⟨h1,-⟩ | ⟨-,h⟩
 ·refine absurd ⟨by decide,⟨fun x hx=>?_,by simp [Sy.nodes]⟩,fun s hs=>?_⟩ h1
  ·simp [Sy.nodes] at hx
   omega
  ·simp at hs
   rcases hs with rfl | rfl <;> exact ⟨by simp,rfl⟩
 ·rw [hy] at h
  rcases h with ⟨h1 | h1,-⟩ | ⟨-,⟨h1,-⟩ | ⟨-,⟨m,v1,v2,rfl,h2,h3,-⟩ | ⟨-,h2⟩⟩⟩
  ·exact absurd ⟨hg,rfl⟩ h1
  ·omega
  ·simp [Sy.nodes] at h1
  ·have:=weTells_one (pows_nodup (by decide)) hg (by decide) h2 ht
   cases this
   obtain ⟨a,c,rfl,-⟩:=h3.form
   exact ⟨a,c,v2,rfl,h3⟩
  ·have:=weTells_one (pows_nodup (by decide)) hg (by decide) h2 ht
   cases this
theorem k10_dec {B:Nat} {w':World} {e:Ending} {a0 a1:Option Addr} {c0 c1:Nat} (h:MbDecAns B 4 2 2 [⟨1,a0,c0,gl [5,4]⟩,⟨3,a1,c1,gl [17,26]⟩] 0 e w'):∃ a c a2 c2,e=.returned (.tuple #[.slice a 3 c,.slice a2 0 c2,.int .i64 0])∧OwnG w' B (.slice a 3 c) (gl [1,2,3]):=by
 have hg:SyGood 4 (-1) 2 [⟨1,a0,c0,gl [5,4]⟩,⟨3,a1,c1,gl [17,26]⟩]:=⟨⟨fun x hx=>by simp [Sy.nodes] at hx;omega,by simp [Sy.nodes]⟩,fun s hs=>by
  simp at hs
  rcases hs with rfl | rfl <;> exact ⟨by simp,rfl⟩⟩
 have hw:wrD (mbF 4 2 2 (gl [1,2,3])) [⟨1,a0,c0,gl [5,4]⟩,⟨3,a1,c1,gl [17,26]⟩]=[]:=by
  refine List.eq_nil_of_length_eq_zero ?_
  rw [wrD_len,List.filter_eq_nil_iff.2 fun s hs=>?_]
  ·rfl
  ·simp at hs
   rcases hs with rfl | rfl
   ·simp only [badS,decide_eq_true_eq]
    exact fun hne=>hne k10_s1.symm
   ·simp only [badS,decide_eq_true_eq]
    exact fun hne=>hne k10_s3.symm
 have ht:TellD (mbOk 2 2) (mbF 4 2 2) [⟨1,a0,c0,gl [5,4]⟩,⟨3,a1,c1,gl [17,26]⟩] 0 (some (gl [1,2,3])):=⟨rfl,by rw [hw];exact Nat.le_refl _⟩
 have hi:InjD (mbOk 2 2) (mbF 4 2 2) 4 2:=mb_inj (by decide) (pows_nodup (by decide)) (pows_len _)
 rcases h with ⟨h1,-⟩ | ⟨-,⟨h1,-⟩ | ⟨-,⟨m,v1,v2,rfl,h2,h3,h4⟩ | ⟨-,h2⟩⟩⟩
 ·exact absurd ⟨by decide,hg⟩ h1
 ·simp at h1
 ·have:=TellD.one hi hg.1 (Nat.le_refl 2) h2 ht
  cases this
  rw [hw] at h4
  obtain ⟨a,c,rfl,-⟩:=h3.form
  obtain ⟨a2,c2,rfl⟩:=h4.rd.form
  exact ⟨a,c,a2,c2,rfl,h3⟩
 ·have:=TellD.one hi hg.1 (Nat.le_refl 2) h2 ht
  cases this
end Go.Proofs.YtcclhhjcejmepaaGreat
/- What chapters' examples share: rows written out, shares. -/
namespace Go.Proofs.YtcclhhjcejmepaaGreat
open Go.RowKit Fld
set_option linter.unusedVariables false
set_option linter.unusedSimpArgs false

theorem SyAll.lit' {W:World} {b:Nat} {t:TypeId} (l:List Sy) (h:W.heap[b]? = some (.cells (flatS Sy.cells l).toArray t (0,0))) {n:Nat} (hn:l.length=n) (hs:∀ s ∈ l,s.rd W):SyAll W (.slice (some ⟨b,0,none⟩) n n) l:=by
 subst hn
 refine ⟨⟨_,_,rfl,Nat.le_refl _,fun hne=>⟨b,0,rfl,lOH h,fun i c hi j u hj=>?_⟩⟩,hs⟩
 rw [cell_of_row _ _ _ _ _ (0,0) h]
 have:=flatS_at Sy.cells_length l i c j u hi hj
 simp only [Nat.zero_add]
 rw [List.getElem?_toArray,this]
theorem ro3_form {S:List Ro} {d0 d1 d2:List GF} (h:S.map Ro.d=[d0,d1,d2]):∃ a0 c0 a1 c1 a2 c2,S=[⟨a0,c0,d0⟩,⟨a1,c1,d1⟩,⟨a2,c2,d2⟩]:=by
 obtain ⟨s0,l0,rfl,h0,h⟩:=List.map_eq_cons_iff.1 h
 obtain ⟨s1,l1,rfl,h1,h⟩:=List.map_eq_cons_iff.1 h
 obtain ⟨s2,l2,rfl,h2,h⟩:=List.map_eq_cons_iff.1 h
 obtain rfl:=List.map_eq_nil_iff.1 h
 subst h0 h1 h2
 exact ⟨_,_,_,_,_,_,rfl⟩
theorem ro4_form {S:List Ro} {d0 d1 d2 d3:List GF} (h:S.map Ro.d=[d0,d1,d2,d3]):∃ a0 c0 a1 c1 a2 c2 a3 c3,S=[⟨a0,c0,d0⟩,⟨a1,c1,d1⟩,⟨a2,c2,d2⟩,⟨a3,c3,d3⟩]:=by
 obtain ⟨s0,l0,rfl,h0,h⟩:=List.map_eq_cons_iff.1 h
 obtain ⟨a1,c1,a2,c2,a3,c3,rfl⟩:=ro3_form h
 subst h0
 exact ⟨_,_,_,_,_,_,_,_,rfl⟩
theorem ShAll.kp {w w':World} {B:Nat} {v:Value} {D:List (List GF)} {S:List Ro} (h:ShAll w B v D S) {T:List Nat} (hk:Kp T w w') (hT:∀ x ∈ T,x < B):ShAll w' B v D S:=by
 refine ⟨⟨SRd.kp h.all.rd hk fun _ b hb hm=>by have:=hT _ hm;have:=h.own b hb;omega,fun s hs=>(h.all.each s hs).kp hk fun b hb hm=>?_⟩,h.eq,h.new,h.own⟩
 cases e:s.a with
 | none=>rw [Ro.v,e] at hb;simp [Value.ownBlock] at hb
 | some A =>
  rw [Ro.v,e] at hb
  simp [Value.ownBlock] at hb
  subst hb
  have:=hT _ hm
  have:=h.new s hs A e
  omega
theorem ShAll.below {w w':World} {B:Nat} {v:Value} {D:List (List GF)} {S:List Ro} (h:ShAll w B v D S) (hb:Below w.heap.size w w'):ShAll w' B v D S:=⟨h.all.below hb,h.eq,h.new,h.own⟩
theorem same_t (u v:Value) (l:List GF) (w:World) (hu:GRd w u l) (hv:GRd w v l):Calls Tryz.prog 20 #[u,v] w fun e w'=>e=.returned (.bool true)∧w=w' :=
 (same_g u v l l w hu hv).mono fun e w' h=>⟨by rw [h.1,decide_eq_true rfl],h.2⟩
theorem two_sy {W:World} {b a0 a1:Nat} {n0 n1:Int} {d0 d1:List GF} {l0 l1:Nat} (h:W.heap[b]? = some (.cells #[.int .i64 n0,.slice (some ⟨a0,0,none⟩) l0 l0,.int .i64 n1,.slice (some ⟨a1,0,none⟩) l1 l1] 59 (0,0)))
  (h0:GRd W (.slice (some ⟨a0,0,none⟩) l0 l0) d0) (h1:GRd W (.slice (some ⟨a1,0,none⟩) l1 l1) d1) (hl0:d0.length=l0) (hl1:d1.length=l1) :
  SyAll W (.slice (some ⟨b,0,none⟩) 2 2) [⟨n0,some ⟨a0,0,none⟩,l0,d0⟩,⟨n1,some ⟨a1,0,none⟩,l1,d1⟩]:=by
 subst hl0 hl1
 refine SyAll.lit' _ h rfl fun s hs=>?_
 simp at hs
 rcases hs with rfl | rfl
 ·exact h0
 ·exact h1
end Go.Proofs.YtcclhhjcejmepaaGreat
/- Rows of numbers that are the same; whether a number is in a row. -/
namespace Go.Proofs.YtcclhhjcejmepaaGreat
open Go.RowKit Fld
set_option linter.unusedVariables false
set_option linter.unusedSimpArgs false

def BoolPost (b:Bool) (w:World) (e:Ending) (w':World):Prop:=e=.returned (.bool b)∧Below w.heap.size w w'
theorem sameI_done {l m:List Int} {A:Nat} (hl:l.length=A) (hm:m.length=A) (h:∀ j,j < A→l[j]? = m[j]?):l=m:=List.ext_getElem? fun i=>by
 by_cases hi:i < A
 ·exact h i hi
 ·rw [List.getElem?_eq_none (by omega),List.getElem?_eq_none (by omega)]
theorem sameI_any (u v:Value) (l m:List Int) (w:World) (hu:IRd w u l) (hv:IRd w v m) (hl:l.length≤1000000) (hml:m.length≤1000000) :
  Calls Tryz.prog 25 #[u,v] w (BoolPost (decide (l=m)) w):=by
 obtain ⟨au,cu,rfl⟩:=hu.form
 obtain ⟨av,cv,rfl⟩:=hv.form
 obtain ⟨A,hA⟩:∃ A,l.length=A:=⟨_,rfl⟩
 obtain ⟨B,hB⟩:∃ B,m.length=B:=⟨_,rfl⟩
 have HA:=Hd hA
 have HB:=Hd hB
 rw [hA] at hu hl ⊢
 rw [hB] at hv hml ⊢
 have HU:=Hd hu
 have HV:=Hd hv
 clear hu hv hA hB
 go_enter Tryz.func25,Tryz.ntmps25
 by_cases hAB:A=B
 ·subst hAB
  go_wp2
  go_loopg [5] A (fun gk i wr=>∃ I:Nat,I≤A∧gk=A - I∧i=.int .i64 I∧Hid (∀ j,j < I→l[j]? = m[j]?)∧Hid (Below w.heap.size w wr))
  case atStart=>exact ⟨0,by omega,rfl,rfl,Hd (fun j hj=>by omega),Hd (Below.refl _ _)⟩
  case round =>
   obtain ⟨I,hI,rfl,rfl,HE,HBL⟩:=hrel
   have hs:=HBL.out.size
   by_cases hlt:I < A
   ·obtain ⟨x,hx⟩:∃ x,l[I]? = some x:=⟨_,List.getElem?_eq_getElem (by rw [HA.out];exact hlt)⟩
    obtain ⟨y,hy⟩:∃ y,m[I]? = some y:=⟨_,List.getElem?_eq_getElem (by rw [HB.out];exact hlt)⟩
    obtain ⟨-,-,b1,o1,rfl,hb1,-⟩:=IRd.cell HU.out hx
    obtain ⟨-,-,b2,o2,rfl,hb2,-⟩:=IRd.cell HV.out hy
    have c1:=IRd.cells (HU.out.below HBL.out) I x hx
    have c2:=IRd.cells (HV.out.below HBL.out) I y hy
    have HXX:=Hd hx
    have HYY:=Hd hy
    have HBD:Hid (Below w.heap.size w wr.drew):=Hd HBL.out.drew
    obtain ⟨kp,hkp⟩:∃ kp:Nat→Bool,∀ j,kp j=true↔j < wr.heap.size:=⟨fun j=>decide (j < wr.heap.size),by simp⟩
    have hk1:kp b1=true:=(hkp _).2 (by omega)
    have hk2:kp b2=true:=(hkp _).2 (by omega)
    have HKP:=Hd hkp
    have i1:(0:Int)≤(I:Int)∧(I:Int) < (A:Int):=by omega
    clear hkp hx hy
    by_cases hxy:x=y
    ·subst hxy
     have HE2:Hid (∀ j,j < I+1→l[j]? = m[j]?):=Hd fun j hj=>by
      by_cases e:j=I
      ·rw [e,HXX.out,HYY.out]
      ·exact HE.out j (by omega)
     go_upto_region 6 with fail
     have hgr:=fun (w0 W:World) (p:Addr) (hp:(fun j=>kp j=true) p.block)=>g_C (w0:=w0) (keep:=(fun j=>kp j=true)) W hp
     refine w_T (fun j=>kp j=true) [] (.sq [0,1,2,3,4,5,6,7,8] .done) (by kernel_rfl) (by kernel_rfl) ?_
     simp only [Tr.sq,List.foldr_cons,List.foldr_nil,slimTr,slimStep,Oper.slim,List.contains_cons,List.contains_nil,Option.map_none,Option.map_some,List.getElem?_toArray,List.getElem?_cons_zero,List.getElem?_cons_succ,Option.bind_some,beq_self_eq_true,Bool.or_false,Nat.reduceBEq,Nat.reduceAdd,Nat.zero_add]
     repeat' first | ((with_reducible refine w_I ?_);first | (with_reducible refine w_D ?_) | ((with_reducible refine w_S (fun K hK=>?_));go_simp;(refine hK _ _ ?_;clear hK K))) | fail
     clear hgr
     go_wp2
     go_roundg (A - (I+1))
     case measure=>omega
     case rel=>exact ⟨I+1,by omega,rfl,by go_num,HE2,HBD⟩
    ·have HNE:Hid (decide (l=m)=false):=Hd (decide_eq_false fun e=>hxy (by
      have h1:=HXX.out
      rw [e,HYY.out] at h1
      exact (Option.some.inj h1).symm))
     go_upto_region 6 with fail
     have hgr:=fun (w0 W:World) (p:Addr) (hp:(fun j=>kp j=true) p.block)=>g_C (w0:=w0) (keep:=(fun j=>kp j=true)) W hp
     refine w_T (fun j=>kp j=true) [] (.sq [0,1,2,3,4,5,6,7,8] .done) (by kernel_rfl) (by kernel_rfl) ?_
     simp only [Tr.sq,List.foldr_cons,List.foldr_nil,slimTr,slimStep,Oper.slim,List.contains_cons,List.contains_nil,Option.map_none,Option.map_some,List.getElem?_toArray,List.getElem?_cons_zero,List.getElem?_cons_succ,Option.bind_some,beq_self_eq_true,Bool.or_false,Nat.reduceBEq,Nat.reduceAdd,Nat.zero_add]
     repeat' first | ((with_reducible refine w_I ?_);first | (with_reducible refine w_D ?_) | ((with_reducible refine w_S (fun K hK=>?_));go_simp;(refine hK _ _ ?_;clear hK K))) | fail
     clear hgr
     go_wp2
     go_ret
     exact ⟨by rw [HNE.out];rfl,HBD.out⟩
   ·obtain rfl:I=A:=by omega
    have HEQ:Hid (decide (l=m)=true):=Hd (decide_eq_true (sameI_done HA.out HB.out HE.out))
    go_wp2
    go_ret
    exact ⟨by rw [HEQ.out];rfl,HBL.out⟩
 ·have hAB':¬ (A:Int)=(B:Int):=by omega
  have HNE:Hid (decide (l=m)=false):=Hd (decide_eq_false fun e=>hAB (by rw [← HA.out,← HB.out,e]))
  clear hAB
  go_wp2
  go_ret
  exact ⟨by rw [HNE.out];rfl,Below.refl _ _⟩
end Go.Proofs.YtcclhhjcejmepaaGreat
/- A small code? What shares are answered with: the one answer that there is. -/
namespace Go.Proofs.YtcclhhjcejmepaaGreat
open Go.RowKit Fld
set_option linter.unusedVariables false
set_option linter.unusedSimpArgs false

def Few10Post (n k d:Int) (w:World) (e:Ending) (w':World):Prop:=∃ b,e=.returned (.bool b)∧w=w'∧(b=true↔n≤9∧k≤9∧d≤9)
theorem few10_any (n k d:Int) (w:World) :
  Calls Tryz.prog 11 #[.int .i64 n,.int .i64 k,.int .i64 d] w (Few10Post n k d w):=by
 by_cases h1:n≤9
 ·by_cases h2:k≤9
  ·by_cases h3:d≤9
   ·have HP:Hid (Few10Post n k d w (.returned (.bool true)) w):=Hd ⟨true,rfl,rfl,fun _=>⟨h1,h2,h3⟩,fun _=>rfl⟩
    go_enter Tryz.func11,Tryz.ntmps11
    go_wp2
    go_ret
    exact HP.out
   ·have HP:Hid (Few10Post n k d w (.returned (.bool false)) w):=Hd ⟨false,rfl,rfl,(fun h=>by cases h),fun h=>absurd h.2.2 h3⟩
    go_enter Tryz.func11,Tryz.ntmps11
    go_wp2
    go_ret
    exact HP.out
  ·have HP:Hid (Few10Post n k d w (.returned (.bool false)) w):=Hd ⟨false,rfl,rfl,(fun h=>by cases h),fun h=>absurd h.2.1 h2⟩
   go_enter Tryz.func11,Tryz.ntmps11
   go_wp2
   go_ret
   exact HP.out
 ·have HP:Hid (Few10Post n k d w (.returned (.bool false)) w):=Hd ⟨false,rfl,rfl,(fun h=>by cases h),fun h=>absurd h.1 h1⟩
  go_enter Tryz.func11,Tryz.ntmps11
  go_wp2
  go_ret
  exact HP.out
def MbDecIs (n k d:Nat) (l:List Sy) (t:Int) (c:Int) (m:List GF) (zs:List Int):Prop :=
 ¬ (0≤t∧SyGood n (-1) d l)∧c=2∧m=[]∧zs=[] ∨
 (0≤t∧SyGood n (-1) d l)∧((l.length:Int) < (k:Int)+2 * t∧c=70∧m=[]∧zs=[] ∨
  (k:Int)+2 * t≤(l.length:Int)∧(c=0∧TellD (mbOk k d) (mbF n k d) l t.toNat (some m)∧zs=wrD (mbF n k d m) l ∨
   c=80∧TellD (mbOk k d) (mbF n k d) l t.toNat none∧m=[]∧zs=[]))
theorem MbDecIs.one {n k d:Nat} {l:List Sy} {t c c':Int} {m m':List GF} {zs zs':List Int} (hkd:k≤d) (hn:n≤255) (h:MbDecIs n k d l t c m zs) (h':MbDecIs n k d l t c' m' zs'):c=c'∧m=m'∧zs=zs':=by
 have key:(0≤t∧SyGood n (-1) d l)→(k:Int)+2 * t≤(l.length:Int)→∀ o o',TellD (mbOk k d) (mbF n k d) l t.toNat o→TellD (mbOk k d) (mbF n k d) l t.toNat o'→o=o':=fun hg hk o o' h1 h2 =>
  TellD.one (mb_inj hkd (pows_nodup hn) (pows_len _)) hg.2.1 (by omega) h1 h2
 rcases h with ⟨h1,rfl,rfl,rfl⟩ | ⟨h1,⟨h2,rfl,rfl,rfl⟩ | ⟨h2,⟨rfl,h3,rfl⟩ | ⟨rfl,h3,rfl,rfl⟩⟩⟩ <;> rcases h' with ⟨g1,rfl,rfl,rfl⟩ | ⟨g1,⟨g2,rfl,rfl,rfl⟩ | ⟨g2,⟨rfl,g3,rfl⟩ | ⟨rfl,g3,rfl,rfl⟩⟩⟩
 all_goals first
  | exact ⟨rfl,rfl,rfl⟩
  | exact absurd g1 h1
  | exact absurd h1 g1
  | omega
  | (cases key h1 h2 _ _ h3 g3;exact ⟨rfl,rfl,rfl⟩)
  | (cases key h1 h2 _ _ h3 g3)
theorem MbDecAns.is {B:Nat} {n k d:Nat} {l:List Sy} {t:Int} {e:Ending} {w':World} (h:MbDecAns B n k d l t e w'):∃ c m zs v1 v2,e=.returned (.tuple #[v1,v2,.int .i64 c])∧MbDecIs n k d l t c m zs∧OwnG w' B v1 m∧RdZ w' B v2 zs:=by
 have hnz:RdZ w' B (.slice none 0 0) []:=RdZ.of_own (OwnZ.nil _ _)
 rcases h with ⟨h1,rfl⟩ | ⟨h1,⟨h2,rfl⟩ | ⟨h2,⟨m,v1,v2,rfl,h3,h4,h5⟩ | ⟨rfl,h3⟩⟩⟩
 ·exact ⟨2,[],[],_,_,rfl,.inl ⟨h1,rfl,rfl,rfl⟩,OwnG.nil _ _,hnz⟩
 ·exact ⟨70,[],[],_,_,rfl,.inr ⟨h1,.inl ⟨h2,rfl,rfl,rfl⟩⟩,OwnG.nil _ _,hnz⟩
 ·exact ⟨0,m,_,v1,v2,rfl,.inr ⟨h1,.inr ⟨h2,.inl ⟨rfl,h3,rfl⟩⟩⟩,h4,h5⟩
 ·exact ⟨80,[],[],_,_,rfl,.inr ⟨h1,.inr ⟨h2,.inr ⟨rfl,h3,rfl,rfl⟩⟩⟩,OwnG.nil _ _,hnz⟩
theorem MbDecIs.len {n k d:Nat} {l:List Sy} {t c:Int} {m:List GF} {zs:List Int} (h:MbDecIs n k d l t c m zs) (hl:l.length≤100000):zs.length≤100000:=by
 rcases h with ⟨h1,rfl,rfl,rfl⟩ | ⟨h1,⟨h2,rfl,rfl,rfl⟩ | ⟨h2,⟨rfl,h3,rfl⟩ | ⟨rfl,h3,rfl,rfl⟩⟩⟩
 ·exact Nat.zero_le _
 ·exact Nat.zero_le _
 ·exact Nat.le_trans (wrD_le _ _) hl
 ·exact Nat.zero_le _
end Go.Proofs.YtcclhhjcejmepaaGreat
/- Arguments as the frame has them. -/
namespace Go.Proofs.YtcclhhjcejmepaaGreat
open Go.RowKit
end Go.Proofs.YtcclhhjcejmepaaGreat
/- Sizes of small codes. -/
namespace Go.Proofs.YtcclhhjcejmepaaGreat
open Go.RowKit Fld

def I64 (x:Int):Prop:=-9223372036854775808≤x∧x≤9223372036854775807
end Go.Proofs.YtcclhhjcejmepaaGreat
/- One call behind another. -/
namespace Go.Proofs.YtcclhhjcejmepaaGreat
open Go.RowKit
theorem belTrans {w3 W wy:World} (h:Below w3.heap.size w3 W) (h2:Below W.heap.size W wy):Below w3.heap.size w3 wy:=h.trans (h2.mono h.size)
end Go.Proofs.YtcclhhjcejmepaaGreat
