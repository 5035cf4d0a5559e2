/-
  Rows of numbers that are the same; whether a number is in a row.
-/
import Derived.Test.YtbiaoohodjoojaaGreatWeRefs
namespace Go.Proofs.YtbiaoohodjoojaaGreat
open Go.RowKit Fld
set_option linter.unusedVariables false
set_option linter.unusedSimpArgs false

def BoolPost (b:Bool) (w:World) (e:Ending) (w':World):Prop:=e=.returned (.bool b)∧Below w.heap.size w w'
theorem sameI_done {l m:List Int} {A:Nat} (hl:l.length=A) (hm:m.length=A) (h:∀ j,j < A→l[j]? = m[j]?):l=m:=List.ext_getElem? fun i=>by
 by_cases hi:i < A
 ·exact h i hi
 ·rw [List.getElem?_eq_none (by omega),List.getElem?_eq_none (by omega)]
set_option maxRecDepth 100000 in
set_option maxHeartbeats 4000000 in
theorem sameI_any (u v:Value) (l m:List Int) (w:World) (hu:IRd w u l) (hv:IRd w v m) (hl:l.length≤1000000) (hml:m.length≤1000000) :
  Calls Tryz.prog 31 #[u,v] w (BoolPost (decide (l=m)) w):=by
 obtain ⟨au,cu,rfl⟩:=hu.form
 obtain ⟨av,cv,rfl⟩:=hv.form
 obtain ⟨A,hA⟩:∃ A,l.length=A:=⟨_,rfl⟩
 obtain ⟨B,hB⟩:∃ B,m.length=B:=⟨_,rfl⟩
 have HA:=Lib.hid hA
 have HB:=Lib.hid hB
 rw [hA] at hu hl ⊢
 rw [hB] at hv hml ⊢
 have HU:=Lib.hid hu
 have HV:=Lib.hid hv
 clear hu hv hA hB
 go_enter Tryz.func31,Tryz.ntmps31
 by_cases hAB:A=B
 ·subst hAB
  go_wp2
  go_loopg [5] A (fun gk i wr=>∃ I:Nat,I≤A∧gk=A - I∧i=.int .i64 I∧Hid (∀ j,j < I→l[j]? = m[j]?)∧Hid (Below w.heap.size w wr))
  case atStart=>exact ⟨0,by omega,rfl,rfl,Lib.hid (fun j hj=>by omega),Lib.hid (Below.refl _ _)⟩
  case round =>
   obtain ⟨I,hI,rfl,rfl,HE,HBL⟩:=hrel
   have hs:=HBL.out.size
   by_cases hlt:I < A
   ·obtain ⟨x,hx⟩:∃ x,l[I]? = some x:=⟨_,List.getElem?_eq_getElem (by rw [HA.out];exact hlt)⟩
    obtain ⟨y,hy⟩:∃ y,m[I]? = some y:=⟨_,List.getElem?_eq_getElem (by rw [HB.out];exact hlt)⟩
    obtain ⟨-,-,b1,o1,rfl,hb1,-⟩:=IRd.cell HU.out hx
    obtain ⟨-,-,b2,o2,rfl,hb2,-⟩:=IRd.cell HV.out hy
    have c1:=IRd.cells (HU.out.below HBL.out) I x hx
    have c2:=IRd.cells (HV.out.below HBL.out) I y hy
    have HXX:=Lib.hid hx
    have HYY:=Lib.hid hy
    have HBD:Hid (Below w.heap.size w wr.drew):=Lib.hid HBL.out.drew
    obtain ⟨kp,hkp⟩:∃ kp:Nat→Bool,∀ j,kp j=true↔j < wr.heap.size:=⟨fun j=>decide (j < wr.heap.size),by simp⟩
    have hk1:kp b1=true:=(hkp _).2 (by omega)
    have hk2:kp b2=true:=(hkp _).2 (by omega)
    have HKP:=Lib.hid hkp
    have i1:(0:Int)≤(I:Int)∧(I:Int) < (A:Int):=by omega
    clear hkp hx hy
    by_cases hxy:x=y
    ·subst hxy
     have HE2:Hid (∀ j,j < I+1→l[j]? = m[j]?):=Lib.hid fun j hj=>by
      by_cases e:j=I
      ·rw [e,HXX.out,HYY.out]
      ·exact HE.out j (by omega)
     go_upto_region 6 with fail
     have hgr:=fun (w0 W:World) (p:Addr) (hp:(fun j=>kp j=true) p.block)=>graft_cell (w0:=w0) (keep:=(fun j=>kp j=true)) W hp
     refine wp_region_tree (fun j=>kp j=true) [] (.sq [0,1,2,3,4,5,6,7,8] .done) (by kernel_rfl) (by kernel_rfl) ?_
     simp only [Tr.sq,List.foldr_cons,List.foldr_nil,slimTr,slimStep,Oper.slim,List.contains_cons,List.contains_nil,Option.map_none,Option.map_some,List.getElem?_toArray,List.getElem?_cons_zero,List.getElem?_cons_succ,Option.bind_some,beq_self_eq_true,Bool.or_false,Nat.reduceBEq,Nat.reduceAdd,Nat.zero_add]
     repeat' first | ((with_reducible refine wpSlimT_id ?_);first | (with_reducible refine wpSlimT_done ?_) | ((with_reducible refine wpSlimT_step (fun K hK=>?_));go_simp;(refine hK _ _ ?_;clear hK K))) | fail
     clear hgr
     go_wp2
     go_roundg (A - (I+1))
     case measure=>omega
     case rel=>exact ⟨I+1,by omega,rfl,by go_num,HE2,HBD⟩
    ·have HNE:Hid (decide (l=m)=false):=Lib.hid (decide_eq_false fun e=>hxy (by
      have h1:=HXX.out
      rw [e,HYY.out] at h1
      exact (Option.some.inj h1).symm))
     go_upto_region 6 with fail
     have hgr:=fun (w0 W:World) (p:Addr) (hp:(fun j=>kp j=true) p.block)=>graft_cell (w0:=w0) (keep:=(fun j=>kp j=true)) W hp
     refine wp_region_tree (fun j=>kp j=true) [] (.sq [0,1,2,3,4,5,6,7,8] .done) (by kernel_rfl) (by kernel_rfl) ?_
     simp only [Tr.sq,List.foldr_cons,List.foldr_nil,slimTr,slimStep,Oper.slim,List.contains_cons,List.contains_nil,Option.map_none,Option.map_some,List.getElem?_toArray,List.getElem?_cons_zero,List.getElem?_cons_succ,Option.bind_some,beq_self_eq_true,Bool.or_false,Nat.reduceBEq,Nat.reduceAdd,Nat.zero_add]
     repeat' first | ((with_reducible refine wpSlimT_id ?_);first | (with_reducible refine wpSlimT_done ?_) | ((with_reducible refine wpSlimT_step (fun K hK=>?_));go_simp;(refine hK _ _ ?_;clear hK K))) | fail
     clear hgr
     go_wp2
     go_ret
     exact ⟨by rw [HNE.out];rfl,HBD.out⟩
   ·obtain rfl:I=A:=by omega
    have HEQ:Hid (decide (l=m)=true):=Lib.hid (decide_eq_true (sameI_done HA.out HB.out HE.out))
    go_wp2
    go_ret
    exact ⟨by rw [HEQ.out];rfl,HBL.out⟩
 ·have hAB':¬ (A:Int)=(B:Int):=by omega
  have HNE:Hid (decide (l=m)=false):=Lib.hid (decide_eq_false fun e=>hAB (by rw [← HA.out,← HB.out,e]))
  clear hAB
  go_wp2
  go_ret
  exact ⟨by rw [HNE.out];rfl,Below.refl _ _⟩
end Go.Proofs.YtbiaoohodjoojaaGreat
