/-
  starfishkit.Reed: a code of the first powers of two.
-/
import Derived.Test.YtnjbkfeihbcalaaGreatZKit
import Derived.Laws.AppendOwn
/- starfishkit.Reed: a code of the first powers of two. -/
namespace Go.Proofs.YtnjbkfeihbcalaaGreat
open Go.RowKit Fld
set_option linter.unusedVariables false
set_option linter.unusedSimpArgs false

def KReedPost (n k:Nat) (w:World) (e:Ending) (w':World):Prop :=
 Below w.heap.size w w'∧((k≤n∧∃ cb fb v,e=.returned (.pointer (some ⟨cb,0,none⟩))∧w.heap.size≤cb∧w.heap.size≤fb∧CodeAt w' cb fb k v (pows n)∧OwnG w' w.heap.size v (pows n)) ∨
  ¬ k≤n∧e=.returned (.pointer none))
set_option maxHeartbeats 2000000 in
theorem kreed_any (n k:Nat) (w:World) (hn0:0 < n) (hn:n≤255) (hk0:0 < k) (hk:k≤1000000) :
  Calls Tryz.prog 8 #[.int .i64 n,.int .i64 k] w (KReedPost n k w):=by
 obtain ⟨i0,hi,hz0,hz1,hz2⟩:=info_parts u8_info
 have HNEW:=Lib.hid (fun W=>fnew_any W)
 have HFO:Hid (FOk (w.alloc (.cells Tryz.zeroCells71 71 (0,0))) w.heap.size):=Lib.hid (fok_new w)
 have HB0:Hid (Below w.heap.size w (w.alloc (.cells Tryz.zeroCells71 71 (0,0)))):=Lib.hid ((Below.refl _ _).alloc (Nat.le_refl _) _)
 have hs1:w.heap.size < (w.alloc (.cells Tryz.zeroCells71 71 (0,0))).heap.size:=by simp
 go_enter Tryz.func8,Tryz.ntmps8
 go_wp2_with fail
 refine (HNEW.out _).mono ?_
 rintro e w1' ⟨rfl,rfl⟩
 generalize w.alloc (.cells Tryz.zeroCells71 71 (0,0))=w1 at *
 go_wp2
 go_loopg [6,7] n (fun gk l i wr=>∃ (V:Value) (I:Nat),V=l∧I≤n∧gk=n - I∧i=.int .i64 I∧Hid (OwnG wr w1.heap.size V (pows I))∧Hid (Kp [w.heap.size] w1 wr)∧Hid (FOk wr w.heap.size))
 case atStart=>exact ⟨_,0,rfl,by omega,rfl,rfl,Lib.hid (OwnG.nil _ _),Lib.hid (Kp.refl _ _),HFO⟩
 case round =>
  clear HFO
  obtain ⟨V,I,rfl,hI,rfl,rfl,HO,HK,HF⟩:=hrel
  by_cases hlt:I < n
  ·have hs:=HK.out.size
   have HEXP:=Lib.hid (fexp_any I w.heap.size wr HF.out (by omega))
   have hne:Apart V [w.heap.size]:=fun b hb hm=>by
    have:=HO.out.lt b hb
    simp at hm
    omega
   have HNE:=Lib.hid hne
   obtain ⟨x,hx⟩:∃ x,(GF.pown GF.two I).n=x:=⟨_,rfl⟩
   unfold FPost at HEXP
   rw [hx] at HEXP
   have HX:=Lib.hid hx
   clear hne hx
   go_wp2_with fail
   refine HEXP.out.mono ?_
   rintro e w2 ⟨rfl,hk2,hf2⟩
   have hown:w2.ownsRow w1.heap.size 5 1 V I (gv (pows I)):=by have:=HO.out.kp hk2 HNE.out;unfold OwnG at this;rwa [pows_len] at this
   have HK2:Hid (Kp [w.heap.size] w1 w2):=Lib.hid (HK.out.trans hk2)
   have hs2:=HK2.out.size
   have HF2:=Lib.hid hf2
   clear hk2 hf2
   go_wp2_with (at_builtin;refine wpList_append_own _ rfl _ _ 50 rfl w1.heap.size 5 i0 (.int .u8 0) 1 1 Tryz.underlying50 hi hz0 hz1 hz2 rfl (by decide) _ _ _ rfl (hown.alloc _) ⟨w2.heap.size,0,none⟩ 1 1 [.int .u8 (x:Nat)] rfl rfl (cell_one_new _ _ _) (by simp [Value.oneCell']) (by unfold maxLen;omega) (by omega) (by simp;omega) ?_;intro v1 w3 hown1 hgrow1 _)
   have HO3:Hid (OwnG w3 w1.heap.size v1 (pows (I+1))):=Lib.hid (by
    rw [pows_succ]
    unfold OwnG
    rw [gv_snoc,List.length_append,pows_len,HX.out]
    exact hown1)
   have hk3:Kp [w.heap.size] w1 w3:=(HK2.out.alloc _).grown hgrow1 (fun b hb=>.inr (hown.lt b hb).1)
   have HK3:=Lib.hid hk3
   have HF3:Hid (FOk w3 w.heap.size):=Lib.hid ((HF2.out.below ((Below.refl _ _).alloc (Nat.le_refl _) _)).kp (kp_grown hgrow1) (notin_own HNE.out (by simp)))
   clear hown1 hgrow1 hk3 hown
   go_roundg (n - (I+1))
   case measure=>omega
   case rel=>exact ⟨_,I+1,rfl,by omega,rfl,by go_num,HO3,HK3,HF3⟩
  ·obtain rfl:I=n:=by omega
   have HNW:=Lib.hid (new_any w.heap.size V (pows I) k wr HF.out HO.out.rd (by rw [pows_len];simp only [sortMax];omega) (by omega))
   go_wp2_with fail
   refine HNW.out.mono ?_
   rintro e w2 ⟨hb2,hr⟩
   have hs:=HK.out.size
   have hb3:Below w.heap.size w w2:=(HB0.out.trans (HK.out.below (by omega) (fun x hx=>by simp at hx;omega))).trans (hb2.mono (by omega))
   rw [pows_len] at hr
   rcases hr with ⟨⟨h1,h2,h3⟩,cb,v2,rfl,hcb,hc,ho⟩ | ⟨h1,rfl⟩
   ·have HC:=Lib.hid hc
    have HO2:=Lib.hid ho
    have HB3:=Lib.hid hb3
    clear hc ho hb3 hb2 h1
    go_wp2
    go_ret
    exact ⟨HB3.out,.inl ⟨by omega,cb,w.heap.size,v2,rfl,by omega,Nat.le_refl _,by have:=HC.out;simpa using this,HO2.out.mono (by omega)⟩⟩
   ·have HB3:=Lib.hid hb3
    have HN:=Lib.hid h1
    clear h1 hb3 hb2
    go_wp2
    go_ret
    exact ⟨HB3.out,.inr ⟨fun h=>HN.out ⟨pows_nodup hn,by omega,by omega⟩,rfl⟩⟩
end Go.Proofs.YtnjbkfeihbcalaaGreat
