/-
  The points of groups.
-/
import Derived.Test.YtnjbkfeihbcalaaGreatZPtsG
/- The points of groups. -/
namespace Go.Proofs.YtnjbkfeihbcalaaGreat
open Go.RowKit Fld
set_option linter.unusedVariables false
set_option linter.unusedSimpArgs false

def cosL (r g:Nat):List GF:=(List.range g).flatMap fun c=>(List.range (r+1)).map (gPow c (255 / (r+1)))
theorem cosL_succ (r g:Nat):cosL r (g+1)=cosL r g ++ (List.range (r+1)).map (gPow g (255 / (r+1))):=by simp [cosL,List.range_succ]
theorem cosL_len (r g:Nat):(cosL r g).length=g * (r+1):=by
 induction g with
 | zero=>simp [cosL]
 | succ g ih=>rw [cosL_succ,List.length_append,ih,Nat.add_mul];simp
def CosPost (fb r g:Nat) (w:World) (e:Ending) (w':World):Prop :=
 Kp [fb] w w'∧FOk w' fb∧((255 % (r+1)=0∧g≤255 / (r+1))∧(∃ v,e=.returned (.tuple #[v,.int .i64 0])∧OwnG w' w.heap.size v (cosL r g)) ∨ ¬ (255 % (r+1)=0∧g≤255 / (r+1))∧e=.returned (.tuple #[.slice none 0 0,.int .i64 2]))
set_option maxRecDepth 100000 in
set_option maxHeartbeats 2000000 in
theorem cosets_any (fb r g:Nat) (w:World) (hF:FOk w fb) (hr:1≤r∧r≤254) (hg:g≤255) :
  Calls Tryz.prog 33 #[.pointer (some ⟨fb,0,none⟩),.int .i64 r,.int .i64 g] w (CosPost fb r g w):=by
 have hfl:=hF.lt
 have HF:=Lib.hid hF
 obtain ⟨R,hR⟩:∃ R,r+1=R:=⟨_,rfl⟩
 obtain ⟨m,hm⟩:∃ m,255 % R=m:=⟨_,rfl⟩
 obtain ⟨S,hS⟩:∃ S,255 / R=S:=⟨_,rfl⟩
 have hmI:(255:Int).tmod (R:Int)=(m:Int):=by rw [← hm];exact (Int.ofNat_tmod 255 R).symm
 have hSI:(255:Int).tdiv (R:Int)=(S:Int):=by rw [← hS];exact (Int.ofNat_tdiv 255 R).symm
 have hS0:0 < S:=by rw [← hS];exact Nat.div_pos (by omega) (by omega)
 have hSle:S≤255:=by rw [← hS];exact Nat.div_le_self _ _
 have hmle:m≤255:=by rw [← hm];exact Nat.mod_le _ _
 have x1:(r:Int)+1=(R:Int):=by omega
 have x2:IntKind.i64.wrap (R:Int)=(R:Int):=IntWalk.i64_in _ (by omega)
 have x3:IntKind.i64.wrap (m:Int)=(m:Int):=IntWalk.i64_in _ (by omega)
 have x4:IntKind.i64.wrap (S:Int)=(S:Int):=IntWalk.i64_in _ (by omega)
 have x5:¬ (R:Int)=0:=by omega
 have n1:¬ (r:Int) < 1:=by omega
 have n2:¬ (r:Int) ≥ 255:=by omega
 have n3:¬ (g:Int) < 0:=by omega
 have HC:Hid (cosL r g=cosL r g∧(255 % (r+1)=0∧g≤255 / (r+1)↔m=0∧g≤S)):=Lib.hid ⟨rfl,by rw [hR,hm,hS]⟩
 have HRR:=Lib.hid hR
 have HSS:=Lib.hid hS
 by_cases hm0:m=0
 case neg =>
  have m0:¬ (m:Int)=0:=by omega
  clear hm hS hR hm0
  go_enter Tryz.func33,Tryz.ntmps33
  go_wp2
  go_ret2
  exact ⟨Kp.refl _ _,HF.out,.inr ⟨fun h=>by have:=(HC.out.2.1 h).1;omega,rfl⟩⟩
 subst hm0
 by_cases hgS:S < g
 ·have m1:(g:Int) > (S:Int):=by omega
  have HG:=Lib.hid hgS
  clear hm hS hR hgS
  go_enter Tryz.func33,Tryz.ntmps33
  go_wp2
  go_ret2
  exact ⟨Kp.refl _ _,HF.out,.inr ⟨fun h=>by have:=(HC.out.2.1 h).2;have:=HG.out;omega,rfl⟩⟩
 ·have m1:¬ (g:Int) > (S:Int):=by omega
  have HG:Hid (g≤S):=Lib.hid (by omega)
  clear hm hS hR hgS
  go_enter Tryz.func33,Tryz.ntmps33
  go_wp2
  go_loopg [8,34] g (fun gk v i wr=>∃ (V:Value) (J:Nat),V=v∧J≤g∧gk=g - J∧i=.int .i64 J∧Hid (OwnG wr w.heap.size V (cosL r J))∧Hid (Kp [fb] w wr)∧Hid (FOk wr fb))
  case atStart=>exact ⟨_,0,rfl,by omega,rfl,rfl,Lib.hid (OwnG.nil _ _),Lib.hid (Kp.refl _ _),HF⟩
  case round =>
   obtain ⟨V,J,rfl,hJ,rfl,rfl,HO,HK,HFR⟩:=hrel
   have hsr:=HK.out.size
   by_cases hlt:J < g
   ·have hlen:(cosL r J).length≤100000:=by
     rw [cosL_len]
     exact Nat.le_trans (Nat.mul_le_mul (show J≤255 by omega) (show r+1≤255 by omega)) (by omega)
    have HLEN:=Lib.hid hlen
    obtain ⟨aV,cV,rfl,hcV⟩:=HO.out.form
    obtain ⟨LV,hLV⟩:∃ LV,(cosL r J).length=LV:=⟨_,rfl⟩
    rw [hLV] at HO hcV ⊢
    have HP:=Lib.hid (ppowers_any fb J S wr)
    clear hlen hLV hcV
    go_wp2_with fail
    refine HP.out.mono ?_
    rintro e w1 ⟨rfl,hb1,h1,h2,h3⟩
    have hs1:wr.heap.size+1+1 < w1.heap.size:=lt_of_heap h3
    have HB1:=Lib.hid hb1
    have HX1:=Lib.hid (And.intro h1 (And.intro h2 h3))
    have HFI:=Lib.hid (first_any (.func 76) #[] #[.pointer (some ⟨wr.heap.size+1,0,none⟩),.pointer (some ⟨wr.heap.size,0,none⟩),.pointer (some ⟨wr.heap.size+1+1,0,none⟩)] R w1)
    clear hb1 h1 h2 h3 HP
    go_wp2_with fail
    refine HFI.out.mono ?_
    rintro e w2 ⟨rfl,hb2,h4,h5⟩
    have hs2:w1.heap.size+1 < w2.heap.size:=lt_of_heap h5
    have hb02:Below wr.heap.size wr w2:=HB1.out.trans (hb2.mono (by omega))
    have hF2:=HFR.out.below hb02
    have hsq:=first_seq (w1.heap.size+1) w1.heap.size wr.heap.size (wr.heap.size+1) (wr.heap.size+1+1) fb J S R w2 h5 h4 (keepB hb2 HX1.out.1) (keepB hb2 HX1.out.2.1) (keepB hb2 HX1.out.2.2) ⟨by omega,by omega,by omega⟩ hF2.lt hS0 ⟨by omega,by omega⟩ ⟨by omega,by omega⟩
    have HAP:=Lib.hid (appseq_any fb J S R w.heap.size (.slice aV LV cV) (cosL r J) _ _ _ w2 hsq (HO.out.below hb02) hfl (by omega) hF2 (fun b hb=>by
     simp only [List.mem_cons,List.not_mem_nil,or_false] at hb
     rcases hb with rfl | rfl | rfl <;> omega) (fun b hb hm=>by
     have:=(HO.out.lt b hb).2
     simp only [List.mem_cons,List.not_mem_nil,or_false] at hm
     rcases hm with rfl | rfl | rfl <;> omega) ⟨HLEN.out,by omega⟩)
    have HB02:=Lib.hid hb02
    clear hb2 h4 h5 hb02 hF2 hsq HFI
    go_wp2_with fail
    refine HAP.out.mono ?_
    rintro e w3 ⟨v,rfl,ho3,hk3,hf3,hvb⟩
    have HO3:Hid (OwnG w3 w.heap.size v (cosL r (J+1))):=Lib.hid (by
     rw [cosL_succ,HRR.out,HSS.out]
     exact ho3)
    have HK3:Hid (Kp [fb] w w3):=Lib.hid ((HK.out.below_step HB02.out).step hk3 fun x hx=>by
     rcases List.mem_cons.1 hx with rfl | hx
     ·exact .inl (by simp)
     ·exact .inr (HO.out.lt x (by simpa using hx)).1)
    have HF3:=Lib.hid hf3
    clear ho3 hk3 hf3 hvb HAP
    go_wp2
    go_roundg (g - (J+1))
    case measure=>omega
    case rel=>exact ⟨v,J+1,rfl,by omega,rfl,by go_num,HO3,HK3,HF3⟩
   ·obtain rfl:J=g:=by omega
    go_wp2
    go_ret2
    exact ⟨HK.out,HFR.out,.inl ⟨HC.out.2.2 ⟨by trivial,HG.out⟩,_,rfl,HO.out⟩⟩
end Go.Proofs.YtnjbkfeihbcalaaGreat
