/-
  The reference's edges: their numbers, their points; the sizes of a code.
  The shares of a message: the reference's Encode.
  What a node tells another one: the reference's Help.
  A share, of what all others tell: the reference's Repair.
  Whose shares are others: the reference's Wrong.
  The message of shares: the reference's Decode.
-/
import Derived.Test.YtjdnicacnaokdaaGreatTrPG
import Derived.Test.YtjdnicacnaokdaaGreatRefsB
import Derived.Test.YtjdnicacnaokdaaGreatKit
import Derived.Test.YtjdnicacnaokdaaGreatSyG
import Derived.Test.YtjdnicacnaokdaaGreatTrDecG
import Derived.Test.YtjdnicacnaokdaaGreatTrEnc
import Derived.Test.YtjdnicacnaokdaaGreatTrHelp
import Derived.Test.YtjdnicacnaokdaaGreatTrRepG
import Derived.Test.YtjdnicacnaokdaaGreatToldG
import Derived.Test.YtjdnicacnaokdaaGreatOwnSyG
import Derived.Test.YtjdnicacnaokdaaGreatWeRefs
import Derived.Test.YtjdnicacnaokdaaGreatTrDec2
/- The reference's edges: their numbers, their points; the sizes of a code. -/
namespace Go.Proofs.YtjdnicacnaokdaaGreat
open Go.RowKit Fld
set_option linter.unusedVariables false
set_option linter.unusedSimpArgs false

abbrev rt (n k:Int):Value:=.agg #[.int .i64 n,.int .i64 k]
theorem rtnew_any (n k:Int) (w:World):Calls Tryz.prog 11 #[rt n k] w fun e w'=>e=.returned (.int .i64 (if 1≤k∧k < n∧n≤23 then 0 else 2))∧Below w.heap.size w w':=by
 by_cases c1:k < 1
 ·rw [if_neg (by omega)]
  go_enter Tryz.func11,Tryz.ntmps11
  go_wp2
  go_ret
  exact ⟨rfl,by (repeat' (first | (with_reducible exact RowKit.Below.refl _ _) | (with_reducible assumption) | (with_reducible refine RowKit.Below.drew ?_) | (with_reducible refine RowKit.Below.alloc ?_ ?_ _) | omega | (simp;done) | (simp;omega)))⟩
 by_cases c2:n≤k
 ·rw [if_neg (by omega)]
  go_enter Tryz.func11,Tryz.ntmps11
  go_wp2
  go_ret
  exact ⟨rfl,by (repeat' (first | (with_reducible exact RowKit.Below.refl _ _) | (with_reducible assumption) | (with_reducible refine RowKit.Below.drew ?_) | (with_reducible refine RowKit.Below.alloc ?_ ?_ _) | omega | (simp;done) | (simp;omega)))⟩
 by_cases c3:n > 23
 ·rw [if_neg (by omega)]
  go_enter Tryz.func11,Tryz.ntmps11
  go_wp2
  go_ret
  exact ⟨rfl,by (repeat' (first | (with_reducible exact RowKit.Below.refl _ _) | (with_reducible assumption) | (with_reducible refine RowKit.Below.drew ?_) | (with_reducible refine RowKit.Below.alloc ?_ ?_ _) | omega | (simp;done) | (simp;omega)))⟩
 ·rw [if_pos (by omega)]
  go_enter Tryz.func11,Tryz.ntmps11
  go_wp2
  go_ret
  exact ⟨rfl,by (repeat' (first | (with_reducible exact RowKit.Below.refl _ _) | (with_reducible assumption) | (with_reducible refine RowKit.Below.drew ?_) | (with_reducible refine RowKit.Below.alloc ?_ ?_ _) | omega | (simp;done) | (simp;omega)))⟩
theorem rtal_any (n k:Nat) (w:World) (hn:1≤n∧n≤1000):Calls Tryz.prog 42 #[rt n k] w fun e w'=>e=.returned (.int .i64 (n - 1:Nat))∧Below w.heap.size w w':=by
 have x1:(n:Int) - 1=((n - 1:Nat):Int):=by omega
 have x2:IntKind.i64.wrap ((n - 1:Nat):Int)=((n - 1:Nat):Int):=IntWalk.i64_in _ (by omega)
 generalize hq:n - 1=q at *
 clear hq
 go_enter Tryz.func42,Tryz.ntmps42
 go_wp2
 go_ret
 exact ⟨rfl,by (repeat' (first | (with_reducible exact RowKit.Below.refl _ _) | (with_reducible assumption) | (with_reducible refine RowKit.Below.drew ?_) | (with_reducible refine RowKit.Below.alloc ?_ ?_ _) | omega | (simp;done) | (simp;omega)))⟩
theorem rplace_any (j o:Nat) (w:World) (hj:j≤1000) (ho:o≤1000) (hne:o ≠ j):Calls Tryz.prog 43 #[.int .i64 j,.int .i64 o] w fun e w'=>e=.returned (.int .i64 (plcN j o:Nat))∧w=w':=by
 unfold plcN
 by_cases h:o < j
 ·rw [if_pos h]
  have x1:¬ (o:Int) > (j:Int):=by omega
  go_enter Tryz.func43,Tryz.ntmps43
  go_wp2
  go_ret
  exact ⟨rfl,rfl⟩
 ·rw [if_neg h]
  have x1:(o:Int) > (j:Int):=by omega
  have x2:(o:Int) - 1=((o - 1:Nat):Int):=by omega
  have x3:IntKind.i64.wrap ((o - 1:Nat):Int)=((o - 1:Nat):Int):=IntWalk.i64_in _ (by omega)
  generalize hq:o - 1=q at *
  clear hq
  go_enter Tryz.func43,Tryz.ntmps43
  go_wp2
  go_ret
  exact ⟨rfl,rfl⟩
theorem rtb_any (n k:Nat) (w:World) (hk:1≤k∧k < n) (hn:n≤23):Calls Tryz.prog 15 #[rt n k] w fun e w'=>e=.returned (.int .i64 (trB n k:Nat))∧Below w.heap.size w w':=by
 obtain ⟨n1,hn1⟩:∃ n1,n - 1=n1:=⟨_,rfl⟩
 obtain ⟨k1,hk1⟩:∃ k1,k - 1=k1:=⟨_,rfl⟩
 obtain ⟨p,hp⟩:∃ p,k * n1=p:=⟨_,rfl⟩
 obtain ⟨q,hq⟩:∃ q,k * k1=q:=⟨_,rfl⟩
 obtain ⟨h,hh⟩:∃ h,q / 2=h:=⟨_,rfl⟩
 obtain ⟨B,hB⟩:∃ B,trB n k=B:=⟨_,rfl⟩
 have hBe:p - h=B:=by rw [← hB,trB_eq hk.2,hn1,hk1,hp,hq,hh]
 have hpl:p≤23 * 23:=by rw [← hp];exact Nat.mul_le_mul (by omega) (by omega)
 have hql:q≤p:=by rw [← hp,← hq];exact Nat.mul_le_mul_left _ (by omega)
 rw [hB]
 have x1:(n:Int) - 1=(n1:Int):=by omega
 have x2:IntKind.i64.wrap (n1:Int)=(n1:Int):=IntWalk.i64_in _ (by omega)
 have x3:(k:Int) - 1=(k1:Int):=by omega
 have x4:IntKind.i64.wrap (k1:Int)=(k1:Int):=IntWalk.i64_in _ (by omega)
 have x5:(k:Int) * (n1:Int)=(p:Int):=by rw [← hp];simp
 have x6:IntKind.i64.wrap (p:Int)=(p:Int):=IntWalk.i64_in _ (by omega)
 have x7:(k:Int) * (k1:Int)=(q:Int):=by rw [← hq];simp
 have x8:IntKind.i64.wrap (q:Int)=(q:Int):=IntWalk.i64_in _ (by omega)
 have x9:(q:Int).tdiv 2=(h:Int):=by rw [← hh];exact (Int.ofNat_tdiv q 2).symm
 have x10:IntKind.i64.wrap (h:Int)=(h:Int):=IntWalk.i64_in _ (by omega)
 have x11:(p:Int) - (h:Int)=(B:Int):=by omega
 have x12:IntKind.i64.wrap (B:Int)=(B:Int):=IntWalk.i64_in _ (by omega)
 clear hn1 hk1 hp hq hh hB hBe
 go_enter Tryz.func15,Tryz.ntmps15
 go_wp2
 go_ret
 exact ⟨rfl,by (repeat' (first | (with_reducible exact RowKit.Below.refl _ _) | (with_reducible assumption) | (with_reducible refine RowKit.Below.drew ?_) | (with_reducible refine RowKit.Below.alloc ?_ ?_ _) | omega | (simp;done) | (simp;omega)))⟩
set_option maxHeartbeats 4000000 in
theorem redge_any (n k x y:Nat) (w:World) (hx:x < n) (hy:y < n) (hne:x ≠ y) (hn:n≤23):Calls Tryz.prog 39 #[rt n k,.int .i64 x,.int .i64 y] w fun e w'=>e=.returned (.int .i64 (eE n x y:Nat))∧Below w.heap.size w w':=by
 obtain ⟨p,hp⟩:∃ p,min x y=p:=⟨_,rfl⟩
 obtain ⟨q,hq⟩:∃ q,max x y=q:=⟨_,rfl⟩
 have m1:min (x:Int) (y:Int)=(p:Int):=by omega
 have m2:max (x:Int) (y:Int)=(q:Int):=by omega
 have hpq:p < q∧q < n:=by omega
 have he:eE n x y=tri (n - 1) p+(q - p - 1):=by unfold eE;rw [hp,hq]
 have hlt:=eE_lt hne hx hy
 have hle:=eN_le hn
 obtain ⟨E,hE⟩:∃ E,eE n x y=E:=⟨_,rfl⟩
 rw [hE] at he hlt ⊢
 have HE:=Lib.hid he
 have HT:Hid (∀ I J,I < J→J≤n→I < n→tri (n - 1) I+(J - I - 1)≤253):=Lib.hid fun I J h1 h2 h3=>by
  have h4:=tri_mono (K:=n - 1) (show I+1≤n by omega)
  rw [tri_succ] at h4
  have h5:tri (n - 1) n=eN n:=by
   unfold eN
   obtain ⟨m,rfl⟩:∃ m,n=m+1:=⟨n - 1,by omega⟩
   rw [Nat.add_sub_cancel,tri_succ,Nat.sub_self,Nat.add_zero]
  omega
 obtain ⟨w1,hw1⟩:∃ w1,w1=w.alloc (.cells #[.int .i64 n,.int .i64 k] 29):=⟨_,rfl⟩
 have HB:Hid (Below w.heap.size w w1):=Lib.hid (by rw [hw1];exact (Below.refl _ _).alloc (Nat.le_refl _) _)
 have y0:w1.cell? ⟨w.heap.size,0,none⟩=some (.int .i64 n):=by rw [hw1];exact cell_of_heap (heap_newA _ _) (j:=0) rfl
 have hs:w.heap.size < w1.heap.size:=by rw [hw1];simp
 clear hp hq hE he hlt hle
 go_enter Tryz.func39,Tryz.ntmps39
 go_wp2
 rw [← hw1]
 clear hw1
 go_loopg [7,8] n (fun gk c i wr=>∃ (I C:Nat),c=.int .i64 C∧i=.int .i64 I∧I≤p∧gk=n - I∧Hid (C=tri (n - 1) I)∧w1=wr)
 case atStart=>exact ⟨0,0,rfl,rfl,by omega,rfl,Lib.hid rfl,rfl⟩
 case round =>
  obtain ⟨I,C,rfl,rfl,hI,rfl,HC,rfl⟩:=hrel
  have x1:(I:Int)+1=((I+1:Nat):Int):=by omega
  have x2:IntKind.i64.wrap ((I+1:Nat):Int)=((I+1:Nat):Int):=IntWalk.i64_in _ (by omega)
  have HC0:Hid (C=tri (n - 1) I+(I+1 - I - 1)):=Lib.hid (by have:=HC.out;omega)
  generalize hI1:I+1=I1 at *
  have i0:(I:Int) < (n:Int):=by omega
  go_wp2
  go_loopg [7,9] (n - I1) (fun gk c i wx=>∃ (J C:Nat),c=.int .i64 C∧i=.int .i64 J∧(I < J∧J≤n)∧gk=n - J∧Hid (C=tri (n - 1) I+(J - I - 1))∧(I=p→J≤q)∧w1=wx)
  case atStart=>exact ⟨I1,C,rfl,rfl,by omega,rfl,HC0,by omega,rfl⟩
  case round =>
   clear HC HC0
   obtain ⟨J,C2,rfl,rfl,hJ,rfl,HC,hpj,rfl⟩:=hrel
   by_cases hlt:J < n
   ·have hC:=HT.out I J hJ.1 hJ.2 (by omega)
    have hC2:=HC.out
    have hC3:C2≤253:=by omega
    clear hC
    by_cases hip:I=p
    ·subst hip
     by_cases hjq:J=q
     ·subst hjq
      have HF:Hid (C2=E):=Lib.hid (by rw [hC2,HE.out])
      clear hC2
      go_wp2
      go_ret
      exact ⟨by rw [HF.out] <;> rfl,HB.out⟩
     ·have hjq':¬ (J:Int)=(q:Int):=by omega
      have HF:Hid (C2+1=tri (n - 1) I+(J+1 - I - 1)):=Lib.hid (by omega)
      have hj2:J+1≤q:=by have:=hpj rfl;omega
      clear hC2
      go_wp2
      go_roundg (n - (J+1))
      case measure=>omega
      case rel=>exact ⟨J+1,C2+1,by go_num,by go_num,by omega,rfl,HF,fun _=>hj2,rfl⟩
    ·have hip':¬ (I:Int)=(p:Int):=by omega
     have HF:Hid (C2+1=tri (n - 1) I+(J+1 - I - 1)):=Lib.hid (by omega)
     clear hC2
     go_wp2
     go_roundg (n - (J+1))
     case measure=>omega
     case rel=>exact ⟨J+1,C2+1,by go_num,by go_num,by omega,rfl,HF,fun h=>absurd h hip,rfl⟩
   ·obtain rfl:J=n:=by omega
    have hIp:I < p:=by
     rcases Nat.lt_or_ge I p with h | h
     ·exact h
     ·have:=hpj (by omega);omega
    have HF:Hid (C2=tri (J - 1) (I+1)):=Lib.hid (by rw [HC.out,tri_succ];omega)
    rw [hI1] at HF
    go_wp2
    go_roundg (J - I1)
    case measure=>omega
    case rel=>exact ⟨I1,C2,rfl,by go_num,by omega,rfl,HF,rfl⟩
set_option maxHeartbeats 4000000 in
theorem rof_any (n:Nat) (w:World) (hn:n≤255):Calls Tryz.prog 63 #[.int .i64 n] w fun e w'=>∃ v,e=.returned (.tuple #[v,.int .i64 0])∧OwnG w' w.heap.size v (pows n)∧Below w.heap.size w w':=by
 go_enter Tryz.func63,Tryz.ntmps63
 go_wp2
 go_loopg [4,5] n (fun gk l i wr=>∃ (V:Value) (I:Nat),V=l∧i=.int .i64 I∧I≤n∧gk=n - I∧Hid (OwnG wr w.heap.size V (pows I))∧Hid (Below w.heap.size w wr))
 case atStart=>exact ⟨_,0,rfl,rfl,by omega,rfl,Lib.hid (OwnG.nil _ _),Lib.hid (Below.refl _ _)⟩
 case round =>
  obtain ⟨V,I,rfl,rfl,hI,rfl,HO,HB⟩:=hrel
  have hs:=HB.out.size
  by_cases hlt:I < n
  ·have HPW:=Lib.hid (rpow_any GF.two I wr (by omega))
   rw [show ((GF.two.n:Nat):Int)=2 from rfl,← GF.pown_pw] at HPW
   obtain ⟨y,hy⟩:∃ y,(GF.pown GF.two I).n=y:=⟨_,rfl⟩
   obtain ⟨v1,w3,hap,ho1,hk3,hb3,-⟩:=app_byte (W:=wr) (GF.pown GF.two I) HO.out (by rw [pows_len];omega) hs hy rfl
   rw [← pows_succ] at ho1
   unfold RPowPost at HPW
   rw [hy] at HPW
   have HO3:=Lib.hid ho1
   have HB3:=Lib.hid (HB.out.trans hb3)
   clear hy ho1 hk3 hb3 HO HB
   go_wp2_with fail
   refine HPW.out.mono ?_
   rintro e w2 ⟨rfl,rfl⟩
   go_wp2_with (at_builtin;refine wpList_append rfl _ _ _ rfl rfl rfl hap ?_)
   go_roundg (n - (I+1))
   case measure=>omega
   case rel=>exact ⟨v1,I+1,rfl,by go_num,by omega,rfl,HO3,HB3⟩
  ·obtain rfl:I=n:=by omega
   go_wp2
   go_ret2
   exact ⟨V,rfl,HO.out,HB.out⟩
set_option maxHeartbeats 4000000 in
theorem rpoints_any (n k:Nat) (w:World) (hn:1≤n∧n≤23):Calls Tryz.prog 38 #[rt n k] w (RowPost (pows (eN n)) w):=by
 obtain ⟨q,hq⟩:∃ q,n - 1=q:=⟨_,rfl⟩
 obtain ⟨p,hp⟩:∃ p,n * q=p:=⟨_,rfl⟩
 obtain ⟨h,hh⟩:∃ h,p / 2=h:=⟨_,rfl⟩
 have hE:eN n=h:=by rw [eN_eq,hq,hp,hh]
 have hle:=eN_le hn.2
 have hpl:p≤23 * 23:=by rw [← hp];exact Nat.mul_le_mul (by omega) (by omega)
 rw [hE] at hle ⊢
 have x1:(n:Int) - 1=(q:Int):=by omega
 have x2:IntKind.i64.wrap (q:Int)=(q:Int):=IntWalk.i64_in _ (by omega)
 have x3:(n:Int) * (q:Int)=(p:Int):=by rw [← hp];simp
 have x4:IntKind.i64.wrap (p:Int)=(p:Int):=IntWalk.i64_in _ (by omega)
 have x5:(p:Int).tdiv 2=(h:Int):=by rw [← hh];exact (Int.ofNat_tdiv p 2).symm
 have x6:IntKind.i64.wrap (h:Int)=(h:Int):=IntWalk.i64_in _ (by omega)
 have HOF:=Lib.hid (fun W=>rof_any h W (by omega))
 clear hq hp hh hE
 go_enter Tryz.func38,Tryz.ntmps38
 go_wp2_with fail
 refine (HOF.out _).mono ?_
 rintro e w2 ⟨v,rfl,ho,hb⟩
 have HO:=Lib.hid ho
 have hb1:Below w.heap.size w (w.alloc (.cells #[.int .i64 n,.int .i64 k] 29)):=(Below.refl _ _).alloc (Nat.le_refl _) _
 have HB:=Lib.hid (hb1.trans (hb.mono hb1.size))
 have hs1:=hb1.size
 clear ho hb hb1
 go_wp2
 go_ret
 exact ⟨v,rfl,HO.out.mono (by simp),HB.out⟩
end Go.Proofs.YtjdnicacnaokdaaGreat
/- The shares of a message: the reference's Encode. -/
namespace Go.Proofs.YtjdnicacnaokdaaGreat
open Go.RowKit Fld
set_option linter.unusedVariables false
set_option linter.unusedSimpArgs false

theorem rowF_at {f:Nat→GF} {N e:Nat} (h:e < N):(rowF f N)[e]? = some (f e):=by
 unfold rowF
 rw [List.getElem?_map,List.getElem?_range h]
 rfl
structure EncR (w3:World) (F:Nat→List GF) (V:Value) (J:Nat) (S:List Ro) (W:World):Prop where
 be:Below w3.heap.size w3 W
 own:OwnR W w3.heap.size V S
 eq:S.map Ro.d=(List.range J).map F
 each:∀ s ∈ S,GRd W s.v s.d∧∀ A,s.a=some A→w3.heap.size≤A.block∧∃ cs,W.heap[A.block]? = some (.cells cs 5 (0,0))
theorem EncR.push {w3 wr W':World} {F:Nat→List GF} {V V2:Value} {J:Nat} {S:List Ro} {d:List GF} (h:EncR w3 F V J S wr) (hb:Below wr.heap.size wr W') (ho:OwnG W' wr.heap.size V2 d) (hd:d=F J) (hJ:J≤1000) :
  ∃ a c,V2=.slice a d.length c∧∃ v1 w5,(Builtin.append_ #[35,35] 35 #[V,.slice (some ⟨W'.heap.size,0,none⟩) 1 1]).run Tryz.prog (W'.alloc (.cells #[.slice a d.length c] 34))=.ok v1 w5∧EncR w3 F v1 (J+1) (S ++ [⟨a,c,d⟩]) w5:=by
 obtain ⟨a,c,rfl,hc⟩:=ho.form
 have hs:=h.be.size
 have hs2:=hb.size
 have hSl:S.length=J:=by have:=congrArg List.length h.eq;simpa using this
 have hW:=h.own.below hb
 obtain ⟨v1,w5,hap,ho1,hk,hbe,hat⟩:=app_ro (s:=⟨a,c,d⟩) hW (by omega) (by omega) (ad:=W'.heap.size) rfl
 have key:∀ (s:Ro),GRd W' s.v s.d→(∀ A,s.a=some A→w3.heap.size≤A.block∧∃ cs,W'.heap[A.block]? = some (.cells cs 5 (0,0)))→GRd w5 s.v s.d∧∀ A,s.a=some A→w3.heap.size≤A.block∧∃ cs,w5.heap[A.block]? = some (.cells cs 5 (0,0)):=fun s h1 h2=>by
  have hne:∀ A,s.a=some A→A.block ∉ V.ownBlock.toList:=fun A hA=>by
   obtain ⟨-,cs,hcs⟩:=h2 A hA
   exact own_ne hW hcs (by decide)
  refine ⟨h1.kp hk fun b hb hm=>?_,fun A hA=>⟨(h2 A hA).1,?_⟩⟩
  ·cases e:s.a with
   | none=>rw [Ro.v,e] at hb;simp [Value.ownBlock] at hb
   | some A =>
    rw [Ro.v,e] at hb
    simp [Value.ownBlock] at hb
    subst hb
    exact hne A e hm
  ·obtain ⟨-,cs,hcs⟩:=h2 A hA
   exact ⟨cs,hk.heap hcs (hne A hA)⟩
 refine ⟨a,c,rfl,v1,w5,hap,h.be.trans ((hb.mono hs).trans hbe),ho1,?_,fun s hs=>?_⟩
 ·rw [List.map_append,h.eq,List.range_succ,List.map_append,hd]
  rfl
 ·rcases List.mem_append.1 hs with hs | hs
  ·obtain ⟨h1,h2⟩:=h.each s hs
   refine key s (h1.below hb) fun A hA=>⟨(h2 A hA).1,?_⟩
   obtain ⟨-,cs,hcs⟩:=h2 A hA
   exact ⟨cs,keepB hb hcs⟩
  ·rw [List.mem_singleton.1 hs]
   refine key ⟨a,c,d⟩ ho.rd fun A hA=>?_
   have hA':a=some A:=hA
   subst hA'
   exact ⟨by have:=(ho.lt A.block rfl).1;omega,own_row ho rfl⟩
theorem EncR.done {w3 W:World} {F:Nat→List GF} {V:Value} {J:Nat} {S:List Ro} (h:EncR w3 F V J S W) {B:Nat} (hB:B≤w3.heap.size):ShAll W B V ((List.range J).map F) S :=
 ⟨h.own.all fun s hs=>(h.each s hs).1,h.eq,(fun s hs A hA=>Nat.le_trans hB ((h.each s hs).2 A hA).1),fun b hb=>Nat.le_trans hB (h.own.lt b hb).1⟩
def RTEncPost (n k:Nat) (ms:List GF) (w:World) (e:Ending) (w':World):Prop :=
 Below w.heap.size w w'∧((ms.length ≠ trB n k∧e=.returned (.tuple #[.slice none 0 0,.int .i64 2])) ∨ (ms.length=trB n k∧∃ v S,e=.returned (.tuple #[v,.int .i64 0])∧ShAll w' w.heap.size v ((List.range n).map (trSh n (pows (eN n)) ms)) S))
set_option maxRecDepth 100000 in
set_option maxHeartbeats 4000000 in
theorem rtenc_any (w:World) (n k:Nat) (mv:Value) (ms:List GF) (hk:1≤k) (hkn:k < n) (hn:n≤23) (hm:GRd w mv ms) (hml:ms.length≤1000000) :
  Calls Tryz.prog 18 #[rt n k,mv] w (RTEncPost n k ms w):=by
 have hBl:=trB_le hkn
 have hB1:=trB_pos hk hkn
 have hEl:=eN_le hn
 obtain ⟨am,cm,rfl,hcm⟩:=hm.form
 obtain ⟨M,hM⟩:∃ M,ms.length=M:=⟨_,rfl⟩
 obtain ⟨B,hB⟩:∃ B,trB n k=B:=⟨_,rfl⟩
 obtain ⟨w1,hw1⟩:∃ w1,w1=w.alloc (.cells #[.int .i64 n,.int .i64 k] 29):=⟨_,rfl⟩
 have hb1:Below w.heap.size w w1:=by rw [hw1];exact (Below.refl _ _).alloc (Nat.le_refl _) _
 have d0:w1.heap[w.heap.size]? = some (.cells #[.int .i64 n,.int .i64 k] 29 (0,0)):=by rw [hw1];exact heap_newA _ _
 have HBB0:∀ W:World,Calls Tryz.prog 15 #[rt n k] W fun e w'=>e=.returned (.int .i64 (trB n k:Nat))∧Below W.heap.size W w':=fun W=>rtb_any n k W ⟨hk,hkn⟩ hn
 rw [hB] at HBB0
 have HBB:=Lib.hid HBB0
 have HM:=Lib.hid hm
 have HB1:=Lib.hid hb1
 have HMM:=Lib.hid hM
 have HEQ2:=Lib.hid hB
 rw [hM] at HM hml ⊢
 have y0:=cell_of_heap d0 (j:=0) rfl
 have y1:=cell_of_heap d0 (j:=1) rfl
 have l0:=lt_of_heap d0
 have HD0:=Lib.hid d0
 clear hm hb1 hM HBB0 hcm d0
 by_cases hne:M=B
 case neg =>
  have hne':¬ (M:Int)=(B:Int):=by omega
  go_enter Tryz.func18,Tryz.ntmps18
  go_wp2_with fail
  rw [← hw1]
  clear hw1 hB
  refine (HBB.out _).mono ?_
  rintro e w2 ⟨rfl,hb2⟩
  have HB2:=Lib.hid (HB1.out.trans (hb2.mono HB1.out.size))
  clear hb2
  go_wp2
  go_ret2
  exact ⟨HB2.out,.inl ⟨by rw [HMM.out,HEQ2.out];exact hne,rfl⟩⟩
 subst hne
 go_enter Tryz.func18,Tryz.ntmps18
 go_wp2_with fail
 rw [← hw1]
 clear hw1
 refine (HBB.out _).mono ?_
 rintro e w2 ⟨rfl,hb2⟩
 have HB2:Hid (Below w.heap.size w w2):=Lib.hid (HB1.out.trans (hb2.mono HB1.out.size))
 have hd2:=keepB hb2 HD0.out
 have HD2:=Lib.hid hd2
 have q0:=cell_of_heap hd2 (j:=0) rfl
 have q1:=cell_of_heap hd2 (j:=1) rfl
 have ql:=lt_of_heap hd2
 clear hb2 hd2 y0 y1 l0
 have HPT:=Lib.hid (fun W=>rpoints_any n k W ⟨by omega,hn⟩)
 obtain ⟨N,hN⟩:∃ N,eN n=N:=⟨_,rfl⟩
 obtain ⟨f,hf⟩:∃ f:Nat→GF,f=fun i=>ev ms ((pows (eN n)).getD i 0):=⟨_,rfl⟩
 obtain ⟨F,hF⟩:∃ F:Nat→List GF,F=trSh n (pows (eN n)) ms:=⟨_,rfl⟩
 have hFf:∀ j o,o ≠ j→rowF (fun p=>f (eE n j (othN j p))) (cntO j (o+1))=rowF (fun p=>f (eE n j (othN j p))) (cntO j o) ++ [f (eE n j o)]:=fun j o ho=>by
  rw [cntO_succ ho,rowF_succ,cntO_plc ho,oth_plc ho]
 have hFa:∀ j,j < n→F j=rowF (fun p=>f (eE n j (othN j p))) (cntO j n):=fun j hj=>by rw [hF,cntO_all hj,hf];rfl
 have HFF:=Lib.hid (And.intro hFf hFa)
 have HFE:=Lib.hid hF
 have HEN:Hid (∀ W xv,GRd W xv (pows (eN n))→Below w.heap.size w W→Calls Tryz.prog 37 #[xv,.int .i64 M,.slice am M cm] W fun e w'=>∃ wv,e=.returned (.tuple #[wv,.int .i64 0])∧OwnG w' W.heap.size wv (rowF f N)∧Below W.heap.size W w'):=Lib.hid (fun W xv hx hb=>by
  refine (renc_any xv _ (pows (eN n)) ms M W hx (HM.out.below hb) (by rw [pows_len];omega) (by rw [HMM.out];omega) (by omega)).mono ?_
  rintro e w' ⟨h1,⟨-,v,h2,h3⟩ | ⟨h2,-⟩⟩
  ·rw [← hf,pows_len,hN] at h3
   exact ⟨v,h2,h3,h1⟩
  ·exact absurd (by rw [HMM.out]) h2)
 have hNN:∀ j o,j < n→o < n→o ≠ j→eE n j o < N:=fun j o hj ho hne=>by rw [← hN];exact eE_lt (Ne.symm hne) hj ho
 have HNN:=Lib.hid hNN
 have hNl:N≤253:=by omega
 clear hF hFf hFa hf hN hNN hB
 go_upto_region 3 with fail
 have hgr:=fun (w0 W:World) (p:Addr) (hp:(fun k=>k < w2.heap.size) p.block)=>graft_cell (w0:=w0) (keep:=(fun k=>k < w2.heap.size)) W hp
 refine wp_region_tree (fun k=>k < w2.heap.size) [1,3,5] (.sq [0,2,4,1,3,5,6,7,8,9,10] .done) (by kernel_rfl) (by kernel_rfl) ?_
 simp only [Tr.sq,List.foldr_cons,List.foldr_nil,slimTr,slimStep,Oper.slim,List.contains_cons,List.contains_nil,Option.map_none,Option.map_some,List.getElem?_toArray,List.getElem?_cons_zero,List.getElem?_cons_succ,Option.bind_some,beq_self_eq_true,Bool.or_false,Nat.reduceBEq,Nat.reduceAdd,Nat.zero_add]
 repeat' first | ((with_reducible refine wpSlimT_id ?_);first | (with_reducible refine wpSlimT_done ?_) | ((with_reducible refine wpSlimT_step (fun K hK=>?_));go_simp;first | (refine hK _ _ ?_;clear hK K) | (refine ⟨by (intro kk hkk;first | (simp (disch:=(simp;omega)) only [hp_drew,hp_drewN,hp_alloc,hp_set];done) | (simp [hp_drew,hp_drewN,hp_alloc_if,hkk];done) | fail),hK _ _ ?_⟩;clear hK K) | (go_at_call 38;(with_reducible refine (HPT.out _).mono ?_);rintro e wp ⟨pv,rfl,hop,hbp⟩;have HOP:=Lib.hid hop;have HBP:Hid (Below w2.heap.size w2 wp):=Lib.hid (((Below.refl w2.heap.size w2).drew).trans hbp);refine ⟨_,rfl,(fun kk hkk=>HBP.out.block kk hkk),hK _ _ ?_⟩;clear hop hbp hK K) | (go_at_call 15;(with_reducible refine (HBB.out _).mono ?_);rintro e wq ⟨rfl,hbq⟩;have HOQ:=Lib.hid (HOP.out.below hbq).rd;have HBQ:Hid (Below w2.heap.size w2 wq):=Lib.hid (HBP.out.trans (hbq.mono HBP.out.size));refine ⟨_,rfl,(fun kk hkk=>HBQ.out.block kk hkk),hK _ _ ?_⟩;clear hbq hK K) | (go_at_call 37;(with_reducible refine (HEN.out _ _ HOQ.out (HB2.out.trans (HBQ.out.mono HB2.out.size))).mono ?_);rintro e w3 ⟨wv,rfl,how,hb3⟩;have HOW:=Lib.hid how;have HB3:Hid (Below w2.heap.size w2 w3):=Lib.hid (HBQ.out.trans (hb3.mono HBQ.out.size));refine ⟨_,rfl,(fun kk hkk=>HB3.out.block kk hkk),hK _ _ ?_⟩;clear how hb3 hK K))) | fail
 clear hgr
 obtain ⟨aw,cw,rfl,-⟩:=HOW.out.form
 rw [rowF_len] at HOW ⊢
 have HBW:Hid (Below w.heap.size w w3):=Lib.hid (HB2.out.trans (HB3.out.mono HB2.out.size))
 have HD3:=Lib.hid (keepB HB3.out HD2.out)
 clear HEN HPT HBB HOP HBP HOQ HBQ q0 q1 ql
 go_wp2
 go_loopg [8,9] n (fun gk p i wr=>∃ (V:Value) (J:Nat) (S:List Ro),V=p∧i=.int .i64 J∧J≤n∧gk=n - J∧Hid (EncR w3 F V J S wr))
 case atStart=>exact ⟨_,0,[],rfl,rfl,by omega,rfl,Lib.hid ⟨Below.refl _ _,OwnR.nil _ _,rfl,fun s hs=>by cases hs⟩⟩
 case round =>
  obtain ⟨V,J,S,rfl,rfl,hJ,rfl,HI⟩:=hrel
  obtain ⟨wo,rfl⟩:∃ wo:World,wo=wr:=⟨_,rfl⟩
  have hdo:=keepB HI.out.be HD3.out
  have q0:=cell_of_heap hdo (j:=0) rfl
  have ql:=lt_of_heap hdo
  have hso:=HI.out.be.size
  clear hdo
  by_cases hlt:J < n
  ·go_wp2
   clear q0 ql
   go_loopg [10,11] n (fun gk p i wx=>∃ (V2:Value) (O:Nat),V2=p∧i=.int .i64 O∧O≤n∧gk=n - O∧Hid (OwnG wx wo.heap.size V2 (rowF (fun p=>f (eE n J (othN J p))) (cntO J O)))∧Hid (Below wo.heap.size wo wx))
   case atStart=>exact ⟨_,0,rfl,rfl,by omega,rfl,Lib.hid (by have:cntO J 0=0:=rfl;rw [this];exact OwnG.nil _ _),Lib.hid (Below.refl _ _)⟩
   case round =>
    obtain ⟨V2,O,rfl,rfl,hO,rfl,HO,HB⟩:=hrel
    have hsx:=HB.out.size
    have hdx:=keepB HB.out (keepB HI.out.be HD3.out)
    have q0:=cell_of_heap hdx (j:=0) rfl
    have q1:=cell_of_heap hdx (j:=1) rfl
    have ql:=lt_of_heap hdx
    clear hdx
    by_cases hlt2:O < n
    ·by_cases hne:O=J
     ·subst hne
      have HO2:Hid (OwnG wr wo.heap.size V2 (rowF (fun p=>f (eE n O (othN O p))) (cntO O (O+1)))):=Lib.hid (by rw [cntO_skip];exact HO.out)
      go_wp2
      go_roundg (n - (O+1))
      case measure=>omega
      case rel=>exact ⟨V2,O+1,rfl,by go_num,by omega,rfl,HO2,HB⟩
     ·have hne':¬ (O:Int)=(J:Int):=by omega
      have hne2:((O:Int) != (J:Int))=true:=by simp;omega
      have HED:=Lib.hid (redge_any n k O J wr hlt2 hlt hne hn)
      rw [eE_comm n O J] at HED
      have hel:=HNN.out J O hlt hlt2 hne
      obtain ⟨E,hE⟩:∃ E,eE n J O=E:=⟨_,rfl⟩
      rw [hE] at HED hel
      have HEE:=Lib.hid hE
      clear hE
      go_wp2_with fail
      refine HED.out.mono ?_
      rintro e wc ⟨rfl,hbc⟩
      have hbx:=HB.out.trans (hbc.mono hsx)
      obtain ⟨b9,o9,e9,h9,c9⟩:=((HOW.out.below (HI.out.be)).below hbx).rd.at (rowF_at hel)
      subst e9
      obtain ⟨y,hy⟩:∃ y,(f E).n=y:=⟨_,rfl⟩
      rw [hy] at c9
      obtain ⟨v3,w6,hap,ho6,hk6,hb6,-⟩:=app_byte (W:=wc) (f E) (HO.out.below hbc) (by rw [rowF_len];unfold cntO;split <;> omega) (by have:=hbx.size;omega) hy rfl
      have HO6:Hid (OwnG w6 wo.heap.size v3 (rowF (fun p=>f (eE n J (othN J p))) (cntO J (O+1)))):=Lib.hid (by rw [HFF.out.1 J O hne,HEE.out];exact ho6)
      have HB6:=Lib.hid (hbx.trans hb6)
      have i1:(0:Int)≤(E:Int)∧(E:Int) < (N:Int):=by omega
      clear hbc hbx hy ho6 hk6 hb6 HED HO HB
      go_wp2_with (at_builtin;refine wpList_append rfl _ _ _ rfl rfl rfl hap ?_)
      go_roundg (n - (O+1))
      case measure=>omega
      case rel=>exact ⟨v3,O+1,rfl,by go_num,by omega,rfl,HO6,HB6⟩
    ·obtain rfl:O=n:=by omega
     obtain ⟨a5,c5,rfl,v5,w5,hap,hr5⟩:=HI.out.push HB.out HO.out (HFF.out.2 J hlt).symm (by omega)
     have HI5:=Lib.hid hr5
     obtain ⟨d5,hd5⟩:∃ d5,(rowF (fun p=>f (eE O J (othN J p))) (cntO J O)).length=d5:=⟨_,rfl⟩
     rw [hd5] at hap ⊢
     clear hr5 HO HI hd5
     go_wp2_with (at_builtin;refine wpList_append rfl _ _ _ rfl rfl rfl hap ?_)
     go_roundg (O - (J+1))
     case measure=>omega
     case rel=>exact ⟨v5,J+1,_,rfl,by go_num,by omega,rfl,HI5⟩
  ·obtain rfl:J=n:=by omega
   go_wp2
   go_ret2
   exact ⟨HBW.out.trans (HI.out.be.mono HBW.out.size),.inr ⟨by rw [HMM.out,HEQ2.out],V,S,rfl,by rw [← HFE.out];exact HI.out.done HBW.out.size⟩⟩
end Go.Proofs.YtjdnicacnaokdaaGreat
/- What a node tells another one: the reference's Help. -/
namespace Go.Proofs.YtjdnicacnaokdaaGreat
open Go.RowKit Fld
set_option linter.unusedVariables false
set_option linter.unusedSimpArgs false

set_option maxRecDepth 100000 in
set_option maxHeartbeats 4000000 in
theorem rthelp_any (w:World) (n k:Nat) (sv:Value) (from_ to_:Int) (sh:List GF) (hn:1≤n∧n≤23) (hs:GRd w sv sh) (hsl:sh.length≤1000000) :
  Calls Tryz.prog 20 #[rt n k,.int .i64 from_,.int .i64 to_,sv] w (TrHelpPost n from_ to_ sh w):=by
 obtain ⟨as_,cs_,rfl,hcs⟩:=hs.form
 obtain ⟨L,hL⟩:∃ L,sh.length=L:=⟨_,rfl⟩
 obtain ⟨n1,hn1⟩:∃ n1,n - 1=n1:=⟨_,rfl⟩
 obtain ⟨w1,hw1⟩:∃ w1,w1=w.alloc (.cells #[.int .i64 n,.int .i64 k] 29):=⟨_,rfl⟩
 have hb1:Below w.heap.size w w1:=by rw [hw1];exact (Below.refl _ _).alloc (Nat.le_refl _) _
 have d0:w1.heap[w.heap.size]? = some (.cells #[.int .i64 n,.int .i64 k] 29 (0,0)):=by rw [hw1];exact heap_newA _ _
 have y0:=cell_of_heap d0 (j:=0) rfl
 have y1:=cell_of_heap d0 (j:=1) rfl
 have l0:=lt_of_heap d0
 have HAL0:=fun W:World=>rtal_any n k W ⟨hn.1,by omega⟩
 rw [hn1] at HAL0
 have HAL:=Lib.hid HAL0
 have HS:=Lib.hid hs
 have HB1:=Lib.hid hb1
 have HL:=Lib.hid (And.intro hL hn1)
 rw [hL]
 clear hs hb1 d0 HAL0 hL hn1 hcs
 go_enter Tryz.func20,Tryz.ntmps20
 go_upto_region 1 with fail
 rw [← hw1]
 clear hw1
 refine wp_region_units (.step 0 (.step 1 (.step 2 (.unit 2 false (.step 3 (.step 4 (.step 5 (.step 6 .done)))) 7 6 (.step 8 (.unit 8 false (.step 9 (.step 10 .done)) 11 10 (.step 12 (.unit 12 false (.step 13 (.step 14 (.step 15 (.step 16 .done)))) 17 16 (.step 18 (.unit 18 false (.step 19 (.step 20 (.step 21 .done))) 22 21 (.step 23 (.unit 23 false (.step 24 (.step 25 (.step 26 (.step 27 (.step 28 .done))))) 29 28 .done)))))))))))) (by kernel_rfl) (by kernel_rfl) ?_
 simp only [mkUT,dstOf,bare,Oper.slim,List.contains_cons,List.contains_nil,Option.map_none,Option.map_some,List.getElem?_toArray,List.getElem?_cons_zero,List.getElem?_cons_succ,Option.bind_some,beq_self_eq_true,Bool.or_false,Nat.reduceBEq,Nat.reduceAdd,Nat.zero_add,Option.getD_some,Option.isSome_some,Option.isSome_none,Bool.false_and,Bool.true_and,Bool.false_eq_true,if_false,if_true,Option.some_beq_some,Option.some_beq_none,Option.none_beq_some,reduceCtorEq,ite_true,ite_false]
 repeat ((with_reducible refine wpUT_step (fun K hK=>?_));go_simp;first | (refine hK _ _ ?_;clear hK K) | (refine ⟨by (intro kk hkk;first | exact hkk.elim | (simp (disch:=(simp;omega)) only [hp_drew,hp_drewN,hp_alloc,hp_set];done) | (simp [hp_drew,hp_drewN,hp_alloc_if,hkk];done) | fail),hK _ _ ?_⟩;clear hK K)| (go_at_call 42;(with_reducible refine (HAL.out _).mono ?_);rintro e wc ⟨rfl,hbc⟩;refine ⟨_,rfl,(fun kk hkk=>hkk.elim),hK _ _ ?_⟩;clear hK K))
 refine wpUT_unit (x:=?_) (by rfl) ?_ ?_
 rotate_left
 ·intro hgd
  repeat ((with_reducible refine wpUT_step (fun K hK=>?_));go_simp;first | (refine hK _ _ ?_;clear hK K) | (refine ⟨by (intro kk hkk;first | exact hkk.elim | (simp (disch:=(simp;omega)) only [hp_drew,hp_drewN,hp_alloc,hp_set];done) | (simp [hp_drew,hp_drewN,hp_alloc_if,hkk];done) | fail),hK _ _ ?_⟩;clear hK K)| (go_at_call 42;(with_reducible refine (HAL.out _).mono ?_);rintro e wc ⟨rfl,hbc⟩;refine ⟨_,rfl,(fun kk hkk=>hkk.elim),hK _ _ ?_⟩;clear hK K))
  exact wpUT_done ⟨by rfl,rfl⟩
 intro js
 simp only [UT.dsts,junk,SOp.dst,Option.toList_some,Option.toList_none,List.cons_append,List.nil_append,List.append_nil,cond_true,cond_false]
 repeat ((with_reducible refine wpUT_step (fun K hK=>?_));go_simp;first | (refine hK _ _ ?_;clear hK K) | (refine ⟨by (intro kk hkk;first | exact hkk.elim | (simp (disch:=(simp;omega)) only [hp_drew,hp_drewN,hp_alloc,hp_set];done) | (simp [hp_drew,hp_drewN,hp_alloc_if,hkk];done) | fail),hK _ _ ?_⟩;clear hK K)| (go_at_call 42;(with_reducible refine (HAL.out _).mono ?_);rintro e wc ⟨rfl,hbc⟩;refine ⟨_,rfl,(fun kk hkk=>hkk.elim),hK _ _ ?_⟩;clear hK K))
 refine wpUT_unit (x:=?_) (by rfl) ?_ ?_
 rotate_left
 ·intro hgd
  repeat ((with_reducible refine wpUT_step (fun K hK=>?_));go_simp;first | (refine hK _ _ ?_;clear hK K) | (refine ⟨by (intro kk hkk;first | exact hkk.elim | (simp (disch:=(simp;omega)) only [hp_drew,hp_drewN,hp_alloc,hp_set];done) | (simp [hp_drew,hp_drewN,hp_alloc_if,hkk];done) | fail),hK _ _ ?_⟩;clear hK K)| (go_at_call 42;(with_reducible refine (HAL.out _).mono ?_);rintro e wc ⟨rfl,hbc⟩;refine ⟨_,rfl,(fun kk hkk=>hkk.elim),hK _ _ ?_⟩;clear hK K))
  exact wpUT_done ⟨by rfl,rfl⟩
 intro js
 simp only [UT.dsts,junk,SOp.dst,Option.toList_some,Option.toList_none,List.cons_append,List.nil_append,List.append_nil,cond_true,cond_false]
 repeat ((with_reducible refine wpUT_step (fun K hK=>?_));go_simp;first | (refine hK _ _ ?_;clear hK K) | (refine ⟨by (intro kk hkk;first | exact hkk.elim | (simp (disch:=(simp;omega)) only [hp_drew,hp_drewN,hp_alloc,hp_set];done) | (simp [hp_drew,hp_drewN,hp_alloc_if,hkk];done) | fail),hK _ _ ?_⟩;clear hK K)| (go_at_call 42;(with_reducible refine (HAL.out _).mono ?_);rintro e wc ⟨rfl,hbc⟩;refine ⟨_,rfl,(fun kk hkk=>hkk.elim),hK _ _ ?_⟩;clear hK K))
 refine wpUT_unit (x:=?_) (by rfl) ?_ ?_
 rotate_left
 ·intro hgd
  repeat ((with_reducible refine wpUT_step (fun K hK=>?_));go_simp;first | (refine hK _ _ ?_;clear hK K) | (refine ⟨by (intro kk hkk;first | exact hkk.elim | (simp (disch:=(simp;omega)) only [hp_drew,hp_drewN,hp_alloc,hp_set];done) | (simp [hp_drew,hp_drewN,hp_alloc_if,hkk];done) | fail),hK _ _ ?_⟩;clear hK K)| (go_at_call 42;(with_reducible refine (HAL.out _).mono ?_);rintro e wc ⟨rfl,hbc⟩;refine ⟨_,rfl,(fun kk hkk=>hkk.elim),hK _ _ ?_⟩;clear hK K))
  exact wpUT_done ⟨by rfl,rfl⟩
 intro js
 simp only [UT.dsts,junk,SOp.dst,Option.toList_some,Option.toList_none,List.cons_append,List.nil_append,List.append_nil,cond_true,cond_false]
 repeat ((with_reducible refine wpUT_step (fun K hK=>?_));go_simp;first | (refine hK _ _ ?_;clear hK K) | (refine ⟨by (intro kk hkk;first | exact hkk.elim | (simp (disch:=(simp;omega)) only [hp_drew,hp_drewN,hp_alloc,hp_set];done) | (simp [hp_drew,hp_drewN,hp_alloc_if,hkk];done) | fail),hK _ _ ?_⟩;clear hK K)| (go_at_call 42;(with_reducible refine (HAL.out _).mono ?_);rintro e wc ⟨rfl,hbc⟩;refine ⟨_,rfl,(fun kk hkk=>hkk.elim),hK _ _ ?_⟩;clear hK K))
 refine wpUT_unit (x:=?_) (by rfl) ?_ ?_
 rotate_left
 ·intro hgd
  repeat ((with_reducible refine wpUT_step (fun K hK=>?_));go_simp;first | (refine hK _ _ ?_;clear hK K) | (refine ⟨by (intro kk hkk;first | exact hkk.elim | (simp (disch:=(simp;omega)) only [hp_drew,hp_drewN,hp_alloc,hp_set];done) | (simp [hp_drew,hp_drewN,hp_alloc_if,hkk];done) | fail),hK _ _ ?_⟩;clear hK K)| (go_at_call 42;(with_reducible refine (HAL.out _).mono ?_);rintro e wc ⟨rfl,hbc⟩;refine ⟨_,rfl,(fun kk hkk=>hkk.elim),hK _ _ ?_⟩;clear hK K))
  exact wpUT_done ⟨by rfl,rfl⟩
 intro js
 simp only [UT.dsts,junk,SOp.dst,Option.toList_some,Option.toList_none,List.cons_append,List.nil_append,List.append_nil,cond_true,cond_false]
 repeat ((with_reducible refine wpUT_step (fun K hK=>?_));go_simp;first | (refine hK _ _ ?_;clear hK K) | (refine ⟨by (intro kk hkk;first | exact hkk.elim | (simp (disch:=(simp;omega)) only [hp_drew,hp_drewN,hp_alloc,hp_set];done) | (simp [hp_drew,hp_drewN,hp_alloc_if,hkk];done) | fail),hK _ _ ?_⟩;clear hK K)| (go_at_call 42;(with_reducible refine (HAL.out _).mono ?_);rintro e wc ⟨rfl,hbc⟩;refine ⟨_,rfl,(fun kk hkk=>hkk.elim),hK _ _ ?_⟩;clear hK K))
 refine wpUT_unit_below (x:=?_) (by rfl) ?_ ?_
 rotate_left
 ·intro hgd
  repeat ((with_reducible refine wpUT_step (fun K hK=>?_));go_simp;first | (refine hK _ _ ?_;clear hK K) | (refine ⟨by (intro kk hkk;first | exact hkk.elim | (simp (disch:=(simp;omega)) only [hp_drew,hp_drewN,hp_alloc,hp_set];done) | (simp [hp_drew,hp_drewN,hp_alloc_if,hkk];done) | fail),hK _ _ ?_⟩;clear hK K)| (go_at_call 42;(with_reducible refine (HAL.out _).mono ?_);rintro e wc ⟨rfl,hbc⟩;refine ⟨_,rfl,(fun kk hkk=>hkk.elim),hK _ _ ?_⟩;clear hK K))
  exact wpUT_done ⟨by rfl,by (repeat' (first | (with_reducible exact RowKit.Below.refl _ _) | (with_reducible assumption) | (with_reducible refine RowKit.Below.drew ?_) | (with_reducible refine RowKit.Below.alloc ?_ ?_ _) | omega | (simp;done) | (simp;omega)))⟩
 intro js wu hbu
 simp only [UT.dsts,junk,SOp.dst,Option.toList_some,Option.toList_none,List.cons_append,List.nil_append,List.append_nil,cond_true,cond_false]
 try go_simp
 refine wpUT_done ?_
 try go_simp
 have HBW:Hid (Below w.heap.size w wu):=Lib.hid (HB1.out.trans (Below.mono hbu HB1.out.size))
 have hgd:(decide (from_ < 0) || decide ((n:Int)≤from_) || decide (to_ < 0) || decide ((n:Int)≤to_) || from_ == to_ || (L:Int) != (n1:Int))=false↔((0≤from_∧from_ < (n:Int))∧(0≤to_∧to_ < (n:Int))∧from_ ≠ to_∧L=n1):=by
  simp only [Bool.or_eq_false_iff,decide_eq_false_iff_not,beq_eq_false_iff_ne,bne_eq_false_iff_eq,ne_eq]
  omega
 generalize hq:(decide (from_ < 0) || decide ((n:Int)≤from_) || decide (to_ < 0) || decide ((n:Int)≤to_) || from_ == to_ || (L:Int) != (n1:Int))=q at *
 have HGD:=Lib.hid hgd
 clear hgd hq hbu
 cases q
 case true =>
  go_wp2
  go_ret2
  exact ⟨0,2,rfl,.inl ⟨(fun hg=>by rw [HL.out.1,HL.out.2] at hg;exact absurd (HGD.out.2 hg) (by simp)),rfl,rfl⟩,HBW.out⟩
 case false =>
  have hg:=HGD.out.1 (by trivial)
  obtain ⟨F,rfl⟩:∃ F:Nat,from_=(F:Int):=⟨from_.toNat,by omega⟩
  obtain ⟨T,rfl⟩:∃ T:Nat,to_=(T:Int):=⟨to_.toNat,by omega⟩
  have hF:F < n:=by omega
  have hT:T < n:=by omega
  have hFT:T ≠ F:=by omega
  have hp:plcN F T < sh.length:=by rw [HL.out.1];have:=plc_lt hFT hT hF;have:=HL.out.2;omega
  have HPL:=Lib.hid (rplace_any F T wu (by omega) (by omega) hFT)
  obtain ⟨x,hx,hxd⟩:=at_get hp
  have hsu:=HS.out.below HBW.out
  rw [HL.out.1] at hp
  obtain ⟨b2,o2,e2,hb2,c2⟩:=(show GRd wu (.slice as_ L cs_) sh by have:=hsu;rwa [HL.out.1] at this).at hx
  subst e2
  obtain ⟨p,hpp⟩:∃ p,plcN F T=p:=⟨_,rfl⟩
  rw [hpp] at HPL hp c2
  have i1:(0:Int)≤(p:Int)∧(p:Int) < (L:Int):=by omega
  obtain ⟨y,hy⟩:∃ y,x.n=y:=⟨_,rfl⟩
  rw [hy] at c2
  have HX:=Lib.hid (And.intro hxd hy)
  clear hg hx hxd hsu hpp hy
  go_wp2_with fail
  refine HPL.out.mono ?_
  rintro e wc ⟨rfl,rfl⟩
  clear HPL
  go_wp2
  go_ret2
  exact ⟨x,0,by rw [HX.out.2] <;> rfl,.inr ⟨by rw [HL.out.1,HL.out.2];exact HGD.out.1 (by trivial),by rw [Int.toNat_natCast,Int.toNat_natCast];exact HX.out.1.symm,rfl⟩,HBW.out⟩
end Go.Proofs.YtjdnicacnaokdaaGreat
/- A share, of what all others tell: the reference's Repair. -/
namespace Go.Proofs.YtjdnicacnaokdaaGreat
open Go.RowKit Fld
set_option linter.unusedVariables false
set_option linter.unusedSimpArgs false

def lR (l:List Sy):Nat→List Sy
 | 0=>[]
 | j+1=>lR l j ++ l.filter fun s=>decide (s.node=(j:Int))
theorem lR_perm (l:List Sy):∀ n,(lR l n).Perm (l.filter fun s=>decide (0≤s.node∧s.node < (n:Int)))
 | 0=>by
  rw [List.filter_eq_nil_iff.2 (fun s _=>by simp <;> omega)]
  exact List.Perm.refl _
 | n+1=>by
  have h:=List.filter_append_perm (fun s:Sy=>decide (s.node < (n:Int))) (l.filter fun s=>decide (0≤s.node∧s.node < ((n+1:Nat):Int)))
  rw [List.filter_filter,List.filter_filter] at h
  have e1:(l.filter fun s=>decide (s.node < (n:Int)) && decide (0≤s.node∧s.node < ((n+1:Nat):Int)))=l.filter fun s=>decide (0≤s.node∧s.node < (n:Int)):=List.filter_congr fun s _=>by
   rw [← Bool.decide_and]
   exact decide_eq_decide.2 (by omega)
  have e2:(l.filter fun s=>(!decide (s.node < (n:Int))) && decide (0≤s.node∧s.node < ((n+1:Nat):Int)))=l.filter fun s=>decide (s.node=(n:Int)):=List.filter_congr fun s _=>by
   rw [← decide_not,← Bool.decide_and]
   exact decide_eq_decide.2 (by omega)
  rw [e1,e2] at h
  exact ((lR_perm l n).append_right _).trans h
theorem lR_mem {l:List Sy} {n:Nat} {s:Sy} (h:s ∈ lR l n):s.node < (n:Int):=by
 have:=(lR_perm l n).mem_iff.1 h
 exact (of_decide_eq_true (List.mem_filter.1 this).2).2
theorem lR_sort (l:List Sy):∀ n,(Sy.nodes (lR l n)).Pairwise (·≤·)
 | 0=>List.Pairwise.nil
 | n+1=>by
  rw [show lR l (n+1)=lR l n ++ l.filter (fun s=>decide (s.node=(n:Int))) from rfl,Sy.nodes,List.map_append,List.pairwise_append]
  refine ⟨lR_sort l n,?_,fun a ha b hb=>?_⟩
  ·rw [List.pairwise_map]
   refine List.pairwise_of_forall_mem_list fun a ha b hb=>?_
   have h1:=of_decide_eq_true (List.mem_filter.1 ha).2
   have h2:=of_decide_eq_true (List.mem_filter.1 hb).2
   omega
  ·obtain ⟨s,hs,rfl⟩:=List.mem_map.1 ha
   obtain ⟨t,ht,rfl⟩:=List.mem_map.1 hb
   have h1:=lR_mem hs
   have h2:=of_decide_eq_true (List.mem_filter.1 ht).2
   omega
theorem lR_all {l:List Sy} {n:Nat} (h:∀ s ∈ l,0≤s.node∧s.node < (n:Int)):(lR l n).Perm l:=by
 have:=lR_perm l n
 rwa [List.filter_eq_self.2 (fun s hs=>decide_eq_true (h s hs))] at this
noncomputable def byR (l:List Sy):List GF:=l.map fun s=>s.d.getD 0 0
theorem fil_succ {l:List Sy} {I j:Nat} {s:Sy} (hs:l[I]? = some s):(l.take (I+1)).filter (fun s=>decide (s.node=(j:Int)))=(l.take I).filter (fun s=>decide (s.node=(j:Int))) ++ if s.node=(j:Int) then [s] else []:=by
 rw [List.take_add_one,hs,List.filter_append]
 congr 1
 by_cases h:s.node=(j:Int) <;> simp [h]
set_option maxRecDepth 100000 in
set_option maxHeartbeats 4000000 in
theorem rtrep_any (w:World) (n k:Nat) (hv:Value) (to_:Int) (l:List Sy) (hn:1≤n∧n≤23) (hl:SyAll w hv l) (hll:l.length≤100) :
  Calls Tryz.prog 26 #[rt n k,.int .i64 to_,hv] w (TrRepPost n to_ l w):=by
 obtain ⟨ah,ch,rfl⟩:=hl.rd.form
 obtain ⟨L,hL⟩:∃ L,l.length=L:=⟨_,rfl⟩
 obtain ⟨n1,hn1⟩:∃ n1,n - 1=n1:=⟨_,rfl⟩
 have x1:(n:Int) - 1=(n1:Int):=by omega
 have x2:IntKind.i64.wrap (n1:Int)=(n1:Int):=IntWalk.i64_in _ (by omega)
 obtain ⟨w1,hw1⟩:∃ w1,w1=w.alloc (.cells #[.int .i64 n,.int .i64 k] 29):=⟨_,rfl⟩
 have hb1:Below w.heap.size w w1:=by rw [hw1];exact (Below.refl _ _).alloc (Nat.le_refl _) _
 have d0:w1.heap[w.heap.size]? = some (.cells #[.int .i64 n,.int .i64 k] 29 (0,0)):=by rw [hw1];exact heap_newA _ _
 have y0:=cell_of_heap d0 (j:=0) rfl
 have l0:=lt_of_heap d0
 obtain ⟨b2,hbb2⟩:=bool_ex (SyGood n to_ 1 l)
 have HRW0:=(rrows_any n _ l to_ 1 w1 (hl.below hb1) (by omega)).mono fun e w' h=>h.bool hbb2
 rw [hL,show ((1:Nat):Int)=1 from rfl] at HRW0
 have HRW:=Lib.hid HRW0
 have hgood:(decide (to_ < 0) || decide ((n:Int)≤to_) || !b2)=false↔((0≤to_∧to_ < (n:Int))∧SyGood n to_ 1 l):=by
  simp only [Bool.or_eq_false_iff,decide_eq_false_iff_not,Bool.not_eq_false',hbb2]
  constructor
  ·rintro ⟨⟨h1,h2⟩,h3⟩
   exact ⟨by omega,h3⟩
  ·rintro ⟨h1,h3⟩
   exact ⟨by omega,h3⟩
 have HS:=Lib.hid hl
 have HB1:=Lib.hid hb1
 have HL:=Lib.hid (And.intro hL hn1)
 have HD0:=Lib.hid d0
 rw [hL] at HS hll ⊢
 go_enter Tryz.func26,Tryz.ntmps26
 go_upto_region 1 with fail
 rw [← hw1]
 clear hl hL hn1 hb1 d0 HRW0 hw1 hbb2
 refine wp_region_units (.step 0 (.step 1 (.step 2 (.unit 2 false (.step 3 (.step 4 (.step 5 (.step 6 .done)))) 7 6 (.step 8 (.unit 8 false (.step 9 (.step 10 (.step 11 (.step 12 (.step 13 (.step 14 .done)))))) 15 14 .done)))))) (by kernel_rfl) (by kernel_rfl) ?_
 simp only [mkUT,dstOf,bare,Oper.slim,List.contains_cons,List.contains_nil,Option.map_none,Option.map_some,List.getElem?_toArray,List.getElem?_cons_zero,List.getElem?_cons_succ,Option.bind_some,beq_self_eq_true,Bool.or_false,Nat.reduceBEq,Nat.reduceAdd,Nat.zero_add,Option.getD_some,Option.isSome_some,Option.isSome_none,Bool.false_and,Bool.true_and,Bool.false_eq_true,if_false,if_true,Option.some_beq_some,Option.some_beq_none,Option.none_beq_some,reduceCtorEq,ite_true,ite_false]
 repeat ((with_reducible refine wpUT_step (fun K hK=>?_));go_simp;first | (refine hK _ _ ?_;clear hK K) | (refine ⟨by (intro kk hkk;first | exact hkk.elim | (simp (disch:=(simp;omega)) only [hp_drew,hp_drewN,hp_alloc,hp_set];done) | (simp [hp_drew,hp_drewN,hp_alloc_if,hkk];done) | fail),hK _ _ ?_⟩;clear hK K)| (go_at_call 50;(with_reducible refine HRW.out.mono ?_);rintro e wc ⟨rfl,hbc⟩;refine ⟨_,rfl,(fun kk hkk=>hkk.elim),hK _ _ ?_⟩;clear hK K))
 refine wpUT_unit (x:=?_) (by rfl) ?_ ?_
 rotate_left
 ·intro hgd
  repeat ((with_reducible refine wpUT_step (fun K hK=>?_));go_simp;first | (refine hK _ _ ?_;clear hK K) | (refine ⟨by (intro kk hkk;first | exact hkk.elim | (simp (disch:=(simp;omega)) only [hp_drew,hp_drewN,hp_alloc,hp_set];done) | (simp [hp_drew,hp_drewN,hp_alloc_if,hkk];done) | fail),hK _ _ ?_⟩;clear hK K)| (go_at_call 50;(with_reducible refine HRW.out.mono ?_);rintro e wc ⟨rfl,hbc⟩;refine ⟨_,rfl,(fun kk hkk=>hkk.elim),hK _ _ ?_⟩;clear hK K))
  exact wpUT_done ⟨by rfl,rfl⟩
 intro js
 simp only [UT.dsts,junk,SOp.dst,Option.toList_some,Option.toList_none,List.cons_append,List.nil_append,List.append_nil,cond_true,cond_false]
 repeat ((with_reducible refine wpUT_step (fun K hK=>?_));go_simp;first | (refine hK _ _ ?_;clear hK K) | (refine ⟨by (intro kk hkk;first | exact hkk.elim | (simp (disch:=(simp;omega)) only [hp_drew,hp_drewN,hp_alloc,hp_set];done) | (simp [hp_drew,hp_drewN,hp_alloc_if,hkk];done) | fail),hK _ _ ?_⟩;clear hK K)| (go_at_call 50;(with_reducible refine HRW.out.mono ?_);rintro e wc ⟨rfl,hbc⟩;refine ⟨_,rfl,(fun kk hkk=>hkk.elim),hK _ _ ?_⟩;clear hK K))
 refine wpUT_unit_below (x:=?_) (by rfl) ?_ ?_
 rotate_left
 ·intro hgd
  repeat ((with_reducible refine wpUT_step (fun K hK=>?_));go_simp;first | (refine hK _ _ ?_;clear hK K) | (refine ⟨by (intro kk hkk;first | exact hkk.elim | (simp (disch:=(simp;omega)) only [hp_drew,hp_drewN,hp_alloc,hp_set];done) | (simp [hp_drew,hp_drewN,hp_alloc_if,hkk];done) | fail),hK _ _ ?_⟩;clear hK K)| (go_at_call 50;(with_reducible refine HRW.out.mono ?_);rintro e wc ⟨rfl,hbc⟩;refine ⟨_,rfl,(fun kk hkk=>hkk.elim),hK _ _ ?_⟩;clear hK K))
  exact wpUT_done ⟨by rfl,by (repeat' (first | (with_reducible exact RowKit.Below.refl _ _) | (with_reducible assumption) | (with_reducible refine RowKit.Below.drew ?_) | (with_reducible refine RowKit.Below.alloc ?_ ?_ _) | omega | (simp;done) | (simp;omega)))⟩
 intro js wu hbu
 have hbA:Below w1.heap.size w1 wu:=hbu
 simp only [UT.dsts,junk,SOp.dst,Option.toList_some,Option.toList_none,List.cons_append,List.nil_append,List.append_nil,cond_true,cond_false]
 try go_simp
 refine wpUT_done ?_
 try go_simp
 have HBU:Hid (Below w.heap.size w wu):=Lib.hid (HB1.out.trans (hbA.mono HB1.out.size))
 have hdu:=keepB hbA HD0.out
 have HDU:=Lib.hid hdu
 have yu:=cell_of_heap hdu (j:=0) rfl
 have lu:=lt_of_heap hdu
 generalize hq:(decide (to_ < 0) || decide ((n:Int)≤to_) || !b2)=q at *
 have HGQ:=Lib.hid hgood
 clear hgood hq hbu hbA HRW y0 l0 hdu
 generalize decide (to_ < 0)=p1
 generalize decide ((n:Int)≤to_)=p2
 cases q
 case true =>
  go_wp2
  go_ret2
  exact ⟨_,[],2,rfl,.inl ⟨(fun hg=>absurd (HGQ.out.2 hg) (by simp)),rfl,rfl⟩,OwnG.nil _ _,HBU.out⟩
 case false =>
  have hg:=HGQ.out.1 (by trivial)
  obtain ⟨T,rfl⟩:∃ T:Nat,to_=(T:Int):=⟨to_.toNat,by omega⟩
  have HG:=Lib.hid hg
  clear hg HGQ
  by_cases hfew:L < n1
  ·go_wp2
   go_ret2
   exact ⟨_,[],70,rfl,.inr ⟨HG.out,.inl ⟨by rw [HL.out.1,HL.out.2];exact hfew,rfl,rfl⟩⟩,OwnG.nil _ _,HBU.out⟩
  have hmany:n1≤L:=by omega
  have hsw:=HBU.out.size
  obtain ⟨w5,rfl⟩:∃ w5:World,w5=wu:=⟨_,rfl⟩
  go_wp2
  clear yu lu
  go_loopg [8,9] n (fun gk p i wr=>∃ (V:Value) (J:Nat),V=p∧i=.int .i64 J∧J≤n∧gk=n - J∧Hid (OwnG wr w5.heap.size V (byR (lR l J)))∧Hid (Below w5.heap.size w5 wr))
  case atStart=>exact ⟨_,0,rfl,rfl,by omega,rfl,Lib.hid (OwnG.nil _ _),Lib.hid (Below.refl _ _)⟩
  case round =>
   obtain ⟨V,J,rfl,rfl,hJ,rfl,HO,HB⟩:=hrel
   have hdr:=keepB HB.out HDU.out
   have yr:=cell_of_heap hdr (j:=0) rfl
   have lr:=lt_of_heap hdr
   clear hdr
   by_cases hlt:J < n
   ·have HO0:Hid (OwnG wr w5.heap.size V (byR (lR l J) ++ byR ((l.take 0).filter fun s=>decide (s.node=(J:Int))))):=Lib.hid (by
     rw [List.take_zero]
     show OwnG wr w5.heap.size V (byR (lR l J) ++ [])
     rw [List.append_nil]
     exact HO.out)
    have HLEN:Hid ((byR (lR l J)).length≤1000):=Lib.hid (by
     have h1:=(lR_perm l J).length_eq
     have h2:=List.length_filter_le (fun s:Sy=>decide (0≤s.node∧s.node < (J:Int))) l
     unfold byR
     rw [List.length_map,h1]
     have:=HL.out.1
     omega)
    go_wp2
    clear yr lr
    go_loopg [8,10] L (fun gk p i wx=>∃ (V:Value) (I:Nat),V=p∧i=.int .i64 I∧I≤L∧gk=L - I∧Hid (OwnG wx w5.heap.size V (byR (lR l J) ++ byR ((l.take I).filter fun s=>decide (s.node=(J:Int)))))∧Hid (Below w5.heap.size w5 wx))
    case atStart=>exact ⟨_,0,rfl,rfl,by omega,rfl,HO0,HB⟩
    case round =>
     clear HO HO0 HB
     obtain ⟨V,I,rfl,rfl,hI,rfl,HO,HB⟩:=hrel
     have hsx:=HB.out.size
     by_cases hlt2:I < L
     ·obtain ⟨s,hs⟩:∃ s,l[I]? = some s:=⟨_,List.getElem?_eq_getElem (by rw [HL.out.1];exact hlt2)⟩
      have hmem:=List.mem_of_getElem? hs
      have hsl:=(HG.out.2.2 s hmem).2
      have hall:=HS.out.below (HBU.out.trans (HB.out.mono hsw))
      obtain ⟨-,hcap,b,o,e3,hb,hat⟩:=SRd.at hall.rd hs
      subst e3
      have c0:wr.cell? ⟨b,o+I * 2,none⟩=some (.int .i64 s.node):=hat 0 _ rfl
      have c1:wr.cell? ⟨b,o+I * 2+1,none⟩=some (.slice s.a s.d.length s.cp):=hat 1 _ rfl
      have hrd:=hall.each s hmem
      unfold Sy.rd at hrd
      obtain ⟨y,hy,hyd⟩:=at_get (l:=s.d) (i:=0) (by rw [hsl];omega)
      obtain ⟨b2,o2,e2,hb2,c2⟩:=GRd.at hrd hy
      rw [e2] at c1
      rw [hsl] at c1
      rw [Nat.add_zero] at c2
      obtain ⟨z,hz⟩:∃ z,y.n=z:=⟨_,rfl⟩
      rw [hz] at c2
      have hfs:=fil_succ (j:=J) hs
      have hlen2:(byR ((l.take I).filter fun s=>decide (s.node=(J:Int)))).length≤1000:=by
       unfold byR
       rw [List.length_map]
       have h2:=List.length_filter_le (fun s:Sy=>decide (s.node=(J:Int))) (l.take I)
       rw [List.length_take] at h2
       omega
      obtain ⟨x,hx⟩:∃ x,s.node=x:=⟨_,rfl⟩
      rw [hx] at c0 hfs
      have i1:(0:Int)≤(I:Int)∧(I:Int) < (L:Int):=by omega
      by_cases hxj:x=(J:Int)
      ·rw [if_pos hxj] at hfs
       obtain ⟨v1,w7,hap,ho7,hk7,hb7,-⟩:=app_byte (W:=wr) y HO.out (by rw [List.length_append];have:=HLEN.out;omega) hsx hz rfl
       have HO7:Hid (OwnG w7 w5.heap.size v1 (byR (lR l J) ++ byR ((l.take (I+1)).filter fun s=>decide (s.node=(J:Int))))):=Lib.hid (by
        rw [hfs]
        unfold byR at ho7 ⊢
        rw [List.map_append,← List.append_assoc,List.map_cons,hyd]
        exact ho7)
       have HB7:=Lib.hid (HB.out.trans hb7)
       subst hxj
       clear hs hmem hsl hall hcap hat hrd hy hyd e2 hz hfs hlen2 hx ho7 hk7 hb7
       go_wp2_with (at_builtin;refine wpList_append rfl _ _ _ rfl rfl rfl hap ?_)
       go_roundg (L - (I+1))
       case measure=>omega
       case rel=>exact ⟨v1,I+1,rfl,by go_num,by omega,rfl,HO7,HB7⟩
      ·rw [if_neg hxj,List.append_nil] at hfs
       have HO7:Hid (OwnG wr w5.heap.size V (byR (lR l J) ++ byR ((l.take (I+1)).filter fun s=>decide (s.node=(J:Int))))):=Lib.hid (by rw [hfs];exact HO.out)
       have hxj2:(x == (J:Int))=false:=by simpa using hxj
       clear hs hmem hsl hall hcap hat hrd hy hyd e2 hz hfs hlen2 hx
       go_wp2
       go_roundg (L - (I+1))
       case measure=>omega
       case rel=>exact ⟨V,I+1,rfl,by go_num,by omega,rfl,HO7,HB⟩
     ·obtain rfl:I=L:=by omega
      have HO7:Hid (OwnG wr w5.heap.size V (byR (lR l (J+1)))):=Lib.hid (by
       have h1:=HO.out
       rw [← HL.out.1,List.take_length] at h1
       rw [show lR l (J+1)=lR l J ++ l.filter (fun s=>decide (s.node=(J:Int))) from rfl]
       unfold byR at h1 ⊢
       rw [List.map_append]
       exact h1)
      go_wp2
      go_roundg (n - (J+1))
      case measure=>omega
      case rel=>exact ⟨V,J+1,rfl,by go_num,by omega,rfl,HO7,HB⟩
   ·obtain rfl:J=n:=by omega
    have HP:Hid (TrRepIs J (T:Int) l (byR (lR l J)) 0):=Lib.hid (rep_of (by have:=HG.out.1;omega) HG.out.2 (by rw [HL.out.1,HL.out.2];exact hmany) (lR_all fun s hs=>HG.out.2.1.1 s.node (List.mem_map.2 ⟨s,hs,rfl⟩)) (lR_sort l J))
    go_wp2
    go_ret2
    exact ⟨V,_,0,rfl,HP.out,HO.out.mono hsw,HBU.out.trans (HB.out.mono hsw)⟩
end Go.Proofs.YtjdnicacnaokdaaGreat
/- Whose shares are others: the reference's Wrong. -/
namespace Go.Proofs.YtjdnicacnaokdaaGreat
open Go.RowKit Fld
set_option linter.unusedVariables false
set_option linter.unusedSimpArgs false

set_option maxRecDepth 100000 in
set_option maxHeartbeats 8000000 in
theorem rwrongD_any (av sv:Value) (S:List Ro) (l:List Sy) (w:World) (hS:RoAll w av S) (hl:SyAll w sv l) (hSl:S.length≤1000) (hll:l.length≤1000) :
  Calls Tryz.prog 54 #[av,sv] w fun e w'=>∃ v,e=.returned v∧OwnZ w' w.heap.size v (oth (S.map Ro.d) l S.length)∧Below w.heap.size w w':=by
 obtain ⟨aS,cS,rfl⟩:=hS.rd.form
 obtain ⟨a0,c0,rfl⟩:=hl.rd.form
 obtain ⟨N,hN⟩:∃ N,S.length=N:=⟨_,rfl⟩
 obtain ⟨I,hI⟩:∃ I,l.length=I:=⟨_,rfl⟩
 have HN:=Lib.hid hN
 have HLL:=Lib.hid hI
 have HS:=Lib.hid hS
 have HT:=Lib.hid hl
 rw [hN] at HS hSl ⊢
 rw [hI] at HT hll ⊢
 clear hS hl hN hI
 go_enter Tryz.func54,Tryz.ntmps54
 go_wp2
 go_loopg [5,6] N (fun gk p i wr=>∃ (V:Value) (j:Nat),V=p∧j≤N∧gk=N - j∧i=.int .i64 j∧Hid (OwnZ wr w.heap.size V (oth (S.map Ro.d) l j))∧Hid (Below w.heap.size w wr))
 case atStart=>exact ⟨_,0,rfl,by omega,rfl,rfl,Lib.hid (OwnZ.nil _ _),Lib.hid (Below.refl _ _)⟩
 case round =>
  obtain ⟨V,j,rfl,hj,rfl,rfl,HO,HB6⟩:=hrel
  have hsr6:=HB6.out.size
  by_cases hltj:j < N
  ·have HLEN:Hid ((oth (S.map Ro.d) l j).length≤1000):=Lib.hid (Nat.le_trans (oth_len _ _ _) (Nat.le_trans (List.length_filter_le _ _) (by rw [HLL.out];omega)))
   go_wp2
   go_loopg [5,7] I (fun gk p i wr=>∃ (V:Value) (E:Nat),V=p∧E≤I∧gk=I - E∧i=.int .i64 E∧Hid (OwnZ wr w.heap.size V (oth (S.map Ro.d) l j ++ othT (S.map Ro.d) (l.take E) j))∧Hid (Below w.heap.size w wr))
   case atStart=>exact ⟨_,0,rfl,by omega,rfl,rfl,by rw [othT_nil,List.append_nil];exact HO,HB6⟩
   case round =>
    clear HO HB6 hsr6
    obtain ⟨V,E,rfl,hE,rfl,rfl,HO,HB6⟩:=hrel
    have hsr6:=HB6.out.size
    by_cases hltE:E < I
    ·obtain ⟨s,hs⟩:∃ s,l[E]? = some s:=⟨_,List.getElem?_eq_getElem (by rw [HLL.out];exact hltE)⟩
     obtain ⟨q,hq⟩:∃ q,S[j]? = some q:=⟨_,List.getElem?_eq_getElem (by rw [HN.out];exact hltj)⟩
     have hbw:Below w.heap.size w wr:=HB6.out
     have hTR:=HT.out.below HB6.out
     obtain ⟨-,-,bv,ov,rfl,hbv,hat⟩:=SRd.at hTR.rd hs
     have d0:wr.cell? ⟨bv,ov+E * 2,none⟩=some (.int .i64 s.node):=hat 0 _ rfl
     have d1:wr.cell? ⟨bv,ov+E * 2+1,none⟩=some (.slice s.a s.d.length s.cp):=hat 1 _ rfl
     obtain ⟨-,-,bq,oq,rfl,hbq,hatq⟩:=SRd.at (HS.out.below hbw).rd hq
     have d2:wr.cell? ⟨bq,oq+j,none⟩=some (.slice q.a q.d.length q.cp):=by simpa [Ro.v] using hatq 0 _ rfl
     have r1:GRd wr (.slice s.a s.d.length s.cp) s.d:=hTR.each s (List.mem_of_getElem? hs)
     have r2:GRd wr (.slice q.a q.d.length q.cp) q.d:=(HS.out.below hbw).each q (List.mem_of_getElem? hq)
     have v1:=BytesRd.conv (GRd.below r1 (Below.refl _ _).drew)
     have v2:=BytesRd.conv (GRd.below r2 (Below.refl _ _).drew)
     have hst:strOf (s.d.map GF.n)=strOf (q.d.map GF.n)↔s.d=q.d:=(strOf_inj r1.1 r2.1).trans ⟨fun e=>mapn_inj e,fun e=>by rw [e]⟩
     obtain ⟨st1,hst1⟩:∃ st,strOf (s.d.map GF.n)=st:=⟨_,rfl⟩
     obtain ⟨st2,hst2⟩:∃ st,strOf (q.d.map GF.n)=st:=⟨_,rfl⟩
     rw [hst1] at v1 hst
     rw [hst2] at v2 hst
     have hot:=othT_succ (D:=S.map Ro.d) (j:=j) hs
     have HBD:Hid (Below w.heap.size w wr.drew):=Lib.hid HB6.out.drew
     obtain ⟨x,hx⟩:∃ x,s.node=x:=⟨_,rfl⟩
     rw [hx] at d0
     obtain ⟨kp,hkp⟩:∃ kp:Nat→Bool,∀ j,kp j=true↔j < wr.heap.size:=⟨fun j=>decide (j < wr.heap.size),by simp⟩
     have k1:kp bv=true:=(hkp _).2 hbv
     have k2:kp bq=true:=(hkp _).2 hbq
     have HKP:=Lib.hid hkp
     have i1:(0:Int)≤(E:Int)∧(E:Int) < (I:Int):=by omega
     have i2:(0:Int)≤(j:Int)∧(j:Int) < (N:Int):=by omega
     have hbq2:bad (S.map Ro.d) s=decide (s.d ≠ (S.map Ro.d).getD s.node.toNat []):=rfl
     have HLT:=Lib.hid hltE
     by_cases hxj:x=(j:Int)
     ·have hdj:(S.map Ro.d).getD s.node.toNat []=q.d:=by rw [hx,hxj,Int.toNat_natCast];exact dAt hq
      rw [hdj] at hbq2
      rw [hx] at hot
      subst hxj
      by_cases hss:st1=st2
      ·subst hss
       have hbf:bad (S.map Ro.d) s=false:=by rw [hbq2,decide_eq_false (not_not_intro (hst.1 rfl))]
       have HO2:Hid (OwnZ wr.drew w.heap.size V (oth (S.map Ro.d) l j ++ othT (S.map Ro.d) (l.take (E+1)) j)):=Lib.hid (by
        rw [hot,hbf,if_neg (by simp)]
        exact HO.out)
       clear hkp hx hs hq hTR hat hatq r1 r2 hst hst1 hst2 hot hbq2 hdj hbf hbw
       go_upto_region 8 with fail
       have hgr:=fun (w0 W:World) (p:Addr) (hp:(fun j=>kp j=true) p.block)=>graft_cell (w0:=w0) (keep:=(fun j=>kp j=true)) W hp
       refine wp_region_tree (fun j=>kp j=true) [13,18] (.sq [0,1,2,3,4,5,6,7,8,9,10,11,12,14,15,16,17] (.fork 13 (.sq [18,19,20] .done) 18 (.sq [13,19,20] .done))) (by kernel_rfl) (by kernel_rfl) ?_
       simp only [Tr.sq,List.foldr_cons,List.foldr_nil,slimTr,slimStep,Oper.slim,List.contains_cons,List.contains_nil,Option.map_none,Option.map_some,List.getElem?_toArray,List.getElem?_cons_zero,List.getElem?_cons_succ,Option.bind_some,beq_self_eq_true,Bool.or_false,Nat.reduceBEq,Nat.reduceAdd,Nat.zero_add]
       repeat' first | ((with_reducible refine wpSlimT_id ?_);first | (with_reducible refine wpSlimT_done ?_) | (with_reducible refine wpSlimT_fork ?_ ?_) | ((with_reducible refine wpSlimT_step (fun K hK=>?_));go_simp;first | (refine hK _ _ ?_;clear hK K) | (refine ⟨by (intro kk hkk;first | (simp (disch:=(simp;omega)) only [hp_drew,hp_drewN,hp_alloc,hp_set];done) | (simp [hp_drew,hp_drewN,hp_alloc_if,hkk];done) | (have hkk2:=(HKP.out kk).1 hkk;simp (disch:=(first | omega | (simp;omega))) only [hp_drew,hp_drewN,hp_alloc,hp_set];done)),hK _ _ ?_⟩;clear hK K))) | fail
       all_goals clear hgr
       all_goals go_wp2
       all_goals go_roundg (I - (E+1))
       all_goals first
        | omega
        | exact Nat.sub_lt_sub_left HLT.out (Nat.lt_succ_self E)
        | exact ⟨_,E+1,rfl,HLT.out,rfl,by go_num,HO2,HBD⟩
      ·have hsl:¬ st1.data.toList=st2.data.toList:=fun e=>hss (by
        have e2:st1.data=st2.data:=Array.toList_inj.1 e
        cases st1;cases st2;simp only at e2;rw [e2])
       have hb1:(st1.data.toList == st2.data.toList)=false:=by simpa using hsl
       have hb2:(st1.toList == st2.toList)=false:=by rw [ByteArray.toList_eq,ByteArray.toList_eq];exact hb1
       have hbf:bad (S.map Ro.d) s=true:=hbq2.trans (decide_eq_true (show s.d ≠ q.d from fun e=>hss (hst.2 e)))
       obtain ⟨v1',w6,hap,ho1,-,hb6,-⟩:=app_int (W:=wr.drew) (j:Int) HO.out (by
        have:=HLEN.out
        have:=othT_len (S.map Ro.d) (l.take E) j
        rw [List.length_take] at this
        rw [List.length_append]
        omega) (by simpa using HB6.out.size) (ad:=wr.heap.size) rfl
       have HO6:Hid (OwnZ w6 w.heap.size v1' (oth (S.map Ro.d) l j ++ othT (S.map Ro.d) (l.take (E+1)) j)):=Lib.hid (by
        rw [hot,hbf,if_pos (by simp),← List.append_assoc]
        exact ho1)
       have HB7:Hid (Below w.heap.size w w6):=Lib.hid (HBD.out.trans hb6)
       clear hkp hx hs hq hTR hat hatq r1 r2 hst hst1 hst2 hot hbq2 hdj hbf hss ho1 hb6 hbw
       go_upto_region 8 with fail
       have hgr:=fun (w0 W:World) (p:Addr) (hp:(fun j=>kp j=true) p.block)=>graft_cell (w0:=w0) (keep:=(fun j=>kp j=true)) W hp
       refine wp_region_tree (fun j=>kp j=true) [13,18] (.sq [0,1,2,3,4,5,6,7,8,9,10,11,12,14,15,16,17] (.fork 13 (.sq [18,19,20] .done) 18 (.sq [13,19,20] .done))) (by kernel_rfl) (by kernel_rfl) ?_
       simp only [Tr.sq,List.foldr_cons,List.foldr_nil,slimTr,slimStep,Oper.slim,List.contains_cons,List.contains_nil,Option.map_none,Option.map_some,List.getElem?_toArray,List.getElem?_cons_zero,List.getElem?_cons_succ,Option.bind_some,beq_self_eq_true,Bool.or_false,Nat.reduceBEq,Nat.reduceAdd,Nat.zero_add]
       repeat' first | ((with_reducible refine wpSlimT_id ?_);first | (with_reducible refine wpSlimT_done ?_) | (with_reducible refine wpSlimT_fork ?_ ?_) | ((with_reducible refine wpSlimT_step (fun K hK=>?_));go_simp;first | (refine hK _ _ ?_;clear hK K) | (refine ⟨by (intro kk hkk;first | (simp (disch:=(simp;omega)) only [hp_drew,hp_drewN,hp_alloc,hp_set];done) | (simp [hp_drew,hp_drewN,hp_alloc_if,hkk];done) | (have hkk2:=(HKP.out kk).1 hkk;simp (disch:=(first | omega | (simp;omega))) only [hp_drew,hp_drewN,hp_alloc,hp_set];done)),hK _ _ ?_⟩;clear hK K))) | fail
       all_goals clear hgr
       all_goals go_wp2_with (at_builtin;refine wpList_append rfl _ _ _ rfl rfl rfl hap ?_)
       all_goals go_roundg (I - (E+1))
       all_goals first
        | omega
        | exact Nat.sub_lt_sub_left HLT.out (Nat.lt_succ_self E)
        | exact ⟨_,E+1,rfl,HLT.out,rfl,by go_num,HO6,HB7⟩
     ·have HO2:Hid (OwnZ wr.drew w.heap.size V (oth (S.map Ro.d) l j ++ othT (S.map Ro.d) (l.take (E+1)) j)):=Lib.hid (by
       rw [hot,hx,decide_eq_false hxj,Bool.false_and,if_neg (by simp)]
       exact HO.out)
      clear hkp hx hs hq hTR hat hatq r1 r2 hst hst1 hst2 hot hbq2 hbw
      go_upto_region 8 with fail
      have hgr:=fun (w0 W:World) (p:Addr) (hp:(fun j=>kp j=true) p.block)=>graft_cell (w0:=w0) (keep:=(fun j=>kp j=true)) W hp
      refine wp_region_tree (fun j=>kp j=true) [13,18] (.sq [0,1,2,3,4,5,6,7,8,9,10,11,12,14,15,16,17] (.fork 13 (.sq [18,19,20] .done) 18 (.sq [13,19,20] .done))) (by kernel_rfl) (by kernel_rfl) ?_
      simp only [Tr.sq,List.foldr_cons,List.foldr_nil,slimTr,slimStep,Oper.slim,List.contains_cons,List.contains_nil,Option.map_none,Option.map_some,List.getElem?_toArray,List.getElem?_cons_zero,List.getElem?_cons_succ,Option.bind_some,beq_self_eq_true,Bool.or_false,Nat.reduceBEq,Nat.reduceAdd,Nat.zero_add]
      repeat' first | ((with_reducible refine wpSlimT_id ?_);first | (with_reducible refine wpSlimT_done ?_) | (with_reducible refine wpSlimT_fork ?_ ?_) | ((with_reducible refine wpSlimT_step (fun K hK=>?_));go_simp;first | (refine hK _ _ ?_;clear hK K) | (refine ⟨by (intro kk hkk;first | (simp (disch:=(simp;omega)) only [hp_drew,hp_drewN,hp_alloc,hp_set];done) | (simp [hp_drew,hp_drewN,hp_alloc_if,hkk];done) | (have hkk2:=(HKP.out kk).1 hkk;simp (disch:=(first | omega | (simp;omega))) only [hp_drew,hp_drewN,hp_alloc,hp_set];done)),hK _ _ ?_⟩;clear hK K))) | fail
      all_goals clear hgr
      all_goals go_wp2
      all_goals go_roundg (I - (E+1))
      all_goals first
       | omega
       | exact Nat.sub_lt_sub_left HLT.out (Nat.lt_succ_self E)
       | exact ⟨_,E+1,rfl,HLT.out,rfl,by go_num,HO2,HBD⟩
    ·obtain rfl:E=I:=by omega
     have HO2:Hid (OwnZ wr w.heap.size V (oth (S.map Ro.d) l (j+1))):=Lib.hid (by
      have:=HO.out
      rwa [List.take_of_length_le (by rw [HLL.out];exact Nat.le_refl _)] at this)
     go_wp2
     go_roundg (N - (j+1))
     case measure=>omega
     case rel=>exact ⟨_,j+1,rfl,by omega,rfl,by go_num,HO2,HB6⟩
  ·obtain rfl:j=N:=by omega
   go_wp2
   go_ret
   exact ⟨V,rfl,HO.out,HB6.out⟩
end Go.Proofs.YtjdnicacnaokdaaGreat
/- The message of shares: the reference's Decode. -/
namespace Go.Proofs.YtjdnicacnaokdaaGreat
open Go.RowKit Fld
set_option linter.unusedVariables false
set_option linter.unusedSimpArgs false

theorem oth_nil {D:List (List GF)} {l:List Sy} {n:Nat} (hg:GoodP n (Sy.nodes l)):(oth D l n=[])↔∀ s ∈ l,s.d=D.getD s.node.toNat []:=by
 constructor
 ·intro h s hs
  refine Classical.byContradiction fun hne=>?_
  have:=oth_mem.2 ⟨s,hs,rfl,hg.1 s.node (List.mem_map.2 ⟨s,hs,rfl⟩),decide_eq_true (p:=s.d ≠ D.getD s.node.toNat []) hne⟩
  rw [h] at this
  cases this
 ·intro h
  refine List.eq_nil_iff_forall_not_mem.2 fun x hx=>?_
  obtain ⟨s,hs,-,-,hb⟩:=oth_mem.1 hx
  exact of_decide_eq_true hb (h s hs)
theorem range_get {F:Nat→List GF} {n i:Nat} (h:i < n):((List.range n).map F).getD i []=F i:=by
 rw [List.getD_eq_getElem?_getD,List.getElem?_map,List.getElem?_range h];rfl
def anyK (T:List (Nat × GF)) (e P:Nat):Bool:=(T.take P).any fun p=>p.1 == e
theorem anyK_zero (T:List (Nat × GF)) (e:Nat):anyK T e 0=false:=by simp [anyK]
theorem anyK_succ {T:List (Nat × GF)} {P:Nat} {p:Nat × GF} (h:T[P]? = some p) (e:Nat):anyK T e (P+1)=(anyK T e P || p.1 == e):=by
 unfold anyK
 rw [List.take_add_one,h,List.any_append]
 simp
theorem anyK_all (T:List (Nat × GF)) (e:Nat):anyK T e T.length=(T.lookup e).isSome:=by
 unfold anyK
 rw [List.take_length]
 induction T with
 | nil=>rfl
 | cons a T ih =>
  obtain ⟨x,y⟩:=a
  rw [List.lookup_cons,List.any_cons,ih]
  by_cases h:x=e
  ·subst h;simp
  ·have h1:(x == e)=false:=by simpa using h
   have h2:(e == x)=false:=by simpa using fun h3:e=x=>h h3.symm
   rw [h1,h2,Bool.false_or]
structure RDI (w5:World) (V1 V2:Value) (T:List (Nat × GF)) (W:World):Prop where
 be:Below w5.heap.size w5 W
 z:OwnZ W w5.heap.size V1 (T.map fun p=>(p.1:Int))
 g:OwnG W w5.heap.size V2 (T.map Prod.snd)
theorem RDI.below {w5 W W':World} {V1 V2:Value} {T:List (Nat × GF)} (h:RDI w5 V1 V2 T W) (hb:Below W.heap.size W W'):RDI w5 V1 V2 T W':=⟨h.be.trans (hb.mono h.be.size),h.z.below hb,h.g.below hb⟩
def RDF (xs:List GF) (k:Nat) (ps:List Int) (ys:List GF) (w:World) (e:Ending) (w':World):Prop :=
 ∃ dv ec,e=.returned (.tuple #[dv,.int .i64 ec])∧Below w.heap.size w w'∧((ec=0∧∃ m,OwnG w' w.heap.size dv m∧Fits xs k ps ys m) ∨ (ec != 0)=true∧∀ m,¬ Fits xs k ps ys m)
theorem rdF_of {xs:List GF} {k:Nat} {ps:List Int} {ys:List GF} {w:World} {e:Ending} {w':World} (h:RDecPost xs k ps ys w e w') (hg:GoodP xs.length ps) (hl:ps.length=ys.length) (hk:k≤ps.length):RDF xs k ps ys w e w':=by
 obtain ⟨h1,⟨h3,_⟩ | ⟨_,⟨h3,_⟩ | ⟨_,⟨v,m,rfl,h3,h5⟩ | ⟨rfl,h3⟩⟩⟩⟩:=h
 ·exact absurd hg (h3 hl)
 ·omega
 ·exact ⟨_,_,rfl,h1,.inl ⟨rfl,m,h3,h5⟩⟩
 ·exact ⟨_,_,rfl,h1,.inr ⟨rfl,h3⟩⟩
set_option maxRecDepth 100000 in
set_option maxHeartbeats 8000000 in
theorem rtdec_any (w:World) (n k:Nat) (hv:Value) (l:List Sy) (hk1:1≤k) (hkn:k < n) (hn:n≤23) (hl:SyAll w hv l) (hll:l.length≤100) :
  Calls Tryz.prog 28 #[rt n k,hv] w fun e w'=>Below w.heap.size w w'∧TrDecAns w.heap.size (pows (eN n)) n k l e w':=by
 obtain ⟨ah,ch,rfl⟩:=hl.rd.form
 obtain ⟨L,hL⟩:∃ L,l.length=L:=⟨_,rfl⟩
 obtain ⟨n1,hn1⟩:∃ n1,n - 1=n1:=⟨_,rfl⟩
 obtain ⟨w1,hw1⟩:∃ w1,w1=w.alloc (.cells #[.int .i64 n,.int .i64 k] 29):=⟨_,rfl⟩
 have hb1:Below w.heap.size w w1:=by rw [hw1];exact (Below.refl _ _).alloc (Nat.le_refl _) _
 have d0:w1.heap[w.heap.size]? = some (.cells #[.int .i64 n,.int .i64 k] 29 (0,0)):=by rw [hw1];exact heap_newA _ _
 have y0:=cell_of_heap d0 (j:=0) rfl
 have y1:=cell_of_heap d0 (j:=1) rfl
 have l0:=lt_of_heap d0
 obtain ⟨b2,hbb2⟩:=bool_ex (SyGood n (-1) n1 l)
 have HRW0:∀ W,Below w1.heap.size w1 W→Calls Tryz.prog 50 #[.int .i64 n,.slice ah l.length ch,.int .i64 (-1),.int .i64 n1] W fun e w'=>e=.returned (.bool b2)∧Below W.heap.size W w':=fun W hW =>
  (rrows_any n _ l (-1) n1 W ((hl.below hb1).below hW) (by omega)).mono fun e w' h=>h.bool hbb2
 rw [hL] at HRW0
 have HRW:=Lib.hid HRW0
 have HAL0:=fun W:World=>rtal_any n k W ⟨by omega,by omega⟩
 rw [hn1] at HAL0
 have HAL:=Lib.hid HAL0
 have HBB2:=Lib.hid hbb2
 have HS:=Lib.hid hl
 have HB1:=Lib.hid hb1
 have HL:=Lib.hid (And.intro hL hn1)
 have HD0:=Lib.hid d0
 rw [hL] at HS hll ⊢
 go_enter Tryz.func28,Tryz.ntmps28
 go_upto_region 1 with fail
 rw [← hw1]
 clear hl hL hn1 hb1 d0 HRW0 HAL0 hw1 hbb2
 have hgr:=fun (w0 W:World) (p:Addr) (hp:(fun kk=>kk < w1.heap.size) p.block)=>graft_cell (w0:=w0) (keep:=(fun kk=>kk < w1.heap.size)) W hp
 refine wp_region_tree (fun kk=>kk < w1.heap.size) [4,5] (.sq [0,1,2,3,4,5,6] .done) (by kernel_rfl) (by kernel_rfl) ?_
 simp only [Tr.sq,List.foldr_cons,List.foldr_nil,slimTr,slimStep,Oper.slim,List.contains_cons,List.contains_nil,Option.map_none,Option.map_some,List.getElem?_toArray,List.getElem?_cons_zero,List.getElem?_cons_succ,Option.bind_some,beq_self_eq_true,Bool.or_false,Nat.reduceBEq,Nat.reduceAdd,Nat.zero_add]
 repeat' first | ((with_reducible refine wpSlimT_id ?_);first | (with_reducible refine wpSlimT_done ?_) | ((refine wpSlimT_append _ _ _ rfl rfl rfl rfl rfl hap2 (fun kk hkk=>HKE.out kk ((HKP.out kk).1 hkk)) ?_)) | ((with_reducible refine wpSlimT_step (fun K hK=>?_));go_simp;first | (refine hK _ _ ?_;clear hK K) | (refine ⟨by (intro kk hkk;first | (simp (disch:=(simp;omega)) only [hp_drew,hp_drewN,hp_alloc,hp_set];done) | (simp [hp_drew,hp_drewN,hp_alloc_if,hkk];done) | (have hkk2:=(HKP.out kk).1 hkk;exact hp_alloc _ _ _ (by simp;omega))),hK _ _ ?_⟩;clear hK K) | (go_at_call 42;(with_reducible refine (HAL.out _).mono ?_);rintro e wp ⟨rfl,hbp⟩;have HBP:Hid (Below w1.heap.size w1 wp):=Lib.hid (((Below.refl w1.heap.size w1).drew).trans hbp);refine ⟨_,rfl,(fun kk hkk=>HBP.out.block kk hkk),hK _ _ ?_⟩;clear hbp hK K) | (go_at_call 50;(with_reducible refine (HRW.out _ HBP.out).mono ?_);rintro e wu ⟨rfl,hbu⟩;have HBU:Hid (Below w1.heap.size w1 wu):=Lib.hid (HBP.out.trans (hbu.mono HBP.out.size));refine ⟨_,rfl,(fun kk hkk=>HBU.out.block kk hkk),hK _ _ ?_⟩;clear hbu hK K))) | fail
 clear hgr
 have HBW:Hid (Below w.heap.size w wu):=Lib.hid (HB1.out.trans (HBU.out.mono HB1.out.size))
 have hdu:=keepB HBU.out HD0.out
 have HDU:=Lib.hid hdu
 have yu:=cell_of_heap hdu (j:=0) rfl
 have yv:=cell_of_heap hdu (j:=1) rfl
 have lu:=lt_of_heap hdu
 clear hdu HRW HAL HBP HBU y0 y1 l0
 cases b2
 case false =>
  have HNG:Hid (¬ SyGood n (-1) n1 l):=Lib.hid fun h=>by have:=HBB2.out.2 h;cases this
  go_wp2
  go_ret2
  exact ⟨HBW.out,.inl ⟨by rw [HL.out.2];exact HNG.out,rfl⟩⟩
 case true =>
  have HG:=Lib.hid (HBB2.out.1 (by trivial))
  clear HBB2
  by_cases hfew:L < k
  ·go_wp2
   go_ret2
   exact ⟨HBW.out,.inr ⟨by rw [HL.out.2];exact HG.out,.inl ⟨by rw [HL.out.1];exact hfew,rfl⟩⟩⟩
  have hmany:k≤L:=by omega
  have hsw:=HBW.out.size
  obtain ⟨w5,rfl⟩:∃ w5:World,w5=wu:=⟨_,rfl⟩
  go_wp2
  clear yu yv lu
  go_loopg [6,7,8] L (fun gk p q i wr=>∃ (V1 V2:Value) (I:Nat),V1=p∧V2=q∧i=.int .i64 I∧I≤L∧gk=L - I∧Hid (RDI w5 V1 V2 (allT n l I).1 wr))
  case atStart=>exact ⟨_,_,0,rfl,rfl,rfl,by omega,rfl,Lib.hid ⟨Below.refl _ _,OwnZ.nil _ _,OwnG.nil _ _⟩⟩
  case round =>
   obtain ⟨V1,V2,I,rfl,rfl,rfl,hI,rfl,HI⟩:=hrel
   by_cases hlt:I < L
   ·obtain ⟨s,hs⟩:∃ s,l[I]? = some s:=⟨_,List.getElem?_eq_getElem (by rw [HL.out.1];exact hlt)⟩
    have HSI:=Lib.hid hs
    have HI0:Hid (RDI w5 V1 V2 (rowT n s (allT n l I) 0).1 wr):=Lib.hid HI.out
    clear hs
    go_wp2
    go_loopg [6,7,9] n (fun gk p q i wx=>∃ (V1 V2:Value) (J:Nat),V1=p∧V2=q∧i=.int .i64 J∧J≤n∧gk=n - J∧Hid (RDI w5 V1 V2 (rowT n s (allT n l I) J).1 wx))
    case atStart=>exact ⟨_,_,0,rfl,rfl,rfl,by omega,rfl,HI0⟩
    case round =>
     clear HI HI0
     obtain ⟨V1,V2,J,rfl,rfl,rfl,hJ,rfl,HI⟩:=hrel
     have hdr:=keepB HI.out.be HDU.out
     have yr:=cell_of_heap hdr (j:=0) rfl
     have yk:=cell_of_heap hdr (j:=1) rfl
     have lr:=lt_of_heap hdr
     have hsr:=HI.out.be.size
     clear hdr
     by_cases hlt2:J < n
     ·have hs:=HSI.out
      have hmem:=List.mem_of_getElem? hs
      obtain ⟨hnode,-,hsl⟩:=HG.out.at hs
      have hall:=HS.out.below HBW.out
      obtain ⟨-,hcap,b,o,e3,hb5,hat⟩:=SRd.at hall.rd hs
      subst e3
      have hb:b < wr.heap.size:=Nat.lt_of_lt_of_le hb5 hsr
      have c0:wr.cell? ⟨b,o+I * 2,none⟩=some (.int .i64 s.node):=(HI.out.be.cell (p:=⟨b,o+I * 2,none⟩) hb5).trans (hat 0 _ rfl)
      have c1:wr.cell? ⟨b,o+I * 2+1,none⟩=some (.slice s.a s.d.length s.cp):=(HI.out.be.cell (p:=⟨b,o+I * 2+1,none⟩) hb5).trans (hat 1 _ rfl)
      have hrd:=hall.each s hmem
      unfold Sy.rd at hrd
      obtain ⟨X,hX⟩:∃ X:Nat,s.node=(X:Int):=⟨s.node.toNat,by omega⟩
      have hXn:X < n:=by omega
      have hXt:s.node.toNat=X:=by omega
      rw [hX] at c0
      rw [hsl] at c1 hrd
      have i1:(0:Int)≤(I:Int)∧(I:Int) < (L:Int):=by omega
      by_cases hne:J=X
      ·subst hne
       have HI2:Hid (RDI w5 V1 V2 (rowT n s (allT n l I) (J+1)).1 wr):=Lib.hid (by rw [rowT,hXt,if_pos rfl];exact HI.out)
       clear hs hmem hnode hall hcap hat hrd hX hXt c1
       go_wp2
       go_roundg (n - (J+1))
       case measure=>omega
       case rel=>exact ⟨V1,V2,J+1,rfl,rfl,by go_num,by omega,rfl,HI2⟩
      ·have hne':¬ (J:Int)=(X:Int):=by omega
       have hED:=redge_any n k J X wr.drew hlt2 hXn hne hn
       rw [eE_comm n J X] at hED
       have hel:=eE_lt (n:=n) (Ne.symm hne) hXn hlt2
       have hEl:=eN_le hn
       obtain ⟨E,hE⟩:∃ E,eE n X J=E:=⟨_,rfl⟩
       rw [hE] at hED hel
       have HED:=Lib.hid hED
       have hpl:=plc_lt hne hlt2 hXn
       obtain ⟨y,hy,hyd⟩:=at_get (l:=s.d) (i:=plcN X J) (by rw [hsl,HL.out.2.symm];exact hpl)
       obtain ⟨b2,o2,e2,hb25,c25⟩:=GRd.at hrd hy
       have hb2:b2 < wr.heap.size:=Nat.lt_of_lt_of_le hb25 hsr
       have c2:=(HI.out.be.cell (p:=⟨b2,o2+plcN X J,none⟩) hb25).trans c25
       clear c25
       rw [e2] at c1
       have hsh:=rowT_short HG.out.1 HSI.out (Nat.le_of_lt hlt2)
       obtain ⟨T,hT⟩:∃ T,rowT n s (allT n l I) J=T:=⟨_,rfl⟩
       rw [hT] at hsh HI
       have hrow:rowT n s (allT n l I) (J+1)=addT T E y:=by rw [rowT,hXt,if_neg hne,hT,hE,hyd]
       have HROW:=Lib.hid hrow
       obtain ⟨p,hp⟩:∃ p,plcN X J=p:=⟨_,rfl⟩
       rw [hp] at c2 hpl
       have HPLC0:=fun W:World=>rplace_any X J W (by omega) (by omega) hne
       rw [hp] at HPLC0
       have HPLC:=Lib.hid HPLC0
       have i2:(0:Int)≤(p:Int)∧(p:Int) < (n1:Int):=by have:=HL.out.2;omega
       obtain ⟨z,hz⟩:∃ z,y.n=z:=⟨_,rfl⟩
       rw [hz] at c2
       have HZ:=Lib.hid hz
       clear hs hmem hnode hall hcap hat hrd hX hXt hED hE hy hyd e2 hT hrow hp HPLC0 hz hsl
       go_upto_region 14 with fail
       have hgr:=fun (w0 W:World) (p:Addr) (hp:(fun kk=>kk < wr.heap.size) p.block)=>graft_cell (w0:=w0) (keep:=(fun kk=>kk < wr.heap.size)) W hp
       refine wp_region_tree (fun kk=>kk < wr.heap.size) [7] (.sq [0,1,2,3,4,5,6,7,8] .done) (by kernel_rfl) (by kernel_rfl) ?_
       simp only [Tr.sq,List.foldr_cons,List.foldr_nil,slimTr,slimStep,Oper.slim,List.contains_cons,List.contains_nil,Option.map_none,Option.map_some,List.getElem?_toArray,List.getElem?_cons_zero,List.getElem?_cons_succ,Option.bind_some,beq_self_eq_true,Bool.or_false,Nat.reduceBEq,Nat.reduceAdd,Nat.zero_add]
       repeat' first | ((with_reducible refine wpSlimT_id ?_);first | (with_reducible refine wpSlimT_done ?_) | ((refine wpSlimT_append _ _ _ rfl rfl rfl rfl rfl hap2 (fun kk hkk=>HKE.out kk ((HKP.out kk).1 hkk)) ?_)) | ((with_reducible refine wpSlimT_step (fun K hK=>?_));go_simp;first | (refine hK _ _ ?_;clear hK K) | (refine ⟨by (intro kk hkk;first | (simp (disch:=(simp;omega)) only [hp_drew,hp_drewN,hp_alloc,hp_set];done) | (simp [hp_drew,hp_drewN,hp_alloc_if,hkk];done) | (have hkk2:=(HKP.out kk).1 hkk;exact hp_alloc _ _ _ (by simp;omega))),hK _ _ ?_⟩;clear hK K) | (go_at_call 39;(with_reducible refine HED.out.mono ?_);rintro e wc ⟨rfl,hbc⟩;have HBC:Hid (Below wr.heap.size wr wc):=Lib.hid (((Below.refl wr.heap.size wr).drew).trans hbc);refine ⟨_,rfl,(fun kk hkk=>HBC.out.block kk hkk),hK _ _ ?_⟩;clear hbc hK K))) | fail
       clear hgr
       have hsc:=HBC.out.size
       have HIC:=Lib.hid (HI.out.below HBC.out)
       have e0:=(HBC.out.cell (p:=⟨b,o+I * 2,none⟩) hb).trans c0
       have e1:=(HBC.out.cell (p:=⟨b,o+I * 2+1,none⟩) hb).trans c1
       have e2:=(HBC.out.cell (p:=⟨b2,o2+p,none⟩) hb2).trans c2
       have hbc:b < wc.heap.size:=by omega
       have hb2c:b2 < wc.heap.size:=by omega
       obtain ⟨T1,hT1⟩:∃ T1,T.1=T1:=⟨_,rfl⟩
       have HT1:=Lib.hid hT1
       rw [hT1] at HIC hsh
       obtain ⟨M,hM⟩:∃ M,T1.length=M:=⟨_,rfl⟩
       rw [hM] at hsh
       have HM:=Lib.hid hM
       obtain ⟨a1,cc1,rfl⟩:=HIC.out.z.rd.form
       rw [List.length_map] at HIC ⊢
       rw [hM] at HIC ⊢
       clear HI HBC hT1 hM c0 c1 c2 hb hb2 yr yk lr HED
       go_wp2
       go_loopg [11,12] M (fun gk q i wx=>∃ (P:Nat) (bb:Bool),q=.bool bb∧i=.int .i64 P∧P≤M∧gk=M - P∧Hid (bb=anyK T1 E P)∧wc=wx)
       case atStart=>exact ⟨0,false,rfl,rfl,by omega,rfl,Lib.hid (anyK_zero _ _).symm,rfl⟩
       case round =>
        obtain ⟨P,bb,rfl,rfl,hP,rfl,HBB,rfl⟩:=hrel
        by_cases hlt3:P < M
        ·obtain ⟨q,hq⟩:∃ q,T1[P]? = some q:=⟨_,List.getElem?_eq_getElem (by rw [HM.out];exact hlt3)⟩
         have hq2:(T1.map fun p=>(p.1:Int))[P]? = some (q.1:Int):=by rw [List.getElem?_map,hq];rfl
         obtain ⟨-,-,b4,o4,e4,hb4,g4⟩:=IRd.cell HIC.out.z.rd hq2
         subst e4
         have hsu:=anyK_succ hq E
         have i3:(0:Int)≤(P:Int)∧(P:Int) < (M:Int):=by omega
         obtain ⟨q1,hq1⟩:∃ q1,q.1=q1:=⟨_,rfl⟩
         rw [hq1] at g4 hsu
         rw [← HBB.out] at hsu
         clear hq hq2 hq1
         cases bb with
         | true =>
          have HB3:Hid (true=anyK T1 E (P+1)):=Lib.hid (by rw [hsu];rfl)
          clear hsu
          go_wp2
          go_roundg (M - (P+1))
          case measure=>omega
          case rel=>exact ⟨P+1,true,rfl,by go_num,by omega,rfl,HB3,rfl⟩
         | false =>
          by_cases hqe:q1=E
          ·have HB3:Hid (true=anyK T1 E (P+1)):=Lib.hid (by rw [hsu,hqe];simp)
           subst hqe
           clear hsu
           go_wp2
           go_roundg (M - (P+1))
           case measure=>omega
           case rel=>exact ⟨P+1,true,rfl,by go_num,by omega,rfl,HB3,rfl⟩
          ·have HB3:Hid (false=anyK T1 E (P+1)):=Lib.hid (by rw [hsu];simp [hqe])
           have hqe':((q1:Int) == (E:Int))=false:=by simp;omega
           have hqe2:(q1 == E)=false:=by simpa using hqe
           clear hsu
           go_wp2
           go_roundg (M - (P+1))
           case measure=>omega
           case rel=>exact ⟨P+1,false,rfl,by go_num,by omega,rfl,HB3,rfl⟩
        ·obtain rfl:P=M:=by omega
         have hbb:bb=(T1.lookup E).isSome:=by rw [← anyK_all,HM.out];exact HBB.out
         cases hlk:T1.lookup E with
         | some c =>
          rw [hlk] at hbb
          have hb3:bb=true:=hbb
          subst hb3
          have HI2:Hid (RDI w5 (.slice a1 P cc1) V2 (rowT n s (allT n l I) (J+1)).1 wc):=Lib.hid (by
           have:(rowT n s (allT n l I) (J+1)).1=T1:=by rw [HROW.out];unfold addT;rw [HT1.out,hlk]
           rw [this]
           exact HIC.out)
          clear hbb hlk HIC
          go_wp2
          go_roundg (n - (J+1))
          case measure=>omega
          case rel=>exact ⟨.slice a1 P cc1,V2,J+1,rfl,rfl,by go_num,by omega,rfl,HI2⟩
         | none =>
          rw [hlk] at hbb
          have hb3:bb=false:=hbb
          subst hb3
          have hrow2:(rowT n s (allT n l I) (J+1)).1=T1 ++ [(E,y)]:=by rw [HROW.out];unfold addT;rw [HT1.out,hlk]
          have HROW2:=Lib.hid hrow2
          obtain ⟨v1,w6,hap,hz6,hk6,hb6,-⟩:=app_int (W:=wc) (E:Int) HIC.out.z (by rw [List.length_map,HM.out];omega) (by omega) (ad:=wc.heap.size) rfl
          have hg6:OwnG w6 w5.heap.size V2 (T1.map Prod.snd):=HIC.out.g.kp hk6 fun bq hbq hm=>by
           obtain ⟨cs,hcs⟩:=own_row HIC.out.g hbq
           exact own_ne HIC.out.z hcs (by decide) hm
          have hbe6:Below w5.heap.size w5 w6:=HIC.out.be.trans hb6
          have hs6:=hbe6.size
          obtain ⟨v2,w8,hap2,hg8,hk8,hb8,-⟩:=app_byte (W:=w6.drew) y (hg6.below ((Below.refl _ w6).drew)) (by rw [List.length_map,HM.out];omega) hs6 HZ.out rfl
          have hk8':Kp V2.ownBlock.toList w6 w8:=((Kp.refl _ w6).drew).trans hk8
          have HI2:Hid (RDI w5 v1 v2 (rowT n s (allT n l I) (J+1)).1 w8):=Lib.hid (by
           rw [hrow2]
           refine ⟨hbe6.trans (((Below.refl _ w6).drew).trans hb8),?_,?_⟩
           ·rw [List.map_append]
            refine hz6.kp hk8' fun bq hbq hm=>?_
            obtain ⟨cs,hcs⟩:=own_row hz6 hbq
            exact own_ne hg6 hcs (by decide) hm
           ·rw [List.map_append]
            exact hg8)
          have hVo:∀ x,x ∈ V2.ownBlock.toList→w5.heap.size≤x:=fun x hx=>(hg6.lt x (by simpa using hx)).1
          obtain ⟨kp,hkp⟩:∃ kp:Nat→Bool,∀ k,kp k=true↔k < w6.heap.size∧k ∉ V2.ownBlock.toList:=⟨fun k=>decide (k < w6.heap.size∧k ∉ V2.ownBlock.toList),by simp⟩
          have HKP:=Lib.hid hkp
          have HKE:Hid (∀ kk,kk < w6.heap.size∧kk ∉ V2.ownBlock.toList→w8.heap[kk]? = w6.heap[kk]?):=Lib.hid fun kk hkk=>hk8'.block kk hkk.1 hkk.2
          have k1:kp b=true:=(hkp _).2 ⟨by omega,fun hm=>by have:=hVo _ hm;omega⟩
          have k2:kp b2=true:=(hkp _).2 ⟨by omega,fun hm=>by have:=hVo _ hm;omega⟩
          have hob:∀ x,x ∈ (Value.slice a1 P cc1).ownBlock.toList→w5.heap.size≤x:=fun x hx=>(HIC.out.z.lt x (by simpa using hx)).1
          have f0:=(hk6.cell (p:=⟨b,o+I * 2,none⟩) hbc (fun hm=>by have:=hob _ hm;simp at this;omega)).trans e0
          have f1:=(hk6.cell (p:=⟨b,o+I * 2+1,none⟩) hbc (fun hm=>by have:=hob _ hm;simp at this;omega)).trans e1
          have f2:=(hk6.cell (p:=⟨b2,o2+p,none⟩) hb2c (fun hm=>by have:=hob _ hm;simp at this;omega)).trans e2
          clear hbb hlk HIC hrow2 hz6 hk6 hb6 hg6 hbe6 hg8 hk8 hb8 hk8' hVo hkp hob e0 e1 e2
          go_upto_region 21 with fail
          go_wp2_with (at_builtin;refine wpList_append rfl _ _ _ rfl rfl rfl hap ?_)
          go_upto_region 22 with fail
          have hgr:=fun (w0 W:World) (p:Addr) (hp:(fun kk=>kp kk=true) p.block)=>graft_cell (w0:=w0) (keep:=(fun kk=>kp kk=true)) W hp
          refine wp_region_tree (fun kk=>kp kk=true) [12,15,16] (.sq [0,1,2,3,4,5,6,7,8,9,10,11,12,13,14,15,16,17] .done) (by kernel_rfl) (by kernel_rfl) ?_
          simp only [Tr.sq,List.foldr_cons,List.foldr_nil,slimTr,slimStep,Oper.slim,List.contains_cons,List.contains_nil,Option.map_none,Option.map_some,List.getElem?_toArray,List.getElem?_cons_zero,List.getElem?_cons_succ,Option.bind_some,beq_self_eq_true,Bool.or_false,Nat.reduceBEq,Nat.reduceAdd,Nat.zero_add]
          repeat' first | ((with_reducible refine wpSlimT_id ?_);first | (with_reducible refine wpSlimT_done ?_) | ((refine wpSlimT_append _ _ _ rfl rfl rfl rfl rfl hap2 (fun kk hkk=>HKE.out kk ((HKP.out kk).1 hkk)) ?_)) | ((with_reducible refine wpSlimT_step (fun K hK=>?_));go_simp;first | (refine hK _ _ ?_;clear hK K) | (refine ⟨by (intro kk hkk;first | (simp (disch:=(simp;omega)) only [hp_drew,hp_drewN,hp_alloc,hp_set];done) | (simp [hp_drew,hp_drewN,hp_alloc_if,hkk];done) | (have hkk2:=(HKP.out kk).1 hkk;exact hp_alloc _ _ _ (by simp;omega))),hK _ _ ?_⟩;clear hK K) | (go_at_call 43;(with_reducible refine (HPLC.out _).mono ?_);rintro e wz ⟨rfl,rfl⟩;refine ⟨_,rfl,(fun kk hkk=>rfl),hK _ _ ?_⟩;clear hK K))) | fail
          clear hgr
          all_goals
           go_wp2
           go_roundg (n - (J+1))
           case measure=>omega
           case rel=>exact ⟨v1,v2,J+1,rfl,rfl,by go_num,by omega,rfl,HI2⟩
     ·obtain rfl:J=n:=by omega
      have HI2:Hid (RDI w5 V1 V2 (allT J l (I+1)).1 wr):=Lib.hid (by rw [allT_succ HSI.out];exact HI.out)
      go_wp2
      go_roundg (L - (I+1))
      case measure=>omega
      case rel=>exact ⟨V1,V2,I+1,rfl,rfl,by go_num,by omega,rfl,HI2⟩
   ·obtain rfl:I=L:=by omega
    have hEl:=eN_le hn
    have hB1:=trB_pos hk1 hkn
    have hBl:=trB_le hkn
    have hti:=allT_inv n l (Nat.le_refl _)
    rw [List.take_length] at hti
    have htl:=hti.short fun e b h=>told_lt HG.out.1 h
    have htm:=told_many HG.out.1 (k:=k) (by rw [HL.out.1];exact hmany)
    rw [HL.out.1] at hti htl htm
    have hgp:GoodP (pows (eN n)).length ((allT n l I).1.map fun p=>(p.1:Int)):=⟨fun x hx=>by
     obtain ⟨p,hp,rfl⟩:=List.mem_map.1 hx
     have:=told_lt HG.out.1 (hti.sub p hp)
     rw [pows_len]
     omega,by
     have h1:=hti.nd
     rw [List.nodup_iff_pairwise_ne,List.pairwise_map] at h1 ⊢
     exact h1.imp fun hne e=>hne (by omega)⟩
    have HTELL:Hid (∀ o:Option (List GF),(∀ m,o=some m→Fits (pows (eN n)) (trB n k) ((allT n l I).1.map fun p=>(p.1:Int)) ((allT n l I).1.map Prod.snd) m)→(o=none→∀ m,¬ Fits (pows (eN n)) (trB n k) ((allT n l I).1.map fun p=>(p.1:Int)) ((allT n l I).1.map Prod.snd) m) →
      TrTell n (trB n k) (pows (eN n)) l (if (allT n l I).2 then none else o)):=Lib.hid fun o h1 h2=>tell_of HG.out.1 (fun s hs=>by rw [((HG.out.2 s hs).2),HL.out.2]) (by rw [HL.out.1]) (by rw [HL.out.1];exact h1) (by rw [HL.out.1];exact h2)
    obtain ⟨B,hB⟩:∃ B,trB n k=B:=⟨_,rfl⟩
    have HBE:=Lib.hid hB
    have HPT:=Lib.hid (fun W=>rpoints_any n k W ⟨by omega,hn⟩)
    have HBB0:∀ W:World,Calls Tryz.prog 15 #[rt n k] W fun e w'=>e=.returned (.int .i64 (trB n k:Nat))∧Below W.heap.size W w':=fun W=>rtb_any n k W ⟨hk1,hkn⟩ hn
    rw [hB] at HBB0
    have HBB:=Lib.hid HBB0
    have HDE:Hid (∀ W xv,GRd W xv (pows (eN n))→Below wr.heap.size wr W→Calls Tryz.prog 53 #[xv,.int .i64 B,V1,V2] W (RDF (pows (eN n)) B ((allT n l I).1.map fun p=>(p.1:Int)) ((allT n l I).1.map Prod.snd) W)):=Lib.hid fun W xv hx hb=>by
     have hI2:=HI.out.below hb
     refine (rdec_any xv V1 V2 (pows (eN n)) B _ _ W hx hI2.z.rd hI2.g.rd (pows_nodup (by omega)) (by rw [pows_len];omega) (by rw [List.length_map];omega) (by omega)).mono fun e w' h=>rdF_of h hgp (by simp) (by rw [List.length_map];omega)
    have hdr:=keepB HI.out.be HDU.out
    have HDR:=Lib.hid hdr
    have yr:=cell_of_heap hdr (j:=0) rfl
    have yk:=cell_of_heap hdr (j:=1) rfl
    have lr:=lt_of_heap hdr
    have HBR:Hid (Below w.heap.size w wr):=Lib.hid (HBW.out.trans (HI.out.be.mono hsw))
    have hsr:=HBR.out.size
    clear hti htl htm hgp HBB0 hB hdr HI
    go_upto_region 23 with fail
    have hgr:=fun (w0 W:World) (p:Addr) (hp:(fun kk=>kk < wr.heap.size) p.block)=>graft_cell (w0:=w0) (keep:=(fun kk=>kk < wr.heap.size)) W hp
    refine wp_region_tree (fun kk=>kk < wr.heap.size) [1,3,6] (.sq [0,2,4,5,1,3,6,7,8,9,10,11] .done) (by kernel_rfl) (by kernel_rfl) ?_
    simp only [Tr.sq,List.foldr_cons,List.foldr_nil,slimTr,slimStep,Oper.slim,List.contains_cons,List.contains_nil,Option.map_none,Option.map_some,List.getElem?_toArray,List.getElem?_cons_zero,List.getElem?_cons_succ,Option.bind_some,beq_self_eq_true,Bool.or_false,Nat.reduceBEq,Nat.reduceAdd,Nat.zero_add]
    repeat' first | ((with_reducible refine wpSlimT_id ?_);first | (with_reducible refine wpSlimT_done ?_) | ((refine wpSlimT_append _ _ _ rfl rfl rfl rfl rfl hap2 (fun kk hkk=>HKE.out kk ((HKP.out kk).1 hkk)) ?_)) | ((with_reducible refine wpSlimT_step (fun K hK=>?_));go_simp;first | (refine hK _ _ ?_;clear hK K) | (refine ⟨by (intro kk hkk;first | (simp (disch:=(simp;omega)) only [hp_drew,hp_drewN,hp_alloc,hp_set];done) | (simp [hp_drew,hp_drewN,hp_alloc_if,hkk];done) | (have hkk2:=(HKP.out kk).1 hkk;exact hp_alloc _ _ _ (by simp;omega))),hK _ _ ?_⟩;clear hK K) | (go_at_call 38;(with_reducible refine (HPT.out _).mono ?_);rintro e wp ⟨pv,rfl,hop,hbp⟩;have HOP:=Lib.hid hop;have HBP:Hid (Below wr.heap.size wr wp):=Lib.hid (((Below.refl wr.heap.size wr).drew).trans hbp);refine ⟨_,rfl,(fun kk hkk=>HBP.out.block kk hkk),hK _ _ ?_⟩;clear hop hbp hK K) | (go_at_call 15;(with_reducible refine (HBB.out _).mono ?_);rintro e wq ⟨rfl,hbq⟩;have HOQ:=Lib.hid (HOP.out.below hbq).rd;have HBQ:Hid (Below wr.heap.size wr wq):=Lib.hid (HBP.out.trans (hbq.mono HBP.out.size));refine ⟨_,rfl,(fun kk hkk=>HBQ.out.block kk hkk),hK _ _ ?_⟩;clear hbq hK K) | (go_at_call 53;(with_reducible refine (HDE.out _ _ HOQ.out HBQ.out).mono ?_);rintro e wd ⟨dv,ec,rfl,hbd,hdd⟩;have HDD:=Lib.hid hdd;have HBD:Hid (Below wr.heap.size wr wd):=Lib.hid (HBQ.out.trans (hbd.mono HBQ.out.size));refine ⟨_,rfl,(fun kk hkk=>HBD.out.block kk hkk),hK _ _ ?_⟩;clear hbd hdd hK K))) | fail
    clear hgr
    have HBX:Hid (Below w.heap.size w wd):=Lib.hid (HBR.out.trans (HBD.out.mono hsr))
    have hdd:=keepB HBD.out HDR.out
    have zr:=cell_of_heap hdd (j:=0) rfl
    have zk:=cell_of_heap hdd (j:=1) rfl
    have ld:=lt_of_heap hdd
    have hsd:=HBX.out.size
    clear hdd yr yk lr HPT HBB HDE HOP HBP HOQ
    rcases HDD.out with ⟨hec,m,hm,hfit⟩ | ⟨hec,hno⟩
    ·subst hec
     have hml:m.length=trB n k:=by rw [HBE.out];exact hfit.1
     have HE:=Lib.hid (rtenc_any wd n k dv m hk1 hkn hn hm.rd (by omega))
     have HTS:Hid (TrTell n (trB n k) (pows (eN n)) l (if (allT n l I).2 then none else some m)):=Lib.hid (HTELL.out (some m) (fun m' e=>by cases e;rw [HBE.out];exact hfit) (fun e=>by cases e))
     have HMO:=Lib.hid hm
     have HBQS:Hid (w.heap.size≤wq.heap.size):=Lib.hid (by have:=HBQ.out.size;omega)
     have HML:=Lib.hid hml
     clear hm hfit HDD HTELL hml
     go_wp2_with fail
     refine HE.out.mono ?_
     rintro e wf ⟨hbf,⟨hbad,-⟩ | ⟨-,av,S,rfl,hsh⟩⟩
     ·exact absurd HML.out hbad
     have HBF:Hid (Below w.heap.size w wf):=Lib.hid (HBX.out.trans (hbf.mono hsd))
     have hSl:S.length=n:=by have:=congrArg List.length hsh.eq;simpa using this
     have HW:=Lib.hid (rwrongD_any av _ S l wf hsh.all (HS.out.below HBF.out) (by omega) (by rw [HL.out.1];omega))
     rw [hsh.eq,hSl] at HW
     have HMO2:=Lib.hid (HMO.out.below hbf)
     have hsf:=HBF.out.size
     clear hbf hSl hsh HE zr zk ld
     go_wp2_with fail
     refine HW.out.mono ?_
     rintro e wg ⟨wv,rfl,hov,hbg⟩
     have HBG:Hid (Below w.heap.size w wg):=Lib.hid (HBF.out.trans (hbg.mono hsf))
     have HMO3:=Lib.hid (HMO2.out.below hbg)
     obtain ⟨aw,cw,rfl⟩:=hov.rd.form
     have hall:=oth_nil (D:=(List.range n).map (trSh n (pows (eN n)) m)) (l:=l) HG.out.1
     have hget:∀ s ∈ l,((List.range n).map (trSh n (pows (eN n)) m)).getD s.node.toNat []=trSh n (pows (eN n)) m s.node.toNat:=fun s hs=>by
      have:=HG.out.1.1 s.node (List.mem_map.2 ⟨s,hs,rfl⟩)
      exact range_get (by omega)
     obtain ⟨W9,hW9⟩:∃ W9,(oth ((List.range n).map (trSh n (pows (eN n)) m)) l n).length=W9:=⟨_,rfl⟩
     rw [hW9]
     by_cases h0:W9=0
     ·have hnil:=List.eq_nil_of_length_eq_zero (hW9.trans h0)
      have HT:Hid (TrTell n (trB n k) (pows (eN n)) l (some m)):=Lib.hid ⟨HML.out,fun s hs=>by rw [hall.1 hnil s hs];exact hget s hs⟩
      have h1:¬ (W9:Int) > 0:=by omega
      clear hov hbg hall hget hW9 hnil HW
      go_wp2
      go_ret2
      exact ⟨HBG.out,.inr ⟨by rw [HL.out.2];exact HG.out,.inr ⟨by rw [HL.out.1];exact hmany,.inl ⟨m,dv,rfl,HT.out,HMO3.out.rd,fun b hb=>Nat.le_trans HBQS.out (HMO3.out.lt b hb).1⟩⟩⟩⟩
     ·have HT:Hid (TrTell n (trB n k) (pows (eN n)) l none):=Lib.hid (by
       have h2:=HTS.out
       cases hq:(allT n l I).2 with
       | true=>rw [hq] at h2;exact h2
       | false =>
        rw [hq] at h2
        have h3:TrTell n (trB n k) (pows (eN n)) l (some m):=h2
        exact absurd (by rw [← hW9,hall.2 fun s hs=>by rw [hget s hs];exact h3.2 s hs];rfl) h0)
      have h1:(W9:Int) > 0:=by omega
      clear hov hbg hall hget hW9 HW
      go_wp2
      go_ret2
      exact ⟨HBG.out,.inr ⟨by rw [HL.out.2];exact HG.out,.inr ⟨by rw [HL.out.1];exact hmany,.inr ⟨rfl,HT.out⟩⟩⟩⟩
    ·have HT:Hid (TrTell n (trB n k) (pows (eN n)) l none):=Lib.hid (by
      have h2:=HTELL.out none (fun m' e=>by cases e) (fun _=>by rw [HBE.out];exact hno)
      cases hq:(allT n l I).2 <;> (rw [hq] at h2;exact h2))
     have hec2:¬ ec=0:=by simpa using hec
     clear hno HDD HTELL
     go_wp2
     go_ret2
     exact ⟨HBX.out,.inr ⟨by rw [HL.out.2];exact HG.out,.inr ⟨by rw [HL.out.1];exact hmany,.inr ⟨rfl,HT.out⟩⟩⟩⟩
end Go.Proofs.YtjdnicacnaokdaaGreat
