/-
  The reference's powers.
  The reference's powers, and its points of groups.
  The reference's codes of groups: how many tell, the points, which are made.
  The reference's shares of a message.
  The reference's shares of a message, and a node's share of its group's.
  The reference's share of a node's group.
-/
import Derived.Test.YtbiaoohodjoojaaGreatRefsA
import Derived.Test.YtbiaoohodjoojaaGreatLocA
import Derived.Test.YtbiaoohodjoojaaGreatLocEG
import Derived.Test.YtbiaoohodjoojaaGreatNearG
import Derived.Test.YtbiaoohodjoojaaGreatRefsB
/- The reference's powers. -/
namespace Go.Proofs.YtbiaoohodjoojaaGreat
open Go.RowKit Fld
set_option linter.unusedVariables false
set_option linter.unusedSimpArgs false

def RPowPost (x:GF) (w:World) (e:Ending) (w':World):Prop:=e=.returned (.int .u8 (x.n:Nat))∧w=w'
set_option maxHeartbeats 2000000 in
theorem rpow_any (a:GF) (n:Nat) (w:World) (hn:n≤1000000) :
  Calls Tryz.prog 88 #[.int .u8 (a.n:Nat),.int .i64 n] w (RPowPost (pw a n) w):=by
 by_cases h0:n=0
 ·subst h0
  obtain ⟨x,hx⟩:∃ x,a.n=x:=⟨_,rfl⟩
  have h1:(pw a 0).n=1:=rfl
  have HP:=Lib.hid h1
  rw [hx]
  clear hx h1
  go_enter Tryz.func88,Tryz.ntmps88
  go_wp2
  go_ret
  exact ⟨by rw [HP.out];rfl,rfl⟩
 have hn0:¬ (n:Int)=0:=by omega
 by_cases ha:a=0
 ·subst ha
  have h1:(pw (0:GF) n)=0:=by
   obtain ⟨m,rfl⟩:∃ m,n=m+1:=⟨n - 1,by omega⟩
   rw [pw,mzero]
  have HP:=Lib.hid h1
  rw [show ((0:GF).n:Int)=0 from rfl]
  clear h1 h0
  go_enter Tryz.func88,Tryz.ntmps88
  go_wp2
  go_ret
  exact ⟨by rw [HP.out];rfl,rfl⟩
 obtain ⟨M,hM⟩:∃ M,n % 255=M:=⟨_,rfl⟩
 have hMl:M < 255:=by rw [← hM];exact Nat.mod_lt _ (by omega)
 have HP:Hid (pw a n=pw a M):=Lib.hid (by rw [← hM];exact (GF.pw_mod ha n).symm)
 have e1:(n:Int).tmod 255=(M:Int):=by rw [← hM];exact (Int.ofNat_tmod n 255).symm
 have e2:IntKind.i64.wrap (M:Int)=(M:Int):=IntWalk.i64_in _ (by omega)
 have e3:¬ (M:Int) < 0:=by omega
 have ha':¬ (a.n:Int)=0:=by have:=GF.ne0.1 ha;omega
 obtain ⟨x,hx⟩:∃ x,a.n=x:=⟨_,rfl⟩
 have HX:=Lib.hid hx
 rw [hx] at ha' ⊢
 clear h0 ha hx hM
 go_enter Tryz.func88,Tryz.ntmps88
 go_wp2
 clear e1 e2 e3
 go_loopg [6,7] M (fun gk y i wr=>∃ I yn:Nat,I≤M∧gk=M - I∧i=.int .i64 I∧y=.int .u8 (yn:Nat)∧w=wr∧Hid ((pw a I).n=yn))
 case atStart=>exact ⟨0,1,by omega,rfl,rfl,rfl,rfl,Lib.hid rfl⟩
 case round =>
  obtain ⟨I,yn,hI,rfl,rfl,rfl,rfl,HY⟩:=hrel
  by_cases hlt:I < M
  ·have HMUL:=Lib.hid (rmul_g (pw a I) a w)
   have HY2:Hid ((pw a (I+1)).n=(pw a I * a).n):=Lib.hid (by rw [show pw a (I+1)=pw a I * a from rfl])
   obtain ⟨zn,hzn⟩:∃ zn,(pw a I * a).n=zn:=⟨_,rfl⟩
   rw [hzn] at HY2 HMUL
   rw [HY.out,HX.out] at HMUL
   clear hzn
   go_wp2_with fail
   refine HMUL.out.mono ?_
   rintro e w' ⟨rfl,rfl⟩
   go_wp2
   go_roundg (M - (I+1))
   case measure=>omega
   case rel=>exact ⟨I+1,zn,by omega,rfl,by go_num,rfl,rfl,HY2⟩
  ·obtain rfl:I=M:=by omega
   go_wp2
   go_ret
   exact ⟨by rw [HP.out,HY.out] <;> rfl,rfl⟩
end Go.Proofs.YtbiaoohodjoojaaGreat
/- The reference's powers, and its points of groups. -/
namespace Go.Proofs.YtbiaoohodjoojaaGreat
open Go.RowKit Fld
set_option linter.unusedVariables false
set_option linter.unusedSimpArgs false

theorem gPow_mul (c s e:Nat):pw GF.two c * pw (pw GF.two s) e=gPow c s e:=by
 rw [gPow,GF.pown_pw,pw_pw,← pw_add,Nat.mul_comm s e]
def RCosPost (r g:Nat) (w:World) (e:Ending) (w':World):Prop:=Below w.heap.size w w'∧∃ v,e=.returned (.tuple #[v,.int .i64 0])∧OwnG w' w.heap.size v (cosL r g)
set_option maxRecDepth 100000 in
set_option maxHeartbeats 4000000 in
theorem rcosets_any (r g:Nat) (w:World) (hr:1≤r∧r≤254) (hd:255 % (r+1)=0) (hg:g≤255 / (r+1)) :
  Calls Tryz.prog 66 #[.int .i64 r,.int .i64 g] w (RCosPost r g w):=by
 obtain ⟨R,hR⟩:∃ R,r+1=R:=⟨_,rfl⟩
 obtain ⟨S,hS⟩:∃ S,255 / R=S:=⟨_,rfl⟩
 rw [hR] at hd hg
 rw [hS] at hg
 have hmI:(255:Int).tmod (R:Int)=0:=by have:=(Int.ofNat_tmod 255 R).symm;rw [hd] at this;exact this
 have hSI:(255:Int).tdiv (R:Int)=(S:Int):=by rw [← hS];exact (Int.ofNat_tdiv 255 R).symm
 have hSle:S≤255:=by rw [← hS];exact Nat.div_le_self _ _
 have x1:(r:Int)+1=(R:Int):=by omega
 have x2:IntKind.i64.wrap (R:Int)=(R:Int):=IntWalk.i64_in _ (by omega)
 have x4:IntKind.i64.wrap (S:Int)=(S:Int):=IntWalk.i64_in _ (by omega)
 have x5:¬ (R:Int)=0:=by omega
 have n1:¬ (r:Int) < 1:=by omega
 have n2:¬ (r:Int) > 254:=by omega
 have n3:¬ (g:Int) < 0:=by omega
 have n4:¬ (g:Int) > (S:Int):=by omega
 have HRR:=Lib.hid hR
 have HSS:Hid (255 / (r+1)=S):=Lib.hid (by rw [hR,hS])
 have HP2:Hid (∀ n:Nat,n≤1000000→∀ W,Calls Tryz.prog 88 #[.int .u8 2,.int .i64 n] W (RPowPost (pw GF.two n) W)):=Lib.hid fun n hn W=>rpow_any GF.two n W hn
 have HPS:=Lib.hid (HP2.out S (by omega) w)
 unfold RPowPost at HPS
 obtain ⟨hn,hhn⟩:∃ hn,(pw GF.two S).n=hn:=⟨_,rfl⟩
 have HHN:=Lib.hid hhn
 rw [hhn] at HPS
 clear hR hS hd hhn
 go_enter Tryz.func66,Tryz.ntmps66
 go_wp2_with fail
 refine HPS.out.mono ?_
 rintro e w' ⟨rfl,rfl⟩
 go_wp2
 clear hmI hSI x2 x4 x5 n1 n2 n3 n4 HPS
 go_loopg [7,8] g (fun gk v i wr=>∃ (V:Value) (J:Nat),V=v∧J≤g∧gk=g - J∧i=.int .i64 J∧Hid (OwnG wr w.heap.size V (cosL r J))∧Hid (Below w.heap.size w wr))
 case atStart=>exact ⟨_,0,rfl,by omega,rfl,rfl,Lib.hid (OwnG.nil _ _),Lib.hid (Below.refl _ _)⟩
 case round =>
  obtain ⟨V,J,rfl,hJ,rfl,rfl,HO,HB⟩:=hrel
  have hsr:=HB.out.size
  by_cases hlt:J < g
  ·have HPJ:=Lib.hid (HP2.out J (by omega))
   unfold RPowPost at HPJ
   obtain ⟨jn,hjn⟩:∃ jn,(pw GF.two J).n=jn:=⟨_,rfl⟩
   have HJN:=Lib.hid hjn
   rw [hjn] at HPJ
   have hlen:(cosL r J).length≤100000:=by
    rw [cosL_len]
    exact Nat.le_trans (Nat.mul_le_mul (show J≤255 by omega) (show r+1≤255 by omega)) (by omega)
   have HLEN:=Lib.hid hlen
   have HO0:Hid (OwnG wr w.heap.size V (cosL r J ++ (List.range 0).map (gPow J S))):=Lib.hid (by simpa using HO.out)
   have HB0:=HB
   clear hjn hlen HO HB hsr
   go_wp2
   go_loopg [7,9] R (fun gk v i wr=>∃ (V:Value) (I:Nat),V=v∧I≤R∧gk=R - I∧i=.int .i64 I∧Hid (OwnG wr w.heap.size V (cosL r J ++ (List.range I).map (gPow J S)))∧Hid (Below w.heap.size w wr))
   case atStart=>exact ⟨_,0,rfl,by omega,rfl,rfl,HO0,HB0⟩
   case round =>
    clear HO0 HB0
    obtain ⟨V,I,rfl,hI,rfl,rfl,HO,HB⟩:=hrel
    have hsr:=HB.out.size
    by_cases hlt2:I < R
    ·have hle:(I:Int)≤(r:Int):=by omega
     have HPI:=Lib.hid (rpow_any (pw GF.two S) I wr (by omega))
     unfold RPowPost at HPI
     obtain ⟨inn,hin⟩:∃ inn,(pw (pw GF.two S) I).n=inn:=⟨_,rfl⟩
     have HMUL:=Lib.hid (rmul_g (pw GF.two J) (pw (pw GF.two S) I) wr)
     rw [gPow_mul,HJN.out,hin] at HMUL
     rw [HHN.out,hin] at HPI
     obtain ⟨zn,hzn⟩:∃ zn,(gPow J S I).n=zn:=⟨_,rfl⟩
     rw [hzn] at HMUL
     obtain ⟨v1,w6,hap,ho1,-,hb6,-⟩:=app_byte (W:=wr) (gPow J S I) HO.out (by have:=HLEN.out;simp;omega) (by omega) hzn (ad:=wr.heap.size) rfl
     have HO6:Hid (OwnG w6 w.heap.size v1 (cosL r J ++ (List.range (I+1)).map (gPow J S))):=Lib.hid (by rw [List.range_succ,List.map_append,← List.append_assoc];exact ho1)
     have HB6:=Lib.hid (HB.out.trans hb6)
     have HPJ2:=Lib.hid (HPJ.out wr)
     clear hin hzn ho1 hb6
     go_wp2_with fail
     refine HPJ2.out.mono ?_
     rintro e w' ⟨rfl,rfl⟩
     go_wp2_with fail
     refine HPI.out.mono ?_
     rintro e w' ⟨rfl,rfl⟩
     go_wp2_with fail
     refine HMUL.out.mono ?_
     rintro e w' ⟨rfl,rfl⟩
     go_wp2_with (at_builtin;refine wpList_append rfl _ _ _ rfl rfl rfl hap ?_)
     go_roundg (R - (I+1))
     case measure=>omega
     case rel=>exact ⟨v1,I+1,rfl,by omega,rfl,by go_num,HO6,HB6⟩
    ·have hle:¬ (I:Int)≤(r:Int):=by omega
     obtain rfl:I=R:=by omega
     have HO6:Hid (OwnG wr w.heap.size V (cosL r (J+1))):=Lib.hid (by rw [cosL_succ,HSS.out,HRR.out];exact HO.out)
     go_wp2
     go_roundg (g - (J+1))
     case measure=>omega
     case rel=>exact ⟨V,J+1,rfl,by omega,rfl,by go_num,HO6,HB⟩
  ·obtain rfl:J=g:=by omega
   have HP:Hid (RCosPost r J w (.returned (.tuple #[V,.int .i64 0])) wr):=Lib.hid ⟨HB.out,V,rfl,HO.out⟩
   go_wp2
   go_ret2
   exact HP.out
end Go.Proofs.YtbiaoohodjoojaaGreat
/- The reference's codes of groups: how many tell, the points, which are made. -/
namespace Go.Proofs.YtbiaoohodjoojaaGreat
open Go.RowKit Fld
set_option linter.unusedVariables false
set_option linter.unusedSimpArgs false

abbrev rc (n k r:Int):Value:=.agg #[.int .i64 n,.int .i64 k,.int .i64 r]
def RTelPost (t:Int) (w:World) (e:Ending) (w':World):Prop:=e=.returned (.int .i64 t)∧Below w.heap.size w w'
set_option maxHeartbeats 2000000 in
theorem rtells_any (n:Int) (k r:Nat) (w:World) (hr:1≤r) (hk:1≤k∧k≤1000000) :
  Calls Tryz.prog 16 #[rc n k r] w (RTelPost ((k+k / r - 1:Nat):Int) w):=by
 obtain ⟨D,hD⟩:∃ D,k / r=D:=⟨_,rfl⟩
 have hDk:D≤k:=by rw [← hD];exact Nat.div_le_self _ _
 obtain ⟨T1,hT1⟩:∃ T1,k+D=T1:=⟨_,rfl⟩
 obtain ⟨T,hT⟩:∃ T,T1 - 1=T:=⟨_,rfl⟩
 have z3:(k:Int).tdiv (r:Int)=(D:Int):=by rw [← hD];exact (Int.ofNat_tdiv k r).symm
 have z4:IntKind.i64.wrap (D:Int)=(D:Int):=IntWalk.i64_in _ (by omega)
 have z5:(k:Int)+(D:Int)=(T1:Int):=by omega
 have z6:IntKind.i64.wrap (T1:Int)=(T1:Int):=IntWalk.i64_in _ (by omega)
 have z7:(T1:Int) - 1=(T:Int):=by omega
 have z8:IntKind.i64.wrap (T:Int)=(T:Int):=IntWalk.i64_in _ (by omega)
 have z9:¬ (r:Int)=0:=by omega
 have z9n:¬ r=0:=by omega
 rw [hD,hT1,hT]
 obtain ⟨kp,hkp⟩:∃ kp:Nat→Bool,∀ j,kp j=true↔j < w.heap.size+1:=⟨fun j=>decide (j < w.heap.size+1),by simp⟩
 have k1:kp w.heap.size=true:=(hkp _).2 (by omega)
 clear hD hT1 hT hkp
 go_enter Tryz.func16,Tryz.ntmps16
 go_upto_region 1 with fail
 have hgr:=fun (w0 W:World) (p:Addr) (hp:(fun k=>kp k=true) p.block)=>graft_cell (w0:=w0) (keep:=(fun k=>kp k=true)) W hp
 refine wp_region_tree (fun k=>kp k=true) [] (.sq [0,1,2,3,4,5,6,7,8,9] .done) (by kernel_rfl) (by kernel_rfl) ?_
 simp only [Tr.sq,List.foldr_cons,List.foldr_nil,slimTr,slimStep,Oper.slim,List.contains_cons,List.contains_nil,Option.map_none,Option.map_some,List.getElem?_toArray,List.getElem?_cons_zero,List.getElem?_cons_succ,Option.bind_some,beq_self_eq_true,Bool.or_false,Nat.reduceBEq,Nat.reduceAdd,Nat.zero_add]
 repeat' first | ((with_reducible refine wpSlimT_id ?_);first | (with_reducible refine wpSlimT_done ?_) | ((with_reducible refine wpSlimT_step (fun K hK=>?_));go_simp;(refine hK _ _ ?_;clear hK K))) | fail
 clear hgr
 go_wp2
 go_ret
 exact ⟨rfl,by (repeat' (first | (with_reducible exact RowKit.Below.refl _ _) | (with_reducible assumption) | (with_reducible refine RowKit.Below.drew ?_) | (with_reducible refine RowKit.Below.alloc ?_ ?_ _) | omega | (simp;done) | (simp;omega)))⟩
def RPtsPost (xs:List GF) (w:World) (e:Ending) (w':World):Prop:=∃ v,e=.returned v∧OwnG w' w.heap.size v xs∧Below w.heap.size w w'
set_option maxRecDepth 100000 in
set_option maxHeartbeats 2000000 in
theorem rpoints_any (n k r:Nat) (w:World) (h:LOkN n k r) :
  Calls Tryz.prog 43 #[rc n k r] w (RPtsPost (cosL r (n / (r+1))) w):=by
 have n1:=h.n1
 have r1:=h.r1
 obtain ⟨R,hR⟩:∃ R,r+1=R:=⟨_,rfl⟩
 obtain ⟨G,hG⟩:∃ G,n / R=G:=⟨_,rfl⟩
 have hGl:G≤n:=by rw [← hG];exact Nat.div_le_self _ _
 have x1:(r:Int)+1=(R:Int):=by omega
 have x2:IntKind.i64.wrap (R:Int)=(R:Int):=IntWalk.i64_in _ (by omega)
 have x5:¬ (R:Int)=0:=by omega
 have x5n:¬ R=0:=by omega
 have z1:(n:Int).tdiv (R:Int)=(G:Int):=by rw [← hG];exact (Int.ofNat_tdiv n R).symm
 have z2:IntKind.i64.wrap (G:Int)=(G:Int):=IntWalk.i64_in _ (by omega)
 have HC:=Lib.hid (rcosets_any r G ((w.alloc (.cells #[.int .i64 n,.int .i64 k,.int .i64 r] 29)).drew) r1 h.dv (by have h9:=h.grp;rw [hR] at h9 ⊢;rwa [hG] at h9))
 obtain ⟨kp,hkp⟩:∃ kp:Nat→Bool,∀ j,kp j=true↔j < w.heap.size+1:=⟨fun j=>decide (j < w.heap.size+1),by simp⟩
 have k1:kp w.heap.size=true:=(hkp _).2 (by omega)
 have HKP:=Lib.hid hkp
 have HB0:Hid (Below w.heap.size w ((w.alloc (.cells #[.int .i64 n,.int .i64 k,.int .i64 r] 29)).drew)):=Lib.hid (by (repeat' (first | (with_reducible exact RowKit.Below.refl _ _) | (with_reducible assumption) | (with_reducible refine RowKit.Below.drew ?_) | (with_reducible refine RowKit.Below.alloc ?_ ?_ _) | omega | (simp;done) | (simp;omega))))
 unfold RCosPost at HC
 rw [hR,hG]
 clear hR hG hkp h
 go_enter Tryz.func43,Tryz.ntmps43
 go_upto_region 1 with fail
 have hgr:=fun (w0 W:World) (p:Addr) (hp:(fun k=>kp k=true) p.block)=>graft_cell (w0:=w0) (keep:=(fun k=>kp k=true)) W hp
 refine wp_region_tree (fun k=>kp k=true) [8] (.sq [0,1,2,3,4,5,6,7,8,9,10,11,12,13] .done) (by kernel_rfl) (by kernel_rfl) ?_
 simp only [Tr.sq,List.foldr_cons,List.foldr_nil,slimTr,slimStep,Oper.slim,List.contains_cons,List.contains_nil,Option.map_none,Option.map_some,List.getElem?_toArray,List.getElem?_cons_zero,List.getElem?_cons_succ,Option.bind_some,beq_self_eq_true,Bool.or_false,Nat.reduceBEq,Nat.reduceAdd,Nat.zero_add]
 repeat' first | ((with_reducible refine wpSlimT_id ?_);first | (with_reducible refine wpSlimT_done ?_) | ((with_reducible refine wpSlimT_step (fun K hK=>?_));go_simp;first | (refine hK _ _ ?_;clear hK K) | (refine ⟨by (intro kk hkk;first | (simp (disch:=(simp;omega)) only [hp_drew,hp_drewN,hp_alloc,hp_set];done) | (simp [hp_drew,hp_drewN,hp_alloc_if,hkk];done) | fail),hK _ _ ?_⟩;clear hK K) | (go_at_call 66;(with_reducible refine (HC.out).mono ?_);rintro e w6 ⟨hb6,v,rfl,ho6⟩;have HB6:=Lib.hid hb6;have HO6:=Lib.hid ho6;clear hb6 ho6;refine ⟨_,rfl,(fun kk hkk=>HB6.out.block kk (by have:=(HKP.out kk).1 hkk;simp;omega)),hK _ _ ?_⟩;clear hK K))) | fail
 clear hgr
 have HP:Hid (RPtsPost (cosL r G) w (.returned v) w6):=Lib.hid ⟨v,rfl,HO6.out.mono (by simp),HB0.out.trans (HB6.out.mono (by simp))⟩
 go_wp2
 go_ret
 exact HP.out
def RNew12Post (n k r:Int) (w:World) (e:Ending) (w':World):Prop:=∃ c:Int,e=.returned (.int .i64 c)∧Below w.heap.size w w'∧(c=0∧LOk n k r ∨ c=2∧¬ LOk n k r)
set_option maxRecDepth 100000 in
set_option maxHeartbeats 8000000 in
theorem rnew12_any (n k r:Int) (w:World) (hn:-9223372036854775808≤n∧n≤9223372036854775807) (hk:-9223372036854775808≤k∧k≤9223372036854775807) (hr:-9223372036854775808≤r∧r≤9223372036854775807) :
  Calls Tryz.prog 12 #[rc n k r] w (RNew12Post n k r w):=by
 obtain ⟨kp,hkp⟩:∃ kp:Nat→Bool,∀ j,kp j=true↔j < w.heap.size+1:=⟨fun j=>decide (j < w.heap.size+1),by simp⟩
 have k1:kp w.heap.size=true:=(hkp _).2 (by omega)
 have HKP:=Lib.hid hkp
 clear hkp
 by_cases c1:n < 1
 ·have HFF:Hid (¬ LOk n k r):=Lib.hid (fun ⟨N,K,R,e1,e2,e3,h⟩=>by have:=h.n1;omega)
  go_enter Tryz.func12,Tryz.ntmps12
  go_upto_region 1 with fail
  have hgr:=fun (w0 W:World) (p:Addr) (hp:(fun k=>kp k=true) p.block)=>graft_cell (w0:=w0) (keep:=(fun k=>kp k=true)) W hp
  refine wp_region_tree (fun k=>kp k=true) [54] (.sq [0,1,2,3,4,5,6,7,8,9,10,11,12,13,14,15,16,17,18,19,20,21,22,23,24,25,26,27,28,29,30,31,32,33,34,35,36,37,38,39,40,41,42,43,44,45,46,47,48,49,50,51,52,53,55,56,54,57,58] .done) (by kernel_rfl) (by kernel_rfl) ?_
  simp only [Tr.sq,List.foldr_cons,List.foldr_nil,slimTr,slimStep,Oper.slim,List.contains_cons,List.contains_nil,Option.map_none,Option.map_some,List.getElem?_toArray,List.getElem?_cons_zero,List.getElem?_cons_succ,Option.bind_some,beq_self_eq_true,Bool.or_false,Nat.reduceBEq,Nat.reduceAdd,Nat.zero_add]
  repeat' first | ((with_reducible refine wpSlimT_id ?_);first | (with_reducible refine wpSlimT_done ?_) | ((with_reducible refine wpSlimT_step (fun K hK=>?_));go_simp;first | (refine hK _ _ ?_;clear hK K) | (refine ⟨by (intro kk hkk;first | (simp (disch:=(simp;omega)) only [hp_drew,hp_drewN,hp_alloc,hp_set];done) | (simp [hp_drew,hp_drewN,hp_alloc_if,hkk];done) | fail),hK _ _ ?_⟩;clear hK K))) | fail
  clear hgr
  go_wp2
  go_ret
  exact ⟨2,rfl,by (repeat' (first | (with_reducible exact RowKit.Below.refl _ _) | (with_reducible assumption) | (with_reducible refine RowKit.Below.drew ?_) | (with_reducible refine RowKit.Below.alloc ?_ ?_ _) | omega | (simp;done) | (simp;omega))),.inr ⟨rfl,HFF.out⟩⟩
 by_cases c2:n > 255
 ·have HFF:Hid (¬ LOk n k r):=Lib.hid (fun ⟨N,K,R,e1,e2,e3,h⟩=>by have:=h.n1;omega)
  go_enter Tryz.func12,Tryz.ntmps12
  go_upto_region 1 with fail
  have hgr:=fun (w0 W:World) (p:Addr) (hp:(fun k=>kp k=true) p.block)=>graft_cell (w0:=w0) (keep:=(fun k=>kp k=true)) W hp
  refine wp_region_tree (fun k=>kp k=true) [54] (.sq [0,1,2,3,4,5,6,7,8,9,10,11,12,13,14,15,16,17,18,19,20,21,22,23,24,25,26,27,28,29,30,31,32,33,34,35,36,37,38,39,40,41,42,43,44,45,46,47,48,49,50,51,52,53,55,56,54,57,58] .done) (by kernel_rfl) (by kernel_rfl) ?_
  simp only [Tr.sq,List.foldr_cons,List.foldr_nil,slimTr,slimStep,Oper.slim,List.contains_cons,List.contains_nil,Option.map_none,Option.map_some,List.getElem?_toArray,List.getElem?_cons_zero,List.getElem?_cons_succ,Option.bind_some,beq_self_eq_true,Bool.or_false,Nat.reduceBEq,Nat.reduceAdd,Nat.zero_add]
  repeat' first | ((with_reducible refine wpSlimT_id ?_);first | (with_reducible refine wpSlimT_done ?_) | ((with_reducible refine wpSlimT_step (fun K hK=>?_));go_simp;first | (refine hK _ _ ?_;clear hK K) | (refine ⟨by (intro kk hkk;first | (simp (disch:=(simp;omega)) only [hp_drew,hp_drewN,hp_alloc,hp_set];done) | (simp [hp_drew,hp_drewN,hp_alloc_if,hkk];done) | fail),hK _ _ ?_⟩;clear hK K))) | fail
  clear hgr
  go_wp2
  go_ret
  exact ⟨2,rfl,by (repeat' (first | (with_reducible exact RowKit.Below.refl _ _) | (with_reducible assumption) | (with_reducible refine RowKit.Below.drew ?_) | (with_reducible refine RowKit.Below.alloc ?_ ?_ _) | omega | (simp;done) | (simp;omega))),.inr ⟨rfl,HFF.out⟩⟩
 by_cases c3:r < 1
 ·have HFF:Hid (¬ LOk n k r):=Lib.hid (fun ⟨N,K,R,e1,e2,e3,h⟩=>by have:=h.r1;omega)
  go_enter Tryz.func12,Tryz.ntmps12
  go_upto_region 1 with fail
  have hgr:=fun (w0 W:World) (p:Addr) (hp:(fun k=>kp k=true) p.block)=>graft_cell (w0:=w0) (keep:=(fun k=>kp k=true)) W hp
  refine wp_region_tree (fun k=>kp k=true) [54] (.sq [0,1,2,3,4,5,6,7,8,9,10,11,12,13,14,15,16,17,18,19,20,21,22,23,24,25,26,27,28,29,30,31,32,33,34,35,36,37,38,39,40,41,42,43,44,45,46,47,48,49,50,51,52,53,55,56,54,57,58] .done) (by kernel_rfl) (by kernel_rfl) ?_
  simp only [Tr.sq,List.foldr_cons,List.foldr_nil,slimTr,slimStep,Oper.slim,List.contains_cons,List.contains_nil,Option.map_none,Option.map_some,List.getElem?_toArray,List.getElem?_cons_zero,List.getElem?_cons_succ,Option.bind_some,beq_self_eq_true,Bool.or_false,Nat.reduceBEq,Nat.reduceAdd,Nat.zero_add]
  repeat' first | ((with_reducible refine wpSlimT_id ?_);first | (with_reducible refine wpSlimT_done ?_) | ((with_reducible refine wpSlimT_step (fun K hK=>?_));go_simp;first | (refine hK _ _ ?_;clear hK K) | (refine ⟨by (intro kk hkk;first | (simp (disch:=(simp;omega)) only [hp_drew,hp_drewN,hp_alloc,hp_set];done) | (simp [hp_drew,hp_drewN,hp_alloc_if,hkk];done) | fail),hK _ _ ?_⟩;clear hK K))) | fail
  clear hgr
  go_wp2
  go_ret
  exact ⟨2,rfl,by (repeat' (first | (with_reducible exact RowKit.Below.refl _ _) | (with_reducible assumption) | (with_reducible refine RowKit.Below.drew ?_) | (with_reducible refine RowKit.Below.alloc ?_ ?_ _) | omega | (simp;done) | (simp;omega))),.inr ⟨rfl,HFF.out⟩⟩
 by_cases c4:r > 254
 ·have HFF:Hid (¬ LOk n k r):=Lib.hid (fun ⟨N,K,R,e1,e2,e3,h⟩=>by have:=h.r1;omega)
  go_enter Tryz.func12,Tryz.ntmps12
  go_upto_region 1 with fail
  have hgr:=fun (w0 W:World) (p:Addr) (hp:(fun k=>kp k=true) p.block)=>graft_cell (w0:=w0) (keep:=(fun k=>kp k=true)) W hp
  refine wp_region_tree (fun k=>kp k=true) [54] (.sq [0,1,2,3,4,5,6,7,8,9,10,11,12,13,14,15,16,17,18,19,20,21,22,23,24,25,26,27,28,29,30,31,32,33,34,35,36,37,38,39,40,41,42,43,44,45,46,47,48,49,50,51,52,53,55,56,54,57,58] .done) (by kernel_rfl) (by kernel_rfl) ?_
  simp only [Tr.sq,List.foldr_cons,List.foldr_nil,slimTr,slimStep,Oper.slim,List.contains_cons,List.contains_nil,Option.map_none,Option.map_some,List.getElem?_toArray,List.getElem?_cons_zero,List.getElem?_cons_succ,Option.bind_some,beq_self_eq_true,Bool.or_false,Nat.reduceBEq,Nat.reduceAdd,Nat.zero_add]
  repeat' first | ((with_reducible refine wpSlimT_id ?_);first | (with_reducible refine wpSlimT_done ?_) | ((with_reducible refine wpSlimT_step (fun K hK=>?_));go_simp;first | (refine hK _ _ ?_;clear hK K) | (refine ⟨by (intro kk hkk;first | (simp (disch:=(simp;omega)) only [hp_drew,hp_drewN,hp_alloc,hp_set];done) | (simp [hp_drew,hp_drewN,hp_alloc_if,hkk];done) | fail),hK _ _ ?_⟩;clear hK K))) | fail
  clear hgr
  go_wp2
  go_ret
  exact ⟨2,rfl,by (repeat' (first | (with_reducible exact RowKit.Below.refl _ _) | (with_reducible assumption) | (with_reducible refine RowKit.Below.drew ?_) | (with_reducible refine RowKit.Below.alloc ?_ ?_ _) | omega | (simp;done) | (simp;omega))),.inr ⟨rfl,HFF.out⟩⟩
 obtain ⟨R,rfl⟩:∃ R:Nat,r=(R:Int):=⟨r.toNat,by omega⟩
 obtain ⟨N,rfl⟩:∃ N:Nat,n=(N:Int):=⟨n.toNat,by omega⟩
 obtain ⟨R1,hR1⟩:∃ R1,R+1=R1:=⟨_,rfl⟩
 have x1:(R:Int)+1=(R1:Int):=by omega
 have x2:IntKind.i64.wrap (R1:Int)=(R1:Int):=IntWalk.i64_in _ (by omega)
 have x5:¬ (R1:Int)=0:=by omega
 have x5n:¬ R1=0:=by omega
 obtain ⟨u,hu⟩:∃ u,255 % R1=u:=⟨_,rfl⟩
 have u3:(255:Int).tmod (R1:Int)=(u:Int):=by rw [← hu];exact (Int.ofNat_tmod 255 R1).symm
 have u4:IntKind.i64.wrap (u:Int)=(u:Int):=IntWalk.i64_in _ (by have:=Nat.mod_le 255 R1;omega)
 obtain ⟨m,hm⟩:∃ m,N % R1=m:=⟨_,rfl⟩
 have x3:(N:Int).tmod (R1:Int)=(m:Int):=by rw [← hm];exact (Int.ofNat_tmod N R1).symm
 have x4:IntKind.i64.wrap (m:Int)=(m:Int):=IntWalk.i64_in _ (by have:=Nat.mod_le N R1;omega)
 have HU:Hid (255 % (R+1)=u∧N % (R+1)=m):=Lib.hid ⟨by rw [hR1,hu],by rw [hR1,hm]⟩
 clear hu hm hR1
 have hpar:∀ (k':Int),LOk (N:Int) k' (R:Int)→u=0∧m=0∧1≤k'∧k'≤255:=fun k' ⟨N',K,R',e1,e2,e3,h⟩=>by
  obtain rfl:N=N':=by omega
  obtain rfl:R=R':=by omega
  have h1:=h.dv
  have h2:=h.nr
  have h3:=h.k1
  rw [HU.out.1] at h1
  rw [HU.out.2] at h2
  exact ⟨h1,h2,by omega,by omega⟩
 have HPAR:=Lib.hid hpar
 clear hpar
 by_cases c5:u=0
 case neg =>
  have c5':¬ (u:Int)=0:=by omega
  have HFF:Hid (¬ LOk (N:Int) k (R:Int)):=Lib.hid fun h=>c5 (HPAR.out _ h).1
  go_enter Tryz.func12,Tryz.ntmps12
  go_upto_region 1 with fail
  have hgr:=fun (w0 W:World) (p:Addr) (hp:(fun k=>kp k=true) p.block)=>graft_cell (w0:=w0) (keep:=(fun k=>kp k=true)) W hp
  refine wp_region_tree (fun k=>kp k=true) [54] (.sq [0,1,2,3,4,5,6,7,8,9,10,11,12,13,14,15,16,17,18,19,20,21,22,23,24,25,26,27,28,29,30,31,32,33,34,35,36,37,38,39,40,41,42,43,44,45,46,47,48,49,50,51,52,53,55,56,54,57,58] .done) (by kernel_rfl) (by kernel_rfl) ?_
  simp only [Tr.sq,List.foldr_cons,List.foldr_nil,slimTr,slimStep,Oper.slim,List.contains_cons,List.contains_nil,Option.map_none,Option.map_some,List.getElem?_toArray,List.getElem?_cons_zero,List.getElem?_cons_succ,Option.bind_some,beq_self_eq_true,Bool.or_false,Nat.reduceBEq,Nat.reduceAdd,Nat.zero_add]
  repeat' first | ((with_reducible refine wpSlimT_id ?_);first | (with_reducible refine wpSlimT_done ?_) | ((with_reducible refine wpSlimT_step (fun K hK=>?_));go_simp;first | (refine hK _ _ ?_;clear hK K) | (refine ⟨by (intro kk hkk;first | (simp (disch:=(simp;omega)) only [hp_drew,hp_drewN,hp_alloc,hp_set];done) | (simp [hp_drew,hp_drewN,hp_alloc_if,hkk];done) | fail),hK _ _ ?_⟩;clear hK K))) | fail
  clear hgr
  go_wp2
  go_ret
  exact ⟨2,rfl,by (repeat' (first | (with_reducible exact RowKit.Below.refl _ _) | (with_reducible assumption) | (with_reducible refine RowKit.Below.drew ?_) | (with_reducible refine RowKit.Below.alloc ?_ ?_ _) | omega | (simp;done) | (simp;omega))),.inr ⟨rfl,HFF.out⟩⟩
 subst c5
 by_cases c6:m=0
 case neg =>
  have c6':¬ (m:Int)=0:=by omega
  have HFF:Hid (¬ LOk (N:Int) k (R:Int)):=Lib.hid fun h=>c6 (HPAR.out _ h).2.1
  go_enter Tryz.func12,Tryz.ntmps12
  go_upto_region 1 with fail
  have hgr:=fun (w0 W:World) (p:Addr) (hp:(fun k=>kp k=true) p.block)=>graft_cell (w0:=w0) (keep:=(fun k=>kp k=true)) W hp
  refine wp_region_tree (fun k=>kp k=true) [54] (.sq [0,1,2,3,4,5,6,7,8,9,10,11,12,13,14,15,16,17,18,19,20,21,22,23,24,25,26,27,28,29,30,31,32,33,34,35,36,37,38,39,40,41,42,43,44,45,46,47,48,49,50,51,52,53,55,56,54,57,58] .done) (by kernel_rfl) (by kernel_rfl) ?_
  simp only [Tr.sq,List.foldr_cons,List.foldr_nil,slimTr,slimStep,Oper.slim,List.contains_cons,List.contains_nil,Option.map_none,Option.map_some,List.getElem?_toArray,List.getElem?_cons_zero,List.getElem?_cons_succ,Option.bind_some,beq_self_eq_true,Bool.or_false,Nat.reduceBEq,Nat.reduceAdd,Nat.zero_add]
  repeat' first | ((with_reducible refine wpSlimT_id ?_);first | (with_reducible refine wpSlimT_done ?_) | ((with_reducible refine wpSlimT_step (fun K hK=>?_));go_simp;first | (refine hK _ _ ?_;clear hK K) | (refine ⟨by (intro kk hkk;first | (simp (disch:=(simp;omega)) only [hp_drew,hp_drewN,hp_alloc,hp_set];done) | (simp [hp_drew,hp_drewN,hp_alloc_if,hkk];done) | fail),hK _ _ ?_⟩;clear hK K))) | fail
  clear hgr
  go_wp2
  go_ret
  exact ⟨2,rfl,by (repeat' (first | (with_reducible exact RowKit.Below.refl _ _) | (with_reducible assumption) | (with_reducible refine RowKit.Below.drew ?_) | (with_reducible refine RowKit.Below.alloc ?_ ?_ _) | omega | (simp;done) | (simp;omega))),.inr ⟨rfl,HFF.out⟩⟩
 subst c6
 by_cases c7:k < 1
 ·have HFF:Hid (¬ LOk (N:Int) k (R:Int)):=Lib.hid fun h=>by have:=(HPAR.out _ h).2.2;omega
  go_enter Tryz.func12,Tryz.ntmps12
  go_upto_region 1 with fail
  have hgr:=fun (w0 W:World) (p:Addr) (hp:(fun k=>kp k=true) p.block)=>graft_cell (w0:=w0) (keep:=(fun k=>kp k=true)) W hp
  refine wp_region_tree (fun k=>kp k=true) [54] (.sq [0,1,2,3,4,5,6,7,8,9,10,11,12,13,14,15,16,17,18,19,20,21,22,23,24,25,26,27,28,29,30,31,32,33,34,35,36,37,38,39,40,41,42,43,44,45,46,47,48,49,50,51,52,53,55,56,54,57,58] .done) (by kernel_rfl) (by kernel_rfl) ?_
  simp only [Tr.sq,List.foldr_cons,List.foldr_nil,slimTr,slimStep,Oper.slim,List.contains_cons,List.contains_nil,Option.map_none,Option.map_some,List.getElem?_toArray,List.getElem?_cons_zero,List.getElem?_cons_succ,Option.bind_some,beq_self_eq_true,Bool.or_false,Nat.reduceBEq,Nat.reduceAdd,Nat.zero_add]
  repeat' first | ((with_reducible refine wpSlimT_id ?_);first | (with_reducible refine wpSlimT_done ?_) | ((with_reducible refine wpSlimT_step (fun K hK=>?_));go_simp;first | (refine hK _ _ ?_;clear hK K) | (refine ⟨by (intro kk hkk;first | (simp (disch:=(simp;omega)) only [hp_drew,hp_drewN,hp_alloc,hp_set];done) | (simp [hp_drew,hp_drewN,hp_alloc_if,hkk];done) | fail),hK _ _ ?_⟩;clear hK K))) | fail
  clear hgr
  go_wp2
  go_ret
  exact ⟨2,rfl,by (repeat' (first | (with_reducible exact RowKit.Below.refl _ _) | (with_reducible assumption) | (with_reducible refine RowKit.Below.drew ?_) | (with_reducible refine RowKit.Below.alloc ?_ ?_ _) | omega | (simp;done) | (simp;omega))),.inr ⟨rfl,HFF.out⟩⟩
 by_cases c8:k > 255
 ·have HFF:Hid (¬ LOk (N:Int) k (R:Int)):=Lib.hid fun h=>by have:=(HPAR.out _ h).2.2;omega
  go_enter Tryz.func12,Tryz.ntmps12
  go_upto_region 1 with fail
  have hgr:=fun (w0 W:World) (p:Addr) (hp:(fun k=>kp k=true) p.block)=>graft_cell (w0:=w0) (keep:=(fun k=>kp k=true)) W hp
  refine wp_region_tree (fun k=>kp k=true) [54] (.sq [0,1,2,3,4,5,6,7,8,9,10,11,12,13,14,15,16,17,18,19,20,21,22,23,24,25,26,27,28,29,30,31,32,33,34,35,36,37,38,39,40,41,42,43,44,45,46,47,48,49,50,51,52,53,55,56,54,57,58] .done) (by kernel_rfl) (by kernel_rfl) ?_
  simp only [Tr.sq,List.foldr_cons,List.foldr_nil,slimTr,slimStep,Oper.slim,List.contains_cons,List.contains_nil,Option.map_none,Option.map_some,List.getElem?_toArray,List.getElem?_cons_zero,List.getElem?_cons_succ,Option.bind_some,beq_self_eq_true,Bool.or_false,Nat.reduceBEq,Nat.reduceAdd,Nat.zero_add]
  repeat' first | ((with_reducible refine wpSlimT_id ?_);first | (with_reducible refine wpSlimT_done ?_) | ((with_reducible refine wpSlimT_step (fun K hK=>?_));go_simp;first | (refine hK _ _ ?_;clear hK K) | (refine ⟨by (intro kk hkk;first | (simp (disch:=(simp;omega)) only [hp_drew,hp_drewN,hp_alloc,hp_set];done) | (simp [hp_drew,hp_drewN,hp_alloc_if,hkk];done) | fail),hK _ _ ?_⟩;clear hK K))) | fail
  clear hgr
  go_wp2
  go_ret
  exact ⟨2,rfl,by (repeat' (first | (with_reducible exact RowKit.Below.refl _ _) | (with_reducible assumption) | (with_reducible refine RowKit.Below.drew ?_) | (with_reducible refine RowKit.Below.alloc ?_ ?_ _) | omega | (simp;done) | (simp;omega))),.inr ⟨rfl,HFF.out⟩⟩
 obtain ⟨K,rfl⟩:∃ K:Nat,k=(K:Int):=⟨k.toNat,by omega⟩
 obtain ⟨q,hq⟩:∃ q,K % R=q:=⟨_,rfl⟩
 have y3:(K:Int).tmod (R:Int)=(q:Int):=by rw [← hq];exact (Int.ofNat_tmod K R).symm
 have y4:IntKind.i64.wrap (q:Int)=(q:Int):=IntWalk.i64_in _ (by have:=Nat.mod_le K R;omega)
 have y5:¬ (R:Int)=0:=by omega
 have y5n:¬ R=0:=by omega
 by_cases c9:q=0
 case neg =>
  have c9':¬ (q:Int)=0:=by omega
  have HFF:Hid (¬ LOk (N:Int) (K:Int) (R:Int)):=Lib.hid fun h=>by have:=h.nat.kr;omega
  clear hq
  go_enter Tryz.func12,Tryz.ntmps12
  go_upto_region 1 with fail
  have hgr:=fun (w0 W:World) (p:Addr) (hp:(fun k=>kp k=true) p.block)=>graft_cell (w0:=w0) (keep:=(fun k=>kp k=true)) W hp
  refine wp_region_tree (fun k=>kp k=true) [54] (.sq [0,1,2,3,4,5,6,7,8,9,10,11,12,13,14,15,16,17,18,19,20,21,22,23,24,25,26,27,28,29,30,31,32,33,34,35,36,37,38,39,40,41,42,43,44,45,46,47,48,49,50,51,52,53,55,56,54,57,58] .done) (by kernel_rfl) (by kernel_rfl) ?_
  simp only [Tr.sq,List.foldr_cons,List.foldr_nil,slimTr,slimStep,Oper.slim,List.contains_cons,List.contains_nil,Option.map_none,Option.map_some,List.getElem?_toArray,List.getElem?_cons_zero,List.getElem?_cons_succ,Option.bind_some,beq_self_eq_true,Bool.or_false,Nat.reduceBEq,Nat.reduceAdd,Nat.zero_add]
  repeat' first | ((with_reducible refine wpSlimT_id ?_);first | (with_reducible refine wpSlimT_done ?_) | ((with_reducible refine wpSlimT_step (fun K hK=>?_));go_simp;first | (refine hK _ _ ?_;clear hK K) | (refine ⟨by (intro kk hkk;first | (simp (disch:=(simp;omega)) only [hp_drew,hp_drewN,hp_alloc,hp_set];done) | (simp [hp_drew,hp_drewN,hp_alloc_if,hkk];done) | fail),hK _ _ ?_⟩;clear hK K))) | fail
  clear hgr
  go_wp2
  go_ret
  exact ⟨2,rfl,by (repeat' (first | (with_reducible exact RowKit.Below.refl _ _) | (with_reducible assumption) | (with_reducible refine RowKit.Below.drew ?_) | (with_reducible refine RowKit.Below.alloc ?_ ?_ _) | omega | (simp;done) | (simp;omega))),.inr ⟨rfl,HFF.out⟩⟩
 subst c9
 obtain ⟨T,hT⟩:∃ T,K+K / R - 1=T:=⟨_,rfl⟩
 have HIFF:Hid (LOk (N:Int) (K:Int) (R:Int)↔T≤N):=Lib.hid ⟨fun h=>by have:=h.nat.le;omega,fun h=>⟨N,K,R,rfl,rfl,rfl,⟨by omega,by omega,HU.out.2,by omega,hq,HU.out.1,by omega⟩⟩⟩
 have HTL:=Lib.hid (fun W=>rtells_any (N:Int) K R W (by omega) ⟨by omega,by omega⟩)
 unfold RTelPost at HTL
 rw [hT] at HTL
 have HB0:Hid (Below w.heap.size w ((w.alloc (.cells #[.int .i64 N,.int .i64 K,.int .i64 R] 29)).drew)):=Lib.hid (by (repeat' (first | (with_reducible exact RowKit.Below.refl _ _) | (with_reducible assumption) | (with_reducible refine RowKit.Below.drew ?_) | (with_reducible refine RowKit.Below.alloc ?_ ?_ _) | omega | (simp;done) | (simp;omega))))
 clear hq hT
 obtain ⟨c,hc⟩:∃ c,decide ((T:Int) > (N:Int))=c:=⟨_,rfl⟩
 have HC:=Lib.hid hc
 cases c
 ·have hg:¬ (T:Int) > (N:Int):=of_decide_eq_false hc
  clear hc
  go_enter Tryz.func12,Tryz.ntmps12
  go_upto_region 1 with fail
  have hgr:=fun (w0 W:World) (p:Addr) (hp:(fun k=>kp k=true) p.block)=>graft_cell (w0:=w0) (keep:=(fun k=>kp k=true)) W hp
  refine wp_region_tree (fun k=>kp k=true) [54] (.sq [0,1,2,3,4,5,6,7,8,9,10,11,12,13,14,15,16,17,18,19,20,21,22,23,24,25,26,27,28,29,30,31,32,33,34,35,36,37,38,39,40,41,42,43,44,45,46,47,48,49,50,51,52,53,55,56,54,57,58] .done) (by kernel_rfl) (by kernel_rfl) ?_
  simp only [Tr.sq,List.foldr_cons,List.foldr_nil,slimTr,slimStep,Oper.slim,List.contains_cons,List.contains_nil,Option.map_none,Option.map_some,List.getElem?_toArray,List.getElem?_cons_zero,List.getElem?_cons_succ,Option.bind_some,beq_self_eq_true,Bool.or_false,Nat.reduceBEq,Nat.reduceAdd,Nat.zero_add]
  repeat' first | ((with_reducible refine wpSlimT_id ?_);first | (with_reducible refine wpSlimT_done ?_) | ((with_reducible refine wpSlimT_step (fun K hK=>?_));go_simp;first | (refine hK _ _ ?_;clear hK K) | (refine ⟨by (intro kk hkk;first | (simp (disch:=(simp;omega)) only [hp_drew,hp_drewN,hp_alloc,hp_set];done) | (simp [hp_drew,hp_drewN,hp_alloc_if,hkk];done) | fail),hK _ _ ?_⟩;clear hK K) | (go_at_call 16;(with_reducible refine (HTL.out _).mono ?_);rintro e w6 ⟨rfl,hb6⟩;have HB6:=Lib.hid hb6;clear hb6;refine ⟨_,rfl,(fun kk hkk=>HB6.out.block kk (by have:=(HKP.out kk).1 hkk;simp;omega)),hK _ _ ?_⟩;clear hK K))) | fail
  clear hgr
  have HP:Hid (Below w.heap.size w w6):=Lib.hid (HB0.out.trans (HB6.out.mono (by simp)))
  go_wp2
  go_ret
  exact ⟨0,rfl,HP.out,.inl ⟨rfl,HIFF.out.2 (by omega)⟩⟩
 ·have hg:(T:Int) > (N:Int):=of_decide_eq_true hc
  clear hc
  go_enter Tryz.func12,Tryz.ntmps12
  go_upto_region 1 with fail
  have hgr:=fun (w0 W:World) (p:Addr) (hp:(fun k=>kp k=true) p.block)=>graft_cell (w0:=w0) (keep:=(fun k=>kp k=true)) W hp
  refine wp_region_tree (fun k=>kp k=true) [54] (.sq [0,1,2,3,4,5,6,7,8,9,10,11,12,13,14,15,16,17,18,19,20,21,22,23,24,25,26,27,28,29,30,31,32,33,34,35,36,37,38,39,40,41,42,43,44,45,46,47,48,49,50,51,52,53,55,56,54,57,58] .done) (by kernel_rfl) (by kernel_rfl) ?_
  simp only [Tr.sq,List.foldr_cons,List.foldr_nil,slimTr,slimStep,Oper.slim,List.contains_cons,List.contains_nil,Option.map_none,Option.map_some,List.getElem?_toArray,List.getElem?_cons_zero,List.getElem?_cons_succ,Option.bind_some,beq_self_eq_true,Bool.or_false,Nat.reduceBEq,Nat.reduceAdd,Nat.zero_add]
  repeat' first | ((with_reducible refine wpSlimT_id ?_);first | (with_reducible refine wpSlimT_done ?_) | ((with_reducible refine wpSlimT_step (fun K hK=>?_));go_simp;first | (refine hK _ _ ?_;clear hK K) | (refine ⟨by (intro kk hkk;first | (simp (disch:=(simp;omega)) only [hp_drew,hp_drewN,hp_alloc,hp_set];done) | (simp [hp_drew,hp_drewN,hp_alloc_if,hkk];done) | fail),hK _ _ ?_⟩;clear hK K) | (go_at_call 16;(with_reducible refine (HTL.out _).mono ?_);rintro e w6 ⟨rfl,hb6⟩;have HB6:=Lib.hid hb6;clear hb6;refine ⟨_,rfl,(fun kk hkk=>HB6.out.block kk (by have:=(HKP.out kk).1 hkk;simp;omega)),hK _ _ ?_⟩;clear hK K))) | fail
  clear hgr
  have HP:Hid (Below w.heap.size w w6):=Lib.hid (HB0.out.trans (HB6.out.mono (by simp)))
  go_wp2
  go_ret
  exact ⟨2,rfl,HP.out,.inr ⟨rfl,fun h=>by have:=HIFF.out.1 h;omega⟩⟩
end Go.Proofs.YtbiaoohodjoojaaGreat
/- The reference's shares of a message. -/
namespace Go.Proofs.YtbiaoohodjoojaaGreat
open Go.RowKit Fld
set_option linter.unusedVariables false
set_option linter.unusedSimpArgs false

noncomputable def pP (r:Nat) (m:List GF) (I i:Nat):GF:=if i % (r+1) < r∧i / (r+1) * r+i % (r+1) < I then m.getD (i / (r+1) * r+i % (r+1)) 0 else 0
theorem pP_zero (r:Nat) (m:List GF) (i:Nat):pP r m 0 i=0:=by unfold pP;rw [if_neg (by omega)]
theorem pP_all (r:Nat) (m:List GF) (i:Nat):pP r m m.length i=pF r m i:=by
 unfold pP pF
 by_cases h:i % (r+1) < r
 ·rw [if_pos h]
  by_cases h2:i / (r+1) * r+i % (r+1) < m.length
  ·rw [if_pos ⟨h,h2⟩]
  ·rw [if_neg (fun h3=>h2 h3.2),List.getD_eq_getElem?_getD,List.getElem?_eq_none (by omega)]
   rfl
 ·rw [if_neg h,if_neg (fun h3=>h h3.1)]
theorem pP_succ {r:Nat} (hr:0 < r) (m:List GF) (I i:Nat):pP r m (I+1) i=if i=I / r * (r+1)+I % r then m.getD I 0 else pP r m I i:=by
 have hm:I % r < r:=Nat.mod_lt _ hr
 have hI:I=I / r * r+I % r:=by rw [Nat.mul_comm];exact (Nat.div_add_mod I r).symm
 by_cases e:i=I / r * (r+1)+I % r
 ·have h1:i / (r+1)=I / r:=by rw [e,Nat.mul_comm,Nat.mul_add_div (Nat.succ_pos r),Nat.div_eq_of_lt (Nat.lt_succ_of_lt hm),Nat.add_zero]
  have h2:i % (r+1)=I % r:=by rw [e,Nat.mul_comm,Nat.mul_add_mod,Nat.mod_eq_of_lt (Nat.lt_succ_of_lt hm)]
  rw [if_pos e]
  unfold pP
  rw [h1,h2,← hI,if_pos ⟨hm,Nat.lt_succ_self I⟩]
 ·rw [if_neg e]
  unfold pP
  by_cases h:i % (r+1) < r
  ·have hne:i / (r+1) * r+i % (r+1) ≠ I:=fun e2=>by
    apply e
    have h1:I / r=i / (r+1):=by rw [← e2,Nat.mul_comm,Nat.mul_add_div hr,Nat.div_eq_of_lt h,Nat.add_zero]
    have h2:I % r=i % (r+1):=by rw [← e2,Nat.mul_comm,Nat.mul_add_mod,Nat.mod_eq_of_lt h]
    rw [h1,h2,Nat.mul_comm]
    exact (Nat.div_add_mod i (r+1)).symm
   by_cases h3:i / (r+1) * r+i % (r+1) < I
   ·rw [if_pos ⟨h,by omega⟩,if_pos ⟨h,h3⟩]
   ·rw [if_neg (fun h4=>by omega),if_neg (fun h4=>h3 h4.2)]
  ·rw [if_neg (fun h4=>h h4.1),if_neg (fun h4=>h h4.1)]
theorem place_lt {r d I:Nat} (hr:0 < r) (hI:I < d * r):I / r * (r+1)+I % r < d * (r+1) - 1:=by
 have h1:I / r < d:=Nat.div_lt_of_lt_mul (by rw [Nat.mul_comm];exact hI)
 have h2:I % r < r:=Nat.mod_lt _ hr
 have h3:=Nat.mul_le_mul_right (r+1) (show I / r+1≤d from h1)
 rw [Nat.add_mul,Nat.one_mul] at h3
 omega
def RPolPost (p:List GF) (w:World) (e:Ending) (w':World):Prop:=∃ g,e=.returned (.slice (some ⟨g,0,none⟩) p.length p.length)∧w.heap.size≤g∧View w' g p.length (fun i=>p.getD i 0)∧Below w.heap.size w w'
set_option maxRecDepth 100000 in
set_option maxHeartbeats 4000000 in
theorem rpoly_any (n k r:Nat) (v:Value) (m:List GF) (w:World) (h:LOkN n k r) (hm:GRd w v m) (hml:m.length=k) :
  Calls Tryz.prog 45 #[rc n k r,v] w (RPolPost (polyL r (k / r) m) w):=by
 have n1:=h.n1
 have r1:=h.r1
 have k1':=h.k1
 have htl:=h.tells
 have hkr:k / r * r=k:=Nat.div_mul_cancel (Nat.dvd_of_mod_eq_zero h.kr)
 obtain ⟨T,hT⟩:∃ T,k+k / r - 1=T:=⟨_,rfl⟩
 have hTn:T≤n:=by have:=h.le;omega
 have hTd:k / r * (r+1) - 1=T:=by omega
 obtain ⟨i0,hi,hz0,hz1,hz2⟩:=info_parts u8_info
 have hmk:∀ W,(Instr.makeSlice 36 (.int .i64 T) (.int .i64 T)).run Tryz.prog W=.ok (.slice (some ⟨W.heap.size,0,none⟩) T T) (W.alloc (.cells (Array.replicate T (.int .u8 0)) 5)):=fun W =>
  run_row W 36 5 i0 (.int .u8 0) Tryz.underlying36 hi hz0 hz1 rfl T (by rw [hz2];omega) (by unfold maxLen;omega)
 obtain ⟨R,hR⟩:∃ R,r+1=R:=⟨_,rfl⟩
 have e1:(r:Int)+1=(R:Int):=by omega
 have e2:IntKind.i64.wrap (R:Int)=(R:Int):=IntWalk.i64_in _ (by omega)
 have e3:¬ (r:Int)=0:=by omega
 have e3n:¬ r=0:=by omega
 obtain ⟨am,cm,rfl,hcm⟩:=hm.form
 have HM:=Lib.hid hm
 have HML:=Lib.hid hml
 rw [hml] at HM hcm ⊢
 obtain ⟨wb,hwb⟩:∃ wb,wb=w.alloc (.cells #[.int .i64 n,.int .i64 k,.int .i64 r] 29):=⟨_,rfl⟩
 have hbb:Below w.heap.size w wb:=by rw [hwb];exact (Below.refl _ _).alloc (Nat.le_refl _) _
 have hbx:wb.heap[w.heap.size]? = some (.cells #[.int .i64 n,.int .i64 k,.int .i64 r] 29 (0,0)):=by rw [hwb];exact heap_newA _ _
 have hwbs:w.heap.size < wb.heap.size:=lt_of_heap hbx
 have HTL:=Lib.hid (rtells_any (n:Int) k r wb r1.1 (by omega))
 unfold RTelPost at HTL
 rw [hT,hwb] at HTL
 have HWB:=Lib.hid hwb
 have HBX:=Lib.hid (And.intro hbb hbx)
 have HD:Hid (polyL r (k / r) m=rowF (pF r m) T∧k / r * (r+1) - 1=T∧k / r * r=k):=Lib.hid ⟨by unfold polyL;rw [hTd],hTd,hkr⟩
 have HRR:=Lib.hid hR
 clear h hm hml hi hz0 hz1 hz2 hT htl hTd hkr hwb hbb hbx hR
 go_enter Tryz.func45,Tryz.ntmps45
 go_wp2_with fail
 refine HTL.out.mono ?_
 rintro e w2 ⟨rfl,hb2⟩
 rw [← HWB.out] at hb2
 have hb02:Below w.heap.size w w2:=HBX.out.1.trans (hb2.mono (by omega))
 have hbx2:=keepB hb2 HBX.out.2
 have hs2:w.heap.size < w2.heap.size:=lt_of_heap hbx2
 have hbx3:(w2.alloc (.cells (Array.replicate T (.int .u8 0)) 5)).heap[w.heap.size]? = some (.cells #[.int .i64 n,.int .i64 k,.int .i64 r] 29 (0,0)):=keepA hbx2 _
 have hhz:(w2.alloc (.cells (Array.replicate T (.int .u8 0)) 5)).heap[w2.heap.size]? = some (.cells (Array.replicate T (.int .u8 0)) 5 (0,0)):=heap_newA _ _
 have HV0:Hid (View (w2.alloc (.cells (Array.replicate T (.int .u8 0)) 5)) w2.heap.size T (pP r m 0)):=Lib.hid ⟨lt_of_heap hhz,fun j hj=>⟨by
  rw [cell_of_row _ _ _ _ _ (0,0) hhz,pP_zero]
  simp [hj]
  rfl,free_of_heap hhz j⟩⟩
 have HX0:=Lib.hid hbx3
 have HB0:Hid (Below w.heap.size w (w2.alloc (.cells (Array.replicate T (.int .u8 0)) 5))):=Lib.hid (hb02.trans ((Below.refl _ _).alloc (by omega) _))
 clear hb2 hb02 hbx2 hbx3 hhz HTL
 go_wp2
 go_loopg [6] k (fun gk i wr=>∃ I:Nat,I≤k∧gk=k - I∧i=.int .i64 I∧Hid (View wr w2.heap.size T (pP r m I))∧Hid (wr.heap[w.heap.size]? = some (.cells #[.int .i64 n,.int .i64 k,.int .i64 r] 29 (0,0)))∧Hid (Below w.heap.size w wr))
 case atStart=>exact ⟨0,by omega,rfl,rfl,HV0,HX0,HB0⟩
 case round =>
  clear HV0 HX0 HB0
  obtain ⟨I,hI,rfl,rfl,HV,HX,HB⟩:=hrel
  by_cases hlt:I < k
  ·obtain ⟨Q,hQ⟩:∃ Q,I / r=Q:=⟨_,rfl⟩
   obtain ⟨E,hE⟩:∃ E,I % r=E:=⟨_,rfl⟩
   obtain ⟨P,hP⟩:∃ P,Q * R=P:=⟨_,rfl⟩
   obtain ⟨J,hJ⟩:∃ J,P+E=J:=⟨_,rfl⟩
   have hJT:J < T:=by
    have:=place_lt (d:=k / r) (I:=I) r1.1 (by rw [HD.out.2.2];exact hlt)
    rw [HD.out.2.1,hQ,hE,HRR.out,hP,hJ] at this
    exact this
   have hQI:Q≤I:=by rw [← hQ];exact Nat.div_le_self _ _
   have hEr:E < r:=by rw [← hE];exact Nat.mod_lt _ (by omega)
   have f1:(I:Int).tdiv (r:Int)=(Q:Int):=by rw [← hQ];exact (Int.ofNat_tdiv I r).symm
   have f2:IntKind.i64.wrap (Q:Int)=(Q:Int):=IntWalk.i64_in _ (by omega)
   have f3:(Q:Int) * (R:Int)=(P:Int):=by rw [← hP];simp
   have f4:IntKind.i64.wrap (P:Int)=(P:Int):=IntWalk.i64_in _ (by omega)
   have f5:(I:Int).tmod (r:Int)=(E:Int):=by rw [← hE];exact (Int.ofNat_tmod I r).symm
   have f6:IntKind.i64.wrap (E:Int)=(E:Int):=IntWalk.i64_in _ (by omega)
   have f7:(P:Int)+(E:Int)=(J:Int):=by omega
   have f8:IntKind.i64.wrap (J:Int)=(J:Int):=IntWalk.i64_in _ (by omega)
   have i1:(0:Int)≤(J:Int)∧(J:Int) < (T:Int):=by omega
   have i2:(0:Int)≤(I:Int)∧(I:Int) < (k:Int):=by omega
   obtain ⟨x,hx,hxd⟩:=at_get (l:=m) (i:=I) (by rw [HML.out];exact hlt)
   obtain ⟨bm,om,rfl,hbm,-⟩:=HM.out.at hx
   obtain ⟨_,_,e,-,cx⟩:=(HM.out.below HB.out).at hx
   cases e
   have hnew:=HV.out.set hJT x
   have HV2:Hid (View (wr.drew.setCell ⟨w2.heap.size,J,none⟩ (.int .u8 (x.n:Nat))) w2.heap.size T (pP r m (I+1))):=Lib.hid (hnew.congr fun j hj=>by
    rw [pP_succ r1.1,hQ,hE,HRR.out,hP,hJ,hxd])
   have hsr:=HB.out.size
   have hkx:Kp [w2.heap.size] wr (wr.drew.setCell ⟨w2.heap.size,J,none⟩ (.int .u8 (x.n:Nat))):=((Kp.refl _ _).drew).setCell (.inl (by simp)) _
   have HX2:=Lib.hid (hkx.heap HX.out (by simp;omega))
   have HB2:Hid (Below w.heap.size w (wr.drew.setCell ⟨w2.heap.size,J,none⟩ (.int .u8 (x.n:Nat)))):=Lib.hid (HB.out.trans (hkx.below hsr (by simp;omega)))
   obtain ⟨cJ,fJ⟩:=HV.out.2 J hJT
   have y2:=cell_of_heap HX.out (j:=2) rfl
   have gx:=lt_of_heap HX.out
   have gv:=HV.out.1
   obtain ⟨xn,hxn⟩:∃ xn,x.n=xn:=⟨_,rfl⟩
   rw [hxn] at cx HV2 HX2 HB2
   obtain ⟨kp,hkp⟩:∃ kp:Nat→Bool,∀ j,kp j=true↔j < wr.heap.size∧j ≠ w2.heap.size:=⟨fun j=>decide (j < wr.heap.size∧j ≠ w2.heap.size),by simp⟩
   have k1:kp w.heap.size=true:=(hkp _).2 ⟨by omega,by omega⟩
   have k2:kp bm=true:=(hkp _).2 ⟨by omega,by omega⟩
   have HKP:=Lib.hid hkp
   clear hQ hE hP hJ hx hxd hnew hkx hxn hkp
   go_upto_region 5 with fail
   have hgr:=fun (w0 W:World) (p:Addr) (hp:(fun k=>kp k=true) p.block)=>graft_cell (w0:=w0) (keep:=(fun k=>kp k=true)) W hp
   refine wp_region_tree (fun k=>kp k=true) [19] (.sq [0,1,2,3,4,5,6,7,8,9,10,11,12,13,14,15,16,17,18,19] .done) (by kernel_rfl) (by kernel_rfl) ?_
   simp only [Tr.sq,List.foldr_cons,List.foldr_nil,slimTr,slimStep,Oper.slim,List.contains_cons,List.contains_nil,Option.map_none,Option.map_some,List.getElem?_toArray,List.getElem?_cons_zero,List.getElem?_cons_succ,Option.bind_some,beq_self_eq_true,Bool.or_false,Nat.reduceBEq,Nat.reduceAdd,Nat.zero_add]
   repeat' first | ((with_reducible refine wpSlimT_id ?_);first | (with_reducible refine wpSlimT_done ?_) | ((with_reducible refine wpSlimT_step (fun K hK=>?_));go_simp;first | (refine hK _ _ ?_;clear hK K) | (refine ⟨by (intro kk hkk;first | (simp (disch:=(simp;omega)) only [hp_drew,hp_drewN,hp_alloc,hp_set];done) | (simp [hp_drew,hp_drewN,hp_alloc_if,hkk];done) | (exact (hp_set _ _ _ _ (by have:=((HKP.out kk).1 hkk).2;simp;omega)).trans rfl)),hK _ _ ?_⟩;clear hK K))) | fail
   clear hgr
   go_wp2
   go_roundg (k - (I+1))
   case measure=>omega
   case rel=>exact ⟨I+1,by omega,rfl,by go_num,HV2,HX2,HB2⟩
  ·obtain rfl:I=k:=by omega
   have hpl:(polyL r (I / r) m).length=T:=by rw [HD.out.1,rowF_len]
   have HP:Hid (RPolPost (polyL r (I / r) m) w (.returned (.slice (some ⟨w2.heap.size,0,none⟩) T T)) wr):=Lib.hid ⟨w2.heap.size,by rw [hpl],by omega,by
    rw [hpl]
    refine HV.out.congr fun j hj=>?_
    rw [HD.out.1,rowF_get _ hj]
    have:=pP_all r m j
    rwa [HML.out] at this,HB.out⟩
   clear hpl
   go_wp2
   go_ret
   exact HP.out
end Go.Proofs.YtbiaoohodjoojaaGreat
/- The reference's shares of a message, and a node's share of its group's. -/
namespace Go.Proofs.YtbiaoohodjoojaaGreat
open Go.RowKit Fld
set_option linter.unusedVariables false
set_option linter.unusedSimpArgs false

def REnc12Post (n k r:Nat) (m xs:List GF) (w:World) (e:Ending) (w':World):Prop :=
 Below w.heap.size w w'∧(m.length=k∧(∃ v,e=.returned (.tuple #[v,.int .i64 0])∧OwnG w' w.heap.size v (rowF (fun i=>ev (polyL r (k / r) m) (xs.getD i 0)) n)) ∨ m.length ≠ k∧e=.returned (.tuple #[.slice none 0 0,.int .i64 2]))
set_option maxRecDepth 100000 in
set_option maxHeartbeats 4000000 in
theorem renc12_any (n k r:Nat) (v:Value) (m:List GF) (w:World) (h:LOkN n k r) (hm:GRd w v m) (hml:m.length≤1000000) :
  Calls Tryz.prog 19 #[rc n k r,v] w (REnc12Post n k r m (cosL r (n / (r+1))) w):=by
 obtain ⟨am,cm,rfl,hcm⟩:=hm.form
 obtain ⟨L,hL⟩:∃ L,m.length=L:=⟨_,rfl⟩
 have HL:=Lib.hid hL
 have HM:=Lib.hid hm
 rw [hL] at HM hml ⊢
 have k1':=h.k1
 have n1:=h.n1
 have r1:=h.r1
 by_cases hk:L=k
 case neg =>
  have hk':¬ (L:Int)=(k:Int):=by omega
  have HN:Hid (m.length ≠ k):=Lib.hid (by rw [hL];exact hk)
  clear h hm hL hk hcm
  go_enter Tryz.func19,Tryz.ntmps19
  go_wp2
  go_ret2
  exact ⟨by (repeat' (first | (with_reducible exact RowKit.Below.refl _ _) | (with_reducible assumption) | (with_reducible refine RowKit.Below.drew ?_) | (with_reducible refine RowKit.Below.alloc ?_ ?_ _) | omega | (simp;done) | (simp;omega))),.inr ⟨HN.out,rfl⟩⟩
 subst hk
 obtain ⟨wb,hwb⟩:∃ wb,wb=w.alloc (.cells #[.int .i64 n,.int .i64 L,.int .i64 r] 29):=⟨_,rfl⟩
 have hbb:Below w.heap.size w wb:=by rw [hwb];exact (Below.refl _ _).alloc (Nat.le_refl _) _
 have hbx:wb.heap[w.heap.size]? = some (.cells #[.int .i64 n,.int .i64 L,.int .i64 r] 29 (0,0)):=by rw [hwb];exact heap_newA _ _
 have HPT:=Lib.hid (rpoints_any n L r wb h)
 unfold RPtsPost at HPT
 have hxl:(cosL r (n / (r+1))).length=n:=h.len
 obtain ⟨xs,hxs⟩:∃ xs,cosL r (n / (r+1))=xs:=⟨_,rfl⟩
 rw [hxs] at HPT hxl ⊢
 rw [hwb] at HPT
 have HWB:=Lib.hid hwb
 have HBX:=Lib.hid (And.intro hbb hbx)
 have HH:=Lib.hid h
 have HXL:=Lib.hid hxl
 clear h hm hL hcm hwb hbb hbx hxs hxl
 go_enter Tryz.func19,Tryz.ntmps19
 go_wp2_with fail
 refine HPT.out.mono ?_
 rintro e w2 ⟨xv,rfl,hox,hb2⟩
 rw [← HWB.out] at hox hb2
 have hb02:Below w.heap.size w w2:=HBX.out.1.trans (hb2.mono HBX.out.1.size)
 obtain ⟨gx,cx,rfl,hgx,hcx,hvx⟩:=hox.view (fun e=>by have:=HXL.out;rw [e] at this;simp at this;omega)
 rw [HXL.out] at hvx hcx ⊢
 have HVX:=Lib.hid hvx
 have HB2:=Lib.hid hb02
 have HX2:=Lib.hid (keepB hb2 HBX.out.2)
 have hgxl:=hvx.1
 have hs2:=hb02.size
 have hwb2:w.heap.size < w2.heap.size:=lt_of_heap HX2.out
 clear hb2 hb02 hox hvx HPT
 go_wp2
 go_loopg [6,8] n (fun gk p i wr=>∃ (V:Value) (I:Nat),V=p∧I≤n∧gk=n - I∧i=.int .i64 I∧Hid (OwnG wr w2.heap.size V (rowF (fun i=>ev (polyL r (L / r) m) (xs.getD i 0)) I))∧Hid (Below w2.heap.size w2 wr))
 case atStart=>exact ⟨_,0,rfl,by omega,rfl,rfl,Lib.hid (by simpa [rowF] using OwnG.nil _ _),Lib.hid (Below.refl _ _)⟩
 case round =>
  obtain ⟨V,I,rfl,hI,rfl,rfl,HO,HB⟩:=hrel
  have hsr:=HB.out.size
  by_cases hlt:I < n
  ·obtain ⟨z,hz,hzd⟩:=at_get (l:=xs) (i:=I) (by rw [HXL.out];exact hlt)
   have cz:wr.cell? ⟨gx,I,none⟩=some (.int .u8 (((xs.getD I 0).n:Nat):Int)):=((HVX.out.below HB.out).2 I hlt).1
   rw [hzd] at cz
   have hbw:Below w.heap.size w wr:=HB2.out.trans (HB.out.mono hs2)
   have HPO:=Lib.hid (rpoly_any n L r _ m wr.drew HH.out ((HM.out.below hbw).below ((Below.refl _ _).drew)) HL.out)
   have HAT:Hid (∀ W g,View W g (polyL r (L / r) m).length (fun i=>(polyL r (L / r) m).getD i 0)→Calls Tryz.prog 44 #[.slice (some ⟨g,0,none⟩) (polyL r (L / r) m).length (polyL r (L / r) m).length,.int .u8 (z.n:Nat)] W (fun e w'=>e=.returned (.int .u8 ((ev (polyL r (L / r) m) z).n:Nat))∧W=w')):=Lib.hid fun W g hv =>
    rat_any _ _ z W (View.list hv rfl (Nat.le_refl _)) (by rw [polyL_len];have:=HH.out.tells;have:=HH.out.le;omega)
   obtain ⟨PL,hPL⟩:∃ PL,(polyL r (L / r) m).length=PL:=⟨_,rfl⟩
   unfold RPolPost at HPO
   rw [hPL] at HPO HAT
   obtain ⟨zn,hzn⟩:∃ zn,z.n=zn:=⟨_,rfl⟩
   obtain ⟨yn,hyn⟩:∃ yn,(ev (polyL r (L / r) m) z).n=yn:=⟨_,rfl⟩
   rw [hzn,hyn] at HAT
   rw [hzn] at cz
   have HX1:=Lib.hid hyn
   have HL1:Hid ((rowF (fun i=>ev (polyL r (L / r) m) (xs.getD i 0)) I).length≤1000000):=Lib.hid (by rw [rowF_len];omega)
   have HZ:=Lib.hid hzd
   have y0:=cell_of_heap ((HB.out.block w.heap.size hwb2).trans HX2.out) (j:=0) rfl
   have y1:=cell_of_heap ((HB.out.block w.heap.size hwb2).trans HX2.out) (j:=1) rfl
   have y2:=cell_of_heap ((HB.out.block w.heap.size hwb2).trans HX2.out) (j:=2) rfl
   have HV1:Hid (∀ b ∈ V.ownBlock.toList,b < wr.heap.size∧w2.heap.size≤b):=Lib.hid fun b hb=>by have:=HO.out.lt b (by simpa using hb);exact ⟨this.2,this.1⟩
   obtain ⟨kp,hkp⟩:∃ kp:Nat→Bool,∀ k,kp k=true↔k < wr.heap.size∧k ∉ V.ownBlock.toList:=⟨fun k=>decide (k < wr.heap.size∧k ∉ V.ownBlock.toList),by simp⟩
   have k1:kp w.heap.size=true:=(hkp _).2 ⟨by omega,fun hm=>by have:=(HV1.out _ hm).2;omega⟩
   have k2:kp gx=true:=(hkp _).2 ⟨by omega,fun hm=>by have:=(HV1.out _ hm).2;omega⟩
   have HKP:=Lib.hid hkp
   have HBW:=Lib.hid hbw
   have i1:(0:Int)≤(I:Int)∧(I:Int) < (n:Int):=by omega
   clear hz hzd hPL hzn hyn hkp hbw
   go_upto_region 8 with fail
   have hgr:=fun (w0 W:World) (p:Addr) (hp:(fun k=>kp k=true) p.block)=>graft_cell (w0:=w0) (keep:=(fun k=>kp k=true)) W hp
   refine wp_region_tree (fun k=>kp k=true) [3,8,9,10] (.sq [0,1,2,4,5,6,7,3,8,9,10,11] .done) (by kernel_rfl) (by kernel_rfl) ?_
   simp only [Tr.sq,List.foldr_cons,List.foldr_nil,slimTr,slimStep,Oper.slim,List.contains_cons,List.contains_nil,Option.map_none,Option.map_some,List.getElem?_toArray,List.getElem?_cons_zero,List.getElem?_cons_succ,Option.bind_some,beq_self_eq_true,Bool.or_false,Nat.reduceBEq,Nat.reduceAdd,Nat.zero_add]
   repeat' first | ((with_reducible refine wpSlimT_id ?_);first | (with_reducible refine wpSlimT_done ?_) | ((refine wpSlimT_appE _ _ _ rfl rfl rfl rfl rfl (app_byte_at _ (HO6.out.below (by (repeat' (first | (with_reducible exact RowKit.Below.refl _ _) | (with_reducible assumption) | (with_reducible refine RowKit.Below.drew ?_) | (with_reducible refine RowKit.Below.alloc ?_ ?_ _) | omega | (simp;done) | (simp;omega))))) HL1.out (by first | omega | (simp;omega)) HX1.out (cell_of_heap (heap_newA _ _) (j:=0) rfl)) ?_;rintro v1 w8 ⟨ho1,hk1,hb1,hat1⟩;have HO8:=Lib.hid ho1;have HB8:Hid (Below w2.heap.size w2 w8):=Lib.hid ((HBY6.out.trans (by (repeat' (first | (with_reducible exact RowKit.Below.refl _ _) | (with_reducible assumption) | (with_reducible refine RowKit.Below.drew ?_) | (with_reducible refine RowKit.Below.alloc ?_ ?_ _) | omega | (simp;done) | (simp;omega))))).trans hb1);have HKE8:Hid (∀ kk,kp kk=true→w8.heap[kk]? = wr.heap[kk]?):=Lib.hid (fun kk hkk=>(hk1.block kk (by have:=((HKP.out kk).1 hkk).1;simp;omega) ((HKP.out kk).1 hkk).2).trans ((hp_alloc _ _ _ (by have:=((HKP.out kk).1 hkk).1;omega)).trans (HB6.out.block kk ((HKP.out kk).1 hkk).1)));clear ho1 hk1 hb1 hat1;refine ⟨(fun kk hkk=>HKE8.out kk hkk),?_⟩)) | ((with_reducible refine wpSlimT_step (fun K hK=>?_));go_simp;first | (refine hK _ _ ?_;clear hK K) | (refine ⟨by (intro kk hkk;first | (simp (disch:=(simp;omega)) only [hp_drew,hp_drewN,hp_alloc,hp_set];done) | (simp [hp_drew,hp_drewN,hp_alloc_if,hkk];done) | (have hkk2:=((HKP.out kk).1 hkk).1;exact (hp_alloc _ _ _ (by omega)).trans (HB6.out.block kk hkk2))),hK _ _ ?_⟩;clear hK K) | (go_at_call 45;(with_reducible refine (HPO.out).mono ?_);rintro e w6 ⟨g,rfl,hg,hvg,hb6⟩;have HVG:=Lib.hid hvg;have HB6:Hid (Below wr.heap.size wr w6):=Lib.hid (((Below.refl _ _).drew).trans hb6);have hs6:wr.heap.size≤w6.heap.size:=hb6.size;have HO6:=Lib.hid (HO.out.below HB6.out);have HBX6:Hid (Below w.heap.size w w6):=Lib.hid (HBW.out.trans (HB6.out.mono HBW.out.size));have HBY6:Hid (Below w2.heap.size w2 w6):=Lib.hid (HB.out.trans (HB6.out.mono hsr));clear hvg hb6;refine ⟨_,rfl,(fun kk hkk=>HB6.out.block kk ((HKP.out kk).1 hkk).1),hK _ _ ?_⟩;clear hK K) | (go_at_call 44;(with_reducible refine (HAT.out _ _ HVG.out).mono ?_);rintro e w7 ⟨rfl,rfl⟩;refine ⟨_,rfl,(fun kk hkk=>HB6.out.block kk ((HKP.out kk).1 hkk).1),hK _ _ ?_⟩;clear hK K))) | fail
   clear hgr
   have HO9:Hid (OwnG w8 w2.heap.size v1 (rowF (fun i=>ev (polyL r (L / r) m) (xs.getD i 0)) (I+1))):=Lib.hid (by
    rw [rowF_succ,HZ.out]
    exact HO8.out)
   clear HO6 HO8 HKE8 HO
   go_wp2
   go_roundg (n - (I+1))
   case measure=>omega
   case rel=>exact ⟨v1,I+1,rfl,by omega,rfl,by go_num,HO9,HB8⟩
  ·obtain rfl:I=n:=by omega
   have HP:Hid (REnc12Post I L r m xs w (.returned (.tuple #[V,.int .i64 0])) wr):=Lib.hid ⟨HB2.out.trans (HB.out.mono hs2),.inl ⟨HL.out,V,rfl,HO.out.mono hs2⟩⟩
   go_wp2
   go_ret2
   exact HP.out
end Go.Proofs.YtbiaoohodjoojaaGreat
/- The reference's share of a node's group. -/
namespace Go.Proofs.YtbiaoohodjoojaaGreat
open Go.RowKit Fld
set_option linter.unusedVariables false
set_option linter.unusedSimpArgs false

def RNear12Post (r:Nat) (tz:Int) (N:Nat) (xs:List GF) (l:List Sy) (w:World) (e:Ending) (w':World):Prop :=
 Below w.heap.size w w'∧∃ (b:GF) (c:Int),e=.returned (.tuple #[.int .u8 (b.n:Nat),.int .i64 c])∧NearZ r tz N xs l b c
set_option maxRecDepth 100000 in
set_option maxHeartbeats 8000000 in
theorem rnear12_any (n k r:Nat) (tz:Int) (hv:Value) (l:List Sy) (w:World) (h:LOkN n k r) (hl:SyAll w hv l) (hll:l.length≤1000) :
  Calls Tryz.prog 26 #[rc n k r,.int .i64 tz,hv] w (RNear12Post r tz n (cosL r (n / (r+1))) l w):=by
 have n1:=h.n1
 have r1:=h.r1
 obtain ⟨wb,hwb⟩:∃ wb,wb=w.alloc (.cells #[.int .i64 n,.int .i64 k,.int .i64 r] 29):=⟨_,rfl⟩
 have hbb:Below w.heap.size w wb:=by rw [hwb];exact (Below.refl _ _).alloc (Nat.le_refl _) _
 have hbx:wb.heap[w.heap.size]? = some (.cells #[.int .i64 n,.int .i64 k,.int .i64 r] 29 (0,0)):=by rw [hwb];exact heap_newA _ _
 have HROW:=Lib.hid (rrows_any n hv l tz 1 wb (hl.below hbb) (by omega))
 unfold BelowPost at HROW
 rw [show (((1:Nat):Nat):Int)=1 from rfl,hwb] at HROW
 have HPT:=Lib.hid (fun W=>rpoints_any n k r W h)
 unfold RPtsPost at HPT
 have hxl:(cosL r (n / (r+1))).length=n:=h.len
 have hnd:=h.nodup
 obtain ⟨xs,hxs⟩:∃ xs,cosL r (n / (r+1))=xs:=⟨_,rfl⟩
 rw [hxs] at HPT hxl hnd ⊢
 obtain ⟨ah,ch,rfl⟩:=hl.rd.form
 obtain ⟨L,hL⟩:∃ L,l.length=L:=⟨_,rfl⟩
 have HL:=Lib.hid hL
 have HS:=Lib.hid hl
 have HND:=Lib.hid hnd
 have HXL:=Lib.hid hxl
 have HWB:=Lib.hid hwb
 have HBX:=Lib.hid (And.intro hbb hbx)
 rw [hL] at HS HROW hll ⊢
 clear h hl hwb hbb hbx hxs hxl hL hnd
 by_cases c1:tz < 0
 ·go_enter Tryz.func26,Tryz.ntmps26
  go_wp2
  go_ret2
  exact ⟨by (repeat' (first | (with_reducible exact RowKit.Below.refl _ _) | (with_reducible assumption) | (with_reducible refine RowKit.Below.drew ?_) | (with_reducible refine RowKit.Below.alloc ?_ ?_ _) | omega | (simp;done) | (simp;omega))),0,2,rfl,.inr ⟨by omega,rfl,rfl⟩⟩
 by_cases c2:tz ≥ (n:Int)
 ·go_enter Tryz.func26,Tryz.ntmps26
  go_wp2
  go_ret2
  exact ⟨by (repeat' (first | (with_reducible exact RowKit.Below.refl _ _) | (with_reducible assumption) | (with_reducible refine RowKit.Below.drew ?_) | (with_reducible refine RowKit.Below.alloc ?_ ?_ _) | omega | (simp;done) | (simp;omega))),0,2,rfl,.inr ⟨by omega,rfl,rfl⟩⟩
 obtain ⟨t,rfl⟩:∃ t:Nat,tz=(t:Int):=⟨tz.toNat,by omega⟩
 have ht:t < n:=by omega
 go_enter Tryz.func26,Tryz.ntmps26
 go_wp2_with fail
 refine HROW.out.mono ?_
 rintro e w1 ⟨b,rfl,hb1,hbi⟩
 rw [← HWB.out] at hb1
 have hbw1:Below w.heap.size w w1:=HBX.out.1.trans (hb1.mono HBX.out.1.size)
 have HB1:=Lib.hid hbw1
 have HX1:=Lib.hid (keepB hb1 HBX.out.2)
 have HBI:=Lib.hid hbi
 clear hb1 hbw1 hbi HROW c1 c2
 cases b
 ·have HNG:Hid (¬ SyGood n (t:Int) 1 l):=Lib.hid fun h=>by have:=HBI.out.2 h;cases this
  go_wp2
  go_ret2
  exact ⟨HB1.out,0,2,rfl,.inl ⟨t,rfl,ht,.inl ⟨fun h=>HNG.out h.2,rfl,rfl⟩⟩⟩
 have HG:=Lib.hid (HBI.out.1 (by trivial))
 clear HBI
 have hx1:=lt_of_heap HX1.out
 have y0:=cell_of_heap HX1.out (j:=0) rfl
 have y1:=cell_of_heap HX1.out (j:=1) rfl
 have y2:=cell_of_heap HX1.out (j:=2) rfl
 have HPT1:=Lib.hid (HPT.out w1)
 go_wp2_with fail
 refine HPT1.out.mono ?_
 rintro e w2 ⟨xv,rfl,hox,hb2⟩
 obtain ⟨gx,cx,rfl,hgx,hcx,hvx⟩:=hox.view (fun e=>by have:=HXL.out;rw [e] at this;simp at this;omega)
 rw [HXL.out] at hvx hcx ⊢
 have HVX:=Lib.hid hvx
 have HB2:Hid (Below w.heap.size w w2):=Lib.hid (HB1.out.trans (hb2.mono HB1.out.size))
 have HX2:=Lib.hid (keepB hb2 HX1.out)
 have hgxl:=hvx.1
 have hs2:=HB2.out.size
 have hwb2:w.heap.size < w2.heap.size:=lt_of_heap HX2.out
 clear hb2 hox hvx HPT1 HPT y0 y1 y2 hx1 hgx
 obtain ⟨R,hR⟩:∃ R,r+1=R:=⟨_,rfl⟩
 obtain ⟨Q,hQ⟩:∃ Q,t / R=Q:=⟨_,rfl⟩
 have e1:(r:Int)+1=(R:Int):=by omega
 have e2:IntKind.i64.wrap (R:Int)=(R:Int):=IntWalk.i64_in _ (by omega)
 have e3:¬ (R:Int)=0:=by omega
 have e3n:¬ R=0:=by omega
 have hQt:Q≤t:=by rw [← hQ];exact Nat.div_le_self _ _
 have e4:(t:Int).tdiv (R:Int)=(Q:Int):=by rw [← hQ];exact (Int.ofNat_tdiv t R).symm
 have e5:IntKind.i64.wrap (Q:Int)=(Q:Int):=IntWalk.i64_in _ (by omega)
 have HRQ:Hid (r+1=R∧t / R=Q):=Lib.hid ⟨hR,hQ⟩
 clear hR hQ
 go_wp2
 go_loopg [9,10,11] L (fun gk p q i wr=>∃ (V1 V2:Value) (I:Nat),V1=p∧V2=q∧I≤L∧gk=L - I∧i=.int .i64 I∧Hid (OwnG wr w2.heap.size V1 (atL xs (nearL r t (l.take I))))∧Hid (OwnG wr w2.heap.size V2 (ysL (nearL r t (l.take I))))∧Hid (Apart V2 V1.ownBlock.toList)∧Hid (Below w2.heap.size w2 wr))
 case atStart=>exact ⟨_,_,0,rfl,rfl,by omega,rfl,rfl,Lib.hid (OwnG.nil _ _),Lib.hid (OwnG.nil _ _),Lib.hid (apart_nilG _),Lib.hid (Below.refl _ _)⟩
 case round =>
  obtain ⟨V1,V2,I,rfl,rfl,hI,rfl,rfl,HO1,HO2,HAP,HBR⟩:=hrel
  have hsr:=HBR.out.size
  have HBW:Hid (Below w.heap.size w wr):=Lib.hid (HB2.out.trans (HBR.out.mono hs2))
  by_cases hlt:I < L
  ·obtain ⟨s,hs⟩:∃ s,l[I]? = some s:=⟨_,List.getElem?_eq_getElem (by rw [HL.out];exact hlt)⟩
   obtain ⟨-,hcap,b,o,rfl,hb,hat⟩:=SRd.at (HS.out.below HBW.out).rd hs
   have c0:wr.cell? ⟨b,o+I * 2,none⟩=some (.int .i64 s.node):=hat 0 _ rfl
   have c1:wr.cell? ⟨b,o+I * 2+1,none⟩=some (.slice s.a s.d.length s.cp):=hat 1 _ rfl
   obtain ⟨⟨hs0,hsn⟩,hst,hsd⟩:=HG.out.at hs
   obtain ⟨x,hx⟩:∃ x:Nat,s.node=(x:Int):=⟨s.node.toNat,by omega⟩
   rw [hx] at c0 hsn hst
   rw [hsd] at c1
   have hxn:x < n:=by omega
   have i1:(0:Int)≤(I:Int)∧(I:Int) < (L:Int):=by omega
   have i2:(0:Int)≤(x:Int)∧(x:Int) < (n:Int):=by omega
   obtain ⟨X,hX⟩:∃ X,x / R=X:=⟨_,rfl⟩
   have hXx:X≤x:=by rw [← hX];exact Nat.div_le_self _ _
   have f4:(x:Int).tdiv (R:Int)=(X:Int):=by rw [← hX];exact (Int.ofNat_tdiv x R).symm
   have f5:IntKind.i64.wrap (X:Int)=(X:Int):=IntWalk.i64_in _ (by omega)
   have HIN:Hid (inG r t s=decide (X=Q)):=Lib.hid (by
    unfold inG
    rw [hx,Int.toNat_natCast,HRQ.out.1,hX,HRQ.out.2])
   have HSX:=Lib.hid (And.intro hs (And.intro hx hsd))
   have y2:=cell_of_heap ((HBR.out.block w.heap.size hwb2).trans HX2.out) (j:=2) rfl
   obtain ⟨kp,hkp⟩:∃ kp:Nat→Bool,∀ k,kp k=true↔k < wr.heap.size:=⟨fun k=>decide (k < wr.heap.size),by simp⟩
   have k1:kp w.heap.size=true:=(hkp _).2 (by omega)
   have k2:kp b=true:=(hkp _).2 (by omega)
   clear hat hs hx hsd hsn hst hs0 hX hkp
   by_cases hXQ:X=Q
   ·have HQ:Hid (inG r t s=true):=Lib.hid (by rw [HIN.out];exact decide_eq_true hXQ)
    have hXQ':((X:Int) == (Q:Int))=true:=by simp;omega
    obtain ⟨z,hz,hzd⟩:=at_get (l:=xs) (i:=x) (by rw [HXL.out];exact hxn)
    have cz:wr.cell? ⟨gx,x,none⟩=some (.int .u8 (((xs.getD x 0).n:Nat):Int)):=((HVX.out.below HBR.out).2 x hxn).1
    rw [hzd] at cz
    obtain ⟨y,hy,hyd⟩:=at_get (l:=s.d) (i:=0) (by rw [HSX.out.2.2];exact Nat.one_pos)
    have hsrd:=HS.out.each s (List.mem_of_getElem? HSX.out.1)
    unfold Sy.rd at hsrd
    rw [HSX.out.2.2] at hsrd
    obtain ⟨sa,sd,hsa⟩:∃ sa sd,sa=s.a∧sd=s.cp:=⟨_,_,rfl,rfl⟩
    rw [← hsa.1,← hsa.2] at hsrd c1
    obtain ⟨bd,od,rfl,hbd,-⟩:=hsrd.at hy
    have hnl:=near_len r t (l.take I)
    rw [List.length_take] at hnl
    have hE:nearL r t (l.take (I+1))=nearL r t (l.take I) ++ [s]:=by rw [nearL_succ HSX.out.1,HQ.out];rfl
    have hO1:=HO1.out
    obtain ⟨v1,w6,hap1,ho1,hk1,hb6,hat1⟩:=app_byte (W:=wr.drew) z (OwnG.below HO1.out ((Below.refl _ _).drew)) (by rw [atL_len];omega) (show w2.heap.size≤wr.heap.size from hsr) (n:=z.n) rfl (ad:=wr.heap.size) rfl
    have ho2:OwnG w6 w2.heap.size V2 (ysL (nearL r t (l.take I))):=(OwnG.below HO2.out ((Below.refl _ _).drew)).kp hk1 HAP.out
    have hap6:Apart V2 v1.ownBlock.toList:=apart_grow HAP.out (fun kk hkk=>(HO2.out.lt kk hkk).2) hat1
    have hs6:wr.heap.size≤w6.heap.size:=hk1.size
    obtain ⟨v2,w7,hap2,ho3,hk2,hb7,hat2⟩:=app_byte (W:=w6) y ho2 (by rw [ysL_len];omega) (by omega) (n:=y.n) rfl (ad:=w6.heap.size) rfl
    have HO1n:Hid (OwnG w7 w2.heap.size v1 (atL xs (nearL r t (l.take (I+1))))):=Lib.hid (by
     rw [hE,atL,List.map_append,List.map_cons,List.map_nil,HSX.out.2.1,Int.toNat_natCast,hzd]
     exact ho1.kp hk2 (apart_swap hap6))
    have HO2n:Hid (OwnG w7 w2.heap.size v2 (ysL (nearL r t (l.take (I+1))))):=Lib.hid (by
     rw [hE,ysL,List.map_append,List.map_cons,List.map_nil,hyd]
     exact ho3)
    have HAPn:Hid (Apart v2 v1.ownBlock.toList):=Lib.hid (apart_swap (apart_grow (apart_swap hap6) (fun kk hkk=>(ho1.lt kk hkk).2) hat2))
    have hb46:Below w2.heap.size w2 w6:=(HBR.out.trans ((Below.refl _ _).drew)).trans hb6
    have HBN:Hid (Below w2.heap.size w2 w7):=Lib.hid (hb46.trans hb7)
    have hb06:Below w.heap.size w w6:=HB2.out.trans (hb46.mono hs2)
    obtain ⟨_,_,e,-,cy⟩:=(hsrd.below hb06).at hy
    cases e
    rw [Nat.add_zero] at cy
    obtain ⟨-,-,_,_,e,-,hat6⟩:=SRd.at (HS.out.below hb06).rd HSX.out.1
    cases e
    have d1:w6.cell? ⟨b,o+I * 2+1,none⟩=some (.slice s.a s.d.length s.cp):=hat6 1 _ rfl
    rw [HSX.out.2.2,← hsa.1,← hsa.2] at d1
    obtain ⟨zn,hzn⟩:∃ zn,z.n=zn:=⟨_,rfl⟩
    obtain ⟨yn,hyn⟩:∃ yn,y.n=yn:=⟨_,rfl⟩
    rw [hzn] at cz hap1
    rw [hyn] at cy hap2
    clear ho1 ho2 ho3 hk1 hk2 hb6 hb7 hat1 hat2 hb46 hb06 hap6 hz hzd hy hyd hsrd hsa hzn hyn hnl hE hat6 hO1
    go_upto_region 8 with fail
    have hgr:=fun (w0 W:World) (p:Addr) (hp:(fun k=>kp k=true) p.block)=>graft_cell (w0:=w0) (keep:=(fun k=>kp k=true)) W hp
    refine wp_region_tree (fun k=>kp k=true) [] (.sq [0,1,2,3,4,5,6,7,8,9,10,11,12,13,14] .done) (by kernel_rfl) (by kernel_rfl) ?_
    simp only [Tr.sq,List.foldr_cons,List.foldr_nil,slimTr,slimStep,Oper.slim,List.contains_cons,List.contains_nil,Option.map_none,Option.map_some,List.getElem?_toArray,List.getElem?_cons_zero,List.getElem?_cons_succ,Option.bind_some,beq_self_eq_true,Bool.or_false,Nat.reduceBEq,Nat.reduceAdd,Nat.zero_add]
    repeat' first | ((with_reducible refine wpSlimT_id ?_);first | (with_reducible refine wpSlimT_done ?_) | ((with_reducible refine wpSlimT_step (fun K hK=>?_));go_simp;(refine hK _ _ ?_;clear hK K))) | fail
    clear hgr
    go_wp2_with (at_builtin;first | refine wpList_append rfl _ _ _ rfl rfl rfl hap1 ?_ | refine wpList_append rfl _ _ _ rfl rfl rfl hap2 ?_)
    go_roundg (L - (I+1))
    case measure=>omega
    case rel=>exact ⟨v1,v2,I+1,rfl,rfl,by omega,rfl,by go_num,HO1n,HO2n,HAPn,HBN⟩
   ·have hXQ':((X:Int) == (Q:Int))=false:=by simp;omega
    have HE:Hid (nearL r t (l.take (I+1))=nearL r t (l.take I)):=Lib.hid (by rw [nearL_succ HSX.out.1,HIN.out,decide_eq_false hXQ];rfl)
    have HO1n:Hid (OwnG wr.drew w2.heap.size V1 (atL xs (nearL r t (l.take (I+1))))):=Lib.hid (by rw [HE.out];exact OwnG.below HO1.out ((Below.refl _ _).drew))
    have HO2n:Hid (OwnG wr.drew w2.heap.size V2 (ysL (nearL r t (l.take (I+1))))):=Lib.hid (by rw [HE.out];exact OwnG.below HO2.out ((Below.refl _ _).drew))
    have HBN:Hid (Below w2.heap.size w2 wr.drew):=Lib.hid (HBR.out.trans ((Below.refl _ _).drew))
    go_upto_region 8 with fail
    have hgr:=fun (w0 W:World) (p:Addr) (hp:(fun k=>kp k=true) p.block)=>graft_cell (w0:=w0) (keep:=(fun k=>kp k=true)) W hp
    refine wp_region_tree (fun k=>kp k=true) [] (.sq [0,1,2,3,4,5,6,7,8,9,10,11,12,13,14] .done) (by kernel_rfl) (by kernel_rfl) ?_
    simp only [Tr.sq,List.foldr_cons,List.foldr_nil,slimTr,slimStep,Oper.slim,List.contains_cons,List.contains_nil,Option.map_none,Option.map_some,List.getElem?_toArray,List.getElem?_cons_zero,List.getElem?_cons_succ,Option.bind_some,beq_self_eq_true,Bool.or_false,Nat.reduceBEq,Nat.reduceAdd,Nat.zero_add]
    repeat' first | ((with_reducible refine wpSlimT_id ?_);first | (with_reducible refine wpSlimT_done ?_) | ((with_reducible refine wpSlimT_step (fun K hK=>?_));go_simp;(refine hK _ _ ?_;clear hK K))) | fail
    clear hgr
    go_wp2
    go_roundg (L - (I+1))
    case measure=>omega
    case rel=>exact ⟨V1,V2,I+1,rfl,rfl,by omega,rfl,by go_num,HO1n,HO2n,HAP,HBN⟩
  ·obtain rfl:I=L:=by omega
   have hLt:l.take I=l:=by rw [← HL.out,List.take_length]
   rw [hLt] at HO1 HO2
   have hal:=atL_len xs (nearL r t l)
   have hyl:=ysL_len (nearL r t l)
   obtain ⟨M,hM⟩:∃ M,(nearL r t l).length=M:=⟨_,rfl⟩
   have hMb:M≤1000:=by rw [← hM];have:=near_len r t l;rw [HL.out] at this;omega
   rw [hM] at hal hyl
   obtain ⟨a1,c1,rfl,-⟩:=HO1.out.form
   obtain ⟨a2,c2,rfl,-⟩:=HO2.out.form
   rw [hal] at HO1 HAP ⊢
   rw [hyl] at HO2 HAP ⊢
   have HM:=Lib.hid hM
   have y2:=cell_of_heap ((HBR.out.block w.heap.size hwb2).trans HX2.out) (j:=2) rfl
   clear hLt hM
   by_cases hfew:M < r
   ·have hfew':(M:Int) < (r:Int):=by omega
    have HFEW:=Lib.hid hfew
    clear hfew
    go_wp2
    go_ret2
    exact ⟨HBW.out,0,70,rfl,.inl ⟨t,rfl,ht,.inr ⟨⟨ht,HG.out⟩,.inl ⟨by rw [HM.out];exact HFEW.out,rfl,rfl⟩⟩⟩⟩
   ·have hfew':¬ (M:Int) < (r:Int):=by omega
    have HFEW:Hid (r≤M):=Lib.hid (by omega)
    have HTH:=Lib.hid (rthru_any (.slice a1 M c1) (.slice a2 M c2) (atL xs (nearL r t l)) (ysL (nearL r t l)) wr HO1.out.rd HO2.out.rd (near_nodup HG.out HXL.out HND.out) (by rw [hal];omega) (by rw [hal,hyl]))
    clear hfew
    go_wp2_with fail
    refine HTH.out.mono ?_
    rintro e w3 ⟨v3,p,rfl,hg3,hth,hb3⟩
    have hpl:p.length≤1000:=by have:=hth.2.1;rw [hal] at this;omega
    obtain ⟨z,hz,hzd⟩:=at_get (l:=xs) (i:=t) (by rw [HXL.out];exact ht)
    have cz:w3.cell? ⟨gx,t,none⟩=some (.int .u8 (((xs.getD t 0).n:Nat):Int)):=(((HVX.out.below HBR.out).below hb3).2 t ht).1
    rw [hzd] at cz
    have HAT:=Lib.hid (rat_any v3 p z w3 hg3 (by omega))
    obtain ⟨zn,hzn⟩:∃ zn,z.n=zn:=⟨_,rfl⟩
    obtain ⟨rn,hrn⟩:∃ rn,(ev p z).n=rn:=⟨_,rfl⟩
    have HRN:=Lib.hid hrn
    rw [hzn,hrn] at HAT
    rw [hzn] at cz
    have HZ:=Lib.hid hzd
    have HTHR:=Lib.hid hth
    have HB3:Hid (Below w.heap.size w w3):=Lib.hid (HBW.out.trans (hb3.mono HBW.out.size))
    have i2:(0:Int)≤(t:Int)∧(t:Int) < (n:Int):=by omega
    obtain ⟨a3,c3,rfl,-⟩:=hg3.form
    clear hz hzd hzn hrn hth hg3 hb3 HTH
    go_wp2_with fail
    refine HAT.out.mono ?_
    rintro e w' ⟨rfl,rfl⟩
    go_wp2
    go_ret2
    exact ⟨HB3.out,ev p z,0,by rw [HRN.out] <;> rfl,.inl ⟨t,rfl,ht,.inr ⟨⟨ht,HG.out⟩,.inr ⟨by rw [HM.out];exact HFEW.out,rfl,p,HTHR.out,by rw [HZ.out]⟩⟩⟩⟩
end Go.Proofs.YtbiaoohodjoojaaGreat
