import Derived.Test.YtcclhhjcejmepaaGreatZPlainM
set_option linter.all false
set_option maxRecDepth 100000
set_option maxHeartbeats 4000000
namespace Go.Proofs.YtcclhhjcejmepaaGreat
open Go.RowKit Fld
def zrk (x:GF) (w:World) (e:Ending) (w':World):Prop:=e=.returned (.int .u8 (x.n:Nat))∧w=w'
theorem zyb (a:GF) (n:Nat) (w:World) (hn:n≤1000000) :
  Calls Tryz.prog 95 #[.int .u8 (a.n:Nat),.int .i64 n] w (zrk (pw a n) w):=by
 by_cases h0:n=0
 ·subst h0;obtain⟨x,hx⟩:=zE4 a.n;have h1:(pw a 0).n=1:=rfl;have HP:=Hd h1;rw[hx];clear hx h1;go_enter Tryz.func95,Tryz.ntmps95;go_wp2;go_ret;exact⟨by rw[HP.out];rfl,rfl⟩
 have hn0:¬(n:Int)=0:=by omega
 by_cases ha:a=0
 ·subst ha;have h1:(pw (0:GF) n)=0:=by
   obtain⟨m,rfl⟩:∃m,n=m+1:=⟨n-1,by omega⟩;rw[pw,mzero]
  have HP:=Hd h1;rw[show ((0:GF).n:Int)=0 from rfl];clear h1 h0;go_enter Tryz.func95,Tryz.ntmps95;go_wp2;go_ret;exact⟨by rw[HP.out];rfl,rfl⟩
 obtain⟨M,hM⟩:=zE4 (n % 255);have hMl:M<255:=by rw[←hM];exact Zck _ (by omega)
 have HP:Hid (pw a n=pw a M):=Hd (by rw[←hM];exact (GF.pw_mod ha n).symm);have e1:(n:Int).tmod 255=(M:Int):=by rw[←hM];exact (Int.ofNat_tmod n 255).symm
 have e2:=zE6 (M:Int) (by omega);have e3:¬(M:Int)<0:=by omega
 have ha':¬(a.n:Int)=0:=by have:=GF.ne0.1 ha;omega
 obtain⟨x,hx⟩:=zE4 a.n;have HX:=Hd hx;rw[hx] at ha' ⊢;clear h0 ha hx hM;go_enter Tryz.func95,Tryz.ntmps95;go_wp2;clear e1 e2 e3;go_loopg [6,7] M (fun gk y i wr=>∃I yn:Nat,I≤M∧gk=M-I∧i=.int .i64 I∧y=.int .u8 (yn:Nat)∧w=wr∧Hid ((pw a I).n=yn))
 case atStart=>exact⟨0,1,by omega,rfl,rfl,rfl,rfl,Hd rfl⟩
 case round =>
  obtain⟨I,yn,hI,rfl,rfl,rfl,rfl,HY⟩:=hrel;by_cases hlt:I<M
  ·have HMUL:=Hd (zkn (pw a I) a w);have HY2:Hid ((pw a (I+1)).n=(pw a I*a).n):=Hd (by rw[show pw a (I+1)=pw a I*a from rfl]);obtain⟨zn,hzn⟩:=zE4 ((pw a I*a).n);rw[hzn] at HY2 HMUL;rw[HY.out,HX.out] at HMUL;clear hzn;go_wp2_with fail;refine HMUL.out.mono ?_;rintro e w' ⟨rfl,rfl⟩;go_wp2;go_roundg (M-(I+1))
   case measure=>omega
   case rel=>exact⟨I+1,zn,by omega,rfl,by go_num,rfl,rfl,HY2⟩
  ·obtain rfl:I=M:=by omega
   go_wp2;go_ret;exact⟨by rw[HP.out,HY.out]<;>rfl,rfl⟩
def zch (x:GF) (D:Nat) (w:World) (e:Ending) (w':World):Prop:=∃b cap,e=.returned (.agg #[.int .i64 1,.int .i64 D,.slice (some ⟨b,0,none⟩) D cap])∧w.heap.size≤b∧zag w' b D (fun c=>pw x c)∧GRd w' (.slice (some ⟨b,0,none⟩) D cap) (rowF (fun c=>pw x c) D)∧Below w.heap.size w w'
theorem zsn (x:GF) (D:Nat) (sv:Value) (w:World) (hs:GRd w sv [x]) (hD:1≤D∧D≤256) :
  Calls Tryz.prog 86 #[sv,.int .i64 D] w (zch x D w):=by
 obtain⟨as_,cs_,rfl,hcs⟩:=hs.form;rw[List.length_singleton] at hs hcs ⊢;obtain⟨bs,os,rfl,hbs,-⟩:=hs.at (i:=0) (x:=x) rfl;have HS:=Hd hs;obtain⟨w1,hw1⟩:=zE5 ((w.alloc (.cells #[.int .i64 0,.int .i64 0,.slice none 0 0] 96)).alloc (.cells #[.int .i64 1,.int .i64 D,.slice none 0 0] 96));have hb1:Below w.heap.size w w1:=by rw[hw1];exact ((Zaa _ _).alloc (zE3 _) _).alloc (by simp) _
 have d4:w1.heap[w.heap.size]? = some (.cells #[.int .i64 0,.int .i64 0,.slice none 0 0] 96 (0,0)):=by rw[hw1];exact zaw (nwA _ _) _
 have d5:w1.heap[w.heap.size+1]? = some (.cells #[.int .i64 1,.int .i64 D,.slice none 0 0] 96 (0,0)):=by rw[hw1];exact nwE _ _ _ (by simp)
 have hl5:=lOH d5;have HS1:Hid (w1.heap.size=w.heap.size+1+1):=Hd (by rw[hw1];simp);have D4:=Hd d4;have D5:=Hd d5;have HB1:=Hd hb1;have n1:¬(65536:Int)<(D:Int):=by omega
 have n2:¬(16777216:Int)<(D:Int):=by omega
 have n3:¬(D:Int)<0:=by omega
 have n4:=zE6 (D:Int) (by omega);clear hs hb1 d4 d5 hcs;go_enter Tryz.func86,Tryz.ntmps86;go_wp2;rw[←hw1];obtain⟨mb,hmb⟩:=zE4 (w.heap.size+1);rw[hmb] at D5 hl5 HS1 ⊢;have hbm:bs<mb:=by omega
 clear hw1 n1 n2 n3 n4;go_loopg [6] 1 (fun gk i wr=>∃(I:Nat) (V:Value),I≤1∧gk=1-I∧i=.int .i64 I∧Hid (wr.heap[mb]? = some (.cells #[.int .i64 1,.int .i64 D,V] 96 (0,0)))∧Hid (zao wr (mb+1) V (rowF (fun c=>pw x c) (I*D)))∧Hid (Kp [mb] w1 wr))
 case atStart=>exact⟨0,_,by omega,rfl,rfl,D5,Hd (by rw[Nat.zero_mul];exact zao.nil _ _),Hd (Kp.refl _ _)⟩
 case round =>
  clear D5;obtain⟨I,V,hI,rfl,rfl,HD,HO,HK⟩:=hrel;by_cases hlt:I<1
  ·obtain rfl:I=0:=by omega
   rw[Nat.zero_mul] at HO;go_wp2;go_loopg [7,8] D (fun gk p i wr=>∃(k q:Nat) (V:Value),k≤D∧gk=D-k∧p=.int .u8 (q:Nat)∧i=.int .i64 k∧Hid ((pw x k).n=q)∧Hid (wr.heap[mb]? = some (.cells #[.int .i64 1,.int .i64 D,V] 96 (0,0)))∧Hid (zao wr (mb+1) V (rowF (fun c=>pw x c) k))∧Hid (Kp [mb] w1 wr))
   case atStart=>exact⟨0,1,V,by omega,rfl,rfl,rfl,Hd rfl,HD,HO,HK⟩
   case round =>
    clear HD HO HK;obtain⟨k,q,V,hk,rfl,rfl,rfl,HQ,HD,HO,HK⟩:=hrel;have hsr:=HK.out.size;by_cases hltk:k<D
    ·obtain⟨v1,w3,hap,ho1,hk1,hb3,-⟩:=zcb (pw x k) HO.out (by rw[zaa];omega) (by omega) HQ.out (ad:=wr.heap.size) rfl;obtain⟨a1,e1,rfl,-⟩:=ho1.form;obtain⟨L1,hL1⟩:∃L1,(rowF (fun c=>pw x c) k++[pw x k]).length=L1:=⟨_,rfl⟩;rw[hL1] at hap ho1;clear hL1;have hVm:mb∉V.ownBlock.toList:=fun hm=>by
      cases e:V.ownBlock with
      | none=>rw[e] at hm;cases hm
      | some b =>
       rw[e] at hm;simp at hm;have:=(HO.out.lt b e).1;omega
     have hd3:=hk1.heap HD.out hVm;have hs3:=hk1.size;have hl3:=lOH hd3;have c2:=cOH hd3 (j:=2) rfl;have f2:=fOH hd3 2;have z2:=cOH HD.out (j:=2) rfl;have hlr:=lOH HD.out;obtain⟨w4,hw4⟩:=zE5 (w3.setCell ⟨mb,2,none⟩ (.slice a1 L1 e1));have hk4:Kp [mb] w3 w4:=by rw[hw4];exact (Kp.refl _ _).setCell (.inl (by simp)) _
     have HD4:Hid (w4.heap[mb]? = some (.cells #[.int .i64 1,.int .i64 D,.slice a1 L1 e1] 96 (0,0))):=Hd (by
      rw[hw4];have:=hSS hd3 2 (.slice a1 L1 e1);simpa using this)
     have HO4:Hid (zao w4 (mb+1) (.slice a1 L1 e1) (rowF (fun c=>pw x c) (k+1))):=Hd (by
      rw[zbq];exact ho1.kp hk4 (fun b hb hm=>by have:=(ho1.lt b hb).1;simp at hm;omega))
     have hk14:Kp [mb] w1 w4:=(HK.out.step hk1 (fun y hy=>.inr (by
      cases e:V.ownBlock with
      | none=>rw[e] at hy;cases hy
      | some b =>
       rw[e] at hy;simp at hy;have:=(HO.out.lt b e).1;have:=HS1.out;omega))).trans hk4
     have HK4:=Hd hk14;obtain⟨xn,hxn⟩:=zE4 x.n;obtain⟨b',o',e',-,cx⟩:=(GRd.kp (HS.out.below HB1.out) hk14 (fun b hb hm=>by simp[Value.ownBlock] at hb hm;omega)).at (i:=0) (x:=x) rfl;cases e';rw[hxn] at cx;rw[Nat.add_zero] at cx;have HMUL:=Hd (zg1 q xn w4 (by rw[←HQ.out];exact (pw x k).lt) (by rw[←hxn];exact x.lt));have hmn:zb9 q xn=(pw x (k+1)).n:=by rw[←HQ.out,←hxn];rfl
     rw[hmn] at HMUL;obtain⟨q2,hq2⟩:=zE4 ((pw x (k+1)).n);rw[hq2] at HMUL;have HQ2:=Hd hq2;clear hVm hd3 hk1 hb3 ho1 hk4 hk14 hxn hmn hq2 HD HO HK;go_upto_region 14 with (at_builtin;refine zae rfl _ _ _ rfl rfl rfl hap ?_)
     rw[←hw4];clear hw4 hap;go_wp2_with fail;refine HMUL.out.mono ?_;rintro e w5 ⟨rfl,rfl⟩;go_wp2;go_roundg (D-(k+1))
     case measure=>omega
     case rel=>exact⟨k+1,q2,_,by omega,rfl,rfl,by go_num,HQ2,HD4,HO4,HK4⟩
    ·obtain rfl:k=D:=by omega
     have HO2:Hid (zao wr (mb+1) V (rowF (fun c=>pw x c) ((0+1)*k))):=Hd (by rw[Zbe,Zbw];exact HO.out);go_wp2;go_roundg 0
     case measure=>omega
     case rel=>exact⟨0+1,V,by omega,rfl,by go_num,HD,HO2,HK⟩
  ·obtain rfl:I=1:=by omega
   rw[Zbw] at HO;obtain⟨b,cap,rfl,hbB,hcap,hv⟩:=HO.out.view (by intro e;have:=congrArg List.length e;rw[zaa] at this;simp at this;omega);rw[zaa] at hcap hv;have hrd:=HO.out.rd;rw[zaa] at hrd;have hd4:=HK.out.heap D4.out (by simp;omega);have m0:=cOH HD.out (j:=0) rfl;have m1:=cOH HD.out (j:=1) rfl;have m2:=cOH HD.out (j:=2) rfl;rw[zaa] at m2;have y0:=cOH hd4 (j:=0) rfl;have y1:=cOH hd4 (j:=1) rfl;have y2:=cOH hd4 (j:=2) rfl;have f0:=fOH hd4 0;have f1:=fOH hd4 1;have f2:=fOH hd4 2;have l4r:=lOH hd4;have l6r:=lOH HD.out;have h6:=hSS (hSS (hSS hd4 0 (.int .i64 1)) 1 (.int .i64 D)) 2 (.slice (some ⟨b,0,none⟩) D cap);have h7:(((wr.setCell ⟨w.heap.size,0,none⟩ (.int .i64 1)).setCell ⟨w.heap.size,1,none⟩ (.int .i64 D)).setCell ⟨w.heap.size,2,none⟩ (.slice (some ⟨b,0,none⟩) D cap)).heap[w.heap.size]? = some (.cells #[.int .i64 1,.int .i64 D,.slice (some ⟨b,0,none⟩) D cap] 96 (0,0)):=by simpa using h6
   have c0:=cOH h7 (j:=0) rfl;have c1:=cOH h7 (j:=1) rfl;have c2:=cOH h7 (j:=2) rfl;have hkk:Kp [w.heap.size] wr (((wr.setCell ⟨w.heap.size,0,none⟩ (.int .i64 1)).setCell ⟨w.heap.size,1,none⟩ (.int .i64 D)).setCell ⟨w.heap.size,2,none⟩ (.slice (some ⟨b,0,none⟩) D cap)) :=
    (((Kp.refl _ _).setCell (.inl (by simp)) _).setCell (.inl (by simp)) _).setCell (.inl (by simp)) _
   have hsz:=HB1.out.size;have hszr:=HK.out.size;have HPO:Hid (zch x D w (.returned (.agg #[.int .i64 1,.int .i64 D,.slice (some ⟨b,0,none⟩) D cap])) (((wr.setCell ⟨w.heap.size,0,none⟩ (.int .i64 1)).setCell ⟨w.heap.size,1,none⟩ (.int .i64 D)).setCell ⟨w.heap.size,2,none⟩ (.slice (some ⟨b,0,none⟩) D cap))):=Hd
    ⟨b,cap,rfl,by omega,(hv.congr fun j hj=>zam _ hj).kp hkk (by simp;omega),hrd.kp hkk (fun k hk hm=>by simp[Value.ownBlock] at hk hm;omega),(HB1.out.trans (HK.out.below (by omega) (by simp;omega))).trans (hkk.below (by omega) (by simp))⟩
   clear hd4 h6 h7 hkk hv hrd hbB hsz hszr HO HK HD;go_wp2;refine bodyPost_ret (v:=.agg #[.int .i64 1,.int .i64 D,.slice (some ⟨b,0,none⟩) D cap]) ?_ rfl HPO.out;simp[results,Tryz.results86,go_sem,c0,c1,c2]
abbrev rb (n k d:Int):Value:=.agg #[.int .i64 n,.int .i64 k,.int .i64 d]
theorem zec (n k d:Int) (w:World):Calls Tryz.prog 32 #[rb n k d] w fun e w'=>e=.returned (.int .i64 (if 1≤k∧k≤d∧d<n∧n≤255 then 0 else 2))∧Below w.heap.size w w':=by
 by_cases c1:k<1
 ·rw[if_neg (by omega)];go_enter Tryz.func32,Tryz.ntmps32;go_wp2;go_ret;exact⟨rfl,by (repeat' (first|with_reducible (first|exact Zaa _ _|assumption|refine Zac ?_|refine Zab ?_ ?_ _)|omega|(simp;done)|(simp;omega)))⟩
 by_cases c2:d<k
 ·rw[if_neg (by omega)];go_enter Tryz.func32,Tryz.ntmps32;go_wp2;go_ret;exact⟨rfl,by (repeat' (first|with_reducible (first|exact Zaa _ _|assumption|refine Zac ?_|refine Zab ?_ ?_ _)|omega|(simp;done)|(simp;omega)))⟩
 by_cases c3:n≤d
 ·rw[if_neg (by omega)];go_enter Tryz.func32,Tryz.ntmps32;go_wp2;go_ret;exact⟨rfl,by (repeat' (first|with_reducible (first|exact Zaa _ _|assumption|refine Zac ?_|refine Zab ?_ ?_ _)|omega|(simp;done)|(simp;omega)))⟩
 by_cases c4:n>255
 ·rw[if_neg (by omega)];go_enter Tryz.func32,Tryz.ntmps32;go_wp2;go_ret;exact⟨rfl,by (repeat' (first|with_reducible (first|exact Zaa _ _|assumption|refine Zac ?_|refine Zab ?_ ?_ _)|omega|(simp;done)|(simp;omega)))⟩
 ·rw[if_pos (by omega)];go_enter Tryz.func32,Tryz.ntmps32;go_wp2;go_ret;exact⟨rfl,by (repeat' (first|with_reducible (first|exact Zaa _ _|assumption|refine Zac ?_|refine Zab ?_ ?_ _)|omega|(simp;done)|(simp;omega)))⟩
theorem zyg (n k d:Int) (w:World):Calls Tryz.prog 34 #[rb n k d] w fun e w'=>e=.returned (.int .i64 d)∧Below w.heap.size w w':=by go_enter Tryz.func34,Tryz.ntmps34;go_wp2;go_ret;exact⟨rfl,by (repeat' (first|with_reducible (first|exact Zaa _ _|assumption|refine Zac ?_|refine Zab ?_ ?_ _)|omega|(simp;done)|(simp;omega)))⟩
theorem zo5 (n k d:Nat) (w:World) (hk:1≤k∧k≤d∧d≤255):Calls Tryz.prog 35 #[rb n k d] w fun e w'=>e=.returned (.int .i64 (mbB k d:Nat))∧Below w.heap.size w w':=by
 obtain⟨k1,hk1⟩:=zE4 (k-1);obtain⟨p,hp⟩:=zE4 (k*d);obtain⟨q,hq⟩:=zE4 (k*k1);obtain⟨h,hh⟩:=zE4 (q / 2);obtain⟨B,hB⟩:=zE4 (mbB k d);have hBe:p-h=B:=by rw[←hB,zhl hk.2.1,hk1,hp,hq,hh]
 have hpl:p≤255*255:=by rw[←hp];exact Zai (by omega) (by omega)
 have hql:q≤p:=by rw[←hp,←hq];exact Nat.mul_le_mul_left _ (by omega)
 rw[hB];have x3:(k:Int)-1=(k1:Int):=by omega
 have x4:=zE6 (k1:Int) (by omega);have x5:(k:Int)*(d:Int)=(p:Int):=by rw[←hp];simp
 have x6:=zE6 (p:Int) (by omega);have x7:(k:Int)*(k1:Int)=(q:Int):=by rw[←hq];simp
 have x8:=zE6 (q:Int) (by omega);have x9:(q:Int).tdiv 2=(h:Int):=by rw[←hh];exact (Int.ofNat_tdiv q 2).symm
 have x10:=zE6 (h:Int) (by omega);have x11:(p:Int)-(h:Int)=(B:Int):=by omega
 have x12:=zE6 (B:Int) (by omega);clear hk1 hp hq hh hB hBe;go_enter Tryz.func35,Tryz.ntmps35;go_wp2;go_ret;exact⟨rfl,by (repeat' (first|with_reducible (first|exact Zaa _ _|assumption|refine Zac ?_|refine Zab ?_ ?_ _)|omega|(simp;done)|(simp;omega)))⟩
theorem zgv (j:Nat) (w:World) (hj:j≤1000000):Calls Tryz.prog 57 #[.int .i64 j] w fun e w'=>e=.returned (.int .u8 ((pw GF.two j).n:Nat))∧w=w':=by have HP:Hid (Calls Tryz.prog 95 #[.int .u8 2,.int .i64 j] w (zrk (pw GF.two j) w)):=Hd (zyb GF.two j w hj);go_enter Tryz.func57,Tryz.ntmps57;go_wp2_with fail;refine HP.out.mono ?_;rintro e w' ⟨rfl,rfl⟩;go_wp2;go_ret;exact⟨rfl,rfl⟩
theorem zfi {n i:Nat} (h:i<n):(za9 n).getD i 0=pw GF.two i:=by rw[zE2,za9,Zae,Zax h];exact GF.pown_pw _ _
theorem zlt (n k d:Nat) (j:Nat) (w:World) (hj:j≤255) (hd:1≤d∧d≤255):Calls Tryz.prog 45 #[rb n k d,.int .i64 j] w (zch (pw GF.two j) d w):=by
 obtain⟨x,hx⟩:=zE4 (pw GF.two j);have hpt:=fun W=>zgv j W (by omega);rw[hx] at hpt ⊢;obtain⟨xn,hxn⟩:=zE4 x.n;rw[hxn] at hpt;have HPT:=Hd hpt;obtain⟨w1,hw1⟩:=zE5 ((w.alloc (.cells #[.int .i64 n,.int .i64 k,.int .i64 d] 32)).alloc (.cells #[.int .i64 0,.int .i64 0,.slice none 0 0] 96));have hb1:Below w.heap.size w w1:=by rw[hw1];exact ((Zaa _ _).alloc (zE3 _) _).alloc (by simp) _
 have d2:w1.heap[w.heap.size]? = some (.cells #[.int .i64 n,.int .i64 k,.int .i64 d] 32 (0,0)):=by rw[hw1];exact zaw (nwA _ _) _
 have d4:w1.heap[w.heap.size+1]? = some (.cells #[.int .i64 0,.int .i64 0,.slice none 0 0] 96 (0,0)):=by rw[hw1];exact nwE _ _ _ (by simp)
 have z2:=cOH d2 (j:=2) rfl;have l2:=lOH d2;have l4:=lOH d4;have HPW:=Hd (zsn x d (.slice (some ⟨w1.heap.size,0,none⟩) 1 1) (w1.alloc (.cells #[.int .u8 (xn:Nat)] 5)).drew (GRd.lit (t:=5) [x] (by refine (nwA w1 _).trans ?_;simp[gv,hxn]) rfl) (by omega));unfold zch at HPW;have D4:=Hd d4;have HB1:=Hd hb1;clear hb1 d2 d4 hx hpt hxn;go_enter Tryz.func45,Tryz.ntmps45;go_upto_region 1 with fail
 rw[←hw1];clear hw1;obtain⟨kp,hkp⟩:∃kp:Nat→Bool,∀j,kp j=true↔j<w1.heap.size∧j≠w.heap.size+1:=⟨fun j=>decide (j<w1.heap.size∧j≠w.heap.size+1),by simp⟩;have k1:kp w.heap.size=true:=(hkp _).2 ⟨l2,by omega⟩;have HKP:=Hd hkp;clear hkp;have hgr:=hgK (fun j=>kp j=true);refine w_T (fun j=>kp j=true) [1,2,5,6] (.sq [0,3,4,1,2,5,6] .done) (by kernel_rfl) (by kernel_rfl) ?_;simp only[TQ,Oper.slim,Nat.reduceBEq,Nat.reduceAdd]
 repeat' first|((with_reducible refine w_I ?_);first|(with_reducible refine w_D ?_)|((with_reducible refine w_S (fun K hK=>?_));go_simp;first|(refine hK _ _ ?_;clear hK K)|(refine⟨by (intro kk hkk;first|(simp (disch:=(simp;omega)) only[h_D,h_N,h_A,h_S];done)|(simp[h_D,h_N,h_I,hkk];done)|(have hkk2:=(HKP.out kk).1 hkk;simp (disch:=(first|exact hkk2.2|(simp;done)|(simp;omega))) only[h_D,h_N,h_A,h_S];first|done|exact HBY.out.block kk hkk2.1)),hK _ _ ?_⟩;clear hK K)|(go_at_call 57;(with_reducible refine (HPT.out _).mono ?_);rintro e wx ⟨rfl,hwx⟩;subst hwx;refine⟨_,rfl,(fun kk hkk=>rfl),hK _ _ ?_⟩;clear hK K)|(go_at_call 86;(with_reducible refine HPW.out.mono ?_);rintro e wy ⟨b,cap,rfl,hb,hv,hg,hby⟩;have HBY:Hid (Below w1.heap.size w1 wy):=Hd ((((Zaa w1.heap.size w1).alloc (zE3 _) _).drew).trans (hby.mono (by simp)));have HB:=Hd hb;have HV:=Hd hv;have HG:=Hd hg;have hd:=zad HBY.out D4.out;have c0:=cOH hd (j:=0) rfl;have c1:=cOH hd (j:=1) rfl;have c2:=cOH hd (j:=2) rfl;have f0:=fOH hd 0;have f1:=fOH hd 1;have f2:=fOH hd 2;have ly:=lOH hd;have HDY:=Hd hd;clear hd;refine⟨_,rfl,(fun kk hkk=>HBY.out.block kk ((HKP.out kk).1 hkk).1),hK _ _ ?_⟩;clear hby hb hv hg hK K)))|fail
 clear hgr;have hsz:=HB1.out.size;have hsy:=HBY.out.size;have h6:=hSS (hSS (hSS HDY.out 0 (.int .i64 1)) 1 (.int .i64 d)) 2 (.slice (some ⟨b,0,none⟩) d cap);have h7:(((wy.setCell ⟨w.heap.size+1,0,none⟩ (.int .i64 1)).setCell ⟨w.heap.size+1,1,none⟩ (.int .i64 d)).setCell ⟨w.heap.size+1,2,none⟩ (.slice (some ⟨b,0,none⟩) d cap)).heap[w.heap.size+1]? = some (.cells #[.int .i64 1,.int .i64 d,.slice (some ⟨b,0,none⟩) d cap] 96 (0,0)):=by simpa using h6
 have c0:=cOH h7 (j:=0) rfl;have c1:=cOH h7 (j:=1) rfl;have c2:=cOH h7 (j:=2) rfl;have hkk:Kp [w.heap.size+1] wy (((wy.setCell ⟨w.heap.size+1,0,none⟩ (.int .i64 1)).setCell ⟨w.heap.size+1,1,none⟩ (.int .i64 d)).setCell ⟨w.heap.size+1,2,none⟩ (.slice (some ⟨b,0,none⟩) d cap)) :=
  (((Kp.refl _ _).setCell (.inl (by simp)) _).setCell (.inl (by simp)) _).setCell (.inl (by simp)) _
 have hbb:w1.heap.size+1≤b:=by have:=HB.out;simpa using this
 have HPO:Hid (zch x d w (.returned (.agg #[.int .i64 1,.int .i64 d,.slice (some ⟨b,0,none⟩) d cap])) (((wy.setCell ⟨w.heap.size+1,0,none⟩ (.int .i64 1)).setCell ⟨w.heap.size+1,1,none⟩ (.int .i64 d)).setCell ⟨w.heap.size+1,2,none⟩ (.slice (some ⟨b,0,none⟩) d cap))):=Hd
  ⟨b,cap,rfl,by omega,HV.out.kp hkk (by simp;omega),HG.out.kp hkk (fun k hk hm=>by simp[Value.ownBlock] at hk hm;omega),(HB1.out.trans (HBY.out.mono (by omega))).trans (hkk.below (by omega) (by simp))⟩
 clear h6 h7 hkk hbb;go_wp2;refine bodyPost_ret (v:=.agg #[.int .i64 1,.int .i64 d,.slice (some ⟨b,0,none⟩) d cap]) ?_ rfl HPO.out;simp[results,Tryz.results45,go_sem,c0,c1,c2]
