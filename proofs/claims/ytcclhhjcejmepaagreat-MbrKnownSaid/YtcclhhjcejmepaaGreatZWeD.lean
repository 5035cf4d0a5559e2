import Derived.Shelf.Sort.Plain
import Derived.Shelf.Slices.In.SortNone
import Derived.Test.YtcclhhjcejmepaaGreatZWeRefs
import Derived.Test.YtcclhhjcejmepaaGreatZRefsA
import Derived.Lib.RowBridge
set_option linter.all false
namespace Go.Proofs
open Go.Shelf
def Tryz.lays189_ren:Go.Shelf.Ren:=⟨fun|189=>65|125=>106|257=>105|128=>129|129=>130|294=>120|295=>121|296=>122|297=>123|298=>124|299=>125|216=>126|300=>127|301=>128|328=>154|329=>155|330=>156|331=>157|332=>158|215=>159|343=>174|n=>n,fun|28=>44|3=>3|46=>161|0=>0|51=>76|53=>52|4=>4|183=>173|182=>172|131=>178|5=>5|9=>9|218=>202|222=>206|228=>219|229=>220|n=>n,fun|n=>n⟩
theorem Tryz.lays189:Go.Proofs.Lays.n189 Tryz.prog Tryz.lays189_ren:={
 mixed:=by kernel_rfl
 f125:=Tryz.func106.trans (congrArg some (by kernel_rfl))
 f128:=Tryz.func129.trans (congrArg some (by kernel_rfl))
 f129:=Tryz.func130.trans (congrArg some (by kernel_rfl))
 f189:=Tryz.func65.trans (congrArg some (by kernel_rfl))
 f215:=Tryz.func159.trans (congrArg some (by kernel_rfl))
 f216:=Tryz.func126.trans (congrArg some (by kernel_rfl))
 f257:=Tryz.func105.trans (congrArg some (by kernel_rfl))
 f294:=Tryz.func120.trans (congrArg some (by kernel_rfl))
 f295:=Tryz.func121.trans (congrArg some (by kernel_rfl))
 f296:=Tryz.func122.trans (congrArg some (by kernel_rfl))
 f297:=Tryz.func123.trans (congrArg some (by kernel_rfl))
 f298:=Tryz.func124.trans (congrArg some (by kernel_rfl))
 f299:=Tryz.func125.trans (congrArg some (by kernel_rfl))
 f300:=Tryz.func127.trans (congrArg some (by kernel_rfl))
 f301:=Tryz.func128.trans (congrArg some (by kernel_rfl))
 f328:=Tryz.func154.trans (congrArg some (by kernel_rfl))
 f329:=Tryz.func155.trans (congrArg some (by kernel_rfl))
 f330:=Tryz.func156.trans (congrArg some (by kernel_rfl))
 f331:=Tryz.func157.trans (congrArg some (by kernel_rfl))
 f332:=Tryz.func158.trans (congrArg some (by kernel_rfl))
 f343:=Tryz.func174.trans (congrArg some (by kernel_rfl))
 t0:=Tryz.underlying0
 a0:=Tryz.isAgg0
 z0:=Tryz.sizeOf0
 v0:=Tryz.zeroValue0
 t3:=Tryz.underlying3
 a3:=Tryz.isAgg3
 z3:=Tryz.sizeOf3
 v3:=Tryz.zeroValue3
 t4:=Tryz.underlying4
 a4:=Tryz.isAgg4
 z4:=Tryz.sizeOf4
 v4:=Tryz.zeroValue4
 t5:=Tryz.underlying5
 a5:=Tryz.isAgg5
 z5:=Tryz.sizeOf5
 v5:=Tryz.zeroValue5
 t9:=Tryz.underlying9
 a9:=Tryz.isAgg9
 z9:=Tryz.sizeOf9
 v9:=Tryz.zeroValue9
 t28:=Tryz.underlying44
 a28:=Tryz.isAgg44
 z28:=Tryz.sizeOf44
 v28:=Tryz.zeroValue44
 t46:=Tryz.underlying161
 a46:=Tryz.isAgg161
 z46:=Tryz.sizeOf161
 v46:=Tryz.zeroValue161
 t51:=Tryz.underlying76
 a51:=Tryz.isAgg76
 z51:=Tryz.sizeOf76
 v51:=Tryz.zeroValue76
 t53:=Tryz.underlying52
 a53:=Tryz.isAgg52
 z53:=Tryz.sizeOf52
 v53:=Tryz.zeroValue52
 t131:=Tryz.underlying178
 a131:=Tryz.isAgg178
 z131:=Tryz.sizeOf178
 v131:=Tryz.zeroValue178
 t182:=Tryz.underlying172
 a182:=Tryz.isAgg172
 z182:=Tryz.sizeOf172
 v182:=Tryz.zeroValue172
 t183:=Tryz.underlying173
 a183:=Tryz.isAgg173
 z183:=Tryz.sizeOf173
 v183:=Tryz.zeroValue173
 t218:=Tryz.underlying202
 a218:=Tryz.isAgg202
 z218:=Tryz.sizeOf202
 v218:=Tryz.zeroValue202
 t222:=Tryz.underlying206
 a222:=Tryz.isAgg206
 z222:=Tryz.sizeOf206
 v222:=Tryz.zeroValue206
 t228:=Tryz.underlying219
 a228:=Tryz.isAgg219
 z228:=Tryz.sizeOf219
 v228:=Tryz.zeroValue219
 t229:=Tryz.underlying220
 a229:=Tryz.isAgg220
 z229:=Tryz.sizeOf220
 v229:=Tryz.zeroValue220 }
open Go.Sort Go.RowKit in
theorem Tryz.slices_Sort_int (blk off cap:Nat) (zs:List Int) (w:World) (hH:Holds (Value.int .i64) w blk off zs.toArray) (hblk:blk<w.heap.size) (hsz:zs.length<4611686018427387904) :
  Calls Tryz.prog 65 #[.slice (some ⟨blk,off,none⟩) zs.length cap] w fun e w' =>
   e=.returned (.tuple #[])∧∃n os,w'=grow (putRow (Value.int .i64) (Sort.ahead w n) blk off (zs.mergeSort fun x y=>decide (x≤y)).toArray) os:=Any.slices_Sort_int Tryz.lays189 blk off cap zs w hH hblk hsz
theorem Tryz.slices_Sort_int_none (p:Option Addr) (cap:Nat) (w:World) :
  Calls Tryz.prog 65 #[.slice p 0 cap] w fun e w'=>e=.returned (.tuple #[])∧w'=w:=Any.slices_Sort_int_none Tryz.lays189 p cap w
end Go.Proofs
set_option maxRecDepth 100000
set_option maxHeartbeats 4000000
namespace Go.Proofs.YtcclhhjcejmepaaGreat
open Go.RowKit Fld Go.Shelf Go.Sort
theorem zy6 (w:World) (n g:Nat) (d:Array Int) (os:Array Obj):Kp [g] w (grow (putRow (Value.int .i64) (Sort.ahead w n) g 0 d) os) :=
 ⟨rfl,rfl,rfl,by simp,fun k hk hn=>by
  rw[heap_grow_old _ _ (by simpa using hk)];unfold putRow mapBlock;simp only[Array.getElem?_modify];rw[if_neg (fun e=>hn (by simp[e]))];rfl⟩
theorem za4.holds {w:World} {B g cap:Nat} {l:List Int} (h:za4 w B (.slice (some ⟨g,0,none⟩) l.length cap) l):Go.Sort.Holds (Value.int .i64) w g 0 l.toArray:=by
 intro j hj;have hj':j<l.length:=by simpa using hj
 unfold za4 at h;have hc:=h.cells (g:=g) rfl j (.int .i64 (l.getD j 0)) (by rw[Zae,zE1 hj',zE2,zE1 hj'];rfl);rcases h.2 with ⟨h1,_⟩|⟨b,cap',cur,e,h2,h3,h4,h5,h6,h7⟩
 ·cases h1
 ·cases e;have e:(⟨g,0,none⟩:Addr).add j=⟨g,j,none⟩:=by unfold Addr.add;split<;>simp_all
  rw[e] at hc;rw[Zbe];refine⟨hc.trans ?_,by simp[World.frozen?,h3]⟩;rw[getElem!_pos l.toArray j hj,zE2,zE1 hj'];simp
theorem zm6 (B:Nat) (v:Value) (l:List Int) (w:World) (h:za4 w B v l) (hB:B≤w.heap.size) (hl:l.length≤1000000000) :
  Calls Tryz.prog 65 #[v] w fun e w'=>e=.returned (.tuple #[])∧Go.RowKit.Below B w w'∧RdZ w' B v (zeb l):=by
 have hlt:=h.lt;have hrd:=h.rd;have h':=h;unfold za4 at h';rcases h'.2 with ⟨rfl,h2⟩|⟨g,cap,cur,rfl,h2,h3,h4,h5,h6,h7⟩
 ·have:l=[]:=Zbc h2
  subst this;refine (Tryz.slices_Sort_int_none none 0 w).mono ?_;rintro e w' ⟨rfl,rfl⟩;exact⟨rfl,Go.RowKit.Below.refl _ _,by rw[show zeb []=[] from by simp[zeb]];exact RdZ.nil _ _⟩
 ·have hg:=hlt g rfl;have hh:=za4.holds h;refine (Tryz.slices_Sort_int g 0 cap l w hh hg.2 (by omega)).mono ?_;rintro e w' ⟨rfl,n,os,rfl⟩;have hk:=zy6 w n g (l.mergeSort fun x y=>decide (x≤y)).toArray os;refine⟨rfl,hk.below hB (by simpa using hg.1),?_,fun k hk'=>?_⟩
  ·have hH:Go.Sort.Holds (Value.int .i64) (grow (putRow (Value.int .i64) (Sort.ahead w n) g 0 (l.mergeSort fun x y=>decide (x≤y)).toArray) os) g 0 (l.mergeSort fun x y=>decide (x≤y)).toArray :=
    holds_grow _ _ _ _ _ _ (by simpa using hg.2) (holds_putRow _ _ _ _ l.toArray _ (holds_ahead _ _ _ _ _ _ hh) (by simp))
   have:=IRd.mk (o:=0) (cap:=cap) (l:=zeb l) (b:=g) (by rw[zf1];exact h4) (Zaf hg.2 hk.size) fun i x hi=>by have hi':i<(zeb l).length:=(Zah.1 hi).1;have h8:=(hH i (by simpa[zeb] using hi')).1;refine h8.trans ?_;rw[getElem!_pos _ _ (by simpa[zeb] using hi')];rw[zE1 hi'] at hi;cases hi;rfl
   rwa[zf1] at this
  ·have:k=g:=by simpa[Value.ownBlock] using hk'.symm
   subst this;exact⟨hg.1,Zaf hg.2 hk.size⟩
noncomputable def zrb (W:List GF) (ps:List Int) (ys:List GF) (n:Nat):List Int:=((List.range n).filter fun i=>decide (W.getD (ps.getD i 0).toNat 0≠ys.getD i 0)).map fun i=>ps.getD i 0
theorem zzp {W:List GF} {ps:List Int} {ys:List GF} {n:Nat} (h:W.getD (ps.getD n 0).toNat 0≠ys.getD n 0):zrb W ps ys (n+1)=zrb W ps ys n++[ps.getD n 0]:=by unfold zrb;rw[Zbh,Zcj,Zaw,List.filter_cons_of_pos (p:=fun i=>decide (W.getD (ps.getD i 0).toNat 0≠ys.getD i 0)) (decide_eq_true h)];rfl
theorem yct {W:List GF} {ps:List Int} {ys:List GF} {n:Nat} (h:W.getD (ps.getD n 0).toNat 0=ys.getD n 0):zrb W ps ys (n+1)=zrb W ps ys n:=by unfold zrb;rw[Zbh,Zcj,Zaw,List.filter_cons_of_neg (p:=fun i=>decide (W.getD (ps.getD i 0).toNat 0≠ys.getD i 0)) (by rw[decide_eq_true_eq];exact fun e=>e h)];simp
theorem zra (W:List GF) (ps:List Int) (ys:List GF) (n:Nat):(zrb W ps ys n).length≤n:=by unfold zrb;rw[Zag];have:=Zce (fun i=>decide (W.getD (ps.getD i 0).toNat 0≠ys.getD i 0)) (List.range n);rwa[Zbg] at this
theorem zqz (m:List GF) {xs:List GF} {p:Nat} (hp:p<xs.length):(xs.map (ev m)).getD p 0=ev m (xs.getD p 0):=by rw[zE2,Zae,zE2 (l:=xs),zE1 hp];rfl
theorem zzq {xs:List GF} {ps:List Int} (ys m:List GF) (hg:∀x∈ps,0≤x∧x<(xs.length:Int)):zrb (xs.map (ev m)) ps ys ps.length=wrP xs ps ys m:=by unfold zrb wrP wrI;rw[zci];congr 1;refine List.filter_congr fun i hi=>?_;have hi':=Zaj.1 hi;rw[zfg xs hi',zqz];have:=hg (ps.getD i 0) (by rw[zE2,zE1 hi'];exact Zbx _);omega
def zxq (W:List GF) (ps:List Int) (ys:List GF) (w:World) (e:Ending) (w':World):Prop:=∃v,e=.returned v∧RdZ w' w.heap.size v (zeb (zrb W ps ys ps.length))∧Go.RowKit.Below w.heap.size w w'
theorem zs9 (wv pv yv:Value) (W ys:List GF) (ps:List Int) (w:World) (hw:GRd w wv W) (hp:IRd w pv ps) (hy:GRd w yv ys) (hg:∀x∈ps,0≤x∧x<(W.length:Int)) (hyl:ps.length≤ys.length) (hpl:ps.length≤100000) :
  Calls Tryz.prog 94 #[wv,pv,yv] w (zxq W ps ys w):=by
 obtain⟨aw,cw,rfl,hcw⟩:=hw.form;obtain⟨ap,cp,rfl⟩:=hp.form;obtain⟨ay,cy,rfl,hcy⟩:=hy.form;unfold zxq;obtain⟨N,hN⟩:=zE4 W.length;obtain⟨Q,hQ⟩:=zE4 ps.length;obtain⟨Y,hY⟩:=zE4 ys.length;have HN:=Hd hN;have HQ:=Hd hQ;have HY:=Hd hY;have HG:=Hd hg;rw[hN] at hw hcw ⊢;rw[hQ] at hpl hyl hp ⊢;rw[hY] at hyl hy ⊢;have HW:=Hd hw;have HP:=Hd hp;have HYS:=Hd hy;clear hw hp hy hN hQ hY hcw hcy hg;go_enter Tryz.func94,Tryz.ntmps94;go_wp2;go_loopg [7,12] Q (fun gk l i wr=>∃(V:Value) (I:Nat),V=l∧I≤Q∧gk=Q-I∧i=.int .i64 I∧Hid (za4 wr w.heap.size V (zrb W ps ys I))∧Hid (Go.RowKit.Below w.heap.size w wr))
 case atStart=>exact⟨_,0,rfl,by omega,rfl,rfl,Hd (za4.nil _ _),Hd (Go.RowKit.Below.refl _ _)⟩
 case round =>
  obtain⟨V,I,rfl,hI,rfl,rfl,HO,HB⟩:=hrel;have hs:=HB.out.size;by_cases hlt:I<Q
  ·obtain⟨x,hx⟩:∃x,ps[I]? = some x:=⟨_,zE1 (by rw[HQ.out];exact hlt)⟩;have hxr:=HG.out x (Zad hx);obtain⟨p,rfl⟩:∃p:Nat,x=(p:Int):=⟨x.toNat,by omega⟩;rw[HN.out] at hxr;have hpN:p<N:=by omega
   obtain⟨-,-,b0,o0,rfl,hb0,-⟩:=IRd.cell HP.out hx;have c0:=IRd.cells (HP.out.below HB.out) I p hx;have hxd:ps.getD I 0=(p:Int):=by rw[zE2,hx];rfl
   obtain⟨c,hc,hcd⟩:=zbt (l:=W) (i:=p) (by rw[HN.out];exact hpN);obtain⟨d,hd,hdd⟩:=zbt (l:=ys) (i:=I) (by rw[HY.out];omega);obtain⟨b1,o1,rfl,hb1,-⟩:=HW.out.at hc;obtain⟨b2,o2,rfl,hb2,-⟩:=HYS.out.at hd;obtain⟨_,_,e,-,c1⟩:=(HW.out.below HB.out).at hc;cases e;obtain⟨_,_,e,-,c2⟩:=(HYS.out.below HB.out).at hd;cases e;obtain⟨cn,hcn⟩:∃t,c.n=t:=⟨_,rfl⟩;obtain⟨dn,hdn⟩:∃t,d.n=t:=⟨_,rfl⟩;rw[hcn] at c1;rw[hdn] at c2;have hiff:W.getD (ps.getD I 0).toNat 0=ys.getD I 0↔cn=dn:=by rw[hxd,Zam,hcd,hdd];exact⟨fun e=>by rw[←hcn,←hdn,e],fun e=>GF.ext' (by omega)⟩
   have HIF:=Hd hiff;have HXD:=Hd hxd;have HBD:Hid (Go.RowKit.Below w.heap.size w wr.drew):=Hd HB.out.drew;obtain⟨kp,hkp⟩:∃kp:Nat→Bool,∀j,kp j=true↔j<wr.heap.size:=⟨fun j=>decide (j<wr.heap.size),by simp⟩;have hk1:kp b1=true:=(hkp _).2 (by omega);have hk2:kp b2=true:=(hkp _).2 (by omega);have HKP:=Hd hkp;have i0:(0:Int)≤(I:Int)∧(I:Int)<(Q:Int):=by omega
   have i1:(0:Int)≤(p:Int)∧(p:Int)<(N:Int):=by omega
   have i2:(0:Int)≤(I:Int)∧(I:Int)<(Y:Int):=by omega
   clear hkp hc hcd hd hdd hcn hdn hiff hx hxd hxr;by_cases hcc:cn=dn
   ·subst hcc;have HO2:Hid (za4 wr.drew w.heap.size V (zrb W ps ys (I+1))):=Hd (by
     rw[yct (HIF.out.2 rfl)];exact HO.out)
    go_upto_region 5 with fail
    have hgr:=hgK (fun j=>kp j=true);refine w_T (fun j=>kp j=true) [] (.sq [0,1,2,3,4,5,6,7,8] .done) (by kernel_rfl) (by kernel_rfl) ?_;simp only[TQ,Oper.slim,Nat.reduceBEq,Nat.reduceAdd]
    repeat' first|((with_reducible refine w_I ?_);first|(with_reducible refine w_D ?_)|((with_reducible refine w_S (fun K hK=>?_));go_simp;(refine hK _ _ ?_;clear hK K)))|fail
    clear hgr;go_wp2;go_roundg (Q-(I+1))
    case measure=>omega
    case rel=>exact⟨_,I+1,rfl,by omega,rfl,by go_num,HO2,HBD⟩
   ·have hne:¬(cn:Int)=(dn:Int):=by omega
    obtain⟨v1,w6,hap,ho1,-,hb6,-⟩:=zdf (W:=wr.drew) (p:Int) HO.out (by
     have:=zra W ps ys I
     omega) (by simpa using HB.out.size) (ad:=wr.heap.size) rfl
    have HO6:Hid (za4 w6 w.heap.size v1 (zrb W ps ys (I+1))):=Hd (by
     rw[zzp (fun e=>hcc (HIF.out.1 e)),HXD.out];exact ho1)
    have HB6:Hid (Go.RowKit.Below w.heap.size w w6):=Hd (HBD.out.trans hb6);clear hcc ho1 hb6;go_upto_region 5 with fail
    have hgr:=hgK (fun j=>kp j=true);refine w_T (fun j=>kp j=true) [] (.sq [0,1,2,3,4,5,6,7,8] .done) (by kernel_rfl) (by kernel_rfl) ?_;simp only[TQ,Oper.slim,Nat.reduceBEq,Nat.reduceAdd]
    repeat' first|((with_reducible refine w_I ?_);first|(with_reducible refine w_D ?_)|((with_reducible refine w_S (fun K hK=>?_));go_simp;(refine hK _ _ ?_;clear hK K)))|fail
    clear hgr;go_wp2_with (at_builtin;refine zae rfl _ _ _ rfl rfl rfl hap ?_);go_roundg (Q-(I+1))
    case measure=>omega
    case rel=>exact⟨_,I+1,rfl,by omega,rfl,by go_num,HO6,HB6⟩
  ·obtain rfl:I=Q:=by omega
   have HSRT:=Hd (zm6 _ _ _ wr HO.out HB.out.size (by have:=zra W ps ys I;omega));go_wp2_with fail;refine HSRT.out.mono ?_;rintro e w5 ⟨rfl,hb5,hr5⟩;have HFIN:=Hd (Zao hr5 (HB.out.trans hb5));clear hb5 hr5;go_wp2;go_ret;exact⟨_,rfl,HFIN.out⟩
