import Derived.Test.YtcclhhjcejmepaaGreatZKit
set_option linter.all false
set_option maxRecDepth 100000
set_option maxHeartbeats 4000000
namespace Go.Proofs.YtcclhhjcejmepaaGreat
open Go.RowKit Fld Go.Shelf
noncomputable def pkM (ps:List Int) (A:Nat→Nat→GF) (I:Nat):Nat→Nat→GF:=fun i c=>if i<I then A (ps.getD i 0).toNat c else 0
def zom (C:Nat) (ps:List Int) (A:Nat→Nat→GF) (w:World) (e:Ending) (w':World):Prop :=
 ∃g,e=.returned (.tuple #[.agg #[.int .i64 ps.length,.int .i64 C,.slice (some ⟨g,0,none⟩) (ps.length*C) (ps.length*C)],.int .i64 0])∧w.heap.size≤g∧zag w' g (ps.length*C) (flat C (fun i c=>A (ps.getD i 0).toNat c))∧Below w.heap.size w w'
structure zto (R C M N sb capm gb b6:Nat) (w W:World):Prop where
 b2:W.heap[w.heap.size]? = some (.cells #[.int .i64 R,.int .i64 C,.slice (some ⟨sb,0,none⟩) M capm] 66 (0,0))
 b4:W.heap[w.heap.size+1]? = some (.cells #[.int .i64 0,.int .i64 0,.slice none 0 0] 66 (0,0))
 bm:W.heap[b6]? = some (.cells #[.int .i64 N,.int .i64 C,.slice (some ⟨gb,0,none⟩) (N*C) (N*C)] 66 (0,0))
 be:Below w.heap.size w W
 lt:w.heap.size+1<gb∧gb<b6
theorem zto.step {R C M N sb capm gb b6:Nat} {w W W':World} (h:zto R C M N sb capm gb b6 w W) (hk:Kp [gb] W W'):zto R C M N sb capm gb b6 w W':=by obtain⟨l1,l2⟩:=h.lt;exact⟨hk.heap h.b2 (by simp;omega),hk.heap h.b4 (by simp;omega),hk.heap h.bm (by simp;omega),h.be.trans (hk.below (B:=w.heap.size) h.be.size (fun x hx=>by rw[Zaq] at hx;omega)),h.lt⟩
theorem zng {N C I:Nat} (h:I<N):I*C+C≤N*C:=by
 have:=za8 (C:=C) (zE3 (N*C)) h
 rwa[Zcc,Zbw] at this
theorem ydk {W:World} {sb M R C p:Nat} {A:Nat→Nat→GF} (h:zag W sb M (flat C A)) (hM:R*C=M) (hp:p<R):∀k,k<C→W.cell? ⟨sb,p*C+k,none⟩=some (.int .u8 (((A p k).n:Nat):Int)):=fun k hk=>by
 have:=(h.2 (p*C+k) (by rw[←hM];exact zaz hp hk)).1
 rwa[zab (by omega) _ _ _ hk] at this
theorem zvu (R C M sb capm:Nat) (v:Value) (ps:List Int) (A:Nat→Nat→GF) (w:World) (hV:zag w sb M (flat C A)) (hM:R*C=M) (hcm:M≤capm) (hG:IRd w v ps) (hp:∀(i:Nat) (x:Int),ps[i]? = some x→0≤x∧x<(R:Int))
  (hC0:0<C) (hC:C≤256) (hR:R≤256) (hn:ps.length≤256) :
  Calls Tryz.prog 114 #[.agg #[.int .i64 R,.int .i64 C,.slice (some ⟨sb,0,none⟩) M capm],v] w (zom C ps A w):=by
 obtain⟨a,cap,rfl⟩:=hG.form;obtain⟨N,hN⟩:=zE4 ps.length;have hVl:=hV.1;have HV:=Hd hV;have HG:=Hd hG;have HP:=Hd hp;have HN:=Hd hN;have HM:=Hd hM;have HRT:Hid (∀W,Calls Tryz.prog 77 #[.agg #[.int .i64 R,.int .i64 C,.slice (some ⟨sb,0,none⟩) M capm]] W fun e w'=>e=.returned (.bool true)∧Below W.heap.size W w'):=Hd fun W=>zcp R C _ M capm W (by omega) (by omega) hM.symm;rw[hN] at hn ⊢;have hNC:N*C≤65536:=by have:=Zai hn hC;omega
 have HNONE:=Hd (fun W=>zf8 N C (N*C) W rfl (by omega) (by omega) (by omega));obtain⟨q,hq⟩:=zE4 ((16777216:Int).tdiv (C:Int));have hq1:(256:Int)≤q∧q≤16777216:=by rw[←hq,Int.tdiv_eq_ediv_of_nonneg (by omega)];refine⟨(Int.le_ediv_iff_mul_le (by omega)).2 (by omega),Int.ediv_le_self _ (by omega)⟩
 have hq2:=zE6 q (by omega);have hq3:(N:Int)≤q:=by omega
 have hn0:¬(C:Int)=0:=by omega
 clear hV hG hp hN hM;go_enter Tryz.func114,Tryz.ntmps114;go_wp2_with fail;refine (HRT.out _).mono ?_;rintro e w1 ⟨rfl,hb1⟩;have b2:w1.heap[w.heap.size]? = some (.cells #[.int .i64 R,.int .i64 C,.slice (some ⟨sb,0,none⟩) M capm] 66 (0,0)):=zad hb1 (by (repeat (refine Eq.trans (h_A _ _ _ ?_) ?_;(· first|(simp;done)|(simp;omega))));exact nwE _ _ _ (by simp));have b4:w1.heap[w.heap.size+1]? = some (.cells #[.int .i64 0,.int .i64 0,.slice none 0 0] 66 (0,0)):=zad hb1 (by (repeat (refine Eq.trans (h_A _ _ _ ?_) ?_;(· first|(simp;done)|(simp;omega))));exact nwE _ _ _ (by simp));have HB1:Hid (Below w.heap.size w w1):=Hd ((((Zaa _ _).alloc (zE3 _) _).alloc (by simp) _).trans (hb1.mono (by simp;omega)));have y1:=cOH b2 (j:=1) rfl;have g1:=lOH b4;have B2:=Hd b2;have B4:=Hd b4;clear b2 b4 hb1;go_wp2_with fail;refine (HNONE.out _).mono ?_;rintro e w2 ⟨gb,rfl,hg1,hv2,hb2⟩;have hgb:w.heap.size+1<gb:=by omega
 have HPB:Hid (∀W,Below w2.heap.size w2 W→W.heap[w2.heap.size]? = some (.cells #[.int .i64 N,.int .i64 C,.slice (some ⟨gb,0,none⟩) (N*C) (N*C)] 66 (0,0))→zto R C M N sb capm gb w2.heap.size w W):=Hd fun W hW hm =>
  ⟨zad hW (zad hb2 B2.out),zad hW (zad hb2 B4.out),hm,(HB1.out.trans (hb2.mono HB1.out.size)).trans (hW.mono (Zat HB1.out.size hb2.size)),hgb,hv2.1⟩
 have HV2:=Hd hv2;clear hg1 hv2 hb2 y1 g1 B2 B4 HB1;go_upto_region 4 with fail
 have HB:Hid (zto R C M N sb capm gb w2.heap.size w (w2.alloc (.cells #[.int .i64 N,.int .i64 C,.slice (some ⟨gb,0,none⟩) (N*C) (N*C)] 66))):=Hd (HPB.out _ ((Zaa _ _).alloc (zE3 _) _) (nwA _ _));have HVG:Hid (zag (w2.alloc (.cells #[.int .i64 N,.int .i64 C,.slice (some ⟨gb,0,none⟩) (N*C) (N*C)] 66)) gb (N*C) (flat C (pkM ps A 0))):=Hd ((HV2.out.below ((Zaa _ _).alloc (zE3 _) _)).congr fun j hj=>by simp[flat,pkM]);have hu:Tryz.prog.underlying 22=some (.slice 5):=Tryz.underlying22;have hz:(Tryz.prog.info? 5).map (·.size)=some 1:=by kernel_rfl
 have HUZ:=Hd (Zao hu hz);generalize w2.alloc (.cells #[.int .i64 N,.int .i64 C,.slice (some ⟨gb,0,none⟩) (N*C) (N*C)] 66)=w3 at *;generalize w2.heap.size=b6 at *;clear HPB HV2 HNONE HRT hu hz;go_wp2;go_loopg [38] N (fun gk i wr=>∃I:Nat,I≤N∧gk=N-I∧i=.int .i64 I∧Hid (zto R C M N sb capm gb b6 w wr)∧Hid (zag wr gb (N*C) (flat C (pkM ps A I))))
 case atStart=>exact⟨0,by omega,rfl,rfl,HB,HVG⟩
 case round =>
  clear HB HVG;obtain⟨I,hI,rfl,rfl,HB,HVG⟩:=hrel;by_cases hlt:I<N
  ·obtain⟨x,hx⟩:∃x,ps[I]? = some x:=⟨_,zE1 (by rw[HN.out];exact hlt)⟩;obtain⟨hx0,hx1⟩:=HP.out I x hx;obtain⟨p,rfl⟩:∃p:Nat,x=(p:Int):=⟨x.toNat,by omega⟩;obtain⟨-,-,b,o,rfl,hb,c0⟩:=IRd.cell (HG.out.below HB.out.be) hx;have hpR:p<R:=by omega
   have HROWK:Hid (∀W',Calls Tryz.prog 79 #[.agg #[.int .i64 N,.int .i64 C,.slice (some ⟨gb,0,none⟩) (N*C) (N*C)],.int .i64 I] W' fun e w'=>e=.returned (.slice (some ⟨gb,I*C,none⟩) C C)∧Below W'.heap.size W' w'):=Hd (fun W'=>(zb2 N C I gb 0 (N*C) (N*C) W' hC0 (za8 (zE3 _) hlt) (by have:=za8 (C:=C) (zE3 (N*C)) hlt;omega)).mono fun e w' h=>by simpa using h);have HROWP:Hid (∀W',Calls Tryz.prog 79 #[.agg #[.int .i64 R,.int .i64 C,.slice (some ⟨sb,0,none⟩) M capm],.int .i64 p] W' fun e w'=>e=.returned (.slice (some ⟨sb,p*C,none⟩) C C)∧Below W'.heap.size W' w'):=Hd (fun W'=>(zb2 R C p sb 0 M capm W' hC0 (za8 (by rw[HM.out];exact hcm) hpR) (by have h1:=za8 (C:=C) (zE3 (R*C)) hpR;have h2:=Zai hR hC;omega)).mono fun e w' h=>by simpa using h);have z0:=cOH HB.out.b2 (j:=0) rfl;have z1:=cOH HB.out.b2 (j:=1) rfl;have z2:=cOH HB.out.b2 (j:=2) rfl;have m0:=cOH HB.out.bm (j:=0) rfl;have m1:=cOH HB.out.bm (j:=1) rfl;have m2:=cOH HB.out.bm (j:=2) rfl;have g2:=lOH HB.out.b2;have gm:=lOH HB.out.bm;obtain⟨l1,l2⟩:=HB.out.lt;have HSRC:Hid (zag wr sb M (flat C A)):=Hd (HV.out.below HB.out.be);have hpd:(ps.getD I 0).toNat=p:=by rw[zE2,hx];rfl
   have HPD:=Hd hpd;obtain⟨kp,hkp⟩:∃kp:Nat→Bool,∀k,kp k=true↔k<wr.heap.size∧k≠gb:=⟨fun k=>decide (k<wr.heap.size∧k≠gb),by simp⟩;have k1:kp w.heap.size=true:=(hkp _).2 ⟨by omega,by omega⟩;have k2:kp b6=true:=(hkp _).2 ⟨by omega,by omega⟩;have HKP:=Hd hkp;have HPRR:=Hd hpR;have q1:(0:Int)≤(I:Int)∧(I:Int)<(N:Int):=by omega
   clear hkp hpd hx hpR;go_upto_region 9 with fail
   have hgr:=hgK (fun k=>kp k=true);refine w_T (fun k=>kp k=true) [2,5,6] (.sq [0,1,3,4,2,5,6] .done) (by kernel_rfl) (by kernel_rfl) ?_;simp only[TQ,Oper.slim,Nat.reduceBEq,Nat.reduceAdd]
   repeat' first|((with_reducible refine w_I ?_);first|(with_reducible refine w_D ?_)|((with_reducible refine w_S (fun K hK=>?_));go_simp;first|(refine hK _ _ ?_;clear hK K)|(refine⟨by (intro kk hkk;first|(simp (disch:=(simp;omega)) only[h_D,h_N,h_A,h_S];done)|(simp[h_D,h_N,h_I,hkk];done)|(have hkk2:=(HKP.out kk).1 hkk;simp (disch:=(first|exact hkk2|(simp;done)|(simp;omega))) only[h_D,h_N,h_A,h_S];first|done|exact (HCP.out.2.block kk (Zaf hkk2.1 HB8.out.size) (by simpa using hkk2.2)).trans (HB8.out.block kk hkk2.1))),hK _ _ ?_⟩;clear hK K)|(go_at_call 79;(with_reducible refine (HROWK.out _).mono ?_);rintro e w7 ⟨rfl,hb7⟩;refine⟨_,rfl,(fun kk hkk=>hb7.block kk ((HKP.out kk).1 hkk).1),hK _ _ ?_⟩;clear hK K)|(go_at_call 79;(with_reducible refine (HROWP.out _).mono ?_);rintro e w8 ⟨rfl,hb8⟩;have hb38:Below wr.heap.size wr w8:=(((Zaa _ _).drew).trans hb7).trans (hb8.mono hb7.size);have HB8:=Hd hb38;have hcp:=zls (P:=Tryz.prog) (HVG.out.below hb38) (o:=I*C) (C:=C) (zng hlt) (sb:=sb) (so:=p*C) (c1:=C) (c2:=C) (fun k=>A p k) (ydk (HSRC.out.below hb38) HM.out HPRR.out) 22 22 3 5 HUZ.out.1 HUZ.out.2;have hrc:=hcp.1;have HCP:=Hd hcp.2;clear hcp hb8 hb38;refine⟨_,rfl,(fun kk hkk=>HB8.out.block kk ((HKP.out kk).1 hkk).1),hK _ _ ?_⟩;clear hK K)|(refine⟨(fun kk hkk=>(HCP.out.2.block kk (Zaf ((HKP.out kk).1 hkk).1 HB8.out.size) (by simpa using ((HKP.out kk).1 hkk).2)).trans (HB8.out.block kk ((HKP.out kk).1 hkk).1)),hK _ _ ?_⟩;clear hK K)))|fail
   clear hgr;have hk9:Kp [gb] wr (w8.setCells gb (I*C) (zj9 C fun k=>A p k)):=(Kp.of_below HB8.out).trans HCP.out.2;have HB9:=Hd (HB.out.step hk9);have HV9:Hid (zag (w8.setCells gb (I*C) (zj9 C fun k=>A p k)) gb (N*C) (flat C (pkM ps A (I+1)))):=Hd (HCP.out.1.congr fun j hj=>by
    obtain⟨r,k,hr,hk,rfl⟩:=za2 (R:=N) hC0 hj;rw[zab hC0 _ _ _ hk,zab hC0 _ _ _ hk];by_cases e:r=I
    ·rw[if_pos ((zdo (a:=I) hk).2 e),e,Zbi];simp only[pkM];rw[if_pos (by omega),HPD.out]
    ·rw[if_neg (fun h=>e ((zdo (a:=I) hk).1 h))];simp only[pkM];by_cases e2:r<I
     ·rw[if_pos e2,if_pos (by omega)]
     ·rw[if_neg e2,if_neg (by omega)])
   clear hk9;go_wp2;go_roundg (N-(I+1))
   case measure=>omega
   case rel=>exact⟨I+1,by omega,rfl,by go_num,HB9,HV9⟩
  ·obtain rfl:I=N:=by omega
   have m0:=cOH HB.out.bm (j:=0) rfl;have m1:=cOH HB.out.bm (j:=1) rfl;have m2:=cOH HB.out.bm (j:=2) rfl;have y0:=cOH HB.out.b4 (j:=0) rfl;have y1:=cOH HB.out.b4 (j:=1) rfl;have y2:=cOH HB.out.b4 (j:=2) rfl;have x0:=fOH HB.out.b4 0;have x1:=fOH HB.out.b4 1;have x2:=fOH HB.out.b4 2;have g4:=lOH HB.out.b4;go_wp2;refine bodyPost_ret (v:=.tuple #[.agg #[.int .i64 I,.int .i64 C,.slice (some ⟨gb,0,none⟩) (I*C) (I*C)],.int .i64 0]) (by simp[results,Tryz.results114,go_sem,y0,y1,y2,x0,x1,x2]) rfl ?_;obtain⟨l1,l2⟩:=HB.out.lt;have hk:Kp [w.heap.size+1] wr (((wr.setCell ⟨w.heap.size+1,0,none⟩ (.int .i64 I)).setCell ⟨w.heap.size+1,1,none⟩ (.int .i64 C)).setCell ⟨w.heap.size+1,2,none⟩ (.slice (some ⟨gb,0,none⟩) (I*C) (I*C))) :=
    (((Kp.refl _ _).setCell (.inl (by simp)) _).setCell (.inl (by simp)) _).setCell (.inl (by simp)) _
   refine⟨gb,by rw[HN.out],by omega,?_,HB.out.be.trans (hk.below (B:=w.heap.size) HB.out.be.size (fun x hx=>by rw[Zaq] at hx;omega))⟩;rw[HN.out];refine (HVG.out.kp hk (by simp;omega)).congr fun j hj=>?_;obtain⟨r,k,hr,hk,rfl⟩:=za2 (R:=I) hC0 hj;rw[zab hC0 _ _ _ hk,zab hC0 _ _ _ hk];simp only[pkM];rw[if_pos hr]
attribute [local go_sem] Oper.semAt_some
noncomputable def pwM (l:List GF) (P:Nat→Nat→Bool):Nat→Nat→GF:=fun i c=>if P i c=true then pw (l.getD i 0) c else 0
def zpy (fb Kn:Nat) (l:List GF) (w:World) (e:Ending) (w':World):Prop :=
 ∃b,e=.returned (.agg #[.int .i64 l.length,.int .i64 Kn,.slice (some ⟨b,0,none⟩) (l.length*Kn) (l.length*Kn)])∧w.heap.size≤b∧zag w' b (l.length*Kn) (flat Kn (fun i c=>pw (l.getD i 0) c))∧Kp [fb] w w'∧FOk w' fb
def ydu (w:World) (b7:Nat) (u:Nat→Value):Array Value:=#[u 0,u 1,u 2,.pointer (some ⟨w.heap.size,0,none⟩),.pointer (some ⟨w.heap.size+1,0,none⟩),u 5,.pointer (some ⟨w.heap.size+1+1,0,none⟩),.pointer (some ⟨b7,0,none⟩),u 8,u 9,u 10,u 11,u 12,u 13,u 14,u 15,u 16,u 17,u 18,u 19,u 20,u 21,u 22,u 23,u 24,u 25,u 26,u 27,u 28,u 29,u 30,u 31,u 32,u 33,u 34,u 35,u 36,u 37,u 38,u 39,u 40,u 41,u 42,u 43,u 44,u 45,u 46,u 47,u 48,u 49,u 50,u 51,u 52,u 53,u 54,u 55,u 56]
theorem GRd.cell' {w:World} {b o n cap:Nat} {l:List GF} (h:GRd w (.slice (some ⟨b,o,none⟩) n cap) l) {i:Nat} {x:GF} (hi:l[i]? = some x):b<w.heap.size∧w.cell? ⟨b,o+i,none⟩=some (.int .u8 (x.n:Int)):=by obtain⟨b',o',e,h1,h2⟩:=h.at hi;cases e;exact⟨h1,h2⟩
theorem yds {Kn N:Nat} (l:List GF) (Pr:List Nat) {i c:Nat} (hc:c<Kn) {j:Nat} (hj:j<N*Kn) :
  (if j=i*Kn+c then pw (l.getD i 0) c else flat Kn (pwM l (fun r d=>decide (r∈Pr) || (decide (r=i) && decide (d<c)))) j)=flat Kn (pwM l (fun r d=>decide (r∈Pr) || (decide (r=i) && decide (d<c+1)))) j:=by
 obtain⟨r,k,hr,hk,rfl⟩:=za2 (R:=N) (by omega) hj;rw[zab (by omega) _ _ _ hk,zab (by omega) _ _ _ hk];by_cases e:r*Kn+k=i*Kn+c
 ·have hri:r=i:=(zdo (a:=i) hk).1 (by omega);subst hri;have hkc:k=c:=by omega
  subst hkc;rw[if_pos rfl];simp[pwM]
 ·rw[if_neg e];by_cases hri:r=i
  ·subst hri;have hkc:k≠c:=fun h=>e (by rw[h]);have:decide (k<c+1)=decide (k<c):=by rw[decide_eq_decide];omega
   simp only[pwM,this]
  ·simp only[pwM,decide_eq_false hri,Bool.false_and]
structure yc5 (fb gb b7 N Kn M:Nat) (a:Option Addr) (cap:Nat) (w W:World):Prop where
 ok:FOk W fb
 b3:W.heap[w.heap.size]? = some (.cells #[.pointer (some ⟨fb,0,none⟩)] 29 (0,0))
 b4:W.heap[w.heap.size+1]? = some (.cells #[.slice a N cap] 22 (0,0))
 b6:W.heap[w.heap.size+1+1]? = some (.cells #[.int .i64 0,.int .i64 0,.slice none 0 0] 66 (0,0))
 bm:W.heap[b7]? = some (.cells #[.int .i64 N,.int .i64 Kn,.slice (some ⟨gb,0,none⟩) M M] 66 (0,0))
 kp:Kp [fb] w W
 lt:fb<w.heap.size∧w.heap.size+1+1<gb∧gb<b7
theorem yc5.step {fb gb b7 N Kn M:Nat} {a:Option Addr} {cap:Nat} {w W W':World} (h:yc5 fb gb b7 N Kn M a cap w W) {S:List Nat} (hk:Kp S W W') (hS:∀x∈S,x=fb∨x=gb∨b7<x) (hf:FOk W' fb):yc5 fb gb b7 N Kn M a cap w W':=by
 obtain⟨h1,h2,h3⟩:=h.lt;have hn:∀k,k≠fb→k≠gb→k≤b7→k∉S:=fun k g1 g2 g3 hm=>by rcases hS k hm with e|e|e<;>omega
 exact⟨hf,hk.heap h.b3 (hn _ (by omega) (by omega) (by omega)),hk.heap h.b4 (hn _ (by omega) (by omega) (by omega)),hk.heap h.b6 (hn _ (by omega) (by omega) (by omega)),hk.heap h.bm (hn _ (by omega) (by omega) (by omega)),h.kp.step hk (fun x hx=>by rcases hS x hx with e|e|e;exact .inl (by simp[e]);exact .inr (by omega);exact .inr (by omega)),h.lt⟩
theorem zkr (fb Kn:Nat) (v:Value) (l:List GF) (w:World) (hF:FOk w fb) (hG:GRd w v l) (ha:za0 v [fb]) (h0:0<l.length) (hl:l.length≤256) (hK0':0<Kn) (hK:Kn≤256) :
  Calls Tryz.prog 38 #[.pointer (some ⟨fb,0,none⟩),v,.int .i64 Kn] w (zpy fb Kn l w):=by
 obtain⟨T,hT1,hT2⟩:=zkm hG ha;obtain⟨a,cap,rfl,hcap⟩:=hG.form;have hfw:=hF.lt;have HF:=Hd hF;have HG:=Hd hG;have HAP:=Hd ha;clear hF hG hT1 hT2 ha;obtain⟨N,hN⟩:=zE4 l.length;obtain⟨M,hM⟩:=zE4 (N*Kn);have hMb:M≤65536:=by rw[←hM];have:=Zai (show N≤256 by omega) hK;omega
 have HN:=Hd hN;have HM:=Hd hM;rw[hN] at hcap hl h0 ⊢;obtain⟨q,hq⟩:=zE4 ((16777216:Int).tdiv (N:Int));have hq1:(256:Int)≤q∧q≤16777216:=by rw[←hq,Int.tdiv_eq_ediv_of_nonneg (by omega)];refine⟨(Int.le_ediv_iff_mul_le (by omega)).2 (by omega),Int.ediv_le_self _ (by omega)⟩
 have hq2:=zE6 q (by omega);have hq3:(Kn:Int)≤q:=by omega
 have hn0:¬(N:Int)=0:=by omega
 have HNONE:=Hd (fun W=>zf8 N Kn M W hM (by omega) (by omega) (by omega));clear hN hM;refine zav Tryz.func38 rfl ?_;simp only[Tryz.ntmps38,TR,Nat.reduceAdd,Nat.reduceSub];go_wp2_with fail;refine (HNONE.out _).mono ?_;rintro e w1 ⟨gb,rfl,hg1,hv1,hb1⟩;have b3:w1.heap[w.heap.size]? = some (.cells #[.pointer (some ⟨fb,0,none⟩)] 29 (0,0)):=zad hb1 (by (repeat (refine Eq.trans (h_A _ _ _ ?_) ?_;(· first|(simp;done)|(simp;omega))));exact nwE _ _ _ (by simp));have b4:w1.heap[w.heap.size+1]? = some (.cells #[.slice a N cap] 22 (0,0)):=zad hb1 (by (repeat (refine Eq.trans (h_A _ _ _ ?_) ?_;(· first|(simp;done)|(simp;omega))));exact nwE _ _ _ (by simp));have b6:w1.heap[w.heap.size+1+1]? = some (.cells #[.int .i64 0,.int .i64 0,.slice none 0 0] 66 (0,0)):=zad hb1 (by (repeat (refine Eq.trans (h_A _ _ _ ?_) ?_;(· first|(simp;done)|(simp;omega))));exact nwE _ _ _ (by simp));have HB1:Hid (Below w.heap.size w w1):=Hd (((((Zaa _ _).alloc (zE3 _) _).alloc (by simp) _).alloc (by simp;omega) _).trans (hb1.mono (by simp;omega)));have hg2:w.heap.size+1+1<gb:=by simp at hg1;omega
 have HV1:=Hd hv1;have B3:=Hd b3;have B4:=Hd b4;have B6:=Hd b6;clear b3 b4 b6 hg1 hv1 hb1 HNONE;go_wp2_with (go_at_call 72;refine (zer N Kn gb M M _).mono ?_;rintro e w2 ⟨rfl,hb2,hbx2⟩);have HPB:Hid (yc5 fb gb w1.heap.size N Kn M a cap w w2):=Hd (by
  have h2:Below w1.heap.size w1 w2:=((Zaa _ _).alloc (zE3 _) _).trans (hb2.mono (by simp));refine⟨(HF.out.below HB1.out).below h2,zad h2 B3.out,zad h2 B4.out,zad h2 B6.out,zad hb2 (nwA _ _),Kp.of_below (HB1.out.trans (h2.mono HB1.out.size)),hfw,hg2,HV1.out.1⟩)
 have HV2:Hid (zag w2 gb M (fun _=>0)):=Hd (HV1.out.below (((Zaa _ _).alloc (zE3 _) _).trans (hb2.mono (by simp))));obtain⟨b7,hb7⟩:=zE4 w1.heap.size;have HBX:Hid (zhp w2 (b7+1) N Kn gb M M):=Hd (by rw[←hb7];simpa using hbx2);have hbl:b7+1<w2.heap.size:=HBX.out.lt;rw[hb7] at HPB;clear hb2 hbx2 B3 B4 B6 HV1 HB1;refine zc3 (ydu w b7) _ (by rw[←hb7];kernel_rfl) 37 (.func (.func 110) #[] #[.pointer (some ⟨b7+1,0,none⟩)]) (by rw[←hb7];simp) ?_;clear hb7;intro u hu;have HU:=Hd hu;clear hu;obtain⟨l1,l2,l3⟩:=HPB.out.lt;refine zfr (gf:=110) (lb:=#[.pointer (some ⟨b7+1,0,none⟩)]) (show u 37=_ from HU.out) (enters_of Tryz.func110 (by kernel_rfl) rfl) (ziz N Kn gb M M (b7+1) w2 HBX.out hK0' (by have:=HM.out;omega) (by omega) (by have:=HM.out;omega)) (Zaa _ _) hbl (fun _=>rfl) [fb,gb] (by simp;omega)
  (fun pre W=>yc5 fb gb b7 N Kn M a cap w W∧zag W gb M (flat Kn (pwM l (fun r _=>decide (r∈pre.map Fin.val)))))
  (zcq fun s W W' r h hr hk=>by
   have hn:∀k,k<w2.heap.size→k∉r:=fun k hk hm=>by have:=hr k hm;omega
   exact⟨h.1.step hk (fun x hx=>.inr (.inr (by have:=hr x hx;omega))) (h.1.ok.kp hk (hn _ (by omega))),h.2.kp hk (hn _ (by omega))⟩)
  ⟨HPB.out,HV2.out.congr fun j hj=>by simp[flat,pwM]⟩
  (fun x=>{ tmps:=#[u 0,u 1,u 2,.pointer (some ⟨w.heap.size,0,none⟩),.pointer (some ⟨w.heap.size+1,0,none⟩),u 5,.pointer (some ⟨w.heap.size+1+1,0,none⟩),.pointer (some ⟨b7,0,none⟩),u 8,u 9,u 10,u 11,u 12,u 13,u 14,u 15,u 16,u 17,u 18,u 19,u 20,u 21,u 22,u 23,u 24,u 25,u 26,u 27,u 28,u 29,u 30,u 31,u 32,u 33,u 34,u 35,u 36,u 37,.int .i64 (x.val:Nat),.slice (some ⟨gb,x.val*Kn,none⟩) Kn Kn,u 40,u 41,u 42,u 43,u 44,u 45,u 46,u 47,u 48,u 49,u 50,u 51,u 52,u 53,u 54,u 55,u 56],defers:=[] })
  (fun x=>{ tmps:=#[u 0,u 1,u 2,.pointer (some ⟨w.heap.size,0,none⟩),.pointer (some ⟨w.heap.size+1,0,none⟩),u 5,.pointer (some ⟨w.heap.size+1+1,0,none⟩),.pointer (some ⟨b7,0,none⟩),.int .i64 (x.val:Nat),.slice (some ⟨gb,x.val*Kn,none⟩) Kn Kn,u 10,u 11,u 12,u 13,u 14,u 15,u 16,u 17,u 18,u 19,u 20,u 21,u 22,u 23,u 24,u 25,u 26,u 27,u 28,u 29,u 30,u 31,u 32,u 33,u 34,u 35,u 36,u 37,.int .i64 (x.val:Nat),.slice (some ⟨gb,x.val*Kn,none⟩) Kn Kn,u 40,u 41,u 42,u 43,u 44,u 45,u 46,u 47,u 48,u 49,u 50,u 51,u 52,u 53,u 54,u 55,u 56],defers:=[] }) (fun x=>by kernel_rfl) ?assign ?body ?done
 case assign =>
  intro lv x W K hK;gi_wp2;exact hK
 case body =>
  rintro lv pre ⟨i,hi⟩ W ⟨hB,hV⟩ hlt hsz;dsimp only;obtain⟨Pr,hPr⟩:=zE4 (pre.map Fin.val);rw[hPr] at hV;have HPR:=Hd hPr;have HB:=Hd hB;have HV:Hid (zag W gb M (flat Kn (pwM l (fun r d=>decide (r∈Pr) || (decide (r=i) && decide (d<0)))))):=Hd (hV.congr fun j hj=>by simp[flat,pwM]);clear hPr hB hV hlt hsz HPB HV2 HBX;gi_wp2;gi_loopw [42] (fun s wr=>∃c:Nat,c≤Kn∧s=.int .i64 (c:Nat)∧Hid (yc5 fb gb b7 N Kn M a cap w wr)∧Hid (zag wr gb M (flat Kn (pwM l (fun r d=>decide (r∈Pr) || (decide (r=i) && decide (d<c))))))∧Hid (Kp [fb,gb] W wr))
   (fun s _=>Kn-(intOf s).toNat)
  case atStart=>exact⟨0,Zbp _,rfl,HB,HV,Hd (Kp.refl _ _)⟩
  case round =>
   clear HB HV;obtain⟨c,hc,rfl,HB,HV,HK⟩:=hrel;by_cases hlt:c<Kn
   ·obtain⟨x,hx⟩:∃x,l[i]? = some x:=⟨_,zE1 (by rw[HN.out];exact hi)⟩;have hxs:=(HG.out.kp HB.out.kp HAP.out);rw[HN.out] at hxs;obtain⟨bb,oo,rfl,hbb,cx⟩:=hxs.at hx;have hbf:bb≠fb:=by have:=HAP.out bb rfl;simpa using this
    have hbw:bb<w.heap.size:=by have h2:=HG.out;rw[HN.out] at h2;exact (GRd.cell' h2 hx).1
    have hij:i*Kn+c<M:=by rw[←HM.out];exact zaz hi hlt
    obtain⟨c1,f1⟩:=HV.out.2 (i*Kn+c) hij;have y3:=cOH HB.out.b3 (j:=0) rfl;have y4:=cOH HB.out.b4 (j:=0) rfl;have g3:=lOH HB.out.b3;have g4:=lOH HB.out.b4;have gg:=HV.out.1;have q1:(0:Int)≤(i:Int)∧(i:Int)<(N:Int):=by omega
    have q2:(0:Int)≤(c:Int)∧(c:Int)<(Kn:Int):=by omega
    obtain⟨z,hz⟩:∃z,(flat Kn (pwM l (fun r d=>decide (r∈Pr) || (decide (r=i) && decide (d<c)))) (i*Kn+c)).n=z:=⟨_,rfl⟩;rw[hz] at c1;have HPOW:Hid (∀W,FOk W fb→Calls Tryz.prog 73 #[.pointer (some ⟨fb,0,none⟩),.int .u8 (x.n:Nat),.int .i64 (c:Nat)] W (zeq fb (pw x c) W)):=Hd fun W h=>zq3 x c fb W h (by omega);have hxd:l.getD i 0=x:=by rw[zE2,hx];rfl
    have HSET:Hid (∀W,zag W gb M (flat Kn (pwM l (fun r d=>decide (r∈Pr) || (decide (r=i) && decide (d<c)))))→zag (W.setCell ⟨gb,i*Kn+c,none⟩ (.int .u8 ((pw x c).n:Nat))) gb M (flat Kn (pwM l (fun r d=>decide (r∈Pr) || (decide (r=i) && decide (d<c+1)))))):=Hd fun W h=>(h.set hij (pw x c)).congr fun j hj=>by rw[←yds (Kn:=Kn) (N:=N) l Pr (i:=i) hlt (by rw[HM.out];exact hj),hxd]
    unfold zeq at HPOW;obtain⟨xn,hxn⟩:=zE4 x.n;obtain⟨pn,hpn⟩:=zE4 ((pw x c).n);rw[hxn] at cx;rw[hxn,hpn] at HPOW;rw[hpn] at HSET;obtain⟨kp,hkp⟩:∃kp:Nat→Bool,∀k,kp k=true↔k<wr.heap.size∧k≠fb∧k≠gb:=⟨fun k=>decide (k<wr.heap.size∧k≠fb∧k≠gb),by simp⟩;have k1:kp w.heap.size=true:=(hkp _).2 ⟨by omega,by omega,by omega⟩;have k2:kp (w.heap.size+1)=true:=(hkp _).2 ⟨by omega,by omega,by omega⟩;have k3:kp bb=true:=(hkp _).2 ⟨by omega,by omega,by omega⟩;have HKP:=Hd hkp;clear hkp hx hxs hz hxd hxn hpn hij;gi_wp2;have hgr:=hgK (fun k=>kp k=true);refine zak (fun k=>kp k=true) [8,10] (.sq [0,1,2,3,4,5,6,7,8,9,10] .done) (by kernel_rfl) (by kernel_rfl) (by kernel_rfl) ?_;simp only[TQ,Oper.slim,Nat.reduceBEq,Nat.reduceAdd]
    repeat' first|((with_reducible refine w_I ?_);first|(with_reducible refine w_D ?_)|((with_reducible refine w_S (fun K hK=>?_));go_simp;first|(refine hK _ _ ?_;clear hK K)|(refine⟨by (intro kk hkk;first|(simp (disch:=(simp;omega)) only[h_D,h_N,h_A,h_S];done)|(simp[h_D,h_N,h_I,hkk];done)|(have hkk2:=(HKP.out kk).1 hkk;simp (disch:=(first|exact hkk2|(simp;done)|(simp;omega))) only[h_D,h_N,h_A,h_S];first|done|exact HK5.out.block kk hkk2.1 (by have:=hkk2.2.1;simpa using this))),hK _ _ ?_⟩;clear hK K)|(go_at_call 73;(with_reducible refine (HPOW.out _ (HB.out.ok.below ((Zaa _ _).drew))).mono ?_);rintro e w5 ⟨rfl,hk5,hf5⟩;have c5:=(hk5.cell (p:=⟨gb,i*Kn+c,none⟩) gg (by simp;omega)).trans c1;have f5:=(hk5.frozen (p:=⟨gb,i*Kn+c,none⟩) gg (by simp;omega)).trans f1;have HK5:=Hd hk5;have HF5:=Hd hf5;clear hk5 hf5;refine⟨_,rfl,(fun kk hkk=>HK5.out.block kk ((HKP.out kk).1 hkk).1 (by have:=((HKP.out kk).1 hkk).2;simpa using this.1)),hK _ _ ?_⟩;clear hK K)))|fail
    clear hgr;have hk6:Kp [gb] w5 (w5.setCell ⟨gb,i*Kn+c,none⟩ (.int .u8 (pn:Nat))):=(Kp.refl _ _).setCell (.inl (by simp)) _;have hk7:Kp [fb,gb] wr (w5.setCell ⟨gb,i*Kn+c,none⟩ (.int .u8 (pn:Nat))):=((((Kp.refl [fb,gb] wr).drew).trans (HK5.out.mono (by simp)))).trans (hk6.mono (by simp));have HB7:=Hd (HB.out.step hk7 (fun x hx=>by simp at hx;omega) (HF5.out.kp hk6 (by simp;omega)));have HV7:=Hd (HSET.out w5 ((HV.out.drew).kp HK5.out (by simp;omega)));have HK7:=Hd (HK.out.trans hk7);clear hk6 hk7;gi_wp2;go_roundw
    case rel=>exact⟨c+1,by omega,by simp,HB7,HV7,HK7⟩
    case measure=>simp[intOf]<;>omega
   ·obtain rfl:c=Kn:=by omega
    have HEND:Hid (Kp [fb,gb] W wr∧yc5 fb gb b7 N c M a cap w wr∧zag wr gb M (flat c (pwM l (fun r _=>decide (r∈(pre++[(⟨i,hi⟩:Fin N)]).map Fin.val))))):=Hd ⟨HK.out,HB.out,HV.out.congr fun j hj=>by
     obtain⟨r,k,hr,hk,rfl⟩:=za2 (R:=N) hK0' (by rw[HM.out];exact hj);rw[zab hK0' _ _ _ hk,zab hK0' _ _ _ hk];simp[pwM,HPR.out,hk]⟩
    gi_wp2;refine⟨HEND.out.1,HEND.out.2.1,HEND.out.2.2.congr fun j hj=>?_⟩;simp[flat,pwM]
 case done =>
  rintro D0 xs W hD0 rfl ⟨hB,hV⟩ hK0;have HB:=Hd hB;have HV:Hid (zag W gb M (flat Kn (fun i c=>pw (l.getD i 0) c))):=Hd (hV.congr fun j hj=>by
   obtain⟨r,k,hr,hk,rfl⟩:=za2 (R:=N) hK0' (by rw[HM.out];exact hj);rw[zab hK0' _ _ _ hk,zab hK0' _ _ _ hk];have:r∈(List.finRange N).map Fin.val:=Zau.2 ⟨⟨r,hr⟩,List.mem_finRange _,rfl⟩;simp only[pwM,this,decide_true,if_true])
  have HK0:=Hd hK0;have HD0:=Hd hD0;have m0:=cOH hB.bm (j:=0) rfl;have m1:=cOH hB.bm (j:=1) rfl;have m2:=cOH hB.bm (j:=2) rfl;have y0:=cOH hB.b6 (j:=0) rfl;have y1:=cOH hB.b6 (j:=1) rfl;have y2:=cOH hB.b6 (j:=2) rfl;have z0:=fOH hB.b6 0;have z1:=fOH hB.b6 1;have z2:=fOH hB.b6 2;have g6:=lOH hB.b6;clear hB hV hK0 hD0;unfold ydu;go_wp2;have hD:=HD0.out;have hk:Kp [w.heap.size+1+1] W (((W.setCell ⟨w.heap.size+1+1,0,none⟩ (.int .i64 N)).setCell ⟨w.heap.size+1+1,1,none⟩ (.int .i64 Kn)).setCell ⟨w.heap.size+1+1,2,none⟩ (.slice (some ⟨gb,0,none⟩) M M)) :=
   (((Kp.refl _ _).setCell (.inl (by simp)) _).setCell (.inl (by simp)) _).setCell (.inl (by simp)) _
  have h6:(((W.setCell ⟨w.heap.size+1+1,0,none⟩ (.int .i64 N)).setCell ⟨w.heap.size+1+1,1,none⟩ (.int .i64 Kn)).setCell ⟨w.heap.size+1+1,2,none⟩ (.slice (some ⟨gb,0,none⟩) M M)).heap[w.heap.size+1+1]? = some (.cells #[.int .i64 N,.int .i64 Kn,.slice (some ⟨gb,0,none⟩) M M] 66 (0,0)):=by
   have:=hSS (hSS (hSS HB.out.b6 0 (.int .i64 N)) 1 (.int .i64 Kn)) 2 (.slice (some ⟨gb,0,none⟩) M M)
   simpa using this
  refine zal (B:=w.heap.size) [D0] _ (zbf.cons (zbf.nil _ _) (by omega) (hk.heap HK0.out (by simp;omega)) (by simp)) fun w' hk'=>⟨.agg #[.int .i64 N,.int .i64 Kn,.slice (some ⟨gb,0,none⟩) M M],?_,?_⟩
  ·have h7:=hk'.heap h6 (by simp;omega);have c0:w'.cell? ⟨w.heap.size+1+1,0,none⟩=some (.int .i64 N):=cOH h7 rfl;have c1:w'.cell? ⟨w.heap.size+1+1,1,none⟩=some (.int .i64 Kn):=cOH h7 rfl;have c2:w'.cell? ⟨w.heap.size+1+1,2,none⟩=some (.slice (some ⟨gb,0,none⟩) M M):=cOH h7 rfl;simp[results,Tryz.results38,go_sem,c0,c1,c2]
  ·refine⟨gb,by rw[HN.out,HM.out],by omega,?_,(HB.out.kp.step hk (fun x hx=>by simp at hx;right;omega)).step hk' (fun x hx=>by simp at hx;right;omega),(HB.out.ok.kp hk (by simp;omega)).kp hk' (by simp;omega)⟩;rw[HN.out,HM.out];exact (HV.out.kp hk (by simp;omega)).kp hk' (by simp;omega)
