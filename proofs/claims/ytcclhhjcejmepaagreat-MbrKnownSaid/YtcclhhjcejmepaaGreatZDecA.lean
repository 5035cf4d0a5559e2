import Derived.Test.YtcclhhjcejmepaaGreatZPM
set_option linter.all false
set_option maxRecDepth 100000
set_option maxHeartbeats 4000000
namespace Go.Proofs.YtcclhhjcejmepaaGreat
open Go.RowKit Fld Go.Shelf
structure zmo (w:World) (bx sb N:Nat) (S:Nat→Bool):Prop where
 box:w.heap[bx]? = some (.cells #[.slice (some ⟨sb,0,none⟩) N N] 144 (0,0))
 lt:sb<w.heap.size
 ne:bx≠sb
 cells:∀j,j<N→w.cell? ⟨sb,j,none⟩=some (.bool (S j))∧w.frozen? ⟨sb,j,none⟩=false
def zml (N:Nat) (S:Nat→Bool) (i:Int):Bool:=decide (i<0) || decide ((N:Int)≤i) || S i.toNat
def zr4 (N:Nat) (S:Nat→Bool) (i:Int):Nat→Bool:=if zml N S i=true then S else fun j=>if j=i.toNat then true else S j
theorem zmo.set {w:World} {bx sb N:Nat} {S:Nat→Bool} (h:zmo w bx sb N S) {i:Nat} (hi:i<N):zmo (w.setCell ⟨sb,i,none⟩ (.bool true)) bx sb N (fun j=>if j=i then true else S j):=by
 refine⟨?_,by simpa[World.setCell] using h.lt,h.ne,fun j hj=>?_⟩
 ·have:=((Kp.refl [sb] w).setCell (p:=⟨sb,i,none⟩) (.inl (by simp)) (.bool true)).heap h.box (by simpa using h.ne)
  exact this
 ·by_cases e:j=i
  ·subst e;rw[if_pos rfl];exact⟨World.cell?_setCell_same _ _ _ (h.cells j hj).1,by rw[Zcg];exact (h.cells j hj).2⟩
  ·rw[if_neg e];exact⟨(Zcn _ ⟨sb,i,none⟩ ⟨sb,j,none⟩ _ (by simp<;>omega)).trans (h.cells j hj).1,by rw[Zcg];exact (h.cells j hj).2⟩
def zrq (bx sb N:Nat) (S:Nat→Bool) (i:Int) (w:World) (e:Ending) (w':World):Prop:=e=.returned (.bool (zml N S i))∧zmo w' bx sb N (zr4 N S i)∧Kp [sb] w w'
theorem zzr (bx sb N:Nat) (S:Nat→Bool) (i:Int) (w:World) (h:zmo w bx sb N S) :
  Calls Tryz.prog 112 #[.int .i64 i,.pointer (some ⟨bx,0,none⟩)] w (zrq bx sb N S i w):=by
 have c0:=cOH h.box (j:=0) rfl;have H:=Hd h;clear h;by_cases h1:i<0
 ·have hb:zml N S i=true:=by simp[zml,h1]
  have HB:=Hd hb;clear hb;go_enter Tryz.func112,Tryz.ntmps112;go_wp2;go_ret;exact⟨by rw[HB.out];rfl,by unfold zr4;rw[if_pos HB.out];exact H.out,Kp.refl _ _⟩
 ·by_cases h2:(N:Int)≤i
  ·have hb:zml N S i=true:=by simp[zml,h2]
   have HB:=Hd hb;clear hb;go_enter Tryz.func112,Tryz.ntmps112;go_wp2;go_ret;exact⟨by rw[HB.out];rfl,by unfold zr4;rw[if_pos HB.out];exact H.out,Kp.refl _ _⟩
  ·obtain⟨j,rfl⟩:∃j:Nat,i=(j:Int):=⟨i.toNat,by omega⟩;have hj:j<N:=by omega
   obtain⟨c1,f1⟩:=H.out.cells j hj;have hlt:=H.out.lt;have q1:(0:Int)≤(j:Int)∧(j:Int)<(N:Int):=by omega
   obtain⟨s,hs⟩:=zE4 (S j);rw[hs] at c1;have hb:zml N S (j:Int)=s:=by rw[←hs];simp[zml];omega
   have HB:=Hd hb;have HJ:=Hd hj;clear hb hs hj;cases s
   ·go_enter Tryz.func112,Tryz.ntmps112;go_wp2;go_ret;exact⟨by rw[HB.out];rfl,by unfold zr4;rw[if_neg (by rw[HB.out];simp)];exact H.out.set HJ.out,(Kp.refl _ _).setCell (.inl (by simp)) _⟩
   ·go_enter Tryz.func112,Tryz.ntmps112;go_wp2;go_ret;exact⟨by rw[HB.out];rfl,by unfold zr4;rw[if_pos HB.out];exact H.out,Kp.refl _ _⟩
def zoq (N:Nat) (S:Nat→Bool) (l:List Int):Nat→Bool:=l.foldl (zr4 N) S
def yf3 (N sb:Nat) (S:Nat→Bool) (l:List Int) (w:World) (e:Ending) (w':World):Prop :=
 ∃r:Int,e=.returned (.int .i64 r)∧Kp [sb] w w'∧((r=-1∧∀(i:Nat) x,l[i]? = some x→zml N (zoq N S (l.take i)) x=false)∨∃I:Nat,r=I∧I<l.length∧∀x,l[I]? = some x→zml N (zoq N S (l.take I)) x=true)
theorem zwn (bx sb N:Nat) (S:Nat→Bool) (v:Value) (l:List Int) (w:World) (hS:zmo w bx sb N S) (h:IRd w v l) (hl:l.length≤1000000000) (ha:l≠[]→∀b o n c,v=.slice (some ⟨b,o,none⟩) n c→b≠sb) :
  Calls Tryz.prog 144 #[v,.func (.func 112) #[] #[.pointer (some ⟨bx,0,none⟩)]] w (yf3 N sb S l w):=by
 obtain⟨a,cap,rfl⟩:=h.form;have H:=Hd h;have HA:=Hd ha;have HS:=Hd hS;clear h hS ha;go_enter Tryz.func144,Tryz.ntmps144;go_wp2;go_loopg [8] l.length (fun gk i wr=>∃I:Nat,I≤l.length∧gk=l.length-I∧i=.int .i64 I∧Hid (∀(i:Nat) x,i<I→l[i]? = some x→zml N (zoq N S (l.take i)) x=false)∧Hid (zmo wr bx sb N (zoq N S (l.take I)))∧Hid (Kp [sb] w wr))
 case atStart=>exact⟨0,by omega,rfl,rfl,Hd (fun i c hi=>by omega),HS,Hd (Kp.refl _ _)⟩
 case round =>
  clear HS;obtain⟨I,hI,rfl,rfl,hN,HS,HK⟩:=hrel;by_cases hlt:I<l.length
  ·obtain⟨x,hx⟩:∃x,l[I]? = some x:=⟨_,zE1 hlt⟩;obtain⟨-,hcap,b,o,rfl,hb,c0⟩:=IRd.cell H.out hx;have hbs:b≠sb:=HA.out (fun e=>by rw[e] at hx;simp at hx) b o _ _ rfl;have c1:=(HK.out.cell (p:=⟨b,o+I,none⟩) hb (by simpa using hbs)).trans c0;have HX:=Hd hx;have HCALL:=Hd (zzr bx sb N _ x wr HS.out);have HNX:Hid (zr4 N (zoq N S (l.take I)) x=zoq N S (l.take (I+1))):=Hd (by rw[Zaz,hx];simp[zoq]);unfold zrq at HCALL;rw[HNX.out] at HCALL;obtain⟨pc,hpc⟩:∃y,y=zml N (zoq N S (l.take I)) x:=⟨_,rfl⟩;rw[←hpc] at HCALL;have HPC:=Hd hpc;clear hx hpc c0;cases pc
   ·go_wp2_with (go_at_call 112;(with_reducible refine HCALL.out.mono ?_);rintro e wc ⟨rfl,hs5,hk5⟩;have HS5:=Hd hs5;have HK5:=Hd (HK.out.trans hk5);clear hs5 hk5);have HN2:Hid (∀(i:Nat) c',i<I+1→l[i]? = some c'→zml N (zoq N S (l.take i)) c'=false):=Hd (fun i c' hi hc'=>by
     by_cases e:i=I
     ·subst e;have:c'=x:=by have:=HX.out;rw[hc'] at this;exact Zcd this
      subst this;exact HPC.out.symm
     ·exact hN.out i c' (by omega) hc')
    go_roundg (l.length-(I+1))
    case measure=>omega
    case rel=>exact⟨I+1,by omega,rfl,by go_num,HN2,HS5,HK5⟩
   ·go_wp2_with (go_at_call 112;(with_reducible refine HCALL.out.mono ?_);rintro e wc ⟨rfl,hs5,hk5⟩;have HK5:=Hd (HK.out.trans hk5);clear hs5 hk5);go_ret;exact⟨I,rfl,HK5.out,.inr ⟨I,rfl,hlt,fun c' hc'=>by
     have:c'=x:=by have:=HX.out;rw[hc'] at this;exact Zcd this
     subst this;exact HPC.out.symm⟩⟩
  ·obtain rfl:I=l.length:=by omega
   go_wp2;go_ret;exact⟨-1,rfl,HK.out,.inl ⟨rfl,fun i x hi=>hN.out i x (Zah.1 hi).1 hi⟩⟩
def yft (N sb:Nat) (S:Nat→Bool) (l:List Int) (w:World) (e:Ending) (w':World):Prop :=
 ∃b:Bool,e=.returned (.bool b)∧Kp [sb] w w'∧(b=false→∀(i:Nat) x,l[i]? = some x→zml N (zoq N S (l.take i)) x=false)∧(b=true→∃(i:Nat) (x:Int),l[i]? = some x∧zml N (zoq N S (l.take i)) x=true)
theorem zob (bx sb N:Nat) (S:Nat→Bool) (v:Value) (l:List Int) (w:World) (hS:zmo w bx sb N S) (h:IRd w v l) (hl:l.length≤1000000000) (ha:l≠[]→∀b o n c,v=.slice (some ⟨b,o,none⟩) n c→b≠sb) :
  Calls Tryz.prog 113 #[v,.func (.func 112) #[] #[.pointer (some ⟨bx,0,none⟩)]] w (yft N sb S l w):=by
 have HIDX:=Hd (zwn bx sb N S v l w hS h hl ha);obtain⟨a,cap,rfl⟩:=h.form;clear h hS ha;go_enter Tryz.func113,Tryz.ntmps113;go_wp2_with (go_at_call 144;(with_reducible refine HIDX.out.mono ?_);rintro e w1 ⟨r,rfl,hk,hr⟩;have HR:=Hd hr;have HK:=Hd hk;clear hr hk);go_ret;refine⟨decide ((0:Int)≤r),by rfl,HK.out,fun hb=>?_,fun hb=>?_⟩
 ·rcases HR.out with ⟨h1,h2⟩|⟨I,h1,h2,h3⟩
  ·exact h2
  ·have:=of_decide_eq_false hb
   omega
 ·rcases HR.out with ⟨h1,h2⟩|⟨I,h1,h2,h3⟩
  ·have:=of_decide_eq_true hb
   omega
  ·exact⟨I,l[I],zE1 h2,h3 _ (zE1 h2)⟩
end Go.Proofs.YtcclhhjcejmepaaGreat
namespace Go.Proofs.YtcclhhjcejmepaaGreat
open Go.RowKit Fld
theorem IRd.kp {S:List Nat} {w w':World} {v:Value} {l:List Int} (h:IRd w v l) (hk:Kp S w w') (ha:za0 v S):IRd w' v l:=by obtain⟨a,cap,rfl,h2,h3⟩:=h;refine⟨a,cap,rfl,h2,fun hne=>?_⟩;obtain⟨b,o,rfl,h5,h6⟩:=h3 hne;exact⟨b,o,rfl,Zaf h5 hk.size,fun i c hi j u hj=>(hk.cell (p:=⟨b,o+i*1+j,none⟩) h5 (ha b rfl)).trans (h6 i c hi j u hj)⟩
def zbc (N:Nat) (l:List Int):Prop:=(∀x∈l,0≤x∧x<(N:Int))∧l.Nodup
theorem zjj (N:Nat):∀(l:List Int) (S:Nat→Bool),(∀(i:Nat) x,l[i]? = some x→zml N (zoq N S (l.take i)) x=false)↔(∀x∈l,0≤x∧x<(N:Int)∧S x.toNat=false)∧l.Nodup
 | [],S=>by simp
 | a :: l,S=>by
  have e0:(zml N S a=false)↔0≤a∧a<(N:Int)∧S a.toNat=false:=by
   simp only[zml,Bool.or_eq_false_iff,decide_eq_false_iff_not];constructor
   ·rintro ⟨⟨h1,h2⟩,h3⟩;exact⟨by omega,by omega,h3⟩
   ·rintro ⟨h1,h2,h3⟩;exact⟨⟨by omega,by omega⟩,h3⟩
  constructor
  ·intro h;have h0:=h 0 a rfl;have ha:=e0.1 (by simpa[zoq] using h0);have hS:zr4 N S a=fun j=>if j=a.toNat then true else S j:=by unfold zr4;rw[if_neg (by rw[e0.2 ha];simp)]
   have ih:=(zjj N l (zr4 N S a)).1 fun i x hx=>h (i+1) x (by simpa using hx);rw[hS] at ih;refine⟨fun x hx=>?_,List.nodup_cons.2 ⟨fun hm=>?_,ih.2⟩⟩
   ·rcases Zbf.1 hx with rfl|hx
    ·exact ha
    ·obtain⟨h1,h2,h3⟩:=ih.1 x hx;refine⟨h1,h2,?_⟩;simp only[] at h3;by_cases e:x.toNat=a.toNat
     ·rw[if_pos e] at h3;cases h3
     ·rwa[if_neg e] at h3
   ·obtain⟨h1,h2,h3⟩:=ih.1 a hm;simp at h3
  ·rintro ⟨h1,h2⟩ i x hx;have ha:=h1 a (by simp);have hS:zr4 N S a=fun j=>if j=a.toNat then true else S j:=by unfold zr4;rw[if_neg (by rw[e0.2 ha];simp)]
   have hn:=List.nodup_cons.1 h2;cases i with
   | zero =>
    obtain rfl:a=x:=by simpa using hx
    simpa[zoq] using e0.2 ha
   | succ i =>
    have:=(zjj N l (zr4 N S a)).2 ⟨fun y hy=>by
     obtain⟨g1,g2,g3⟩:=h1 y (by simp[hy]);refine⟨g1,g2,?_⟩;rw[hS];have hne:y≠a:=fun e=>hn.1 (e ▸ hy);simp only[];rw[if_neg (by omega)];exact g3,hn.2⟩ i x (by simpa using hx)
    simpa[zoq] using this
theorem zmf (N:Nat) (l:List Int):(∀(i:Nat) x,l[i]? = some x→zml N (zoq N (fun _=>false) (l.take i)) x=false)↔zbc N l:=by rw[zjj];simp[zbc]
def zcj {F:Type} [Fld F] (xs:List F) (ps:List Int):List F:=ps.map fun p=>xs.getD p.toNat 0
theorem zgf {F:Type} [Fld F] {xs:List F} (hn:xs.Nodup) {i j:Nat} (hi:i<xs.length) (hj:j<xs.length) (h:xs.getD i 0=xs.getD j 0):i=j:=by
 rw[zE2,zE1 hi,zE2,zE1 hj] at h;simp only[Option.getD_some] at h;rcases Nat.lt_trichotomy i j with e|e|e
 ·exact absurd h (Zbq.1 hn i j hi hj e)
 ·exact e
 ·exact absurd h.symm (Zbq.1 hn j i hj hi e)
theorem zdn {F:Type} [Fld F] {xs:List F} (hn:xs.Nodup) {ps:List Int} (hg:zbc xs.length ps):(zcj xs ps).Nodup:=by obtain⟨h1,h2⟩:=hg;unfold zcj;refine Zbz.2 (h2.imp_of_mem fun {a b} ha hb hne e=>hne ?_);obtain⟨a1,a2⟩:=h1 a ha;obtain⟨b1,b2⟩:=h1 b hb;have:=zgf hn (i:=a.toNat) (j:=b.toNat) (by omega) (by omega) e;omega
def ztp {F:Type} [Fld F] (xs:List F) (k:Nat) (ps:List Int) (ys m:List F):Prop:=m.length=k∧∀i,i<ps.length→ev m (xs.getD (ps.getD i 0).toNat 0)=ys.getD i 0
theorem zzf {F:Type} [Fld F] {xs:List F} {k:Nat} {ps:List Int} {ys m m':List F} (hn:xs.Nodup) (hg:zbc xs.length ps) (hk:k≤ps.length) (h:ztp xs k ps ys m) (h':ztp xs k ps ys m'):m=m':=by refine zn5 (zdn hn hg) (h.1.trans h'.1.symm) (by rw[h.1];simp[zcj];omega) fun x hx=>?_;obtain⟨p,hp,rfl⟩:=Zau.1 hx;obtain⟨i,hi,rfl⟩:=List.mem_iff_getElem.1 hp;have e1:=h.2 i hi;have e2:=h'.2 i hi;rw[show ps.getD i 0=ps[i] from by rw[zE2,zE1 hi];rfl] at e1 e2;exact e1.trans e2.symm
theorem zqx {F:Type} [Fld F] {xs:List F} {k:Nat} {ps:List Int} {ys m:List F} (hm:m.length=k) :
  zd5 ps.length k 1 (fun i c=>pw (xs.getD (ps.getD i 0).toNat 0) c) (fun i _=>ys.getD i 0) (fun c=>m.getD c 0) (dlt 0)↔ztp xs k ps ys m:=by
 unfold zd5 ztp;have e:∀i,eqn k 1 (fun i c=>pw (xs.getD (ps.getD i 0).toNat 0) c) (fun i _=>ys.getD i 0) (fun c=>m.getD c 0) (dlt 0) i=0↔ev m (xs.getD (ps.getD i 0).toNat 0)=ys.getD i 0:=by intro i;rw[zde,zm8 (by omega:0<1) (fun _=>ys.getD i 0),zg4,hm,zaj (fun c _=>mulC (pw (xs.getD (ps.getD i 0).toNat 0) c) (m.getD c 0))]
 exact⟨fun h=>⟨hm,fun i hi=>(e i).1 (h i hi)⟩,fun h i hi=>(e i).2 (h.2 i hi)⟩
theorem zcn {F:Type} [Fld F] {k:Nat} (x:Nat→F) {c:Nat} (hc:c<k):((List.range k).map x).getD c 0=x c:=by rw[zE2,Zae,Zax hc];rfl
theorem zvk {F:Type} [Fld F] {xs:List F} {k:Nat} {ps:List Int} (hn:xs.Nodup) (hg:zbc xs.length ps) (hk:k≤ps.length) {x:Nat→F} (h:∀i,i<ps.length→sm k (fun c=>pw (xs.getD (ps.getD i 0).toNat 0) c*x c)=0):∀c,c<k→x c=0:=by
 have hr:=zi0 (zdn hn hg) (p:=(List.range k).map x) (by simp[zcj];omega) fun y hy=>by obtain⟨p,hp,rfl⟩:=Zau.1 hy;obtain⟨i,hi,rfl⟩:=List.mem_iff_getElem.1 hp;have e1:=h i hi;rw[show ps.getD i 0=ps[i] from by rw[zE2,zE1 hi];rfl] at e1;rw[zg4];refine Eq.trans ?_ e1;simp only[Zag,Zbg,Option.getD_some];refine zaj fun c hc=>?_;rw[mulC,zcn x hc]
 intro c hc;exact hr (x c) (Zau.2 ⟨c,Zaj.2 hc,rfl⟩)
open Go.Shelf
def zxr (fb:Nat) (xs:List GF) (k:Nat) (ps:List Int) (ys:List GF) (w:World) (e:Ending) (w':World):Prop :=
  Kp [fb] w w'∧FOk w' fb ∧
  ((ps.length=ys.length→¬zbc xs.length ps)∧e=.returned (.tuple #[.slice none 0 0,.int .i64 2]) ∨
   (ps.length=ys.length∧zbc xs.length ps)∧(ps.length<k∧e=.returned (.tuple #[.slice none 0 0,.int .i64 70]) ∨
    k≤ps.length∧((∃g m,e=.returned (.tuple #[.slice (some ⟨g,0,none⟩) k k,.int .i64 0])∧w.heap.size≤g∧zag w' g k (fun i=>m.getD i 0)∧ztp xs k ps ys m) ∨
      e=.returned (.tuple #[.slice none 0 0,.int .i64 71])∧∀m,¬ztp xs k ps ys m)))
theorem IRd.kp0 {S:List Nat} {w w':World} {v:Value} {l:List Int} (h:IRd w v l) (hk:Kp S w w') (hn:l=[]∨za0 v S):IRd w' v l:=by
  rcases hn with rfl|hn
  · obtain⟨a,cap,h1,h2,h3⟩:=h
    exact⟨a,cap,h1,h2,fun hne=>absurd rfl hne⟩
  · exact h.kp hk hn
def yeq (n R C:Nat) (A B:Nat→Nat→GF) (sv:Value) (ec:Int) (w':World):Prop :=
  (ec=0∧∃g X,sv=.slice (some ⟨g,0,none⟩) C C∧n≤g∧zag w' g C (fun j=>X j)∧zd5 R C 1 A B X (dlt 0)) ∨
   (ec=51∧((∃x:Nat→GF,(∃k,k<C∧x k≠0)∧∀i,i<R→sm C (fun k=>A i k*x k)=0)∨∀x,¬zd5 R C 1 A B x (dlt 0)))
theorem yeq.kp {n R C:Nat} {A B:Nat→Nat→GF} {sv:Value} {ec:Int} {w w':World} (h:yeq n R C A B sv ec w) {S:List Nat} (hk:Kp S w w') (hS:∀x∈S,x<n) {m:Nat} (hm:m≤n):yeq m R C A B sv ec w':=by
  rcases h with ⟨h1,g,X,h2,h3,h4,h5⟩|h
  · exact .inl ⟨h1,g,X,h2,by omega,h4.kp hk (fun hx=>by have:=hS g hx;omega),h5⟩
  · exact .inr h
def yfp (fb R C:Nat) (A B:Nat→Nat→GF) (w:World) (e:Ending) (w':World):Prop :=
  ∃(a b:Nat) (sa:Option Addr) (sn sc:Nat) (ec:Int),e=.returned (.tuple #[.agg #[.int .i64 a,.int .i64 b,.slice sa sn sc],.int .i64 ec])∧Kp [fb] w w'∧FOk w' fb∧yeq w.heap.size R C A B (.slice sa sn sc) ec w'
theorem zuh {fb R C:Nat} {A B:Nat→Nat→GF} {w:World} {e:Ending} {w':World} (h:zxm fb R C 1 A B w e w'):yfp fb R C A B w e w':=by
  obtain⟨h1,h2,h3⟩:=h;rcases h3 with ⟨g,X,rfl,hg,hv,hm⟩|⟨rfl,h4⟩
  · refine⟨C,1,_,_,_,0,rfl,h1,h2,.inl ⟨rfl,g,fun j=>X j 0,by rw[Nat.mul_one],hg,?_,?_⟩⟩
    · rw[Nat.mul_one] at hv
      exact hv.congr fun j hj=>by have:=zab (by omega:0<1) X j 0 (by omega);simpa using this
    · refine (hm _ _).2 fun k hk=>?_
      rw[zm8 (by omega:0<1) (fun l=>X k l)]
  · refine⟨0,0,_,_,_,51,rfl,h1,h2,.inr ⟨rfl,?_⟩⟩
    rcases h4 with h|⟨l,hl,h⟩
    · exact .inl h
    · obtain rfl:l=0:=by omega
      exact .inr h
theorem zdl (w:World) (b:Nat) (v0 v1 v2:Value):Kp [b] w (((w.setCell ⟨b,0,none⟩ v0).setCell ⟨b,1,none⟩ v1).setCell ⟨b,2,none⟩ v2) :=
  (((Kp.refl _ _).setCell (.inl (by simp)) _).setCell (.inl (by simp)) _).setCell (.inl (by simp)) _
theorem ziq {w:World} {b:Nat} {c0 c1 c2:Value} {t:TypeId} (h:w.heap[b]? = some (.cells #[c0,c1,c2] t (0,0))) (v0 v1 v2:Value) :
    (((w.setCell ⟨b,0,none⟩ v0).setCell ⟨b,1,none⟩ v1).setCell ⟨b,2,none⟩ v2).heap[b]? = some (.cells #[v0,v1,v2] t (0,0)) :=
  hSS (hSS (hSS h 0 v0) 1 v1) 2 v2
theorem zod:(Tryz.prog.info? 4).map (fun i=>(i.zero,i.size,i.bytes))=some (some (.bool false),1,1):=by kernel_rfl
theorem ztb (w:World) (cb fb k:Nat) (v pv yv:Value) (xs:List GF) (ps:List Int) (ys:List GF) (h:zbw w cb fb k v xs) (hn:xs.Nodup) (hk0:0<k) (hkn:k≤xs.length) (hxl:xs.length≤256)
    (hp:IRd w pv ps) (hy:GRd w yv ys) (hpa:ps=[]∨za0 pv [fb]) (hya:ys=[]∨za0 yv [fb]) (hpl:ps.length≤256) (hyl:ys.length≤1000000000) :
    Calls Tryz.prog 88 #[.pointer (some ⟨cb,0,none⟩),pv,yv] w (zxr fb xs k ps ys w):=by
  obtain⟨av,capv,rfl,hcapv⟩:=h.rd.form;obtain⟨ay,capy,rfl,hcapy⟩:=hy.form;obtain⟨ap,capp,rfl⟩:=hp.form;obtain⟨i0,hi,hz0,hz1,hz2⟩:=info_parts zod;obtain⟨N,hN⟩:=zE4 xs.length;have hmk:∀W,(Instr.makeSlice 144 (.int .i64 N) (.int .i64 N)).run Tryz.prog W=.ok (.slice (some ⟨W.heap.size,0,none⟩) N N) (W.alloc (.cells (Array.replicate N (.bool false)) 4)):=fun W =>
    zb4 W 144 4 i0 (.bool false) Tryz.underlying144 hi hz0 hz1 rfl N (by rw[hz2];omega) (by unfold maxLen;omega)
  have hmf:∀(fn:Fn) (first cap:Array Value) (w:World),(Instr.makeFunc fn first cap).run Tryz.prog w=.ok (.func fn first cap) w:=fun _ _ _ _=>rfl;rw[hN] at hkn hxl h;have c0:=cOH h.box (j:=0) rfl;have c1:=cOH h.box (j:=1) rfl;have c2:=cOH h.box (j:=2) rfl;have hcw:=lOH h.box;have hfw:=h.ok.lt;have HC:=Hd h;have HP:=Hd hp;have HY:=Hd hy;have HPA:=Hd hpa;have HYA:=Hd hya;have HN:=Hd hN;have HND:=Hd hn;obtain⟨W1,hW1⟩:=zE5 ((w.alloc (.cells (Array.replicate N (.bool false)) 4)).alloc (.cells #[.slice (some ⟨w.heap.size,0,none⟩) N N] 144));have hb1:Below w.heap.size w W1:=by rw[hW1];exact ((Zaa _ _).alloc (zE3 _) _).alloc (by simp) _
  have hs1:zmo W1 (w.heap.size+1) w.heap.size N (fun _=>false):=by rw[hW1];have hh:((w.alloc (.cells (Array.replicate N (.bool false)) 4)).alloc (.cells #[.slice (some ⟨w.heap.size,0,none⟩) N N] 144)).heap[w.heap.size]? = some (.cells (Array.replicate N (.bool false)) 4 (0,0)):=zaw (nwA _ _) _;refine⟨nwE _ _ _ (by simp),lOH hh,by omega,fun j hj=>⟨?_,fOH hh j⟩⟩;rw[cell_of_row _ _ _ _ _ (0,0) hh];simp[hj]
  have HCON:Hid (Calls Tryz.prog 113 #[.slice ap ps.length capp,.func (.func 112) #[] #[.pointer (some ⟨w.heap.size+1,0,none⟩)]] W1 (yft N w.heap.size (fun _=>false) ps W1)):=Hd
    (zob _ _ N _ _ ps W1 hs1 (hp.below hb1) (by omega) (fun hne b o n c e=>by
      obtain⟨x,hx⟩:∃x,ps[0]? = some x:=⟨_,zE1 (Nat.pos_of_ne_zero fun e=>hne (Zbc e))⟩;obtain⟨_,_,b',o',e',hb,_⟩:=hp.cell hx;cases e;cases e';omega))
  have HB1:=Hd hb1;clear h hp hy hpa hya hN hn hb1 hs1;obtain⟨Q,hQ⟩:=zE4 ps.length;obtain⟨Y,hY⟩:=zE4 ys.length;have HQ:=Hd hQ;have HYL:=Hd hY;rw[hQ] at HCON hpl;rw[hQ,hY];rw[hY] at hyl;by_cases hQY:Q=Y
  · subst hQY
    go_enter Tryz.func88,Tryz.ntmps88;go_wp2_with fail;rw[←hW1];refine HCON.out.mono ?_;rintro e w5 ⟨b,rfl,hk5,hb0,hb1⟩;have hk5w:Below w.heap.size w w5:=HB1.out.trans (hk5.below HB1.out.size (fun x hx=>by rw[Zaq] at hx;omega));have HK5:=Hd hk5w;have HC5:=Hd (HC.out.below hk5w);have HB0:=Hd hb0;have HB2:=Hd hb1;have cc0:=cOH HC5.out.box (j:=0) rfl;have cc1:=cOH HC5.out.box (j:=1) rfl;have cc2:=cOH HC5.out.box (j:=2) rfl;clear hk5 hb0 hb1 hk5w c0 c1 c2;cases b
    · by_cases hlt:Q<k
      · have hlt':(Q:Int)<(k:Int):=by omega
        go_wp2;go_ret2;exact⟨(Kp.refl _ _).below_step HK5.out,HC5.out.ok,.inr ⟨⟨by rw[HQ.out,HYL.out],by rw[HN.out];exact (zmf _ _).1 (HB0.out (by trivial))⟩,.inl ⟨by rw[HQ.out];exact hlt,rfl⟩⟩⟩
      · have hkQ:k≤Q:=by omega
        have hlt':¬(Q:Int)<(k:Int):=by omega
        have hgood:zbc N ps:=(zmf _ _).1 (HB0.out (by trivial));have HGOOD:=Hd hgood;have HPOW:Hid (∀W,Below w5.heap.size w5 W→Calls Tryz.prog 38 #[.pointer (some ⟨fb,0,none⟩),.slice av N capv,.int .i64 k] W (zpy fb k xs W)):=Hd fun W hW=>by have h5:=HC5.out.below hW;exact zkr fb k _ xs W h5.ok h5.rd h5.apart (by rw[HN.out];omega) (by rw[HN.out];omega) hk0 (by omega)
        have HPICK:Hid (∀W sb,Kp [fb] w5 W→zag W sb (N*k) (flat k (fun i c=>pw (xs.getD i 0) c))→Calls Tryz.prog 114 #[.agg #[.int .i64 N,.int .i64 k,.slice (some ⟨sb,0,none⟩) (N*k) (N*k)],.slice ap Q capp] W (zom k ps (fun i c=>pw (xs.getD i 0) c) W)):=Hd fun W sb hk hv=>by have h1:IRd W (.slice ap ps.length capp) ps:=IRd.kp0 HP.out ((Kp.of_below HK5.out).trans hk) HPA.out;rw[HQ.out] at h1;exact zvu N k (N*k) sb (N*k) _ ps _ W hv rfl (zE3 _) h1 (fun i x hx=>HGOOD.out.1 x (Zad hx)) hk0 (by omega) hxl (by rw[HQ.out];exact hpl)
        obtain⟨kp,hkp⟩:∃kp:Nat→Bool,∀j,kp j=true↔j<w5.heap.size∧j≠fb:=⟨fun j=>decide (j<w5.heap.size∧j≠fb),by simp⟩;have hcb:kp cb=true:=(hkp _).2 ⟨lOH HC5.out.box,HC5.out.ne⟩;have HKP:=Hd hkp;have hf5:fb<w5.heap.size:=HC5.out.ok.lt;clear hkp hgood;go_upto_region 9 with fail
        go_cut [10,11] (fun s10 s11 wx=>∃rb rg:Nat,s10=.pointer (some ⟨rb,0,none⟩)∧s11=.int .i64 0∧w5.heap.size≤rb∧w5.heap.size≤rg∧Hid (wx.heap[rb]? = some (.cells #[.int .i64 Q,.int .i64 k,.slice (some ⟨rg,0,none⟩) (Q*k) (Q*k)] 66 (0,0)))∧Hid (zag wx rg (Q*k) (flat k (fun i c=>pw (xs.getD (ps.getD i 0).toNat 0) c)))∧Hid (Kp [fb] w5 wx)∧Hid (FOk wx fb))
        case first =>
          have hgr:=hgK (fun j=>kp j=true);refine w_T (fun j=>kp j=true) [15,17,21,22] (.sq [0,1,2,3,4,5,6,7,8,9,10,11,12,13,14,16] (.fork 15 (.fork 17 (.sq [18,19,20,21,22,23] .done) 21 (.sq [17,18,19,20,22,23] .done)) 21 (.sq [15,17,18,19,20,22,23] .done))) (by kernel_rfl) (by kernel_rfl) ?_;simp only[TQ,Oper.slim,Nat.reduceBEq,Nat.reduceAdd]
          repeat' first|((with_reducible refine w_I ?_);first|(with_reducible refine w_D ?_)|(with_reducible refine zaf ?_ ?_)|((with_reducible refine w_S (fun K hK=>?_));go_simp;first|(refine hK _ _ ?_;clear hK K)|(refine⟨by (intro kk hkk;first|(simp (disch:=(simp;omega)) only[h_D,h_N,h_A,h_S];done)|(simp[h_D,h_N,h_I,hkk];done)|first|exact (show Kp [fb] wc _ from by (repeat' (first|exact HK13.out|exact Kp.refl _ _|refine Kp.alloc ?_ _|refine Kp.drew ?_|refine Kp.setCell ?_ (.inr (by first|(simp;done)|(simp;omega)|(have:=HK13.out.size;simp;omega))) _))).block kk ((HKP9.out kk).1 hkk).1 (by simpa using ((HKP9.out kk).1 hkk).2)|exact (show Kp [fb] w5 _ from by (repeat' (first|exact HK8.out|exact HK7.out|exact Kp.refl _ _|refine Kp.alloc ?_ _|refine Kp.drew ?_|refine Kp.setCell ?_ (.inr (by first|(simp;done)|(simp;omega)|(have:=HK7.out.size;simp;omega))) _))).block kk ((HKP.out kk).1 hkk).1 (by simpa using ((HKP.out kk).1 hkk).2)),hK _ _ ?_⟩;clear hK K)|(go_at_call 38;(with_reducible refine (HPOW.out _ (by first|exact Zaa _ _|exact (Zaa _ _).drew|exact ((Zaa _ _).drew).alloc (zE3 _) _|exact ((Zaa _ _).alloc (zE3 _) _).drew)).mono ?_);rintro e w7 ⟨rg0,rfl,hrg0,hv7,hk7,hf7⟩;have hk57:=(Kp.of_below (S:=[fb]) (a:=w5) (by first|exact Zaa _ _|exact (Zaa _ _).drew|exact ((Zaa _ _).drew).alloc (zE3 _) _|exact ((Zaa _ _).alloc (zE3 _) _).drew)).trans hk7;have HK7:=Hd hk57;rw[HN.out] at hv7;have HV7:=Hd hv7;have HF7:=Hd hf7;rw[HN.out];have HRG0:Hid (w5.heap.size≤rg0):=Hd (Zat (by simp) hrg0);(try (have hx7:=hk7.heap (nwA _ _) (by simp;omega);have HX7:=Hd hx7;clear hx7));clear hk57 hk7 hv7 hf7 hrg0;refine⟨_,rfl,(fun kk hkk=>HK7.out.block kk ((HKP.out kk).1 hkk).1 (by simpa using ((HKP.out kk).1 hkk).2)),hK _ _ ?_⟩;clear hK K)|(go_at_call 114;(with_reducible refine (HPICK.out _ rg0 (by first|exact HK7.out|exact HK7.out.alloc _) (by first|exact HV7.out|exact HV7.out.below ((Zaa _ _).alloc (zE3 _) _))).mono ?_);rintro e w8 ⟨rg,rfl,hrg,hv8,hb8⟩;have hk58:Kp [fb] w5 w8:=Kp.below_step (by first|exact HK7.out|exact HK7.out.alloc _) hb8;have hf8:FOk w8 fb:=FOk.below (by first|exact HF7.out|exact HF7.out.below ((Zaa _ _).alloc (zE3 _) _)) hb8;rw[HQ.out] at hv8;rw[HQ.out];have HV8:=Hd hv8;have HK8:=Hd hk58;have HF8:=Hd hf8;have HRGW:=Hd hrg;have HRG:Hid (w5.heap.size≤rg):=Hd (Zat HK7.out.size (Zat (by simp) hrg));(try (have hx8:=zad hb8 (nwA _ _);have HX8:=Hd hx8;have y0:=cOH hx8 (j:=0) rfl;have y1:=cOH hx8 (j:=1) rfl;have y2:=cOH hx8 (j:=2) rfl;have z0:=fOH hx8 0;have z1:=fOH hx8 1;have z2:=fOH hx8 2;clear hx8));(try (have hx8:=zad hb8 HX7.out;have HX8:=Hd hx8;have y0:=cOH hx8 (j:=0) rfl;have y1:=cOH hx8 (j:=1) rfl;have y2:=cOH hx8 (j:=2) rfl;have z0:=fOH hx8 0;have z1:=fOH hx8 1;have z2:=fOH hx8 2;clear hx8));clear hv8 hk58 hf8 hrg hb8;refine⟨_,rfl,(fun kk hkk=>HK8.out.block kk ((HKP.out kk).1 hkk).1 (by simpa using ((HKP.out kk).1 hkk).2)),hK _ _ ?_⟩;clear hK K)))|fail
          all_goals clear hgr
          all_goals
            go_wp2;go_meet;have hrg:=HRGW.out;have hs7:=HK7.out.size;have hs8:=HK8.out.size
            (try simp at hrg)
            (try (have hl7:=lOH HX7.out))
            (try simp at hl7)
            first
              | exact⟨_,rg,rfl,rfl,by omega,HRG.out,Hd (nwA _ _),Hd (HV8.out.below ((Zaa _ _).alloc (zE3 _) _)),Hd (HK8.out.alloc _),Hd (HF8.out.below ((Zaa _ _).alloc (zE3 _) _))⟩
              | exact⟨_,rg,rfl,rfl,by omega,HRG.out,Hd (ziq HX8.out _ _ _),Hd (HV8.out.kp (zdl _ _ _ _ _) (by simp;omega)),Hd (HK8.out.step (zdl _ _ _ _ _) (fun x hx=>by simp at hx;right;omega)),Hd (HF8.out.kp (zdl _ _ _ _ _) (by simp;omega))⟩
        case rest =>
          obtain⟨rb,rg,rfl,rfl,hrb,hrg,HR9,HV9,HK9,HF9⟩:=hcut;obtain⟨A,hA⟩:∃A,A=fun i c=>pw (xs.getD (ps.getD i 0).toNat 0) c:=⟨_,rfl⟩;rw[←hA] at HV9;have HA:=Hd hA;have HSOL:Hid (∀W,Kp [fb] wc W→FOk W fb→Calls Tryz.prog 115 #[.pointer (some ⟨fb,0,none⟩),.agg #[.int .i64 Q,.int .i64 k,.slice (some ⟨rg,0,none⟩) (Q*k) (Q*k)],.agg #[.int .i64 Q,.int .i64 1,.slice ay Q capy]] W (yfp fb Q k A (fun i _=>ys.getD i 0) W)):=Hd fun W hk hf=>by
            have hg1:=(HV9.out.kp hk (by simp;omega)).rd (o:=0) (m:=Q*k) (cap:=Q*k) (by omega) (zE3 _);have hya2:za0 (.slice ay ys.length capy) [fb]:=by
              rcases HYA.out with e|e
              · have h0:=HYL.out
                rw[e] at h0;simp at h0;omega
              · exact e
            have hg2:GRd W (.slice ay ys.length capy) ys:=HY.out.kp (((Kp.of_below HK5.out).trans HK9.out).trans hk) hya2;rw[HYL.out] at hg2;have hm:=Zai hpl (show k≤256 by omega);refine (zm7 fb Q k 1 (Q*k) Q _ _ _ _ _ _ A (fun i _=>ys.getD i 0) W hf hg1 hg2 rfl (Nat.mul_one _) (fun j hj=>?_) (fun j hj=>?_) (by omega) hk0 (by omega) (by omega) (by omega) (by omega) (by omega) (by omega)).mono fun e w' h=>zuh h
            · rw[zcn _ hj,Zbe]
            · have:=zab (by omega:0<1) (fun i (_:Nat)=>ys.getD i 0) j 0 (by omega)
              simpa using this.symm
          have HC9:=Hd (HC5.out.step HK9.out HF9.out);have HKW:=Hd ((Kp.of_below (S:=[fb]) HK5.out).trans HK9.out);clear hA;have d0:=cOH HC9.out.box (j:=0) rfl;have m0:=cOH HR9.out (j:=0) rfl;have m1:=cOH HR9.out (j:=1) rfl;have m2:=cOH HR9.out (j:=2) rfl;have hcb9:=lOH HC9.out.box;have hrb9:=lOH HR9.out;have hfb9:=HF9.out.lt;obtain⟨kp9,hkp9⟩:∃kp:Nat→Bool,∀j,kp j=true↔j<wc.heap.size∧j≠fb:=⟨fun j=>decide (j<wc.heap.size∧j≠fb),by simp⟩;have k91:kp9 cb=true:=(hkp9 _).2 ⟨hcb9,HC9.out.ne⟩;have k92:kp9 rb=true:=(hkp9 _).2 ⟨hrb9,by omega⟩;have HKP9:=Hd hkp9;clear hkp9 cc0 cc1 cc2 hcb;go_upto_region 12 with fail
          go_cut [11,12] (fun s11 s12 wx=>∃(xb a b:Nat) (sa:Option Addr) (sn sc:Nat) (ec:Int),s12=.pointer (some ⟨xb,0,none⟩)∧s11=.int .i64 ec∧Hid (wx.heap[xb]? = some (.cells #[.int .i64 a,.int .i64 b,.slice sa sn sc] 66 (0,0)))∧Hid (Kp [fb] wc wx)∧Hid (FOk wx fb)∧Hid (yeq wc.heap.size Q k A (fun i _=>ys.getD i 0) (.slice sa sn sc) ec wx))
          case first =>
            have hgr:=hgK (fun j=>kp9 j=true);refine w_T (fun j=>kp9 j=true) [10,14,15] (.sq [0,1,2,3,4,5,6,7,8,9] (.fork 10 (.sq [11,12,13,14,15,16] .done) 14 (.sq [10,11,12,13,15,16] .done))) (by kernel_rfl) (by kernel_rfl) ?_;simp only[TQ,Oper.slim,Nat.reduceBEq,Nat.reduceAdd]
            repeat' first|((with_reducible refine w_I ?_);first|(with_reducible refine w_D ?_)|(with_reducible refine zaf ?_ ?_)|((with_reducible refine w_S (fun K hK=>?_));go_simp;first|(refine hK _ _ ?_;clear hK K)|(refine⟨by (intro kk hkk;first|(simp (disch:=(simp;omega)) only[h_D,h_N,h_A,h_S];done)|(simp[h_D,h_N,h_I,hkk];done)|first|exact (show Kp [fb] wc _ from by (repeat' (first|exact HK13.out|exact Kp.refl _ _|refine Kp.alloc ?_ _|refine Kp.drew ?_|refine Kp.setCell ?_ (.inr (by first|(simp;done)|(simp;omega)|(have:=HK13.out.size;simp;omega))) _))).block kk ((HKP9.out kk).1 hkk).1 (by simpa using ((HKP9.out kk).1 hkk).2)|exact (show Kp [fb] w5 _ from by (repeat' (first|exact HK8.out|exact HK7.out|exact Kp.refl _ _|refine Kp.alloc ?_ _|refine Kp.drew ?_|refine Kp.setCell ?_ (.inr (by first|(simp;done)|(simp;omega)|(have:=HK7.out.size;simp;omega))) _))).block kk ((HKP.out kk).1 hkk).1 (by simpa using ((HKP.out kk).1 hkk).2)),hK _ _ ?_⟩;clear hK K)|(go_at_call 115;(with_reducible refine (HSOL.out _ (by (repeat' (first|exact HK13.out|exact Kp.refl _ _|refine Kp.alloc ?_ _|refine Kp.drew ?_|refine Kp.setCell ?_ (.inr (by first|(simp;done)|(simp;omega)|(have:=HK13.out.size;simp;omega))) _))) (HF9.out.below (by first|exact Zaa _ _|exact (Zaa _ _).drew|exact ((Zaa _ _).drew).alloc (zE3 _) _|exact ((Zaa _ _).alloc (zE3 _) _).drew))).mono ?_);rintro e w13 ⟨a,b,sa,sn,sc,ec,rfl,hk13,hf13,hs13⟩;have HK13:Hid (Kp [fb] wc w13):=Hd (Kp.trans (by (repeat' (first|exact HK13.out|exact Kp.refl _ _|refine Kp.alloc ?_ _|refine Kp.drew ?_|refine Kp.setCell ?_ (.inr (by first|(simp;done)|(simp;omega)|(have:=HK13.out.size;simp;omega))) _))) hk13);have HF13:=Hd hf13;have HS13:=Hd hs13;(try (have hx13:=hk13.heap (nwA _ _) (by simp;omega);have HX13:=Hd hx13;have y0:=cOH hx13 (j:=0) rfl;have y1:=cOH hx13 (j:=1) rfl;have y2:=cOH hx13 (j:=2) rfl;have z0:=fOH hx13 0;have z1:=fOH hx13 1;have z2:=fOH hx13 2;clear hx13));clear hk13 hf13 hs13;refine⟨_,rfl,(fun kk hkk=>HK13.out.block kk ((HKP9.out kk).1 hkk).1 (by simpa using ((HKP9.out kk).1 hkk).2)),hK _ _ ?_⟩;clear hK K)))|fail
            all_goals clear hgr
            all_goals
              go_wp2;go_meet;have hs13:=HK13.out.size
              first
                | exact⟨_,a,b,sa,sn,sc,ec,rfl,rfl,Hd (nwA _ _),Hd (HK13.out.alloc _),Hd (HF13.out.below ((Zaa _ _).alloc (zE3 _) _)),Hd (HS13.out.kp (Kp.of_below (S:=[]) ((Zaa _ _).alloc (zE3 _) _)) (by simp) (by simp))⟩
                | exact⟨_,a,b,sa,sn,sc,ec,rfl,rfl,Hd (ziq HX13.out _ _ _),Hd (HK13.out.step (zdl _ _ _ _ _) (fun x hx=>by simp at hx;right;omega)),Hd (HF13.out.kp (zdl _ _ _ _ _) (by simp;omega)),Hd (HS13.out.kp (zdl _ _ _ _ _) (fun x hx=>by simp at hx ⊢;omega) (by simp))⟩
          case rest =>
            obtain⟨xb,a,b,sa,sn,sc,ec,rfl,rfl,HX14,HK14,HF14,HS14⟩:=hcut;have hps:zbc xs.length ps:=by rw[HN.out];exact HGOOD.out
            have hkps:k≤ps.length:=by rw[HQ.out];exact hkQ
            have HPS:=Hd (Zao hps hkps);clear hps hkps;rcases HS14.out with ⟨rfl,g,X,h2,h3,h4,h5⟩|⟨rfl,h6⟩
            · obtain⟨rfl,rfl,rfl⟩:=(Value.slice.injEq ..).mp h2
              have HV14:=Hd h4;have HMET:=Hd h5;have n2:=cOH HX14.out (j:=2) rfl;clear h2 h4 h5 d0 m0 m1 m2 k91 k92;go_wp2;go_ret2;have hle:w.heap.size≤g:=by have:=HKW.out.size;omega
              refine⟨HKW.out.trans HK14.out,HF14.out,.inr ⟨⟨by rw[HQ.out,HYL.out],HPS.out.1⟩,.inr ⟨HPS.out.2,.inl ⟨g,(List.range sc).map X,rfl,hle,HV14.out.congr fun j hj=>(zcn X hj).symm,?_⟩⟩⟩⟩;refine (zqx (by simp)).1 fun i hi=>?_;have:=HMET.out i (by rw[←HQ.out];exact hi);rw[HA.out,zde] at this;rw[zde,←this];exact zaj fun c hc=>by rw[zcn X hc]
            · have HH:=Hd h6
              clear h6 d0 m0 m1 m2 k91 k92;go_wp2;go_ret2;refine⟨HKW.out.trans HK14.out,HF14.out,.inr ⟨⟨by rw[HQ.out,HYL.out],HPS.out.1⟩,.inr ⟨HPS.out.2,.inr ⟨rfl,fun m hm=>?_⟩⟩⟩⟩;rcases HH.out with ⟨x,⟨c,hc,hne⟩,hz⟩|h
              · refine hne (zvk HND.out HPS.out.1 HPS.out.2 (fun i hi=>?_) c hc)
                have:=hz i (by rw[←HQ.out];exact hi)
                rwa[HA.out] at this
              · refine h (fun c=>m.getD c 0) ?_
                rw[HA.out,←HQ.out];exact (zqx hm.1).2 hm
    · go_wp2
      go_ret2;exact⟨(Kp.refl _ _).below_step HK5.out,HC5.out.ok,.inl ⟨fun _ hg=>(by
        obtain⟨i,x,hx,hbad⟩:=HB2.out (by trivial);rw[HN.out] at hg;rw[(zmf _ _).2 hg i x hx] at hbad;cases hbad),rfl⟩⟩
  · have hQY':¬(Q:Int)=(Y:Int):=by omega
    go_enter Tryz.func88,Tryz.ntmps88;go_wp2_with fail;rw[←hW1];go_ret2;exact⟨(Kp.refl _ _).below_step HB1.out,HC.out.ok.below HB1.out,.inl ⟨fun e=>by rw[HQ.out,HYL.out] at e;exact absurd e hQY,rfl⟩⟩
end Go.Proofs.YtcclhhjcejmepaaGreat
