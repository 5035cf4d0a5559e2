import Derived.Test.YtcclhhjcejmepaaGreatZMbRep
import Derived.Test.YtcclhhjcejmepaaGreatZMbD4
set_option linter.all false
set_option maxRecDepth 100000
set_option maxHeartbeats 4000000
namespace Go.Proofs.YtcclhhjcejmepaaGreat
open Go.RowKit Fld
theorem ye9:mbB 2 2=3:=rfl
theorem ye8:znp 4 2 2 (gl [1,2,3])=[gl [3,1],gl [5,4],gl [9,14],gl [17,26]]:=by kernel_rfl
theorem yd9:mbF 4 2 2 (gl [1,2,3]) 1=gl [5,4]:=by kernel_rfl
theorem yd8:mbF 4 2 2 (gl [1,2,3]) 3=gl [17,26]:=by kernel_rfl
theorem yca {fb:Nat} {w w':World} {e:Ending} (h:zen fb 4 2 2 w e w'):Kp [fb] w w'∧FOk w' fb∧∃lb t1 t2 pb v1 v2,e=.returned (.tuple #[.pointer (some ⟨lb,0,none⟩),.int .i64 0])∧w.heap.size≤lb∧MbC w' lb t1 t2 fb pb 4 2 2 v1 v2:=by
 obtain⟨h1,h2,⟨N,K,D,e1,e2,e3,-,lb,t1,t2,pb,v1,v2,h4⟩|⟨h3,-⟩⟩:=h
 ·obtain rfl:N=4:=by omega
  obtain rfl:K=2:=by omega
  obtain rfl:D=2:=by omega
  exact⟨h1,h2,lb,t1,t2,pb,v1,v2,h4⟩
 ·exact absurd ⟨by omega,by omega,by omega,by omega⟩ h3
theorem zpg {fb:Nat} {n k d:Int} {w w':World} {e:Ending} (h:zen fb n k d w e w') (hn:¬(1≤k∧k≤d∧d<n∧n≤255)):Kp [fb] w w'∧FOk w' fb∧e=.returned (.tuple #[.pointer none,.int .i64 2]):=by
 obtain⟨h1,h2,⟨N,K,D,e1,e2,e3,h3,-⟩|⟨-,h3⟩⟩:=h
 ·exact absurd ⟨by omega,by omega,by omega,by omega⟩ hn
 ·exact⟨h1,h2,h3⟩
theorem yec:(sm 2 fun i=>(gl [5,4]).getD i 0*pw ((za9 4).getD (0:Int).toNat 0) i)=gfn 1:=GF.ext' (by rfl)
theorem zy8 {fb:Nat} {w w':World} {e:Ending} (h:zdw fb 4 2 1 0 (gl [5,4]) w e w'):e=.returned (.tuple #[.int .u8 1,.int .i64 0])∧Kp [fb] w w'∧FOk w' fb:=by
 obtain⟨b,c,rfl,h1,h2,h3⟩:=h;rcases h1 with ⟨h1,-⟩|⟨-,rfl,rfl⟩
 ·exact absurd ⟨by decide,by decide,by decide,rfl⟩ h1
 ·rw[yec];exact⟨rfl,h2,h3⟩
theorem yeb:ev (gl [3,1]) ((za9 4).getD 1 0)=gfn 1:=GF.ext' (by rfl)
theorem yea:ev (gl [3,1]) ((za9 4).getD 2 0)=gfn 7:=by kernel_rfl
theorem yd7:wrS (za9 4) [1,2] (gl [1,7]) (gl [3,1])=[]:=by
 have h:wrI (zcj (za9 4) [1,2]) (gl [1,7]) (gl [3,1])=[]:=by
  unfold wrI;refine List.filter_eq_nil_iff.2 fun i hi=>?_;have hi':i<2:=Zaj.1 hi;rw[decide_eq_true_eq];intro hne;rcases (show i=0∨i=1 by omega) with rfl|rfl
  ·exact hne yeb
  ·exact hne yea
 rw[wrS,wrP,h];simp[zeb]
theorem yb9 {B:Nat} {w':World} {e:Ending} {a0 a1:Option Addr} {c0 c1:Nat} (h:zhe B 4 2 (za9 4) 0 [⟨1,a0,c0,gl [1]⟩,⟨2,a1,c1,gl [7]⟩] 0 e w'):∃a c v,e=.returned (.tuple #[.slice a 2 c,v,.int .i64 0])∧zao w' B (.slice a 2 c) (gl [3,1]):=by
 have hg:zbc (za9 4).length [1,2]:=⟨by decide,by decide⟩;have hy:ysL [⟨1,a0,c0,gl [1]⟩,⟨2,a1,c1,gl [7]⟩]=gl [1,7]:=rfl;have ht:zbs (za9 4) 2 [1,2] (gl [1,7]) 0 (some (gl [3,1])):=⟨rfl,by rw[yd7];exact zE3 _⟩;rcases h with ⟨h1,-⟩|⟨-,h⟩
 ·refine absurd ⟨by decide,⟨fun x hx=>?_,by simp[Sy.nodes]⟩,fun s hs=>?_⟩ h1
  ·simp[Sy.nodes] at hx;omega
  ·simp at hs;rcases hs with rfl|rfl<;>exact⟨by simp,rfl⟩
 ·rw[hy] at h;rcases h with ⟨h1|h1,-⟩|⟨-,⟨h1,-⟩|⟨-,⟨m,v1,v2,rfl,h2,h3,-⟩|⟨-,h2⟩⟩⟩
  ·exact absurd ⟨hg,rfl⟩ h1
  ·omega
  ·simp[Sy.nodes] at h1
  ·have:=zdy (zay (by decide)) hg (by decide) h2 ht
   cases this;obtain⟨a,c,rfl,-⟩:=h3.form;exact⟨a,c,v2,rfl,h3⟩
  ·have:=zdy (zay (by decide)) hg (by decide) h2 ht
   cases this
theorem ycc {B:Nat} {w':World} {e:Ending} {a0 a1:Option Addr} {c0 c1:Nat} (h:zdc B 4 2 2 [⟨1,a0,c0,gl [5,4]⟩,⟨3,a1,c1,gl [17,26]⟩] 0 e w'):∃a c a2 c2,e=.returned (.tuple #[.slice a 3 c,.slice a2 0 c2,.int .i64 0])∧zao w' B (.slice a 3 c) (gl [1,2,3]):=by
 have hg:zar 4 (-1) 2 [⟨1,a0,c0,gl [5,4]⟩,⟨3,a1,c1,gl [17,26]⟩]:=⟨⟨fun x hx=>by simp[Sy.nodes] at hx;omega,by simp[Sy.nodes]⟩,fun s hs=>by
  simp at hs;rcases hs with rfl|rfl<;>exact⟨by simp,rfl⟩⟩
 have hw:wrD (mbF 4 2 2 (gl [1,2,3])) [⟨1,a0,c0,gl [5,4]⟩,⟨3,a1,c1,gl [17,26]⟩]=[]:=by
  refine Zbc ?_;rw[zfe,List.filter_eq_nil_iff.2 fun s hs=>?_]
  ·rfl
  ·simp at hs;rcases hs with rfl|rfl
   ·simp only[zfq,decide_eq_true_eq];exact fun hne=>hne yd9.symm
   ·simp only[zfq,decide_eq_true_eq];exact fun hne=>hne yd8.symm
 have ht:zc2 (zmc 2 2) (mbF 4 2 2) [⟨1,a0,c0,gl [5,4]⟩,⟨3,a1,c1,gl [17,26]⟩] 0 (some (gl [1,2,3])):=⟨rfl,by rw[hw];exact zE3 _⟩;have hi:yez (zmc 2 2) (mbF 4 2 2) 4 2:=zqy (by decide) (zay (by decide)) (zbd _);rcases h with ⟨h1,-⟩|⟨-,⟨h1,-⟩|⟨-,⟨m,v1,v2,rfl,h2,h3,h4⟩|⟨-,h2⟩⟩⟩
 ·exact absurd ⟨by decide,hg⟩ h1
 ·simp at h1
 ·have:=zc2.one hi hg.1 (zE3 2) h2 ht
  cases this;rw[hw] at h4;obtain⟨a,c,rfl,-⟩:=h3.form;obtain⟨a2,c2,rfl⟩:=h4.rd.form;exact⟨a,c,a2,c2,rfl,h3⟩
 ·have:=zc2.one hi hg.1 (zE3 2) h2 ht
  cases this
theorem zby.lit' {W:World} {b:Nat} {t:TypeId} (l:List Sy) (h:W.heap[b]? = some (.cells (zb5 Sy.cells l).toArray t (0,0))) {n:Nat} (hn:l.length=n) (hs:∀s∈l,s.rd W):zby W (.slice (some ⟨b,0,none⟩) n n) l:=by subst hn;refine⟨⟨_,_,rfl,zE3 _,fun hne=>⟨b,0,rfl,lOH h,fun i c hi j u hj=>?_⟩⟩,hs⟩;rw[cell_of_row _ _ _ _ _ (0,0) h];have:=zh8 Sy.cells_length l i c j u hi hj;simp only[Zbe];rw[List.getElem?_toArray,this]
theorem zye {S:List Ro} {d0 d1 d2:List GF} (h:S.map Ro.d=[d0,d1,d2]):∃a0 c0 a1 c1 a2 c2,S=[⟨a0,c0,d0⟩,⟨a1,c1,d1⟩,⟨a2,c2,d2⟩]:=by obtain⟨s0,l0,rfl,h0,h⟩:=List.map_eq_cons_iff.1 h;obtain⟨s1,l1,rfl,h1,h⟩:=List.map_eq_cons_iff.1 h;obtain⟨s2,l2,rfl,h2,h⟩:=List.map_eq_cons_iff.1 h;obtain rfl:=List.map_eq_nil_iff.1 h;subst h0 h1 h2;exact⟨_,_,_,_,_,_,rfl⟩
theorem zyd {S:List Ro} {d0 d1 d2 d3:List GF} (h:S.map Ro.d=[d0,d1,d2,d3]):∃a0 c0 a1 c1 a2 c2 a3 c3,S=[⟨a0,c0,d0⟩,⟨a1,c1,d1⟩,⟨a2,c2,d2⟩,⟨a3,c3,d3⟩]:=by obtain⟨s0,l0,rfl,h0,h⟩:=List.map_eq_cons_iff.1 h;obtain⟨a1,c1,a2,c2,a3,c3,rfl⟩:=zye h;subst h0;exact⟨_,_,_,_,_,_,_,_,rfl⟩
theorem zoj.kp {w w':World} {B:Nat} {v:Value} {D:List (List GF)} {S:List Ro} (h:zoj w B v D S) {T:List Nat} (hk:Kp T w w') (hT:∀x∈T,x<B):zoj w' B v D S:=by
 refine⟨⟨SRd.kp h.all.rd hk fun _ b hb hm=>by have:=hT _ hm;have:=h.own b hb;omega,fun s hs=>(h.all.each s hs).kp hk fun b hb hm=>?_⟩,h.eq,h.new,h.own⟩;cases e:s.a with
 | none=>rw[Ro.v,e] at hb;simp[Value.ownBlock] at hb
 | some A =>
  rw[Ro.v,e] at hb;simp[Value.ownBlock] at hb;subst hb;have:=hT _ hm;have:=h.new s hs A e;omega
theorem zoj.below {w w':World} {B:Nat} {v:Value} {D:List (List GF)} {S:List Ro} (h:zoj w B v D S) (hb:Below w.heap.size w w'):zoj w' B v D S:=⟨h.all.below hb,h.eq,h.new,h.own⟩
theorem zfx (u v:Value) (l:List GF) (w:World) (hu:GRd w u l) (hv:GRd w v l):Calls Tryz.prog 20 #[u,v] w fun e w'=>e=.returned (.bool true)∧w=w' :=
 (zus u v l l w hu hv).mono fun e w' h=>⟨by rw[h.1,decide_eq_true rfl],h.2⟩
theorem yae {W:World} {b a0 a1:Nat} {n0 n1:Int} {d0 d1:List GF} {l0 l1:Nat} (h:W.heap[b]? = some (.cells #[.int .i64 n0,.slice (some ⟨a0,0,none⟩) l0 l0,.int .i64 n1,.slice (some ⟨a1,0,none⟩) l1 l1] 59 (0,0)))
  (h0:GRd W (.slice (some ⟨a0,0,none⟩) l0 l0) d0) (h1:GRd W (.slice (some ⟨a1,0,none⟩) l1 l1) d1) (hl0:d0.length=l0) (hl1:d1.length=l1) :
  zby W (.slice (some ⟨b,0,none⟩) 2 2) [⟨n0,some ⟨a0,0,none⟩,l0,d0⟩,⟨n1,some ⟨a1,0,none⟩,l1,d1⟩]:=by
 subst hl0 hl1;refine zby.lit' _ h rfl fun s hs=>?_;simp at hs;rcases hs with rfl|rfl
 ·exact h0
 ·exact h1
def zmu (b:Bool) (w:World) (e:Ending) (w':World):Prop:=e=.returned (.bool b)∧Below w.heap.size w w'
theorem zr6 {l m:List Int} {A:Nat} (hl:l.length=A) (hm:m.length=A) (h:∀j,j<A→l[j]? = m[j]?):l=m:=List.ext_getElem? fun i=>by
 by_cases hi:i<A
 ·exact h i hi
 ·rw[Zbm (by omega),Zbm (by omega)]
theorem zfy (u v:Value) (l m:List Int) (w:World) (hu:IRd w u l) (hv:IRd w v m) (hl:l.length≤1000000) (hml:m.length≤1000000) :
  Calls Tryz.prog 25 #[u,v] w (zmu (decide (l=m)) w):=by
 obtain⟨au,cu,rfl⟩:=hu.form;obtain⟨av,cv,rfl⟩:=hv.form;obtain⟨A,hA⟩:=zE4 l.length;obtain⟨B,hB⟩:=zE4 m.length;have HA:=Hd hA;have HB:=Hd hB;rw[hA] at hu hl ⊢;rw[hB] at hv hml ⊢;have HU:=Hd hu;have HV:=Hd hv;clear hu hv hA hB;go_enter Tryz.func25,Tryz.ntmps25;by_cases hAB:A=B
 ·subst hAB;go_wp2;go_loopg [5] A (fun gk i wr=>∃I:Nat,I≤A∧gk=A-I∧i=.int .i64 I∧Hid (∀j,j<I→l[j]? = m[j]?)∧Hid (Below w.heap.size w wr))
  case atStart=>exact⟨0,by omega,rfl,rfl,Hd (fun j hj=>by omega),Hd (Zaa _ _)⟩
  case round =>
   obtain⟨I,hI,rfl,rfl,HE,HBL⟩:=hrel;have hs:=HBL.out.size;by_cases hlt:I<A
   ·obtain⟨x,hx⟩:∃x,l[I]? = some x:=⟨_,zE1 (by rw[HA.out];exact hlt)⟩;obtain⟨y,hy⟩:∃y,m[I]? = some y:=⟨_,zE1 (by rw[HB.out];exact hlt)⟩;obtain⟨-,-,b1,o1,rfl,hb1,-⟩:=IRd.cell HU.out hx;obtain⟨-,-,b2,o2,rfl,hb2,-⟩:=IRd.cell HV.out hy;have c1:=IRd.cells (HU.out.below HBL.out) I x hx;have c2:=IRd.cells (HV.out.below HBL.out) I y hy;have HXX:=Hd hx;have HYY:=Hd hy;have HBD:Hid (Below w.heap.size w wr.drew):=Hd HBL.out.drew;obtain⟨kp,hkp⟩:∃kp:Nat→Bool,∀j,kp j=true↔j<wr.heap.size:=⟨fun j=>decide (j<wr.heap.size),by simp⟩;have hk1:kp b1=true:=(hkp _).2 (by omega);have hk2:kp b2=true:=(hkp _).2 (by omega);have HKP:=Hd hkp;have i1:(0:Int)≤(I:Int)∧(I:Int)<(A:Int):=by omega
    clear hkp hx hy;by_cases hxy:x=y
    ·subst hxy;have HE2:Hid (∀j,j<I+1→l[j]? = m[j]?):=Hd fun j hj=>by
      by_cases e:j=I
      ·rw[e,HXX.out,HYY.out]
      ·exact HE.out j (by omega)
     go_upto_region 6 with fail
     have hgr:=hgK (fun j=>kp j=true);refine w_T (fun j=>kp j=true) [] (.sq [0,1,2,3,4,5,6,7,8] .done) (by kernel_rfl) (by kernel_rfl) ?_;simp only[TQ,Oper.slim,Nat.reduceBEq,Nat.reduceAdd]
     repeat' first|((with_reducible refine w_I ?_);first|(with_reducible refine w_D ?_)|((with_reducible refine w_S (fun K hK=>?_));go_simp;(refine hK _ _ ?_;clear hK K)))|fail
     clear hgr;go_wp2;go_roundg (A-(I+1))
     case measure=>omega
     case rel=>exact⟨I+1,by omega,rfl,by go_num,HE2,HBD⟩
    ·have HNE:Hid (decide (l=m)=false):=Hd (decide_eq_false fun e=>hxy (by
      have h1:=HXX.out;rw[e,HYY.out] at h1;exact (Zcd h1).symm))
     go_upto_region 6 with fail
     have hgr:=hgK (fun j=>kp j=true);refine w_T (fun j=>kp j=true) [] (.sq [0,1,2,3,4,5,6,7,8] .done) (by kernel_rfl) (by kernel_rfl) ?_;simp only[TQ,Oper.slim,Nat.reduceBEq,Nat.reduceAdd]
     repeat' first|((with_reducible refine w_I ?_);first|(with_reducible refine w_D ?_)|((with_reducible refine w_S (fun K hK=>?_));go_simp;(refine hK _ _ ?_;clear hK K)))|fail
     clear hgr;go_wp2;go_ret;exact⟨by rw[HNE.out];rfl,HBD.out⟩
   ·obtain rfl:I=A:=by omega
    have HEQ:Hid (decide (l=m)=true):=Hd (decide_eq_true (zr6 HA.out HB.out HE.out));go_wp2;go_ret;exact⟨by rw[HEQ.out];rfl,HBL.out⟩
 ·have hAB':¬(A:Int)=(B:Int):=by omega
  have HNE:Hid (decide (l=m)=false):=Hd (decide_eq_false fun e=>hAB (by rw[←HA.out,←HB.out,e]));clear hAB;go_wp2;go_ret;exact⟨by rw[HNE.out];rfl,Zaa _ _⟩
def zeo (n k d:Int) (w:World) (e:Ending) (w':World):Prop:=∃b,e=.returned (.bool b)∧w=w'∧(b=true↔n≤9∧k≤9∧d≤9)
theorem zds (n k d:Int) (w:World) :
  Calls Tryz.prog 11 #[.int .i64 n,.int .i64 k,.int .i64 d] w (zeo n k d w):=by
 by_cases h1:n≤9
 ·by_cases h2:k≤9
  ·by_cases h3:d≤9
   ·have HP:Hid (zeo n k d w (.returned (.bool true)) w):=Hd ⟨true,rfl,rfl,fun _=>⟨h1,h2,h3⟩,fun _=>rfl⟩;go_enter Tryz.func11,Tryz.ntmps11;go_wp2;go_ret;exact HP.out
   ·have HP:Hid (zeo n k d w (.returned (.bool false)) w):=Hd ⟨false,rfl,rfl,(fun h=>by cases h),fun h=>absurd h.2.2 h3⟩;go_enter Tryz.func11,Tryz.ntmps11;go_wp2;go_ret;exact HP.out
  ·have HP:Hid (zeo n k d w (.returned (.bool false)) w):=Hd ⟨false,rfl,rfl,(fun h=>by cases h),fun h=>absurd h.2.1 h2⟩;go_enter Tryz.func11,Tryz.ntmps11;go_wp2;go_ret;exact HP.out
 ·have HP:Hid (zeo n k d w (.returned (.bool false)) w):=Hd ⟨false,rfl,rfl,(fun h=>by cases h),fun h=>absurd h.1 h1⟩;go_enter Tryz.func11,Tryz.ntmps11;go_wp2;go_ret;exact HP.out
def zb7 (n k d:Nat) (l:List Sy) (t:Int) (c:Int) (m:List GF) (zs:List Int):Prop :=
 ¬(0≤t∧zar n (-1) d l)∧c=2∧m=[]∧zs=[] ∨
 (0≤t∧zar n (-1) d l)∧((l.length:Int)<(k:Int)+2*t∧c=70∧m=[]∧zs=[] ∨
  (k:Int)+2*t≤(l.length:Int)∧(c=0∧zc2 (zmc k d) (mbF n k d) l t.toNat (some m)∧zs=wrD (mbF n k d m) l ∨
   c=80∧zc2 (zmc k d) (mbF n k d) l t.toNat none∧m=[]∧zs=[]))
theorem zb7.one {n k d:Nat} {l:List Sy} {t c c':Int} {m m':List GF} {zs zs':List Int} (hkd:k≤d) (hn:n≤255) (h:zb7 n k d l t c m zs) (h':zb7 n k d l t c' m' zs'):c=c'∧m=m'∧zs=zs':=by
 have key:(0≤t∧zar n (-1) d l)→(k:Int)+2*t≤(l.length:Int)→∀o o',zc2 (zmc k d) (mbF n k d) l t.toNat o→zc2 (zmc k d) (mbF n k d) l t.toNat o'→o=o':=fun hg hk o o' h1 h2 =>
  zc2.one (zqy hkd (zay hn) (zbd _)) hg.2.1 (by omega) h1 h2
 rcases h with ⟨h1,rfl,rfl,rfl⟩|⟨h1,⟨h2,rfl,rfl,rfl⟩|⟨h2,⟨rfl,h3,rfl⟩|⟨rfl,h3,rfl,rfl⟩⟩⟩<;>rcases h' with ⟨g1,rfl,rfl,rfl⟩|⟨g1,⟨g2,rfl,rfl,rfl⟩|⟨g2,⟨rfl,g3,rfl⟩|⟨rfl,g3,rfl,rfl⟩⟩⟩
 all_goals first
  | exact⟨rfl,rfl,rfl⟩
  | exact absurd g1 h1
  | exact absurd h1 g1
  | omega
  | (cases key h1 h2 _ _ h3 g3;exact⟨rfl,rfl,rfl⟩)
  | (cases key h1 h2 _ _ h3 g3)
theorem zdc.is {B:Nat} {n k d:Nat} {l:List Sy} {t:Int} {e:Ending} {w':World} (h:zdc B n k d l t e w'):∃c m zs v1 v2,e=.returned (.tuple #[v1,v2,.int .i64 c])∧zb7 n k d l t c m zs∧zao w' B v1 m∧RdZ w' B v2 zs:=by
 have hnz:RdZ w' B (.slice none 0 0) []:=RdZ.of_own (za4.nil _ _);rcases h with ⟨h1,rfl⟩|⟨h1,⟨h2,rfl⟩|⟨h2,⟨m,v1,v2,rfl,h3,h4,h5⟩|⟨rfl,h3⟩⟩⟩
 ·exact⟨2,[],[],_,_,rfl,.inl ⟨h1,rfl,rfl,rfl⟩,zao.nil _ _,hnz⟩
 ·exact⟨70,[],[],_,_,rfl,.inr ⟨h1,.inl ⟨h2,rfl,rfl,rfl⟩⟩,zao.nil _ _,hnz⟩
 ·exact⟨0,m,_,v1,v2,rfl,.inr ⟨h1,.inr ⟨h2,.inl ⟨rfl,h3,rfl⟩⟩⟩,h4,h5⟩
 ·exact⟨80,[],[],_,_,rfl,.inr ⟨h1,.inr ⟨h2,.inr ⟨rfl,h3,rfl,rfl⟩⟩⟩,zao.nil _ _,hnz⟩
theorem zb7.len {n k d:Nat} {l:List Sy} {t c:Int} {m:List GF} {zs:List Int} (h:zb7 n k d l t c m zs) (hl:l.length≤100000):zs.length≤100000:=by
 rcases h with ⟨h1,rfl,rfl,rfl⟩|⟨h1,⟨h2,rfl,rfl,rfl⟩|⟨h2,⟨rfl,h3,rfl⟩|⟨rfl,h3,rfl,rfl⟩⟩⟩
 ·exact Zbp _
 ·exact Zbp _
 ·exact Zat (ydg _ _) hl
 ·exact Zbp _
theorem zv4 {n k d t:Nat} {M:List GF} {l:List Sy} {zs:List Int} (hM:M.length=mbB k d) (h:zel (znp n k d M) t l zs) :
  (k+2*t≤l.length→zb7 n k d l (t:Int) 0 M zs)∧(l.length<k+2*t→zb7 n k d l (t:Int) 70 [] []):=by
 have hDl:(znp n k d M).length=n:=by simp[znp]
 have hD:∀i,i<n→(znp n k d M).getD i []=mbF n k d M i:=fun i hi=>by rw[zE2,znp,Zae,Zax hi];rfl
 have hw:wrD (mbF n k d M) l=zs:=zxz hDl hD h;have hg:zar n (-1) d l:=zm3 hDl (fun i hi=>by rw[hD i hi];exact za5 _ _ _ _) h (fun hm=>by
  have:=h.good.1 _ hm
  omega)
 refine⟨fun hk=>.inr ⟨⟨by omega,hg⟩,.inr ⟨by omega,.inl ⟨rfl,⟨hM,?_⟩,hw.symm⟩⟩⟩,fun hk=>.inr ⟨⟨by omega,hg⟩,.inl ⟨by omega,rfl,rfl,rfl⟩⟩⟩;rw[hw];exact h.few
end Go.Proofs.YtcclhhjcejmepaaGreat
namespace Go.Proofs.YtcclhhjcejmepaaGreat
open Go.RowKit
open Fld
def I64 (x:Int):Prop:=-9223372036854775808≤x∧x≤9223372036854775807
theorem yao {K D:Nat} (hk:K≤D) (hd:D≤9):mbB K D≤81:=by rw[zhl hk];have:K*D≤9*9:=Zai (by omega) hd;omega
theorem zf9 (n k d:Nat) (M:List GF):(znp n k d M).length=n:=by simp[znp]
end Go.Proofs.YtcclhhjcejmepaaGreat
namespace Go.Proofs.YtcclhhjcejmepaaGreat
open Go.RowKit
theorem zbh {w3 W wy:World} (h:Below w3.heap.size w3 W) (h2:Below W.heap.size W wy):Below w3.heap.size w3 wy:=h.trans (h2.mono h.size)
open Fld
def yc2 (xs:List GF) (k:Nat) (ps:List Int) (ys:List GF) (t:Int) (c:Int) (m:List GF) (zs:List Int):Prop :=
 (¬(zbc xs.length ps∧ps.length=ys.length)∨t<0)∧c=2∧m=[]∧zs=[] ∨
 ((zbc xs.length ps∧ps.length=ys.length)∧0≤t)∧((ps.length:Int)<(k:Int)+2*t∧c=70∧m=[]∧zs=[] ∨
  (k:Int)+2*t≤(ps.length:Int)∧(c=0∧zbs xs k ps ys t.toNat (some m)∧zs=wrS xs ps ys m∨c=80∧zbs xs k ps ys t.toNat none∧m=[]∧zs=[]))
theorem yc2.one {xs:List GF} {k:Nat} {ps:List Int} {ys:List GF} {t c c':Int} {m m':List GF} {zs zs':List Int} (hn:xs.Nodup) (h:yc2 xs k ps ys t c m zs) (h':yc2 xs k ps ys t c' m' zs'):c=c'∧m=m'∧zs=zs':=by
 have key:((zbc xs.length ps∧ps.length=ys.length)∧0≤t)→(k:Int)+2*t≤(ps.length:Int)→∀o o',zbs xs k ps ys t.toNat o→zbs xs k ps ys t.toNat o'→o=o':=fun hg hk o o' h1 h2 =>
  zdy hn hg.1.1 (by omega) h1 h2
 rcases h with ⟨h1,rfl,rfl,rfl⟩|⟨h1,⟨h2,rfl,rfl,rfl⟩|⟨h2,⟨rfl,h3,rfl⟩|⟨rfl,h3,rfl,rfl⟩⟩⟩<;>rcases h' with ⟨g1,rfl,rfl,rfl⟩|⟨g1,⟨g2,rfl,rfl,rfl⟩|⟨g2,⟨rfl,g3,rfl⟩|⟨rfl,g3,rfl,rfl⟩⟩⟩
 all_goals first
  | exact⟨rfl,rfl,rfl⟩
  | (exfalso;exact h1.elim (fun h=>h g1.1) (fun h=>by have:=g1.2;omega))
  | (exfalso;exact g1.elim (fun h=>h h1.1) (fun h=>by have:=h1.2;omega))
  | omega
  | (cases key h1 h2 _ _ h3 g3;exact⟨rfl,rfl,rfl⟩)
  | (cases key h1 h2 _ _ h3 g3)
theorem zoh.is {B:Nat} {xs:List GF} {k:Nat} {ps:List Int} {ys:List GF} {t:Int} {e:Ending} {w':World} (h:zoh B xs k ps ys t e w'):∃c m zs v1 v2,e=.returned (.tuple #[v1,v2,.int .i64 c])∧yc2 xs k ps ys t c m zs∧zao w' B v1 m∧RdZ w' B v2 zs:=by
 have hnz:RdZ w' B (.slice none 0 0) []:=RdZ.of_own (za4.nil _ _);rcases h with ⟨h1,rfl⟩|⟨h1,⟨h2,rfl⟩|⟨h2,⟨m,v1,v2,rfl,h3,h4,h5⟩|⟨rfl,h3⟩⟩⟩
 ·exact⟨2,[],[],_,_,rfl,.inl ⟨h1,rfl,rfl,rfl⟩,zao.nil _ _,hnz⟩
 ·exact⟨70,[],[],_,_,rfl,.inr ⟨h1,.inl ⟨h2,rfl,rfl,rfl⟩⟩,zao.nil _ _,hnz⟩
 ·exact⟨0,m,_,v1,v2,rfl,.inr ⟨h1,.inr ⟨h2,.inl ⟨rfl,h3,rfl⟩⟩⟩,h4,h5⟩
 ·exact⟨80,[],[],_,_,rfl,.inr ⟨h1,.inr ⟨h2,.inr ⟨rfl,h3,rfl,rfl⟩⟩⟩,zao.nil _ _,hnz⟩
theorem yc2.len {xs:List GF} {k:Nat} {ps:List Int} {ys:List GF} {t c:Int} {m:List GF} {zs:List Int} (h:yc2 xs k ps ys t c m zs) (hl:ps.length≤100000):zs.length≤100000:=by
 rcases h with ⟨h1,rfl,rfl,rfl⟩|⟨h1,⟨h2,rfl,rfl,rfl⟩|⟨h2,⟨rfl,h3,rfl⟩|⟨rfl,h3,rfl,rfl⟩⟩⟩
 ·exact Zbp _
 ·exact Zbp _
 ·have:=h3.2
  omega
 ·exact Zbp _
theorem zx0 (m k:Nat) (hm:m<18446744073709551616):(bits .and .u64 ((m:Int) / 2 ^ k) 1 == 0)=!m.testBit k:=by
 have h:((m:Int) / 2 ^ k)=((m / 2 ^ k:Nat):Int):=by simp
 have h2:m / 2 ^ k<18446744073709551616:=Nat.lt_of_le_of_lt (Nat.div_le_self _ _) hm;have h3:=bits_and_u64_nat (m / 2 ^ k) 1 h2 (by omega);rw[h];rw[show ((1:Nat):Int)=1 from rfl] at h3;rw[h3,Nat.and_one_is_mod,Nat.testBit_eq_decide_div_mod_eq];by_cases hh:m / 2 ^ k % 2=1
 ·simp[hh]
 ·have:m / 2 ^ k % 2=0:=by omega
  simp[this]
theorem zag.one (W:World) (b:GF) {y:Nat} (hy:b.n=y):zag (W.alloc (.cells #[.int .u8 (y:Nat)] 5)) W.heap.size 1 (fun i=>[b].getD i 0):=by
 subst hy;have hh:(W.alloc (.cells #[.int .u8 (b.n:Nat)] 5)).heap[W.heap.size]? = some (.cells #[.int .u8 (b.n:Nat)] 5 (0,0)):=nwA _ _;refine⟨by simp,fun j hj=>?_⟩;obtain rfl:j=0:=by omega
 exact⟨cOH hh rfl,fOH hh 0⟩
theorem ydo {w:World} {B N ga oa c5 n1:Nat} {D:List (List GF)} {S:List Ro} (h:zoj w B (.slice (some ⟨ga,oa,none⟩) N c5) D S) (hd:D.length=N) {i:Nat} (hi:i<N) {f:List GF} (hf:D.getD i []=f) (hn:f.length=n1):∃a c,w.cell? ⟨ga,oa+i,none⟩=some (.slice a n1 c)∧GRd w (.slice a n1 c) f∧∀A,a=some A→B≤A.block:=by
 have hsl:S.length=N:=by have:=congrArg List.length h.eq;simpa[hd] using this
 obtain⟨s,hs⟩:∃s,S[i]? = some s:=⟨_,zE1 (by rw[hsl];exact hi)⟩;have hsd:s.d=f:=by
  have:=congrArg (·.getD i []) h.eq
  rw[hf,zE2,Zae,hs] at this;exact this
 obtain⟨-,-,b,o,e,-,hat⟩:=SRd.at h.all.rd hs;cases e;have h1:=hat 0 _ rfl;have h2:=h.all.each s (Zad hs);unfold Ro.v at h1 h2;rw[hsd,hn] at h1 h2;exact⟨s.a,s.cp,by simpa using h1,h2,h.new s (Zad hs)⟩
def zka (n:Nat) (f:Nat→List GF):List (List GF):=(List.range n).map f
def zjn (j bs I:Nat):List Nat:=(List.range I).filter fun i=>decide (i≠j) && bs.testBit i
theorem zxe {j bs I:Nat} (h:I=j∨bs.testBit I=false):zjn j bs (I+1)=zjn j bs I:=by
 unfold zjn;rw[Zbh,Zcj,List.filter_cons_of_neg,List.filter_nil,Zal];rcases h with h|h
 ·simp[h]
 ·simp[h]
theorem zzy {j bs I:Nat} (h:I≠j) (h2:bs.testBit I=true):zjn j bs (I+1)=zjn j bs I++[I]:=by unfold zjn;rw[Zbh,Zcj,List.filter_cons_of_pos,List.filter_nil];simp[h,h2]
theorem zrf {j bs I x:Nat}:x∈zjn j bs I↔x<I∧x≠j∧bs.testBit x=true:=by unfold zjn;rw[Zbk,Zaj];simp
theorem zoe (j bs I:Nat):(zjn j bs I).Pairwise (· < ·):=List.pairwise_lt_range.filter _
theorem zrg (j bs I:Nat):(zjn j bs I).length≤I:=Zat (Zce _ _) (by simp)
theorem zre {j bs n:Nat}:zbc n (za6 (zjn j bs n))∧(j:Int)∉za6 (zjn j bs n):=by
 refine⟨⟨fun x hx=>?_,?_⟩,fun hm=>?_⟩
 ·obtain⟨y,hy,rfl⟩:=Zau.1 hx;have:=(zrf.1 hy).1;omega
 ·refine Zbz.2 ((zoe j bs n).imp fun {a b} hab=>?_);intro e;omega
 ·obtain⟨y,hy,e⟩:=Zau.1 hm;have:=(zrf.1 hy).2.1;omega
theorem zv3 {j bs n t:Nat} {xs p:List GF} {l:List Sy} (hx:xs.length=n) (hn:Sy.nodes l=za6 (zjn j bs n)) (hl:∀s∈l,s.d.length=1) (hb:(l.filter (bad (zka n fun i=>[ev p (xs.getD i 0)]))).length≤t) :
  wrS xs (Sy.nodes l) (ysL l) p=Sy.nodes (l.filter (bad (zka n fun i=>[ev p (xs.getD i 0)])))∧(Sy.nodes (l.filter (bad (zka n fun i=>[ev p (xs.getD i 0)])))).length≤t∧zar n (j:Int) 1 l:=by
 obtain⟨D,hD⟩:∃D,zka n (fun i=>[ev p (xs.getD i 0)])=D:=⟨_,rfl⟩;rw[hD] at hb ⊢;have hDl:D.length=n:=by rw[←hD];simp[zka]
 have hDg:∀i,i<n→D.getD i []=[ev p (xs.getD i 0)]:=fun i hi=>by rw[←hD,zka,zE2,Zae,Zax hi];rfl
 have hg:=zre (j:=j) (bs:=bs) (n:=n);rw[←hn] at hg;have hti:zel D t l (Sy.nodes (l.filter (bad D))):=by
  refine⟨by rw[hDl];exact hg.1,fun s hs=>?_,?_,fun x=>?_,by rw[Sy.nodes,Zag];exact hb⟩
  ·have:=hg.1.1 s.node (Zau.2 ⟨s,hs,rfl⟩)
   rw[hl s hs,hDg _ (by omega)];rfl
  ·have h1:(Sy.nodes l).Pairwise (· < ·):=by
    rw[hn];exact Zbz.2 ((zoe j bs n).imp fun {a b} hab=>by omega)
   exact h1.sublist (List.Sublist.map _ List.filter_sublist)
  ·unfold Sy.nodes;rw[Zau];constructor
   ·rintro ⟨s,hs,e⟩;obtain⟨h1,h2⟩:=Zbk.1 hs;exact⟨s,h1,e,of_decide_eq_true h2⟩
   ·rintro ⟨s,hs,e,h⟩;exact⟨s,Zbk.2 ⟨hs,decide_eq_true h⟩,e⟩
 exact⟨ya1 (by rw[hDl,hx]) (fun i hi=>hDg i (by omega)) hti,hti.few,zm3 hDl (fun i hi=>by rw[hDg i hi];rfl) hti hg.2⟩
def zgp (n d:Nat) (xs:List GF) (to_:Int) (l:List Sy) (t:Int) (c:Int) (m:List GF) (zs:List Int):Prop :=
 ¬(((0≤to_∧to_<(n:Int))∧0≤t)∧zar n to_ 1 l)∧c=2∧m=[]∧zs=[] ∨
 (((0≤to_∧to_<(n:Int))∧0≤t)∧zar n to_ 1 l)∧yc2 xs d (Sy.nodes l) (ysL l) t c m zs
theorem zgp.one {n d:Nat} {xs:List GF} {to_:Int} {l:List Sy} {t c c':Int} {m m':List GF} {zs zs':List Int} (hn:xs.Nodup) (h:zgp n d xs to_ l t c m zs) (h':zgp n d xs to_ l t c' m' zs'):c=c'∧m=m'∧zs=zs':=by
 rcases h with ⟨h1,rfl,rfl,rfl⟩|⟨h1,h2⟩<;>rcases h' with ⟨g1,rfl,rfl,rfl⟩|⟨g1,g2⟩
 ·exact⟨rfl,rfl,rfl⟩
 ·exact absurd g1 h1
 ·exact absurd h1 g1
 ·exact h2.one hn g2
theorem zhe.is {B n d:Nat} {xs:List GF} {to_:Int} {l:List Sy} {t:Int} {e:Ending} {w':World} (h:zhe B n d xs to_ l t e w'):∃c m zs v1 v2,e=.returned (.tuple #[v1,v2,.int .i64 c])∧zgp n d xs to_ l t c m zs∧zao w' B v1 m∧RdZ w' B v2 zs:=by
 have hnz:RdZ w' B (.slice none 0 0) []:=RdZ.of_own (za4.nil _ _);rcases h with ⟨h1,rfl⟩|⟨h1,h2⟩
 ·exact⟨2,[],[],_,_,rfl,.inl ⟨h1,rfl,rfl,rfl⟩,zao.nil _ _,hnz⟩
 ·obtain⟨c,m,zs,v1,v2,he,hi,h3,h4⟩:=h2.is;exact⟨c,m,zs,v1,v2,he,.inr ⟨h1,hi⟩,h3,h4⟩
theorem zgp.len {n d:Nat} {xs:List GF} {to_:Int} {l:List Sy} {t c:Int} {m:List GF} {zs:List Int} (h:zgp n d xs to_ l t c m zs) (hl:l.length≤100000):zs.length≤100000:=by
 rcases h with ⟨h1,rfl,rfl,rfl⟩|⟨h1,h2⟩
 ·exact Zbp _
 ·exact h2.len (by rw[Sy.nodes,Zag];exact hl)
theorem yb2 {n d K t j bs:Nat} {xs M:List GF} {l:List Sy} (hx:xs.length=n) (hj:j<n) (hn:Sy.nodes l=za6 (zjn j bs n)) (hl:∀s∈l,s.d.length=1) (hb:(l.filter (bad (zka n fun i=>[ev (zau K d M (xs.getD j 0)) (xs.getD i 0)]))).length≤t) :
  (d+2*t≤l.length→zgp n d xs (j:Int) l (t:Int) 0 (zau K d M (xs.getD j 0)) (Sy.nodes (l.filter (bad (zka n fun i=>[ev (zau K d M (xs.getD j 0)) (xs.getD i 0)]))))) ∧
  (l.length<d+2*t→zgp n d xs (j:Int) l (t:Int) 70 [] []):=by
 obtain⟨h1,h2,h3⟩:=zv3 (p:=zau K d M (xs.getD j 0)) hx hn hl hb;have hg:zbc xs.length (Sy.nodes l)∧(Sy.nodes l).length=(ysL l).length:=⟨by rw[hx];exact h3.1,by simp[Sy.nodes,ysL]⟩;have hnl:(Sy.nodes l).length=l.length:=by simp[Sy.nodes]
 refine⟨fun hk=>.inr ⟨⟨⟨⟨by omega,by omega⟩,by omega⟩,h3⟩,.inr ⟨⟨hg,by omega⟩,.inr ⟨by omega,.inl ⟨rfl,⟨za5 _ _ _ _,?_⟩,h1.symm⟩⟩⟩⟩,fun hk=>.inr ⟨⟨⟨⟨by omega,by omega⟩,by omega⟩,h3⟩,.inr ⟨⟨hg,by omega⟩,.inl ⟨by omega,rfl,rfl,rfl⟩⟩⟩⟩;rw[h1];exact h2
end Go.Proofs.YtcclhhjcejmepaaGreat
