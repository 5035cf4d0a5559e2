import Derived.Test.YtcclhhjcejmepaaGreatZWk
set_option linter.all false
set_option maxRecDepth 100000
set_option maxHeartbeats 8000000
namespace Go.Proofs.YtcclhhjcejmepaaGreat
open Go.RowKit Fld
def Sy.sk (s:Sy):Sy:=⟨s.node,none,0,s.d⟩
theorem yap {l l':List Sy} (h1:Sy.nodes l'=Sy.nodes l) (h2:l'.map Sy.d=l.map Sy.d):l'.map Sy.sk=l.map Sy.sk:=by refine List.ext_getElem? fun i=>?_;have e1:=congrArg (·[i]?) h1;have e2:=congrArg (·[i]?) h2;simp only[Sy.nodes,Zae] at e1 e2;rw[Zae,Zae];cases h:l'[i]?<;>cases g:l[i]?<;>rw[h,g] at e1 e2<;>simp at e1 e2<;>simp[Sy.sk,e1,e2]
theorem zlp (l:List Sy):Sy.nodes (l.map Sy.sk)=Sy.nodes l:=by simp[Sy.nodes,Sy.sk,Function.comp_def]
theorem ydm (l:List Sy):ysL (l.map Sy.sk)=ysL l:=by simp[ysL,Sy.sk,Function.comp_def]
theorem ydn (l:List Sy):(l.map Sy.sk).length=l.length:=by simp
theorem zup {N:Nat} {not:Int} {sz:Nat} {l:List Sy}:zar N not sz (l.map Sy.sk)↔zar N not sz l:=by unfold zar;rw[zlp];refine and_congr_right fun _=>⟨fun h s hs=>h (Sy.sk s) (Zau.2 ⟨s,hs,rfl⟩),fun h s hs=>?_⟩;obtain⟨t,ht,rfl⟩:=Zau.1 hs;exact h t ht
theorem zum (f:Nat→List GF) (l:List Sy):wrD f (l.map Sy.sk)=wrD f l:=by unfold wrD;rw[List.filter_map,zlp];rfl
theorem zp7 {α:Type} {ok:α→Prop} {f:α→Nat→List GF} {l:List Sy} {t:Nat} {o:Option α}:zc2 ok f (l.map Sy.sk) t o↔zc2 ok f l t o:=by
 cases o with
 | some m =>
  show (ok m∧(wrD (f m) (l.map Sy.sk)).length≤t)↔(ok m∧(wrD (f m) l).length≤t);rw[zum]
 | none=>exact forall_congr' fun m=>imp_congr_right fun _=>by rw[zum]
theorem zuo {n k d:Nat} {l:List Sy} {t c:Int} {m:List GF} {zs:List Int}:zb7 n k d (l.map Sy.sk) t c m zs↔zb7 n k d l t c m zs:=by unfold zb7;rw[zup,ydn,zp7,zp7,zum]
def zoo (n:Nat) (w:World) (e:Ending) (w':World):Prop:=∃v,e=.returned v∧za4 w' w.heap.size v (zqg n (fun j=>j))∧Below w.heap.size w w'
theorem zko (k:Nat) (w:World) (hk:k≤100000) :
  Calls Tryz.prog 55 #[.int .i64 k] w (zoo k w):=by
 go_enter Tryz.func55,Tryz.ntmps55;go_wp2;go_loopg [3,4] k (fun gk l i wr=>∃(V:Value) (J:Nat),V=l∧J≤k∧gk=k-J∧i=.int .i64 J∧Hid (za4 wr w.heap.size V (zqg J (fun j=>j)))∧Hid (Below w.heap.size w wr))
 case atStart=>exact⟨_,0,rfl,by omega,rfl,rfl,Hd (za4.nil _ _),Hd (Zaa _ _)⟩
 case round =>
  obtain⟨V,J,rfl,hJ,rfl,rfl,HO,HB⟩:=hrel;have hs:=HB.out.size;by_cases hlt:J<k
  ·obtain⟨v1,w6,hap,ho1,-,hb6,-⟩:=zdf (W:=wr) (J:Int) HO.out (by rw[zf0];omega) (by omega) (ad:=wr.heap.size) rfl;have HO6:Hid (za4 w6 w.heap.size v1 (zqg (J+1) (fun j=>j))):=Hd (by rw[zux];exact ho1);have HB6:=Hd (HB.out.trans hb6);clear ho1 hb6;go_wp2_with (at_builtin;refine zae rfl _ _ _ rfl rfl rfl hap ?_);go_roundg (k-(J+1))
   case measure=>omega
   case rel=>exact⟨_,J+1,rfl,by omega,rfl,by go_num,HO6,HB6⟩
  ·obtain rfl:J=k:=by omega
   have HP:Hid (zoo J w (.returned V) wr):=Hd ⟨V,rfl,HO.out,HB.out⟩;go_wp2;go_ret;exact HP.out
def zz7 (g k n:Nat) (r:Nat→Nat) (w:World) (e:Ending) (w':World):Prop :=
 Kp [g] w w'∧((∃i,i<k∧r i+(k-i)<n∧(∀j,i<j→j<k→n≤r j+(k-j))∧e=.returned (.bool true)∧zco w' g k (nxt r i)) ∨
  ((∀j,j<k→n≤r j+(k-j))∧e=.returned (.bool false)∧zco w' g k r))
def zyu (r:Nat→Nat) (i K:Nat):Nat→Nat:=fun j=>if j<i then r j else if j<K then r i+1+(j-i) else r j
theorem zi1 (g cap k n:Nat) (r:Nat→Nat) (w:World) (hv:zco w g k r) (hr:∀j,j<k→r j<n) (hkn:k≤n) (hn:n≤100000) :
  Calls Tryz.prog 56 #[.slice (some ⟨g,0,none⟩) k cap,.int .i64 n] w (zz7 g k n r w):=by
 have HV:=Hd hv;have HRR:=Hd hr;have hg:=hv.1;obtain⟨M,hM⟩:=zE4 (n-k);have x1:(n:Int)-(k:Int)=(M:Int):=by omega
 have x2:=zE6 (M:Int) (by omega);have x3:IntKind.i64.wrap ((k:Int)-1)=(k:Int)-1:=Zbd _ (by omega);have hM2:M≤100000:=by omega
 have HM:=Hd hM;clear hv hr hM;go_enter Tryz.func56,Tryz.ntmps56;go_wp2;clear x3;go_loopg [5] k (fun gk s wr=>∃(J:Nat) (iv:Int),J≤k∧J=gk∧s=.int .i64 iv∧iv=(J:Int)-1∧Hid (∀j,J≤j→j<k→n≤r j+(k-j))∧Hid (zco wr g k r)∧Hid (Kp [g] w wr))
 case atStart=>exact⟨k,_,zE3 _,rfl,rfl,rfl,Hd (fun j h1 h2=>by omega),HV,Hd (Kp.refl _ _)⟩
 case round =>
  clear HV;obtain⟨J,iv,hJ,rfl,rfl,hiv,HT,HV,HK⟩:=hrel;by_cases h0:J=0
  ·subst h0;have hneg:¬(0:Int)≤iv:=by omega
   clear hiv;go_wp2;go_ret;exact⟨HK.out,.inr ⟨fun j hj=>HT.out j (by omega) hj,rfl,HV.out⟩⟩
  ·obtain⟨i,rfl⟩:∃i,J=i+1:=⟨J-1,by omega⟩;obtain rfl:iv=(i:Int):=by omega
   have hik:i<k:=by omega
   obtain⟨c1,f1⟩:=HV.out.2 i hik;have hrn:=HRR.out i hik;obtain⟨x,hx⟩:=zE4 (r i);rw[hx] at c1;have hxn:x<n:=by omega
   obtain⟨P,hP⟩:=zE4 (M+i);have y1:(M:Int)+(i:Int)=(P:Int):=by omega
   have y2:=zE6 (P:Int) (by omega);have y3:(0:Int)≤(i:Int)∧(i:Int)<(k:Int):=by omega
   have HX:=Hd hx;have HP:=Hd hP;have hgr:=HV.out.1;clear hx hP hiv hrn;by_cases hlt:x<P
   ·obtain⟨y,hy⟩:=zE4 (x+1);have y4:(x:Int)+1=(y:Int):=by omega
    have y5:=zE6 (y:Int) (by omega);have hyn:y≤200000:=by omega
    have hVN:zco (wr.setCell ⟨g,i,none⟩ (.int .i64 (y:Int))) g k (zyu r i (i+1)):=(HV.out.set hik y).congr fun j hj=>by
     unfold zyu;by_cases e:j=i
     ·subst e;rw[if_pos rfl,if_neg (by omega),if_pos (by omega),HX.out];omega
     ·rw[if_neg e];by_cases e2:j<i
      ·rw[if_pos e2]
      ·rw[if_neg e2,if_neg (by omega)]
    have hKN:Kp [g] w (wr.setCell ⟨g,i,none⟩ (.int .i64 (y:Int))):=HK.out.setCell (.inl (by simp)) _;have HVN:=Hd hVN;have HKN:=Hd hKN;have HY:=Hd hy;clear hVN hKN hy;go_wp2;clear c1 f1 y1 y2 y4 y5;go_loopg [6] (k-(i+1)) (fun gk s wr=>∃(K:Nat),K≤k∧i<K∧gk=k-K∧s=.int .i64 K∧Hid (zco wr g k (zyu r i K))∧Hid (Kp [g] w wr))
    case atStart=>exact⟨i+1,by omega,by omega,by omega,by go_num,HVN,HKN⟩
    case round =>
     clear HVN HKN HV HK;obtain⟨K,hK,hiK,rfl,rfl,HV,HK⟩:=hrel;by_cases hKk:K<k
     ·obtain⟨Q,rfl⟩:∃Q,K=Q+1:=⟨K-1,by omega⟩;obtain⟨c2,f2⟩:=HV.out.2 Q (by omega);obtain⟨c3,f3⟩:=HV.out.2 (Q+1) hKk;have hgr:=HV.out.1;have e1:zyu r i (Q+1) Q=y+(Q-i):=by
       unfold zyu;rw[if_neg (by omega),if_pos (by omega),HX.out,HY.out]
      rw[e1] at c2;obtain⟨Y,hY⟩:=zE4 (y+(Q-i));obtain⟨Z,hZ⟩:=zE4 (Y+1);obtain⟨K,hKe⟩:=zE4 (Q+1);obtain⟨O,hO⟩:=zE4 (zyu r i (Q+1) (Q+1));rw[hO] at c3;rw[hY] at c2;have z1:(K:Int)-1=(Q:Int):=by omega
      have z2:=zE6 (Q:Int) (by omega);have z3:(Y:Int)+1=(Z:Int):=by omega
      have z4:=zE6 (Z:Int) (by omega);have z5:(0:Int)≤(Q:Int)∧(Q:Int)<(k:Int):=by omega
      have z6:(0:Int)≤(K:Int)∧(K:Int)<(k:Int):=by omega
      have hVN:zco (wr.setCell ⟨g,K,none⟩ (.int .i64 (Z:Int))) g k (zyu r i (K+1)):=by
       have:=HV.out.set hKk Z
       rw[hKe] at this;refine this.congr fun j hj=>?_;unfold zyu;by_cases e:j=K
       ·rw[if_pos e,if_neg (by omega),if_pos (by omega),HX.out];have:=HY.out;omega
       ·rw[if_neg e];by_cases e2:j<i
        ·rw[if_pos e2,if_pos e2]
        ·rw[if_neg e2,if_neg e2];by_cases e3:j<K
         ·rw[if_pos e3,if_pos (by omega)]
         ·rw[if_neg e3,if_neg (by omega)]
      have hKN:Kp [g] w (wr.setCell ⟨g,K,none⟩ (.int .i64 (Z:Int))):=HK.out.setCell (.inl (by simp)) _;have HVN:=Hd hVN;have HKN:=Hd hKN;rw[hKe] at c3 f3 ⊢;have hKk2:K<k:=by omega
      have HQK:=Hd hKe;clear hVN hKN hY hZ hO hKe e1 HV HK;go_wp2;go_roundg (k-(K+1))
      case measure=>omega
      case rel=>exact⟨K+1,by omega,by have:=HQK.out;omega,rfl,by go_num,HVN,HKN⟩
     ·obtain rfl:K=k:=by omega
      go_wp2;go_ret;refine⟨HK.out,.inl ⟨i,hik,?_,fun j h1 h2=>HT.out j (by omega) h2,rfl,HV.out.congr fun j hj=>?_⟩⟩
      ·have:=HP.out
       have:=HM.out
       have:=HX.out
       omega
      ·unfold zyu nxt;by_cases e:j<i
       ·rw[if_pos e,if_pos e]
       ·rw[if_neg e,if_neg e,if_pos hj]
   ·have HT2:Hid (∀j,i≤j→j<k→n≤r j+(k-j)):=Hd fun j h1 h2=>by
     rcases Nat.lt_or_eq_of_le h1 with e|e
     ·exact HT.out j (by omega) h2
     ·subst e;have:=HP.out;have:=HM.out;rw[HX.out];omega
    go_wp2;go_roundg i
    case measure=>omega
    case rel=>exact⟨i,_,by omega,rfl,rfl,by omega,HT2,HV,HK⟩
structure zgk (w:World) (B:Nat) (v:Value) (l:List Ro):Prop where
 row:zgq w B v l
 each:∀s∈l,GRd w s.v s.d
 new:∀s∈l,∀a,s.a=some a→B≤a.block∧v.ownBlock≠some a.block∧a.block<w.heap.size
theorem zgk.nil (w:World) (B:Nat):zgk w B (.slice none 0 0) []:=⟨zgq.nil _ _,by simp,by simp⟩
theorem zgk.all {w:World} {B:Nat} {v:Value} {l:List Ro} (h:zgk w B v l):zdv w v l:=h.row.all h.each
theorem zgk.below {w w':World} {B:Nat} {v:Value} {l:List Ro} (h:zgk w B v l) (hb:Below w.heap.size w w'):zgk w' B v l :=
 ⟨h.row.below hb,fun s hs=>(h.each s hs).below hb,fun s hs a ha=>by
  have h1:=h.new s hs a ha;have:=hb.size;exact⟨h1.1,h1.2.1,by omega⟩⟩
theorem ycz {W:World} {B:Nat} {V:Value} {l:List Ro} {s:Ro} (h:zgk W B V l) (hs:GRd W s.v s.d) (hn:∀a,s.a=some a→B≤a.block∧V.ownBlock≠some a.block∧a.block<W.heap.size) (hl:l.length≤1000000) (hb:B≤W.heap.size) {ad:Nat} (had:ad=W.heap.size) :
  ∃v1 w3,(Builtin.append_ #[33,33] 33 #[V,.slice (some ⟨ad,0,none⟩) 1 1]).run Tryz.prog (W.alloc (.cells #[.slice s.a s.d.length s.cp] 22))=.ok v1 w3 ∧
   zgk w3 B v1 (l++[s])∧Kp V.ownBlock.toList W w3∧Below B W w3:=by
 obtain⟨v1,w3,hap,hown1,hk,hbe,hat1⟩:=yay (s:=s) h.row hl hb had;subst had;have hap1:∀t:Ro,GRd W t.v t.d→(∀a,t.a=some a→V.ownBlock≠some a.block)→GRd w3 t.v t.d:=fun t ht ha=>ht.kp hk (fun k hkk hm=>by
  cases e:t.a with
  | none=>rw[Ro.v,e] at hkk;simp[Value.ownBlock] at hkk
  | some a =>
   rw[Ro.v,e] at hkk;simp only[Value.ownBlock,Option.some.injEq] at hkk;exact ha a e (by rw[hkk];simpa using hm))
 have hsz:=hk.size;have hnew:∀t:Ro,(∀a,t.a=some a→B≤a.block∧V.ownBlock≠some a.block∧a.block<W.heap.size)→∀a,t.a=some a→B≤a.block∧v1.ownBlock≠some a.block∧a.block<w3.heap.size:=fun t ht a ha=>by
  have h1:=ht a ha;refine⟨h1.1,?_,by omega⟩;rcases hat1 with h2|h2
  ·rw[h2];exact h1.2.1
  ·rw[h2];intro e;have:=Zcd e;omega
 refine⟨v1,w3,hap,⟨hown1,fun t ht=>?_,fun t ht=>?_⟩,hk,hbe⟩
 ·rcases Zba.1 ht with ht|ht
  ·exact hap1 t (h.each t ht) (fun a ha=>(h.new t ht a ha).2.1)
  ·rw[Zaq.1 ht];exact hap1 s hs (fun a ha=>(hn a ha).2.1)
 ·rcases Zba.1 ht with ht|ht
  ·exact hnew t (h.new t ht)
  ·rw[Zaq.1 ht];exact hnew s hn
theorem zo3 (av sv:Value) (S:List Ro) (l:List Sy) (w:World) (hS:zdv w av S) (hl:zby w sv l) (hSl:S.length≤1000) (hll:l.length≤1000) :
  Calls Tryz.prog 67 #[av,sv] w fun e w'=>∃v,e=.returned v∧za4 w' w.heap.size v (oth (S.map Ro.d) l S.length)∧Below w.heap.size w w':=by
 obtain⟨aS,cS,rfl⟩:=hS.rd.form;obtain⟨a0,c0,rfl⟩:=hl.rd.form;obtain⟨N,hN⟩:=zE4 S.length;obtain⟨I,hI⟩:=zE4 l.length;have HN:=Hd hN;have HLL:=Hd hI;have HS:=Hd hS;have HT:=Hd hl;rw[hN] at HS hSl ⊢;rw[hI] at HT hll ⊢;clear hS hl hN hI;go_enter Tryz.func67,Tryz.ntmps67;go_wp2;go_loopg [5,6] N (fun gk p i wr=>∃(V:Value) (j:Nat),V=p∧j≤N∧gk=N-j∧i=.int .i64 j∧Hid (za4 wr w.heap.size V (oth (S.map Ro.d) l j))∧Hid (Below w.heap.size w wr))
 case atStart=>exact⟨_,0,rfl,by omega,rfl,rfl,Hd (za4.nil _ _),Hd (Zaa _ _)⟩
 case round =>
  obtain⟨V,j,rfl,hj,rfl,rfl,HO,HB6⟩:=hrel;have hsr6:=HB6.out.size;by_cases hltj:j<N
  ·have HLEN:Hid ((oth (S.map Ro.d) l j).length≤1000):=Hd (Zat (zo8 _ _ _) (Zat (Zce _ _) (by rw[HLL.out];omega)));go_wp2;go_loopg [5,7] I (fun gk p i wr=>∃(V:Value) (E:Nat),V=p∧E≤I∧gk=I-E∧i=.int .i64 E∧Hid (za4 wr w.heap.size V (oth (S.map Ro.d) l j++zhu (S.map Ro.d) (l.take E) j))∧Hid (Below w.heap.size w wr))
   case atStart=>exact⟨_,0,rfl,by omega,rfl,rfl,by rw[zqq,Zal];exact HO,HB6⟩
   case round =>
    clear HO HB6 hsr6;obtain⟨V,E,rfl,hE,rfl,rfl,HO,HB6⟩:=hrel;have hsr6:=HB6.out.size;by_cases hltE:E<I
    ·obtain⟨s,hs⟩:∃s,l[E]? = some s:=⟨_,zE1 (by rw[HLL.out];exact hltE)⟩;obtain⟨q,hq⟩:∃q,S[j]? = some q:=⟨_,zE1 (by rw[HN.out];exact hltj)⟩;have hbw:Below w.heap.size w wr:=HB6.out;have hTR:=HT.out.below HB6.out;obtain⟨-,-,bv,ov,rfl,hbv,hat⟩:=SRd.at hTR.rd hs;have d0:wr.cell? ⟨bv,ov+E*2,none⟩=some (.int .i64 s.node):=hat 0 _ rfl;have d1:wr.cell? ⟨bv,ov+E*2+1,none⟩=some (.slice s.a s.d.length s.cp):=hat 1 _ rfl;obtain⟨-,-,bq,oq,rfl,hbq,hatq⟩:=SRd.at (HS.out.below hbw).rd hq;have d2:wr.cell? ⟨bq,oq+j,none⟩=some (.slice q.a q.d.length q.cp):=by simpa[Ro.v] using hatq 0 _ rfl
     have r1:GRd wr (.slice s.a s.d.length s.cp) s.d:=hTR.each s (Zad hs);have r2:GRd wr (.slice q.a q.d.length q.cp) q.d:=(HS.out.below hbw).each q (Zad hq);have v1:=zat.conv (GRd.below r1 (Zaa _ _).drew)
     have v2:=zat.conv (GRd.below r2 (Zaa _ _).drew)
     have hst:za1 (s.d.map GF.n)=za1 (q.d.map GF.n)↔s.d=q.d:=(zdk r1.1 r2.1).trans ⟨fun e=>zeu e,fun e=>by rw[e]⟩;obtain⟨st1,hst1⟩:∃st,za1 (s.d.map GF.n)=st:=⟨_,rfl⟩;obtain⟨st2,hst2⟩:∃st,za1 (q.d.map GF.n)=st:=⟨_,rfl⟩;rw[hst1] at v1 hst;rw[hst2] at v2 hst;have hot:=znk (D:=S.map Ro.d) (j:=j) hs;have HBD:Hid (Below w.heap.size w wr.drew):=Hd HB6.out.drew;obtain⟨x,hx⟩:=zE4 s.node;rw[hx] at d0;obtain⟨kp,hkp⟩:∃kp:Nat→Bool,∀j,kp j=true↔j<wr.heap.size:=⟨fun j=>decide (j<wr.heap.size),by simp⟩;have k1:kp bv=true:=(hkp _).2 hbv;have k2:kp bq=true:=(hkp _).2 hbq;have HKP:=Hd hkp;have i1:(0:Int)≤(E:Int)∧(E:Int)<(I:Int):=by omega
     have i2:(0:Int)≤(j:Int)∧(j:Int)<(N:Int):=by omega
     have hbq2:bad (S.map Ro.d) s=decide (s.d≠(S.map Ro.d).getD s.node.toNat []):=rfl;have HLT:=Hd hltE;by_cases hxj:x=(j:Int)
     ·have hdj:(S.map Ro.d).getD s.node.toNat []=q.d:=by rw[hx,hxj,Zam];exact dAt hq
      rw[hdj] at hbq2;rw[hx] at hot;subst hxj;by_cases hss:st1=st2
      ·subst hss;have hbf:bad (S.map Ro.d) s=false:=by rw[hbq2,decide_eq_false (not_not_intro (hst.1 rfl))]
       have HO2:Hid (za4 wr.drew w.heap.size V (oth (S.map Ro.d) l j++zhu (S.map Ro.d) (l.take (E+1)) j)):=Hd (by
        rw[hot,hbf,if_neg (by simp)];exact HO.out)
       clear hkp hx hs hq hTR hat hatq r1 r2 hst hst1 hst2 hot hbq2 hdj hbf hbw;go_upto_region 8 with fail
       have hgr:=hgK (fun j=>kp j=true);refine w_T (fun j=>kp j=true) [13,18] (.sq [0,1,2,3,4,5,6,7,8,9,10,11,12,14,15,16,17] (.fork 13 (.sq [18,19,20] .done) 18 (.sq [13,19,20] .done))) (by kernel_rfl) (by kernel_rfl) ?_;simp only[TQ,Oper.slim,Nat.reduceBEq,Nat.reduceAdd]
       repeat' first|((with_reducible refine w_I ?_);first|(with_reducible refine w_D ?_)|(with_reducible refine zaf ?_ ?_)|((with_reducible refine w_S (fun K hK=>?_));go_simp;first|(refine hK _ _ ?_;clear hK K)|(refine⟨by (intro kk hkk;first|(simp (disch:=(simp;omega)) only[h_D,h_N,h_A,h_S];done)|(simp[h_D,h_N,h_I,hkk];done)|(have hkk2:=(HKP.out kk).1 hkk;simp (disch:=(first|omega|(simp;omega))) only[h_D,h_N,h_A,h_S];done)),hK _ _ ?_⟩;clear hK K)))|fail
       all_goals clear hgr
       all_goals go_wp2
       all_goals go_roundg (I-(E+1))
       all_goals first
        | omega
        | exact Nat.sub_lt_sub_left HLT.out (Nat.lt_succ_self E)
        | exact⟨_,E+1,rfl,HLT.out,rfl,by go_num,HO2,HBD⟩
      ·have hsl:¬st1.data.toList=st2.data.toList:=fun e=>hss (by
        have e2:st1.data=st2.data:=Array.toList_inj.1 e;cases st1;cases st2;simp only at e2;rw[e2])
       have hb1:(st1.data.toList == st2.data.toList)=false:=by simpa using hsl
       have hb2:(st1.toList == st2.toList)=false:=by rw[ByteArray.toList_eq,ByteArray.toList_eq];exact hb1
       have hbf:bad (S.map Ro.d) s=true:=hbq2.trans (decide_eq_true (show s.d≠q.d from fun e=>hss (hst.2 e)));obtain⟨v1',w6,hap,ho1,-,hb6,-⟩:=zdf (W:=wr.drew) (j:Int) HO.out (by
        have:=HLEN.out
        have:=zqr (S.map Ro.d) (l.take E) j
        rw[Zan] at this;rw[Zak];omega) (by simpa using HB6.out.size) (ad:=wr.heap.size) rfl
       have HO6:Hid (za4 w6 w.heap.size v1' (oth (S.map Ro.d) l j++zhu (S.map Ro.d) (l.take (E+1)) j)):=Hd (by
        rw[hot,hbf,if_pos (by simp),←List.append_assoc];exact ho1)
       have HB7:Hid (Below w.heap.size w w6):=Hd (HBD.out.trans hb6);clear hkp hx hs hq hTR hat hatq r1 r2 hst hst1 hst2 hot hbq2 hdj hbf hss ho1 hb6 hbw;go_upto_region 8 with fail
       have hgr:=hgK (fun j=>kp j=true);refine w_T (fun j=>kp j=true) [13,18] (.sq [0,1,2,3,4,5,6,7,8,9,10,11,12,14,15,16,17] (.fork 13 (.sq [18,19,20] .done) 18 (.sq [13,19,20] .done))) (by kernel_rfl) (by kernel_rfl) ?_;simp only[TQ,Oper.slim,Nat.reduceBEq,Nat.reduceAdd]
       repeat' first|((with_reducible refine w_I ?_);first|(with_reducible refine w_D ?_)|(with_reducible refine zaf ?_ ?_)|((with_reducible refine w_S (fun K hK=>?_));go_simp;first|(refine hK _ _ ?_;clear hK K)|(refine⟨by (intro kk hkk;first|(simp (disch:=(simp;omega)) only[h_D,h_N,h_A,h_S];done)|(simp[h_D,h_N,h_I,hkk];done)|(have hkk2:=(HKP.out kk).1 hkk;simp (disch:=(first|omega|(simp;omega))) only[h_D,h_N,h_A,h_S];done)),hK _ _ ?_⟩;clear hK K)))|fail
       all_goals clear hgr
       all_goals go_wp2_with (at_builtin;refine zae rfl _ _ _ rfl rfl rfl hap ?_)
       all_goals go_roundg (I-(E+1))
       all_goals first
        | omega
        | exact Nat.sub_lt_sub_left HLT.out (Nat.lt_succ_self E)
        | exact⟨_,E+1,rfl,HLT.out,rfl,by go_num,HO6,HB7⟩
     ·have HO2:Hid (za4 wr.drew w.heap.size V (oth (S.map Ro.d) l j++zhu (S.map Ro.d) (l.take (E+1)) j)):=Hd (by
       rw[hot,hx,decide_eq_false hxj,Bool.false_and,if_neg (by simp)];exact HO.out)
      clear hkp hx hs hq hTR hat hatq r1 r2 hst hst1 hst2 hot hbq2 hbw;go_upto_region 8 with fail
      have hgr:=hgK (fun j=>kp j=true);refine w_T (fun j=>kp j=true) [13,18] (.sq [0,1,2,3,4,5,6,7,8,9,10,11,12,14,15,16,17] (.fork 13 (.sq [18,19,20] .done) 18 (.sq [13,19,20] .done))) (by kernel_rfl) (by kernel_rfl) ?_;simp only[TQ,Oper.slim,Nat.reduceBEq,Nat.reduceAdd]
      repeat' first|((with_reducible refine w_I ?_);first|(with_reducible refine w_D ?_)|(with_reducible refine zaf ?_ ?_)|((with_reducible refine w_S (fun K hK=>?_));go_simp;first|(refine hK _ _ ?_;clear hK K)|(refine⟨by (intro kk hkk;first|(simp (disch:=(simp;omega)) only[h_D,h_N,h_A,h_S];done)|(simp[h_D,h_N,h_I,hkk];done)|(have hkk2:=(HKP.out kk).1 hkk;simp (disch:=(first|omega|(simp;omega))) only[h_D,h_N,h_A,h_S];done)),hK _ _ ?_⟩;clear hK K)))|fail
      all_goals clear hgr
      all_goals go_wp2
      all_goals go_roundg (I-(E+1))
      all_goals first
       | omega
       | exact Nat.sub_lt_sub_left HLT.out (Nat.lt_succ_self E)
       | exact⟨_,E+1,rfl,HLT.out,rfl,by go_num,HO2,HBD⟩
    ·obtain rfl:E=I:=by omega
     have HO2:Hid (za4 wr w.heap.size V (oth (S.map Ro.d) l (j+1))):=Hd (by
      have:=HO.out
      rwa[Zca (by rw[HLL.out];exact zE3 _)] at this)
     go_wp2;go_roundg (N-(j+1))
     case measure=>omega
     case rel=>exact⟨_,j+1,rfl,by omega,rfl,by go_num,HO2,HB6⟩
  ·obtain rfl:j=N:=by omega
   go_wp2;go_ret;exact⟨V,rfl,HO.out,HB6.out⟩
theorem zwo (ps:List Int) (W ys:List GF) (p i:Nat):(inR ps W ys p i).length≤i:=by unfold inR;rw[Zag];have:=Zce (fun i=>decide (ps.getD i 0=(p:Int)) && decide (W.getD p 0≠ys.getD i 0)) (List.range i);rwa[Zbg] at this
theorem ztx (ps:List Int) (W ys:List GF):∀p,(wrR ps W ys p).length≤p*ps.length
 | 0=>by simp[zxy]
 | p+1=>by have h1:=ztx ps W ys p;have h2:=zwo ps W ys p ps.length;rw[zli,Zak,Nat.succ_mul];omega
def zxn (ps:List Int) (W ys:List GF) (N:Nat) (w:World) (e:Ending) (w':World):Prop:=∃v,e=.returned v∧za4 w' w.heap.size v (wrR ps W ys N)∧Below w.heap.size w w'
