import Derived.Test.YtcclhhjcejmepaaGreatZReduce
set_option linter.all false
set_option maxRecDepth 100000
set_option maxHeartbeats 2000000
namespace Go.Proofs.YtcclhhjcejmepaaGreat
open Go.RowKit Fld Go.Shelf
attribute [local go_sem] Oper.semAt_some
def yek (l:List GF) (i:Fin l.length):Array Value:=#[.int .i64 (i.val:Nat),.int .u8 ((l[i.val].n:Nat):Int)]
def yc4 (w:World) (Bs:Nat) (v:Value):Prop:=w.heap[Bs]? = some (.cells #[v] 22 (0,0))
theorem zhn (a:Option Addr) (len cap:Nat) (w:World) :
  Calls Tryz.prog 153 #[.slice a len cap] w fun e w'=>e=.returned (.func (.func 173) #[] #[.pointer (some ⟨w.heap.size,0,none⟩)])∧Below w.heap.size w w'∧yc4 w' w.heap.size (.slice a len cap):=by
 have hmf:∀(fn:Fn) (first cap:Array Value) (w:World),(Instr.makeFunc fn first cap).run Tryz.prog w=.ok (.func fn first cap) w:=fun _ _ _ _=>rfl;go_enter Tryz.func153,Tryz.ntmps153;go_wp2;go_ret;exact⟨rfl,(Zaa _ _).alloc (zE3 _) _,nwA _ _⟩
theorem zjm (Bs:Nat) (T:List Nat) (v:Value) (l:List GF) (w0:World) (hB:yc4 w0 Bs v) (hG:GRd w0 v l) (hl:l.length≤1000000000) (hTB:Bs∈T) (hTv:l≠[]→∀k,v.ownBlock=some k→k∈T) :
  SeqStopsK Fence.wide 5 Tryz.prog 173 #[.pointer (some ⟨Bs,0,none⟩)] (yek l) (KS T) (fun xs=>xs=(List.finRange l.length).reverse) (fun pre=>pre <+: (List.finRange l.length).reverse) l.length w0:=by
 intro lv J Jx W hW hJ hJx hY h0;have HB:Hid (yc4 W Bs v):=Hd (zad hW hB);have HG:=Hd (hG.below hW);obtain⟨a,cap,rfl,hcap⟩:=hG.form;refine callsIn_of_wp Tryz.func173 rfl trivial ?_ rfl;simp only[Tryz.ntmps173,TR,Nat.reduceAdd,Nat.reduceSub];have c0:W.cell? ⟨Bs,0,none⟩=some (.slice a l.length cap):=cell_of_row _ _ _ _ _ (0,0) HB.out;obtain⟨N,hN⟩:=zE4 l.length;have e1:IntKind.i64.wrap ((N:Int)-1)=(N:Int)-1:=Zbd _ (by omega);have HFR:Hid (∀I (h:I<l.length),(List.finRange l.length).reverse.take (l.length-1-I)++[⟨I,h⟩]=(List.finRange l.length).reverse.take (l.length-I)):=Hd fun I h=>by
  have e:l.length-I=(l.length-1-I)+1:=by omega
  rw[e,Zaz,zE1 (by simp;omega)];simp;omega
 have HN:=Hd hN;have h0':J ((List.finRange l.length).reverse.take 0) W:=by simpa using h0
 have HJ0:=Hd h0';clear hB hW hG h0 h0' hJ hJx;rw[hN] at c0 hcap hl;gi_wp2;gi_loopw [3] (fun i wr=>∃m:Nat,m≤N∧i=.int .i64 ((m:Int)-1)∧Hid (J ((List.finRange l.length).reverse.take (l.length-m)) wr)∧Hid (yc4 wr Bs (.slice a N cap))∧Hid (GRd wr (.slice a N cap) l))
  (fun i _=>(intOf i+1).toNat)
 case atStart=>exact⟨N,zE3 _,rfl,Hd (by rw[show l.length-N=0 from by have:=HN.out;omega];exact HJ0.out),by rw[←HN.out];exact HB,by rw[←HN.out];exact HG⟩
 case round =>
  obtain⟨m,hm,rfl,HJ,HBx,HGx⟩:=hrel;clear HB HG HJ0 c0;have c0:wr.cell? ⟨Bs,0,none⟩=some (.slice a N cap):=cell_of_row _ _ _ _ _ (0,0) HBx.out;by_cases hm0:m=0
  ·subst hm0;gi_wp2;go_end0;exact⟨⟨_,rfl⟩,.inl ⟨_,rfl,by have:=HJ.out;rw[Nat.sub_zero,Zca (by simp)] at this;exact this⟩⟩
  ·obtain⟨I,rfl⟩:∃I,m=I+1:=⟨m-1,by omega⟩;have hIl:I<l.length:=by rw[HN.out];omega
   have hx:l[I]? = some l[I]:=zE1 hIl;obtain⟨b,o,rfl,hb,c1⟩:=HGx.out.at hx;obtain⟨fn,tmps,assign,body,hy,hR5⟩:=hY _ ⟨I,hIl⟩ wr HJ.out (by rw[Zan];simp;omega);have HR5:=Hd hR5;have hpre:(List.finRange l.length).reverse.take (l.length-(I+1))++[⟨I,hIl⟩] <+: (List.finRange l.length).reverse:=by rw[show l.length-(I+1)=l.length-1-I from by omega,HFR.out I hIl];exact List.take_prefix _ _
   have HPRE:=Hd hpre;simp only[yek] at hy;obtain⟨y,hyy⟩:∃y,l[I].n=y:=⟨_,rfl⟩;rw[hyy] at c1 hy;have e2:((I+1:Nat):Int)-1=(I:Int):=by omega
   have e3:IntKind.i64.wrap ((I:Int)-1)=(I:Int)-1:=Zbd _ (by omega);have e4:(0:Int)≤(I:Int)∧(I:Int)<(N:Int):=by omega
   rw[e2];clear hR5 hx hyy e2 hpre;gi_wp2;refine HR5.out.mono ?_;rintro e W3 (⟨rfl,hJ3,hk3⟩|⟨rfl,hJx3⟩)
   ·have hB3:Hid (yc4 W3 Bs (.slice (some ⟨b,o,none⟩) N cap)):=Hd (show W3.heap[Bs]? = _ from (hk3 Bs hTB).trans HBx.out);have hG3:Hid (GRd W3 (.slice (some ⟨b,o,none⟩) N cap) l):=Hd (HGx.out.ks hk3 (by rw[HN.out] at hTv;exact hTv));have HJ3:Hid (J ((List.finRange l.length).reverse.take (l.length-I)) W3):=Hd (by
     rw[←HFR.out I hIl,show l.length-1-I=l.length-(I+1) from by omega];exact hJ3)
    clear hJ3 hk3;gi_wp2;go_roundw
    case rel=>exact⟨I,by omega,rfl,HJ3,hB3,hG3⟩
    case measure=>simp[intOf]<;>omega
   ·gi_wp2;refine bodyPost_ret (results_none rfl _ _ _) rfl ?_;exact⟨⟨_,rfl⟩,.inr ⟨_,HPRE.out,hJx3⟩⟩
namespace Fld
variable {F:Type} [Fld F]
def hor (x:F) (l:List F):F:=l.foldl (fun y a=>y*x+a) 0
theorem zq2 (x:F) (l:List F) (a:F):hor x (l++[a])=hor x l*x+a:=by simp[hor]
theorem ych (x:F) (l:List F):hor x l.reverse=ev l x:=by
 induction l with
 | nil=>rfl
 | cons c l ih=>rw[List.reverse_cons,zq2,ih,zbe,mulC,ztw]
end Fld
theorem ycl (l:List GF):(List.finRange l.length).map (fun i=>l[i.val])=l:=by refine Zco (by simp) fun i h1 h2=>by simp
theorem zkm {w:World} {v:Value} {l:List GF} {fb:Nat} (h:GRd w v l) (ha:za0 v [fb]):∃T:List Nat,(l≠[]→∀k,v.ownBlock=some k→k∈T)∧∀b∈T,b<w.heap.size∧b≠fb:=by
 by_cases hl:l=[]
 ·exact⟨[],fun e=>absurd hl e,fun b hb=>by cases hb⟩
 ·obtain⟨x,hx⟩:∃x,l[0]? = some x:=⟨_,zE1 (List.length_pos_iff.2 hl)⟩;obtain⟨a,cap,rfl,hcap⟩:=h.form;obtain⟨b,o,rfl,hb,-⟩:=h.at hx;exact⟨[b],fun _ k hk=>by simp[Value.ownBlock] at hk;simp[hk],fun c hc=>by
   rw[Zaq] at hc;subst hc;exact⟨hb,by have:=ha c rfl;simpa using this⟩⟩
structure AtI (fb:Nat) (l:List GF) (x:GF) (w:World) (pre:List (Fin l.length)) (W:World):Prop where
 ok:FOk W fb
 b3:W.heap[w.heap.size]? = some (.cells #[.pointer (some ⟨fb,0,none⟩)] 29 (0,0))
 b5:W.heap[w.heap.size+1]? = some (.cells #[.int .u8 ((x.n:Nat):Int)] 5 (0,0))
 b7:W.heap[w.heap.size+1+1]? = some (.cells #[.int .u8 (((hor x (pre.map fun i=>l[i.val])).n:Nat):Int)] 5 (0,0))
 kp:Kp [fb] w W
theorem yem (fb:Nat) (v:Value) (l:List GF) (x:GF) (w:World) (hF:FOk w fb) (hG:GRd w v l) (hl:l.length≤1000000000) (ha:za0 v [fb]) :
  Calls Tryz.prog 117 #[.pointer (some ⟨fb,0,none⟩),v,.int .u8 (x.n:Nat)] w (zeq fb (ev l x) w):=by
 obtain⟨T,hT1,hT2⟩:=zkm hG ha;obtain⟨a,cap,rfl,hcap⟩:=hG.form;have hfw:=hF.lt;have HF:=Hd hF;have HG:=Hd hG;have HT:=Hd (Zao hT1 hT2);clear hF hG hT1 hT2 ha;obtain⟨xn,hxn⟩:=zE4 x.n;have HXN:=Hd hxn;obtain⟨N,hN⟩:=zE4 l.length;have HN:=Hd hN;rw[hN] at hcap hl ⊢;rw[hxn];clear hxn hN;refine zav Tryz.func117 rfl ?_;simp only[Tryz.ntmps117,TR,Nat.reduceAdd,Nat.reduceSub];go_wp2_with (go_at_call 153;refine (zhn _ _ _ _).mono ?_;rintro e w1 ⟨rfl,hb1,hbx⟩);have b3:w1.heap[w.heap.size]? = some (.cells #[.pointer (some ⟨fb,0,none⟩)] 29 (0,0)):=zad hb1 (by (repeat (refine Eq.trans (h_A _ _ _ ?_) ?_;(· first|(simp;done)|(simp;omega))));exact nwE _ _ _ (by simp));have b5:w1.heap[w.heap.size+1]? = some (.cells #[.int .u8 (xn:Nat)] 5 (0,0)):=zad hb1 (by (repeat (refine Eq.trans (h_A _ _ _ ?_) ?_;(· first|(simp;done)|(simp;omega))));exact nwE _ _ _ (by simp));have b7:w1.heap[w.heap.size+1+1]? = some (.cells #[.int .u8 0] 5 (0,0)):=zad hb1 (by (repeat (refine Eq.trans (h_A _ _ _ ?_) ?_;(· first|(simp;done)|(simp;omega))));exact nwE _ _ _ (by simp));have HB1:Hid (Below w.heap.size w w1):=Hd (((((Zaa _ _).alloc (zE3 _) _).alloc (by simp) _).alloc (by simp;omega) _).trans (hb1.mono (by simp;omega)));have HBX:Hid (yc4 w1 (w.heap.size+1+1+1) (.slice a N cap)):=Hd (by simpa using hbx);have hbl:w.heap.size+1+1+1<w1.heap.size:=lOH HBX.out;have HI1:Hid (AtI fb l x w [] w1):=Hd ⟨HF.out.below HB1.out,b3,by rw[HXN.out];exact b5,b7,Kp.of_below HB1.out⟩;clear b3 b5 b7 hb1 hbx;refine zjz (gf:=173) (lb:=#[.pointer (some ⟨w.heap.size+1+1+1,0,none⟩)]) (by kernel_rfl) (enters_of Tryz.func173 (by kernel_rfl) rfl)
  (zjm (w.heap.size+1+1+1) ((w.heap.size+1+1+1) :: T) (.slice a N cap) l w1 HBX.out (HG.out.below HB1.out |> fun h=>by rwa[HN.out] at h) (by rw[HN.out];exact hl) (by simp) (fun hne k hk=>Zcb _ (HT.out.1 hne k (by rw[HN.out];exact hk))))
  (Zaa _ _) (fun _=>rfl) [fb,w.heap.size+1+1] (fun b hb=>by
   rcases Zbf.1 hb with rfl|hb
   ·exact⟨hbl,by simp;omega⟩
   ·have:=HT.out.2 b hb
    exact⟨by omega,by simp;omega⟩) (by simp;omega)
  (AtI fb l x w) (zcq fun s W W' r h hr hk=>by
   have hn:∀k,k<w1.heap.size→k∉r:=fun k hk hm=>by have:=hr k hm;omega
   exact⟨h.ok.kp hk (hn _ (by omega)),hk.heap h.b3 (hn _ (by omega)),hk.heap h.b5 (hn _ (by omega)),hk.heap h.b7 (hn _ (by omega)),h.kp.step hk (fun x hx=>.inr (by have:=hr x hx;omega))⟩) HI1.out
  (fun i=>{ tmps:=#[.pointer (some ⟨fb,0,none⟩),.slice a N cap,.int .u8 (xn:Nat),.pointer (some ⟨w.heap.size,0,none⟩),undef,.pointer (some ⟨w.heap.size+1,0,none⟩),.int .u8 0,.pointer (some ⟨w.heap.size+1+1,0,none⟩),undef,undef,.slice a N cap,.func (.func 173) #[] #[.pointer (some ⟨w.heap.size+1+1+1,0,none⟩)],.int .i64 (i.val:Nat),.int .u8 ((l[i.val].n:Nat):Int),undef,undef,undef,undef,undef,undef,undef],defers:=[] })
  (fun i=>{ tmps:=#[.pointer (some ⟨fb,0,none⟩),.slice a N cap,.int .u8 (xn:Nat),.pointer (some ⟨w.heap.size,0,none⟩),undef,.pointer (some ⟨w.heap.size+1,0,none⟩),.int .u8 0,.pointer (some ⟨w.heap.size+1+1,0,none⟩),undef,.int .u8 ((l[i.val].n:Nat):Int),.slice a N cap,.func (.func 173) #[] #[.pointer (some ⟨w.heap.size+1+1+1,0,none⟩)],.int .i64 (i.val:Nat),.int .u8 ((l[i.val].n:Nat):Int),undef,undef,undef,undef,undef,undef,undef],defers:=[] }) (fun x=>by kernel_rfl) ?assign ?body ?done
 case assign =>
  intro lv i W K hK;gi_wp2;exact hK
 case body =>
  rintro lv pre ⟨i,hi⟩ W hI hlt hsz;dsimp only;have HI:=Hd hI;clear hI;obtain⟨z,hz⟩:∃z,l[i]=z:=⟨_,rfl⟩;obtain⟨y,hy⟩:∃y,hor x (pre.map fun i=>l[i.val])=y:=⟨_,rfl⟩;have HZ:=Hd hz;have HY:=Hd hy;rw[hz];have HMUL:=Hd (fun W=>zd3 y x fb W);have HADD:=Hd (fun W=>zey (y*x) z W);have HFIN:Hid (∀w5,Kp [fb] W w5→FOk w5 fb→Kp [fb,w.heap.size+1+1] W (w5.setCell ⟨w.heap.size+1+1,0,none⟩ (.int .u8 ((y*x+z).n:Nat)))∧AtI fb l x w (pre++[⟨i,hi⟩]) (w5.setCell ⟨w.heap.size+1+1,0,none⟩ (.int .u8 ((y*x+z).n:Nat)))):=Hd fun w5 hk hf=>by have hk2:Kp [w.heap.size+1+1] w5 (w5.setCell ⟨w.heap.size+1+1,0,none⟩ (.int .u8 ((y*x+z).n:Nat))):=(Kp.refl _ _).setCell (.inl (by simp)) _;refine⟨(hk.mono (by simp)).trans (hk2.mono (by simp)),hf.kp hk2 (by simp;omega),hk2.heap (hk.heap HI.out.b3 (by simp;omega)) (by simp<;>omega),hk2.heap (hk.heap HI.out.b5 (by simp;omega)) (by simp<;>omega),?_,(HI.out.kp.trans hk).step hk2 (fun x hx=>.inr (by simp at hx;omega))⟩;rw[Zaw,List.map_cons,List.map_nil,zq2,hy];have:=hSS (hk.heap HI.out.b7 (by simp;omega)) 0 (.int .u8 ((y*x+z).n:Nat));simpa[hz] using this
  have y3:=cOH HI.out.b3 (j:=0) rfl;have y5:=cOH HI.out.b5 (j:=0) rfl;have y7:=cOH HI.out.b7 (j:=0) rfl;have z7:=fOH HI.out.b7 0;have g7:=lOH HI.out.b7;rw[hy] at y7;have HC7:=Hd (Zao y7 z7);clear hz hy hlt;unfold zeq at HMUL;obtain⟨zn,hzn⟩:=zE4 z.n;obtain⟨yn,hyn⟩:=zE4 y.n;obtain⟨pn,hpn⟩:=zE4 ((y*x).n);obtain⟨sn,hsn⟩:=zE4 ((y*x+z).n);rw[hyn,HXN.out,hpn] at HMUL;rw[hpn,hzn,hsn] at HADD;rw[hsn] at HFIN;rw[hyn] at y7 HC7;rw[HXN.out] at y5;rw[hzn];clear hzn hyn hpn hsn;gi_wp2_with fail;refine⟨trivial,(callsIn_wide.2 (HMUL.out W HI.out.ok)).mono ?_⟩;rintro e w5 ⟨rfl,hk5,hf5⟩;have c7:=(hk5.cell (p:=⟨w.heap.size+1+1,0,none⟩) g7 (by simp;omega)).trans HC7.out.1;have f7:=(hk5.frozen (p:=⟨w.heap.size+1+1,0,none⟩) g7 (by simp;omega)).trans HC7.out.2;have HEND:=Hd (HFIN.out w5 hk5 hf5);have g8:=Zaf g7 hk5.size;clear hk5 hf5 y3 y5 y7 z7 g7;gi_wp2_with fail;refine⟨trivial,(callsIn_wide.2 (HADD.out _)).mono ?_⟩;rintro e w6 ⟨rfl,rfl⟩;gi_wp2;exact HEND.out
 case done =>
  rintro D0 xs W hD0 rfl hI hK0;have y7:=cOH hI.b7 (j:=0) rfl;have HEND:Hid (hor x ((List.finRange l.length).reverse.map fun i=>l[i.val])=ev l x):=Hd (by rw[List.map_reverse,ycl,ych]);rw[HEND.out] at y7;obtain⟨rn,hrn⟩:=zE4 ((ev l x).n);rw[hrn] at y7;have HRN:=Hd hrn;have HI:=Hd hI;have HK0:=Hd hK0;have hD1:=Hd hD0;clear hI hK0 hrn hD0;go_wp2;have hDD:=hD1.out;exact zal (B:=w.heap.size) [D0] W (zbf.cons (zbf.nil _ _) (by omega) HK0.out (by simp)) fun w' hk=>⟨.int .u8 (rn:Nat),(results_tmp (fn:=Tryz.f117) (t:=6) rfl _ _ _).trans rfl,by rw[HRN.out],HI.out.kp.step hk (fun x hx=>by simp at hx;right;omega),HI.out.ok.kp hk (by simp;omega)⟩
end Go.Proofs.YtcclhhjcejmepaaGreat
namespace Go.Proofs.YtcclhhjcejmepaaGreat
open Go.RowKit Fld Go.Shelf
structure zbw (w:World) (cb fb k:Nat) (v:Value) (xs:List GF):Prop where
 box:w.heap[cb]? = some (.cells #[.pointer (some ⟨fb,0,none⟩),v,.int .i64 k] 134 (0,0))
 ok:FOk w fb
 rd:GRd w v xs
 apart:za0 v [fb]
 ne:cb≠fb
theorem zbw.step {w w':World} {cb fb k:Nat} {v:Value} {xs:List GF} (h:zbw w cb fb k v xs) (hk:Kp [fb] w w') (hf:FOk w' fb):zbw w' cb fb k v xs :=
 ⟨hk.heap h.box (by simpa using h.ne),hf,h.rd.kp hk h.apart,h.apart,h.ne⟩
theorem zbw.below {w w':World} {cb fb k:Nat} {v:Value} {xs:List GF} (h:zbw w cb fb k v xs) (hb:Below w.heap.size w w'):zbw w' cb fb k v xs :=
 ⟨zad hb h.box,h.ok.below hb,h.rd.below hb,h.apart,h.ne⟩
theorem zoc (w:World) (cb fb k:Nat) (v:Value) (xs:List GF) (h:zbw w cb fb k v xs) :
  Calls Tryz.prog 89 #[.pointer (some ⟨cb,0,none⟩)] w fun e w'=>e=.returned (.int .i64 k)∧w=w':=by
 have c2:=cOH h.box (j:=2) rfl;clear h;go_enter Tryz.func89,Tryz.ntmps89;go_wp2;go_ret;exact⟨rfl,rfl⟩
theorem zxb (w:World) (cb fb k:Nat) (v:Value) (xs:List GF) (h:zbw w cb fb k v xs) :
  Calls Tryz.prog 91 #[.pointer (some ⟨cb,0,none⟩)] w fun e w'=>e=.returned (.pointer (some ⟨fb,0,none⟩))∧w=w':=by
 have c0:=cOH h.box (j:=0) rfl;clear h;go_enter Tryz.func91,Tryz.ntmps91;go_wp2;go_ret;exact⟨rfl,rfl⟩
theorem zxa (w:World) (cb fb k:Nat) (v:Value) (xs:List GF) (h:zbw w cb fb k v xs) (hl:xs.length≤1000000000) :
  Calls Tryz.prog 90 #[.pointer (some ⟨cb,0,none⟩)] w (zjv xs w):=by
 obtain⟨a,cap,rfl,hcap⟩:=h.rd.form;have c1:=cOH h.box (j:=1) rfl;have HC:=Hd (zjl _ xs w h.rd hl);clear h;go_enter Tryz.func90,Tryz.ntmps90;go_wp2_with fail;refine HC.out.mono ?_;rintro e w1 ⟨v1,rfl,ho,hb⟩;obtain⟨a1,cap1,rfl,hc1⟩:=ho.form;have HO:=Hd ho;have HB:=Hd hb;clear ho hb;go_wp2;go_ret;exact⟨_,rfl,HO.out,HB.out⟩
def yc8 (fb:Nat) (ms xs:List GF) (w:World) (e:Ending) (w':World):Prop :=
 ∃g,e=.returned (.tuple #[.slice (some ⟨g,0,none⟩) xs.length xs.length,.int .i64 0])∧w.heap.size≤g∧zag w' g xs.length (fun i=>ev ms (xs.getD i 0))∧Kp [fb] w w'∧FOk w' fb
theorem zs8 (w:World) (cb fb:Nat) (v mv:Value) (xs ms:List GF) (h:zbw w cb fb ms.length v xs) (hm:GRd w mv ms) (ha:za0 mv [fb]) (hn0:0<xs.length) (hn:xs.length≤256) (hml:ms.length≤256) :
  Calls Tryz.prog 93 #[.pointer (some ⟨cb,0,none⟩),mv] w (yc8 fb ms xs w):=by
 obtain⟨a,cap,rfl,hcap⟩:=hm.form;obtain⟨ax,capx,rfl,hcapx⟩:=h.rd.form;obtain⟨i0,hi,hz0,hz1,hz2⟩:=info_parts zbi;obtain⟨N,hN⟩:=zE4 xs.length;obtain⟨k,hk⟩:=zE4 ms.length;have hmk:∀W,(Instr.makeSlice 22 (.int .i64 N) (.int .i64 N)).run Tryz.prog W=.ok (.slice (some ⟨W.heap.size,0,none⟩) N N) (W.alloc (.cells (Array.replicate N (.int .u8 0)) 5)):=fun W =>
  zb4 W 22 5 i0 (.int .u8 0) Tryz.underlying22 hi hz0 hz1 rfl N (by rw[hz2];omega) (by unfold maxLen;omega)
 rw[hN] at hn hn0 hcapx h;rw[hk] at hcap hml hm ha h ⊢;have HN:=Hd hN;have HK:=Hd hk;have HC:=Hd h;have HMS:=Hd hm;have HAP:=Hd ha;have c0:=cOH h.box (j:=0) rfl;have c1:=cOH h.box (j:=1) rfl;have c2:=cOH h.box (j:=2) rfl;have hfw:=h.ok.lt;have hcw:=lOH h.box;have hh:(w.alloc (.cells (Array.replicate N (.int .u8 0)) 5)).heap[w.heap.size]? = some (.cells (Array.replicate N (.int .u8 0)) 5 (0,0)):=nwA _ _;have HV0:Hid (zag (w.alloc (.cells (Array.replicate N (.int .u8 0)) 5)) w.heap.size N (fun _=>0)):=Hd ⟨lOH hh,fun j hj=>⟨by
  rw[cell_of_row _ _ _ _ _ (0,0) hh];simp[hj];rfl,fOH hh j⟩⟩
 have HK0:Hid (Kp [fb] w (w.alloc (.cells (Array.replicate N (.int .u8 0)) 5))):=Hd ((Kp.refl _ _).alloc _);have HC0:=Hd (HC.out.below ((Zaa _ w).alloc (zE3 _) (.cells (Array.replicate N (.int .u8 0)) 5)));clear h hm ha hi hz0 hz1 hz2 hh hN hk;go_enter Tryz.func93,Tryz.ntmps93;go_wp2;go_loopg [34] N (fun gk i wr=>∃I:Nat,I≤N∧gk=N-I∧i=.int .i64 I∧Hid (zbw wr cb fb k (.slice ax N capx) xs)∧Hid (zag wr w.heap.size N (fun i=>if i<I then ev ms (xs.getD i 0) else 0))∧Hid (Kp [fb] w wr))
 case atStart=>exact⟨0,by omega,rfl,rfl,HC0,Hd (HV0.out.congr fun j hj=>by simp),HK0⟩
 case round =>
  clear HC0 HV0 HK0 c0 c1 c2;obtain⟨I,hI,rfl,rfl,HC1,HV,HKK⟩:=hrel;by_cases hlt:I<N
  ·obtain⟨x,hx⟩:∃x,xs[I]? = some x:=⟨_,zE1 (by rw[HN.out];exact hlt)⟩;obtain⟨b,o,rfl,hb,cx⟩:=HC1.out.rd.at hx;obtain⟨b',o',e',hbw,-⟩:=HC.out.rd.at hx;cases e';have hxd:xs.getD I 0=x:=by rw[zE2,hx];rfl
   obtain⟨xn,hxn⟩:=zE4 x.n;rw[hxn] at cx;obtain⟨d,hd⟩:=zE4 ((ev ms x).n);have HAT:Hid (Calls Tryz.prog 117 #[.pointer (some ⟨fb,0,none⟩),.slice a k cap,.int .u8 (xn:Nat)] wr (fun e w'=>e=.returned (.int .u8 (d:Nat))∧Kp [fb] wr w'∧FOk w' fb)):=Hd (by
    have h1:=HMS.out.kp HKK.out HAP.out;have:=yem fb _ ms x wr HC1.out.ok h1 (by rw[HK.out];omega) HAP.out;unfold zeq at this;rwa[hxn,hd] at this)
   have HSET:Hid (∀W,zag W w.heap.size N (fun i=>if i<I then ev ms (xs.getD i 0) else 0)→zag (W.setCell ⟨w.heap.size,I,none⟩ (.int .u8 (d:Nat))) w.heap.size N (fun i=>if i<I+1 then ev ms (xs.getD i 0) else 0)):=Hd fun W hW=>by
    rw[←hd];refine (hW.set hlt (ev ms x)).congr fun j hj=>?_;by_cases e:j=I
    ·subst e;rw[if_pos rfl,if_pos (by omega),hxd]
    ·rw[if_neg e];by_cases e2:j<I
     ·rw[if_pos e2,if_pos (by omega)]
     ·rw[if_neg e2,if_neg (by omega)]
   have c0:=cOH HC1.out.box (j:=0) rfl;obtain⟨c5,f5⟩:=HV.out.2 I hlt;have gg:=HV.out.1;have hne:w.heap.size∉[fb]:=by simp;omega
   have HNE:=Hd hne;have q1:(0:Int)≤(I:Int)∧(I:Int)<(N:Int):=by omega
   obtain⟨z,hz⟩:∃z,((fun i=>if i<I then ev ms (xs.getD i 0) else 0) I:GF).n=z:=⟨_,rfl⟩;rw[hz] at c5;have C5:=Hd (Zao c5 f5);clear hx hxd hxn hd hne hz c5 f5;go_wp2_with (go_at_call 117;(with_reducible refine HAT.out.mono ?_);rintro e w5 ⟨rfl,hk5,hf5⟩;have c5:=(hk5.cell (p:=⟨w.heap.size,I,none⟩) gg HNE.out).trans C5.out.1;have f5:=(hk5.frozen (p:=⟨w.heap.size,I,none⟩) gg HNE.out).trans C5.out.2;have HK5:=Hd hk5;have HF5:=Hd hf5;clear hk5 hf5);have hk6:Kp [w.heap.size] w5 (w5.setCell ⟨w.heap.size,I,none⟩ (.int .u8 (d:Nat))):=(Kp.refl _ _).setCell (.inl (by simp)) _;have HC6:Hid (zbw (w5.setCell ⟨w.heap.size,I,none⟩ (.int .u8 (d:Nat))) cb fb k (.slice (some ⟨b,o,none⟩) N capx) xs):=Hd (by
    have h5:=HC1.out.step HK5.out HF5.out;exact⟨hk6.heap h5.box (by simp;omega),h5.ok.kp hk6 (by simp;omega),h5.rd.kp hk6 (fun c hc=>by simp[Value.ownBlock] at hc;simp;omega),h5.apart,h5.ne⟩)
   have HV6:=Hd (HSET.out w5 (HV.out.kp HK5.out HNE.out));have HK6:=Hd ((HKK.out.trans HK5.out).step hk6 (fun x hx=>by simp at hx;right;omega));clear hk6;go_wp2;go_roundg (N-(I+1))
   case measure=>omega
   case rel=>exact⟨I+1,by omega,rfl,by go_num,HC6,HV6,HK6⟩
  ·obtain rfl:I=N:=by omega
   go_wp2;go_ret2;exact⟨w.heap.size,by rw[HN.out];rfl,zE3 _,by rw[HN.out];exact HV.out.congr fun j hj=>by rw[if_pos hj],HKK.out,HC1.out.ok⟩
end Go.Proofs.YtcclhhjcejmepaaGreat
