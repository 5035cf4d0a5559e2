import Derived.Test.YtcclhhjcejmepaaGreatZRanges
import Derived.Test.YtcclhhjcejmepaaGreatZMbA
set_option linter.all false
set_option maxRecDepth 100000
set_option maxHeartbeats 8000000
namespace Go.Proofs.YtcclhhjcejmepaaGreat
open Go.RowKit
theorem zrs {tg:Nat} {α:Type} {P:Program} {g:Operand} {ps:Array Tmp} {assign body:Code} {Q:Exit→Act→World→Prop} {a:Act} {w:World}
  {gf:Nat} {lb:Array Value} (hg:a.eval g=.func (.func gf) #[] lb) (eg:∀args w,(callFunc gf args).run P w=.ok (.enter gf args) w)
  {fb:Nat} {encs:α→Array Value} {T:List Nat} {m:Nat} {Sx Sp:List α→Prop} {No:Option Nat} {w0:World} (hseq:yes fb P gf lb encs T m Sx Sp No w0) (hb0:Below w0.heap.size w0 w) (hps:∀x,(encs x).size=ps.size)
  (hfb:fb<w.heap.size) (N:Nat) (hN:∀n,No=some n→N=n) (I Ix:List α→World→Prop) (hI:∀pre A A',I pre A→Stp fb w.heap.size (m+2) A A'→I pre A') (hIx:∀pre A A',Ix pre A→Stp fb w.heap.size (m+2) A A'→Ix pre A')
  (hIf:∀pre A,I pre A→FOk A fb) (h0:I [] w) (hIN:No=none→N≤1000000∧∀pre W,I pre W→pre.length<N) (hT:∀b∈T,b<w.heap.size) (a₂ a₁:α→Act)
  (ha₂:∀x,({ tmps:=(ps.zip (encs x)).foldl (fun t (p,v)=>t.setIfInBounds p v) a.tmps,defers:=[] }:Act)=a₂ x)
  (hassign:∀(l:Nat) (x:α) (W:World) (K:Act→World→Prop),K (a₁ x) W→assign.wpIn (Fence.wide.inRound l) 4 P (Exit.then K (fun _ _ _=>False)) (a₂ x) W)
  (hbody:∀(l:Nat) (pre:List α) (x:α) (W:World),I pre W→Sp (pre++[x])→pre.length<N→w.heap.size+2+m≤W.heap.size →
   body.wpIn (Fence.wide.inRound l) 4 P (fun e _ W'=>KS (T++List.range' w.heap.size (m+2)) W W'∧W.heap.size≤W'.heap.size∧(e=.normal∧I (pre++[x]) W'∨e=.goto tg∧Ix (pre++[x]) W')) (a₁ x) W)
  (hdone:∀(D:Nat) (xs:List α) (W:World),D=w.heap.size→Sx xs→I xs W→W.heap[D]? = some (.deferred (some []))→Q .normal { a with defers:={ target:=.collected D,args:=#[] } :: a.defers } W)
  (hstop:∀(D:Nat) (pre:List α) (W:World),D=w.heap.size→Sp pre→Ix pre W→W.heap[D]? = some (.deferred (some []))→(Code.goto tg).wp P Q { a with defers:={ target:=.collected D,args:=#[] } :: a.defers } W) :
  (Code.rangeFunc g ps assign body).wp P Q a w:=by
 refine (wpIn_wide (n:=6)).1 (wpIn_rangeFunc ?_);intro fn hfn;have hro:Fence.wide.round=none:=rfl;rw[hro];obtain⟨L,hL⟩:=zE5 (w.heap.size+1);obtain⟨rec,hrec⟩:∃rec:LoopState→Option Code→Loop,rec=fun st pe=>{ state:=st,pending:=pe,fn,tmps:=a.tmps,params:=ps,assign,body,defers:=w.heap.size }:=⟨_,rfl⟩;obtain⟨V,hV⟩:=zE5 ((w.alloc (.deferred (some []))).alloc (.loop (rec .ready none)));have hsV:V.heap.size=L+1:=by rw[hV,hL];simp
 have hVL:V.heap[L]? = some (.loop (rec .ready none)):=by rw[hV,hL];have:=World.alloc_heap_new (w.alloc (.deferred (some []))) (.loop (rec .ready none));rwa[World.size_alloc] at this
 have hVK:V.heap[w.heap.size]? = some (.deferred (some [])):=by rw[hV];exact (Below.heap_alloc _ _ _ (by simp)).trans (World.alloc_heap_new w _)
 have hVI:I [] V:=by rw[hV];exact hI _ _ _ h0 ((Stp.alloc _ _ hfb).trans (Stp.alloc _ _ (by simp;omega)))
 have hbV:Below w0.heap.size w0 V:=by rw[hV];exact hb0.trans ((((Zaa _ w).alloc (zE3 _) _).alloc (by simp) _).mono hb0.size)
 refine⟨L,[{ target:=.collected w.heap.size,args:=#[] }],V,{ target:=.fn (.func gf) lb,args:=#[.func (.yield L) #[] #[]] },V,gf,#[.func (.yield L) #[] #[]]++lb,V,?enter,?res,?leads,?inv,fun _=>by decide,?call⟩
 case enter=>rw[hV,hrec,hL];exact run_enterLoop_outer _ _ _ _ _
 case res=>simp only[resolve,hg];simp[go_sem]
 case leads=>intro f' hf';exact trivial
 case inv=>simp[invoke,go_sem,eg]
 case call =>
  have hkb:∀{A A':World},Stp fb V.heap.size m A A'→∀b,b≠fb→b<V.heap.size→b<A.heap.size→A'.heap[b]? = A.heap[b]?:=fun h b hb h1 h2=>h.kp.block b h2 (zdd hb (.inl h1));refine (hseq L N (fun pre W=>(I pre W∧V.heap.size≤W.heap.size)∧W.heap[L]? = some (.loop (rec .ready none))∧W.heap[w.heap.size]? = some (.deferred (some [])))
   (fun pre W=>Ix pre W∧W.heap[L]? = some (.loop (rec .done (some (.goto tg))))∧W.heap[w.heap.size]? = some (.deferred (some []))) V hbV ?st ?stx (fun pre A h=>⟨hIf _ _ h.1.1,h.1.2⟩) hN (fun hn=>⟨(hIN hn).1,fun pre W h=>(hIN hn).2 pre W h.1.1⟩) ?round ⟨⟨hVI,zE3 _⟩,hVL,hVK⟩).mono ?behind
  case st =>
   intro pre A A' hs hst;exact⟨⟨hI _ _ _ hs.1.1 (hst.wider (by omega) (by omega)),Zat hs.1.2 hst.kp.size⟩,(hkb hst _ (by omega) (by omega) (lOH hs.2.1)).trans hs.2.1,(hkb hst _ (by omega) (by omega) (lOH hs.2.2)).trans hs.2.2⟩
  case stx =>
   intro pre A A' hs hst;exact⟨hIx _ _ _ hs.1 (hst.wider (by omega) (by omega)),(hkb hst _ (by omega) (by omega) (lOH hs.2.1)).trans hs.2.1,(hkb hst _ (by omega) (by omega) (lOH hs.2.2)).trans hs.2.2⟩
  case round =>
   rintro pre x W ⟨⟨hi,hw⟩,hl,hk⟩ hsp hlen hwm;have hlt:L<W.heap.size:=lOH hl;have hy:=run_yield (P:=P) (args:=encs x) hl (by rw[hrec];exact hps x);rw[hrec] at hy;refine⟨fn,_,assign,body,hy,roundIn_of_wpIn hfn ?_⟩;have:=ha₂ x;rw[this];refine hassign _ x W _ ⟨_,run_beginRound hl (by rw[hrec]),?_⟩;obtain⟨W2,hW2⟩:=zE5 (W.putObj L (.loop { rec .ready none with state:=.busy }));have h2l:W2.heap[L]? = some (.loop { rec .ready none with state:=.busy }):=by rw[hW2];exact Zcl hlt
   have h2k:W2.heap[w.heap.size]? = some (.deferred (some [])):=by rw[hW2];exact (Zap (by omega)).trans hk
   have h2i:I pre W2:=by rw[hW2];exact hI _ _ _ hi (Stp.put _ _ (by omega) (by omega) hfb)
   have h2z:W2.heap.size=W.heap.size:=by rw[hW2];simp
   have h2T:∀b,b≠L→W2.heap[b]? = W.heap[b]?:=fun b hb=>by rw[hW2];exact Zap hb
   have hTL:∀b∈T++List.range' V.heap.size m,b≠L:=fun b hb=>by
    rcases Zba.1 hb with h|h
    ·have:=hT b h;omega
    ·have:=(Zbb.1 h).1;omega
   have hTT:∀b∈T++List.range' V.heap.size m,b∈T++List.range' w.heap.size (m+2):=fun b hb=>by
    rcases Zba.1 hb with h|h
    ·exact List.mem_append_left _ h
    ·exact List.mem_append_right _ (Zbb.2 (by have:=Zbb.1 h;omega))
   have hLT:L∈T++List.range' w.heap.size (m+2):=List.mem_append_right _ (Zbb.2 (by omega));have hKT:w.heap.size∈T++List.range' w.heap.size (m+2):=List.mem_append_right _ (Zbb.2 (by omega));rw[←hW2];refine wpIn_mono (hbody _ pre x W2 h2i hsp hlen (by omega)) ?_;rintro e a' W3 ⟨hks,hsz,⟨rfl,h3i⟩|⟨rfl,h3i⟩⟩
   ·have h3l:=(hks L hLT).trans h2l;have hend:=run_endRound (P:=P) (none:Option Code) h3l;rw[hrec] at hend;refine⟨_,_,hend,fun b hb=>(Zap (hTL b hb)).trans ((hks b (hTT b hb)).trans (h2T b (hTL b hb))),by simp;omega,.inl ⟨rfl,⟨hI _ _ _ h3i (Stp.put _ _ (by omega) (by omega) hfb),by simp;omega⟩,?_,?_⟩⟩
    ·rw[hrec];exact Zcl (lOH h3l)
    ·exact (Zap (by omega)).trans ((hks _ hKT).trans h2k)
   ·have h3l:=(hks L hLT).trans h2l;have hend:=run_endRound (P:=P) (some (Code.goto tg)) h3l;rw[hrec] at hend;refine⟨_,_,hend,fun b hb=>(Zap (hTL b hb)).trans ((hks b (hTT b hb)).trans (h2T b (hTL b hb))),by simp;omega,.inr ⟨rfl,hIx _ _ _ h3i (Stp.put _ _ (by omega) (by omega) hfb),?_,?_⟩⟩
    ·rw[hrec];exact Zcl (lOH h3l)
    ·exact (Zap (by omega)).trans ((hks _ hKT).trans h2k)
  case behind =>
   rintro e W2 ⟨⟨v,rfl⟩,⟨xs,hS,⟨hi,hw⟩,hl,hk⟩|⟨pre,hS,hi,hl,hk⟩⟩
   ·exact⟨none,_,by have:=run_endLoop (P:=P) hl (by rw[hrec];simp);rw[hrec] at this;exact this,hdone _ xs _ rfl hS (hI _ _ _ hi (Stp.put _ _ (by omega) (by omega) hfb)) ((Zap (by omega)).trans hk)⟩
   ·refine⟨some (Code.goto tg),_,by have:=run_endLoop (P:=P) hl (by rw[hrec];simp);rw[hrec] at this;exact this,?_⟩;exact wpIn_wide.2 (hstop _ pre _ rfl hS (hIx _ _ _ hi (Stp.put _ _ (by omega) (by omega) hfb)) ((Zap (by omega)).trans hk))
open Fld Go.Shelf
attribute [local go_sem] Oper.semAt_some
def yfl (C b:Nat) (i:Nat):Array Value:=#[.int .i64 (i:Nat),.slice (some ⟨b,i*C,none⟩) C C]
theorem zlu (fb R C b len cap Bs:Nat) (w0:World) (hB:zhp w0 Bs R C b len cap) (hC:0<C) (hcap:R*C≤cap) (hR:R≤1000000000) (hcm:R*C≤4611686018427387904) :
  yes fb Tryz.prog 110 #[.pointer (some ⟨Bs,0,none⟩)] (yfl C b) [Bs] 0 (fun xs=>xs=List.range R) (fun pre=>pre=List.range pre.length∧pre.length≤R) (some R) w0:=by
 intro lv N J Jx W hW hJ hJx hOk hN1 hN2 hY h0;obtain rfl:=hN1 _ rfl;have HB:=Hd (hB.below hW);refine callsIn_of_wp Tryz.func110 rfl trivial ?_ rfl;simp only[Tryz.ntmps110,TR,Nat.reduceAdd,Nat.reduceSub];obtain⟨c0,-,-⟩:=HB.out.cells;have HJ0:=Hd h0;have HYY:=Hd hY;have HOK:=Hd hOk;have HJJ:=Hd hJ;clear hB hW h0 hJ hJx hY hOk hN1 hN2;gi_wp2;gi_loopw [6] (fun i wr=>∃k:Nat,k≤N∧i=.int .i64 k∧Hid (J (List.range k) wr)∧Hid (zhp wr Bs N C b len cap))
  (fun i _=>N-(intOf i).toNat)
 case atStart=>exact⟨0,Zbp _,rfl,HJ0,HB⟩
 case round =>
  clear HJ0 HB;obtain⟨k,hk,rfl,HJ,hBx⟩:=hrel;by_cases hlt:k<N
  ·obtain⟨c0,c1,c2⟩:=hBx.out.cells;have hrl:=za8 hcap hlt;have HRow:Hid (∀W',Calls Tryz.prog 79 #[.agg #[.int .i64 N,.int .i64 C,.slice (some ⟨b,0,none⟩) len cap],.int .i64 k] W' fun e w'=>e=.returned (.slice (some ⟨b,0+k*C,none⟩) C C)∧Below W'.heap.size W' w'):=Hd (fun W'=>zb2 N C k b 0 len cap W' hC hrl (za8 hcm hlt));have HLT:=Hd hlt;clear hrl;gi_wp2_with fail;refine⟨trivial,(callsIn_wide.2 (HRow.out _)).mono ?_⟩;rintro e w5 ⟨rfl,hb5⟩;have hst5:Stp fb W.heap.size 0 wr w5:=⟨Kp.of_below hb5,fun h=>h.below hb5⟩;have hJ5:=HJJ.out _ _ _ HJ.out hst5;obtain⟨fn,tmps,assign,body,hy,hR5⟩:=HYY.out (List.range k) k w5 hJ5 ⟨by simp[Zbh],by simp;exact HLT.out⟩ (by simpa using HLT.out) (HOK.out _ _ hJ5).2;have HBX:=Hd (hBx.out.below hb5);have HR5:=Hd hR5;simp only[yfl] at hy;have HPRE:Hid (List.range k++[k]=List.range (k+1)):=Hd (by rw[Zbh]);rw[HPRE.out] at HR5;clear hb5 hst5 hJ5 hR5;gi_wp2;refine HR5.out.mono ?_;rintro e W3 ⟨hks,hsz,⟨rfl,hJ3⟩|⟨rfl,hJ3⟩⟩
   ·have hB3:Hid (zhp W3 Bs N C b len cap):=Hd (show W3.heap[Bs]? = _ from (hks Bs (by simp)).trans HBX.out);have HJ3:=Hd hJ3;clear hJ3 hks hsz;gi_wp2;go_roundw
    case rel=>exact⟨k+1,by omega,by simp,HJ3,hB3⟩
    case measure=>simp[intOf];omega
   ·have HX:=Hd hJ3;clear hJ3 hks hsz;gi_wp2;refine bodyPost_ret (results_none rfl _ _ _) rfl ?_;exact⟨⟨_,rfl⟩,.inr ⟨_,⟨by simp,by rw[Zbg];exact HLT.out⟩,HX.out⟩⟩
  ·obtain rfl:k=N:=by omega
   gi_wp2;go_end0;exact⟨⟨_,rfl⟩,.inl ⟨_,rfl,HJ.out⟩⟩
theorem zag.stp {fb m B0 b M:Nat} {g:Nat→GF} {W W':World} (h:zag W b M g) (hk:Stp fb B0 m W W') (hb:b<B0) (hf:b≠fb):zag W' b M g:=h.kp hk.kp (zdd hf (.inl hb))
theorem zh6 {S T:List Nat} {W W':World} (h:Kp S W W') (hT:∀b∈T,b<W.heap.size∧b∉S):KS T W W':=fun b hb=>h.block b (hT b hb).1 (hT b hb).2
def zmr (fb R N C:Nat) (A B:Nat→Nat→GF) (w:World) (e:Ending) (w':World):Prop:=∃b,e=.returned (.tuple #[.agg #[.int .i64 R,.int .i64 C,.slice (some ⟨b,0,none⟩) (R*C) (R*C)],.int .i64 0])∧w.heap.size≤b∧zag w' b (R*C) (flat C (zsu N A B))∧Kp [fb] w w'∧FOk w' fb
structure zxw (fb pa pb gb b8 R N C P1 P2 P3 cb:Nat) (A B:Nat→Nat→GF) (w W:World):Prop where
 ok:FOk W fb
 b3:W.heap[w.heap.size]? = some (.cells #[.pointer (some ⟨fb,0,none⟩)] 29 (0,0))
 b5:W.heap[w.heap.size+1+1]? = some (.cells #[.int .i64 N,.int .i64 C,.slice (some ⟨pb,0,none⟩) P2 cb] 66 (0,0))
 b6:W.heap[w.heap.size+1+1+1]? = some (.cells #[.int .i64 0,.int .i64 0,.slice none 0 0] 66 (0,0))
 bm:W.heap[b8]? = some (.cells #[.int .i64 R,.int .i64 C,.slice (some ⟨gb,0,none⟩) P3 P3] 66 (0,0))
 va:zag W pa P1 (flat N A)
 vb:zag W pb P2 (flat C B)
 kp:Kp [fb] w W
 lt:fb<w.heap.size∧pa<w.heap.size∧pb<w.heap.size∧w.heap.size+1+1+1<gb∧gb<b8
 ne:pa≠fb∧pb≠fb
theorem zxw.step {fb pa pb gb b8 R N C P1 P2 P3 cb:Nat} {A B:Nat→Nat→GF} {w W W':World} (h:zxw fb pa pb gb b8 R N C P1 P2 P3 cb A B w W) {S:List Nat} (hk:Kp S W W') (hS:∀x∈S,x=fb∨x=gb∨b8<x) (hf:FOk W' fb):zxw fb pa pb gb b8 R N C P1 P2 P3 cb A B w W':=by
 obtain⟨h1,h2,h3,h4,h5⟩:=h.lt;obtain⟨n1,n2⟩:=h.ne;have hn:∀k,k≠fb→k≠gb→k≤b8→k∉S:=fun k g1 g2 g3 hm=>by rcases hS k hm with e|e|e<;>omega
 exact⟨hf,hk.heap h.b3 (hn _ (by omega) (by omega) (by omega)),hk.heap h.b5 (hn _ (by omega) (by omega) (by omega)),hk.heap h.b6 (hn _ (by omega) (by omega) (by omega)),hk.heap h.bm (hn _ (by omega) (by omega) (by omega)),h.va.kp hk (hn _ (by omega) (by omega) (by omega)),h.vb.kp hk (hn _ (by omega) (by omega) (by omega)),
  h.kp.step hk (fun x hx=>by rcases hS x hx with e|e|e;exact .inl (by simp[e]);exact .inr (by omega);exact .inr (by omega)),h.lt,h.ne⟩
theorem zxw.stp {fb pa pb gb b8 R N C P1 P2 P3 cb m B0:Nat} {A B:Nat→Nat→GF} {w W W':World} (h:zxw fb pa pb gb b8 R N C P1 P2 P3 cb A B w W) (hk:Stp fb B0 m W W') (hb:b8<B0):zxw fb pa pb gb b8 R N C P1 P2 P3 cb A B w W' :=
 h.step hk.kp (fun x hx=>by
  rcases Zbf.1 hx with rfl|hx
  ·exact .inl rfl
  ·have:=Zbb.1 hx
   exact .inr (.inr (by omega))) (hk.ok h.ok)
def ydy (w:World) (b8:Nat) (u:Nat→Value):Array Value:=#[u 0,u 1,u 2,.pointer (some ⟨w.heap.size,0,none⟩),u 4,.pointer (some ⟨w.heap.size+1+1,0,none⟩),.pointer (some ⟨w.heap.size+1+1+1,0,none⟩),u 7,.pointer (some ⟨b8,0,none⟩),u 9,u 10,u 11,u 12,u 13,u 14,u 15,u 16,u 17,u 18,u 19,u 20,u 21,u 22,u 23,u 24,u 25,u 26,u 27,u 28,u 29,u 30,u 31,u 32,u 33,u 34,u 35,u 36,u 37,u 38,u 39,u 40,u 41,u 42,u 43,u 44,u 45,u 46,u 47,u 48,u 49,u 50,u 51,u 52,u 53,u 54,u 55,u 56,u 57,u 58,u 59,u 60,u 61,u 62,u 63,u 64,u 65,u 66,u 67,u 68]
theorem zyx (fb R N C pa pb ca cb:Nat) (A B:Nat→Nat→GF) (w:World) (hF:FOk w fb) (hR:1≤R∧R≤256) (hN:1≤N∧N≤256) (hC:1≤C∧C≤256) (ha:zag w pa (R*N) (flat N A)) (hb:zag w pb (N*C) (flat C B)) (hca:R*N≤ca) (hcb:N*C≤cb) (hna:pa≠fb) (hnb:pb≠fb) :
  Calls Tryz.prog 40 #[.pointer (some ⟨fb,0,none⟩),.agg #[.int .i64 R,.int .i64 N,.slice (some ⟨pa,0,none⟩) (R*N) ca],.agg #[.int .i64 N,.int .i64 C,.slice (some ⟨pb,0,none⟩) (N*C) cb]] w (zmr fb R N C A B w):=by
 obtain⟨P1,hP1⟩:=zE4 (R*N);obtain⟨P2,hP2⟩:=zE4 (N*C);obtain⟨P3,hP3⟩:=zE4 (R*C);have hb1:P1≤256*256:=by rw[←hP1];exact Zai hR.2 hN.2
 have hb2:P2≤256*256:=by rw[←hP2];exact Zai hN.2 hC.2
 have hb3:P3≤256*256:=by rw[←hP3];exact Zai hR.2 hC.2
 have HRA:=Hd (fun W=>zcp R N (some ⟨pa,0,none⟩) P1 ca W (by omega) (by omega) hP1.symm);have HRB:=Hd (fun W=>zcp N C (some ⟨pb,0,none⟩) P2 cb W (by omega) (by omega) hP2.symm);have HNO:=Hd (fun W=>zf8 R C P3 W hP3 (by omega) (by omega) (by omega));unfold zmr;rw[hP1] at ha hca ⊢;rw[hP2] at hb hcb ⊢;rw[hP3];have HP:=Hd (Zao hP1 (Zao hP2 hP3));obtain⟨w3,hw3⟩:=zE5 ((((w.alloc (.cells #[.pointer (some ⟨fb,0,none⟩)] 29)).alloc (.cells #[.int .i64 R,.int .i64 N,.slice (some ⟨pa,0,none⟩) P1 ca] 66)).alloc (.cells #[.int .i64 N,.int .i64 C,.slice (some ⟨pb,0,none⟩) P2 cb] 66)).alloc (.cells #[.int .i64 0,.int .i64 0,.slice none 0 0] 66));have hw:Below w.heap.size w w3:=by rw[hw3];exact ((((Zaa _ _).alloc (zE3 _) _).alloc (by simp) _).alloc (by simp;omega) _).alloc (by simp;omega) _
 have d3:w3.heap[w.heap.size]? = some (.cells #[.pointer (some ⟨fb,0,none⟩)] 29 (0,0)):=by rw[hw3];exact zaw (zaw (zaw (nwA _ _) _) _) _
 have d4:w3.heap[w.heap.size+1]? = some (.cells #[.int .i64 R,.int .i64 N,.slice (some ⟨pa,0,none⟩) P1 ca] 66 (0,0)):=by rw[hw3];exact zaw (zaw (nwE _ _ _ (by simp)) _) _
 have d5:w3.heap[w.heap.size+1+1]? = some (.cells #[.int .i64 N,.int .i64 C,.slice (some ⟨pb,0,none⟩) P2 cb] 66 (0,0)):=by rw[hw3];exact zaw (nwE _ _ _ (by simp)) _
 have d6:w3.heap[w.heap.size+1+1+1]? = some (.cells #[.int .i64 0,.int .i64 0,.slice none 0 0] 66 (0,0)):=by rw[hw3];exact nwE _ _ _ (by simp)
 have l4:=lOH d4;have l5:=lOH d5;have l6:=lOH d6;have z40:=cOH d4 (j:=0) rfl;have z41:=cOH d4 (j:=1) rfl;have z42:=cOH d4 (j:=2) rfl;have z50:=cOH d5 (j:=0) rfl;have z51:=cOH d5 (j:=1) rfl;have z52:=cOH d5 (j:=2) rfl;obtain⟨q,hq⟩:=zE4 ((16777216:Int).tdiv (R:Int));have hq1:(256:Int)≤q∧q≤16777216:=by rw[←hq,Int.tdiv_eq_ediv_of_nonneg (by omega)];refine⟨(Int.le_ediv_iff_mul_le (by omega)).2 (by omega),Int.ediv_le_self _ (by omega)⟩
 have hq2:=zE6 q (by omega);have hq3:¬q<(C:Int):=by omega
 have hq4:(C:Int)≤q:=by omega
 have hn0:¬(R:Int)=0:=by omega
 have hn1:(0:Int)<(R:Int):=by omega
 have hn2:¬R=0:=by omega
 have D3:=Hd d3;have D4:=Hd d4;have D5:=Hd d5;have D6:=Hd d6;have HA:=Hd (ha.below hw);have HB:=Hd (hb.below hw);have HF:=Hd (hF.below hw);have HW:=Hd hw;have hal:=ha.1;have hbl:=hb.1;have hfl:=hF.lt;clear ha hb hF hP1 hP2 hP3 hw d3 d4 d5 d6;refine zav Tryz.func40 rfl ?_;simp only[Tryz.ntmps40,TR,Nat.reduceAdd,Nat.reduceSub];go_upto_region 1 with fail
 rw[←hw3];clear hw3;have hgr:=hgK (fun k=>k<w3.heap.size);refine za7 (fun k=>k<w3.heap.size) [1,5] (.sq [0,1,2,3,4,5,6,7,8,9,10,11,12,13,14,15,16,17,18,19,20,21,22,23,24,25,26,27] .done) (.step 0 (.step 1 (.step 2 (.step 3 (.unit 3 false (.step 4 (.step 5 (.step 6 .done))) 7 6 (.step 8 (.unit 8 false (.step 9 (.step 10 (.step 11 (.step 12 (.step 13 .done))))) 14 13 (.step 15 (.unit 15 false (.step 16 (.step 17 (.step 18 (.step 19 (.unit 19 true (.step 20 (.step 21 (.step 22 (.step 23 (.step 24 (.step 25 .done)))))) 26 25 .done))))) 27 26 .done))))))))) (by kernel_rfl) (by kernel_rfl) (by kernel_rfl) (by kernel_rfl) ?_;simp only[zkc,zgg,ztv,Oper.slim,List.contains_cons,List.contains_nil,Option.map_none,Zbv,List.getElem?_toArray,Zbj,List.getElem?_cons_succ,Option.bind_some,beq_self_eq_true,Bool.or_false,Nat.reduceBEq,Nat.reduceAdd,Zbe,Option.getD_some,Option.isSome_some,Option.isSome_none,Bool.false_and,Bool.true_and,Bool.false_eq_true,if_false,if_true,Option.some_beq_some,Option.some_beq_none,Option.none_beq_some,reduceCtorEq,ite_true,ite_false]
 repeat ((with_reducible refine zac (fun K hK=>?_));go_simp;first|(refine hK _ _ ?_;clear hK K)|(refine⟨by (intro kk hkk;first|exact hkk.elim|(simp (disch:=(simp;omega)) only[h_D,h_N,h_A,h_S];done)|(simp[h_D,h_N,h_I,hkk];done)|fail),hK _ _ ?_⟩;clear hK K)| (go_at_call 77;first|((with_reducible refine (HRA.out _).mono ?_);rintro e wx ⟨rfl,hbx⟩;have HBX:Hid (Below w3.heap.size w3 wx):=Hd (((Zaa w3.heap.size w3).drew).trans hbx);refine⟨_,rfl,(fun kk hkk=>HBX.out.block kk hkk),hK _ _ ?_⟩;clear hbx hK K)|((with_reducible refine (HRB.out _).mono ?_);rintro e wy ⟨rfl,hby⟩;refine⟨_,rfl,(fun kk hkk=>(HBX.out.trans (hby.mono HBX.out.size)).block kk hkk),hK _ _ ?_⟩;clear hK K)))
 refine zap (x:=?_) (by rfl) ?_ ?_;rotate_left
 ·intro hgd
  repeat ((with_reducible refine zac (fun K hK=>?_));go_simp;first|(refine hK _ _ ?_;clear hK K)|(refine⟨by (intro kk hkk;first|exact hkk.elim|(simp (disch:=(simp;omega)) only[h_D,h_N,h_A,h_S];done)|(simp[h_D,h_N,h_I,hkk];done)|fail),hK _ _ ?_⟩;clear hK K)| (go_at_call 77;first|((with_reducible refine (HRA.out _).mono ?_);rintro e wx ⟨rfl,hbx⟩;have HBX:Hid (Below w3.heap.size w3 wx):=Hd (((Zaa w3.heap.size w3).drew).trans hbx);refine⟨_,rfl,(fun kk hkk=>HBX.out.block kk hkk),hK _ _ ?_⟩;clear hbx hK K)|((with_reducible refine (HRB.out _).mono ?_);rintro e wy ⟨rfl,hby⟩;refine⟨_,rfl,(fun kk hkk=>(HBX.out.trans (hby.mono HBX.out.size)).block kk hkk),hK _ _ ?_⟩;clear hK K)))
  exact zah ⟨by rfl,by (repeat' (first|with_reducible (first|exact Zaa _ _|assumption|refine Zac ?_|refine Zab ?_ ?_ _)|omega|(simp;done)|(simp;omega)))⟩
 intro js wu hbu;simp only[UT.dsts,zct,SOp.dst,Option.toList_some,Option.toList_none,Zas,Zav,Zal,cond_true,cond_false]
 repeat ((with_reducible refine zac (fun K hK=>?_));go_simp;first|(refine hK _ _ ?_;clear hK K)|(refine⟨by (intro kk hkk;first|exact hkk.elim|(simp (disch:=(simp;omega)) only[h_D,h_N,h_A,h_S];done)|(simp[h_D,h_N,h_I,hkk];done)|fail),hK _ _ ?_⟩;clear hK K)| (go_at_call 77;first|((with_reducible refine (HRA.out _).mono ?_);rintro e wx ⟨rfl,hbx⟩;have HBX:Hid (Below w3.heap.size w3 wx):=Hd (((Zaa w3.heap.size w3).drew).trans hbx);refine⟨_,rfl,(fun kk hkk=>HBX.out.block kk hkk),hK _ _ ?_⟩;clear hbx hK K)|((with_reducible refine (HRB.out _).mono ?_);rintro e wy ⟨rfl,hby⟩;refine⟨_,rfl,(fun kk hkk=>(HBX.out.trans (hby.mono HBX.out.size)).block kk hkk),hK _ _ ?_⟩;clear hK K)))
 refine zax (x:=?_) (by rfl) ?_ ?_;rotate_left
 ·intro hgd
  repeat ((with_reducible refine zac (fun K hK=>?_));go_simp;first|(refine hK _ _ ?_;clear hK K)|(refine⟨by (intro kk hkk;first|exact hkk.elim|(simp (disch:=(simp;omega)) only[h_D,h_N,h_A,h_S];done)|(simp[h_D,h_N,h_I,hkk];done)|fail),hK _ _ ?_⟩;clear hK K)| (go_at_call 77;first|((with_reducible refine (HRA.out _).mono ?_);rintro e wx ⟨rfl,hbx⟩;have HBX:Hid (Below w3.heap.size w3 wx):=Hd (((Zaa w3.heap.size w3).drew).trans hbx);refine⟨_,rfl,(fun kk hkk=>HBX.out.block kk hkk),hK _ _ ?_⟩;clear hbx hK K)|((with_reducible refine (HRB.out _).mono ?_);rintro e wy ⟨rfl,hby⟩;refine⟨_,rfl,(fun kk hkk=>(HBX.out.trans (hby.mono HBX.out.size)).block kk hkk),hK _ _ ?_⟩;clear hK K)))
  exact zah ⟨by rfl,rfl⟩
 intro js;simp only[UT.dsts,zct,SOp.dst,Option.toList_some,Option.toList_none,Zas,Zav,Zal,cond_true,cond_false]
 repeat ((with_reducible refine zac (fun K hK=>?_));go_simp;first|(refine hK _ _ ?_;clear hK K)|(refine⟨by (intro kk hkk;first|exact hkk.elim|(simp (disch:=(simp;omega)) only[h_D,h_N,h_A,h_S];done)|(simp[h_D,h_N,h_I,hkk];done)|fail),hK _ _ ?_⟩;clear hK K)| (go_at_call 77;first|((with_reducible refine (HRA.out _).mono ?_);rintro e wx ⟨rfl,hbx⟩;have HBX:Hid (Below w3.heap.size w3 wx):=Hd (((Zaa w3.heap.size w3).drew).trans hbx);refine⟨_,rfl,(fun kk hkk=>HBX.out.block kk hkk),hK _ _ ?_⟩;clear hbx hK K)|((with_reducible refine (HRB.out _).mono ?_);rintro e wy ⟨rfl,hby⟩;refine⟨_,rfl,(fun kk hkk=>(HBX.out.trans (hby.mono HBX.out.size)).block kk hkk),hK _ _ ?_⟩;clear hK K)))
 refine zax (x:=?_) (by rfl) ?_ ?_;rotate_left
 ·intro hgd
  repeat ((with_reducible refine zac (fun K hK=>?_));go_simp;first|(refine hK _ _ ?_;clear hK K)|(refine⟨by (intro kk hkk;first|exact hkk.elim|(simp (disch:=(simp;omega)) only[h_D,h_N,h_A,h_S];done)|(simp[h_D,h_N,h_I,hkk];done)|fail),hK _ _ ?_⟩;clear hK K)| (go_at_call 77;first|((with_reducible refine (HRA.out _).mono ?_);rintro e wx ⟨rfl,hbx⟩;have HBX:Hid (Below w3.heap.size w3 wx):=Hd (((Zaa w3.heap.size w3).drew).trans hbx);refine⟨_,rfl,(fun kk hkk=>HBX.out.block kk hkk),hK _ _ ?_⟩;clear hbx hK K)|((with_reducible refine (HRB.out _).mono ?_);rintro e wy ⟨rfl,hby⟩;refine⟨_,rfl,(fun kk hkk=>(HBX.out.trans (hby.mono HBX.out.size)).block kk hkk),hK _ _ ?_⟩;clear hK K)))
  refine zax (x:=?_) (by rfl) ?_ ?_;rotate_left
  ·intro hgd
   repeat ((with_reducible refine zac (fun K hK=>?_));go_simp;first|(refine hK _ _ ?_;clear hK K)|(refine⟨by (intro kk hkk;first|exact hkk.elim|(simp (disch:=(simp;omega)) only[h_D,h_N,h_A,h_S];done)|(simp[h_D,h_N,h_I,hkk];done)|fail),hK _ _ ?_⟩;clear hK K)| (go_at_call 77;first|((with_reducible refine (HRA.out _).mono ?_);rintro e wx ⟨rfl,hbx⟩;have HBX:Hid (Below w3.heap.size w3 wx):=Hd (((Zaa w3.heap.size w3).drew).trans hbx);refine⟨_,rfl,(fun kk hkk=>HBX.out.block kk hkk),hK _ _ ?_⟩;clear hbx hK K)|((with_reducible refine (HRB.out _).mono ?_);rintro e wy ⟨rfl,hby⟩;refine⟨_,rfl,(fun kk hkk=>(HBX.out.trans (hby.mono HBX.out.size)).block kk hkk),hK _ _ ?_⟩;clear hK K)))
   exact zah ⟨by rfl,rfl⟩
  intro js;simp only[UT.dsts,zct,SOp.dst,Option.toList_some,Option.toList_none,Zas,Zav,Zal,cond_true,cond_false]
  try go_simp
  exact zah ⟨by rfl,rfl⟩
 intro js;simp only[UT.dsts,zct,SOp.dst,Option.toList_some,Option.toList_none,Zas,Zav,Zal,cond_true,cond_false]
 try go_simp
 refine zah ?_
 try go_simp
 clear hgr;have HBU:Hid (Below w3.heap.size w3 wu):=Hd (HBX.out.trans (hbu.mono HBX.out.size));have D3:=Hd (zad HBU.out D3.out);have D4:=Hd (zad HBU.out D4.out);have D5:=Hd (zad HBU.out D5.out);have D6:=Hd (zad HBU.out D6.out);have HA:=Hd (HA.out.below HBU.out);have HB:=Hd (HB.out.below HBU.out);have HF:=Hd (HF.out.below HBU.out);have HW:=Hd (HW.out.trans (HBU.out.mono HW.out.size));have hsu:=HBU.out.size;have l4:=lOH D4.out;have l5:=lOH D5.out;have l6:=lOH D6.out;have z40:=cOH D4.out (j:=0) rfl;have z51:=cOH D5.out (j:=1) rfl;clear hbu HBX;go_wp2_with fail;refine (HNO.out wu).mono ?_;rintro e w5 ⟨gb,rfl,hg,hv5,hb5⟩;have D3:=Hd (zad hb5 D3.out);have D4:=Hd (zad hb5 D4.out);have D5:=Hd (zad hb5 D5.out);have D6:=Hd (zad hb5 D6.out);have HA:=Hd (HA.out.below hb5);have HB:=Hd (HB.out.below hb5);have HF:=Hd (HF.out.below hb5);have HW:=Hd (HW.out.trans (hb5.mono HW.out.size));have hgb:w.heap.size+1+1+1<gb:=by omega
 have HV5:=Hd hv5;have hgl:=hv5.1;have hs5:=hb5.size;clear hv5 hb5 z40 z41 z42 z50 z51 z52 hq hq1 hq2 hq3 hq4 hn0 hn1 hn2 HRA HRB HNO;have z40:=cOH D4.out (j:=0) rfl;have z41:=cOH D4.out (j:=1) rfl;have z42:=cOH D4.out (j:=2) rfl;have l4:=lOH D4.out;go_wp2_with (go_at_call 72;refine (zer R N pa P1 ca _).mono ?_;rintro e w7 ⟨rfl,hb7,hbx7⟩);obtain⟨b8,hb8⟩:=zE4 w5.heap.size;have h57:Below w5.heap.size w5 w7:=((Zaa _ _).alloc (zE3 _) _).trans (hb7.mono (by simp));have bm7:w7.heap[b8]? = some (.cells #[.int .i64 R,.int .i64 C,.slice (some ⟨gb,0,none⟩) P3 P3] 66 (0,0)):=by rw[←hb8];exact zad hb7 (nwA _ _)
 have HMB:Hid (zxw fb pa pb gb b8 R N C P1 P2 P3 cb A B w w7):=Hd ⟨HF.out.below h57,zad h57 D3.out,zad h57 D5.out,zad h57 D6.out,bm7,HA.out.below h57,HB.out.below h57,Kp.of_below (HW.out.trans (h57.mono HW.out.size)),⟨hfl,hal,hbl,hgb,by rw[←hb8];exact hgl⟩,hna,hnb⟩;have HV7:Hid (zag w7 gb P3 (flat C (znl N A B 0 0))):=Hd ((HV5.out.below h57).congr fun j hj=>by unfold flat;rw[zvn]);have HBX:Hid (zhp w7 (b8+1) R N pa P1 ca):=Hd (by rw[←hb8];simpa using hbx7);have hbl8:b8+1<w7.heap.size:=HBX.out.lt;clear hb7 hbx7 h57 bm7 D3 D4 D5 D6 HA HB HF HW HV5 z40 z41 z42 l4;refine zc3 (ydy w b8) _ (by rw[←hb8];kernel_rfl) 48 (.func (.func 110) #[] #[.pointer (some ⟨b8+1,0,none⟩)]) (by rw[←hb8];simp) ?_;clear hb8;intro u hu;have HU:=Hd hu;clear hu;obtain⟨l1,l2,l3,l4,l5⟩:=HMB.out.lt;have HNE:=Hd HMB.out.ne;refine zdg (gf:=110) (lb:=#[.pointer (some ⟨b8+1,0,none⟩)]) (show u 48=_ from HU.out) (enters_of Tryz.func110 (by kernel_rfl) rfl) (zlu fb R N pa P1 ca (b8+1) w7 HBX.out (by omega) (by rw[HP.out.1];exact hca) (by omega) (by rw[HP.out.1];omega)) (Zaa _ _) (fun _=>rfl) (by omega) R (fun n h=>by cases h;rfl)
  (fun pre W=>zxw fb pa pb gb b8 R N C P1 P2 P3 cb A B w W∧zag W gb P3 (flat C (znl N A B pre.length 0))) (fun _ _=>False)
  (fun pre W W' h hk=>⟨h.1.stp hk (by omega),h.2.stp hk (by omega) (by omega)⟩) (fun _ _ _ h _=>h) (fun pre W h=>h.1.ok) ⟨HMB.out,HV7.out⟩ (fun h=>by cases h) (fun b hb=>by rw[Zaq] at hb;omega)
  (fun x=>{ tmps:=#[u 0,u 1,u 2,.pointer (some ⟨w.heap.size,0,none⟩),u 4,.pointer (some ⟨w.heap.size+1+1,0,none⟩),.pointer (some ⟨w.heap.size+1+1+1,0,none⟩),u 7,.pointer (some ⟨b8,0,none⟩),u 9,u 10,u 11,u 12,u 13,u 14,u 15,u 16,u 17,u 18,u 19,u 20,u 21,u 22,u 23,u 24,u 25,u 26,u 27,u 28,u 29,u 30,u 31,u 32,u 33,u 34,u 35,u 36,u 37,u 38,u 39,u 40,u 41,u 42,u 43,u 44,u 45,u 46,u 47,u 48,.int .i64 (x:Nat),.slice (some ⟨pa,x*N,none⟩) N N,u 51,u 52,u 53,u 54,u 55,u 56,u 57,u 58,u 59,u 60,u 61,u 62,u 63,u 64,u 65,u 66,u 67,u 68],defers:=[] })
  (fun x=>{ tmps:=#[u 0,u 1,u 2,.pointer (some ⟨w.heap.size,0,none⟩),u 4,.pointer (some ⟨w.heap.size+1+1,0,none⟩),.pointer (some ⟨w.heap.size+1+1+1,0,none⟩),u 7,.pointer (some ⟨b8,0,none⟩),.int .i64 (x:Nat),.slice (some ⟨pa,x*N,none⟩) N N,u 11,u 12,u 13,u 14,u 15,u 16,u 17,u 18,u 19,u 20,u 21,u 22,u 23,u 24,u 25,u 26,u 27,u 28,u 29,u 30,u 31,u 32,u 33,u 34,u 35,u 36,u 37,u 38,u 39,u 40,u 41,u 42,u 43,u 44,u 45,u 46,u 47,u 48,.int .i64 (x:Nat),.slice (some ⟨pa,x*N,none⟩) N N,u 51,u 52,u 53,u 54,u 55,u 56,u 57,u 58,u 59,u 60,u 61,u 62,u 63,u 64,u 65,u 66,u 67,u 68],defers:=[] }) (fun x=>by kernel_rfl) ?assign ?body ?done ?stop
 case assign =>
  intro lv x W K hK;gi_wp2;exact hK
 case stop=>intro D pre W hD hp hx;exact hx.elim
 case body =>
  rintro lv pre i W ⟨hB,hV⟩ ⟨hsp,hsl⟩ hlt hsz;dsimp only;have hi:i=pre.length:=by
   have:=congrArg (fun l=>l[pre.length]?) hsp
   simpa[Zax] using this
  obtain⟨L,hL⟩:=zE4 pre.length;rw[hL] at hi hlt hV;subst hi;have HL:=Hd hL;have HB:=Hd hB;have HV:=Hd hV;have hszW:b8+1<W.heap.size:=by omega
  have HSZ:=Hd hsz;clear hL hB hV hsp hsl hsz HMB HV7 HBX;gi_wp2;gi_loopw [53] (fun s wr=>∃k:Nat,k≤N∧s=.int .i64 (k:Nat)∧Hid (zxw fb pa pb gb b8 R N C P1 P2 P3 cb A B w wr)∧Hid (zag wr gb P3 (flat C (znl N A B i k)))∧Hid (Kp [fb,gb] W wr))
   (fun s _=>N-(intOf s).toNat)
  case atStart=>exact⟨0,Zbp _,rfl,HB,HV,Hd (Kp.refl _ _)⟩
  case round =>
   clear HB HV;obtain⟨k,hk,rfl,HB,HV,HK⟩:=hrel;by_cases hlk:k<N
   ·have hij:i*N+k<P1:=by rw[←HP.out.1];exact zaz hlt hlk
    have c1:=(HB.out.va.2 (i*N+k) hij).1;rw[zab (by omega) _ _ _ hlk] at c1;have hal2:pa<wr.heap.size:=HB.out.va.1;obtain⟨z,hz⟩:=zE4 ((A i k).n);rw[hz] at c1;have y3:=cOH HB.out.b3 (j:=0) rfl;have y50:=cOH HB.out.b5 (j:=0) rfl;have y51:=cOH HB.out.b5 (j:=1) rfl;have y52:=cOH HB.out.b5 (j:=2) rfl;have y80:=cOH HB.out.bm (j:=0) rfl;have y81:=cOH HB.out.bm (j:=1) rfl;have y82:=cOH HB.out.bm (j:=2) rfl;have g3:=lOH HB.out.b3;have g5:=lOH HB.out.b5;have g8:=lOH HB.out.bm;have gg:=HV.out.1;have q2:(0:Int)≤(k:Int)∧(k:Int)<(N:Int):=by omega
    have HRWM:Hid (∀W',Calls Tryz.prog 79 #[.agg #[.int .i64 R,.int .i64 C,.slice (some ⟨gb,0,none⟩) P3 P3],.int .i64 i] W' fun e w'=>e=.returned (.slice (some ⟨gb,0+i*C,none⟩) C C)∧Below W'.heap.size W' w'):=Hd (fun W'=>zb2 R C i gb 0 P3 P3 W' (by omega) (za8 (by rw[HP.out.2.2];exact zE3 _) hlt) (za8 (by rw[HP.out.2.2];omega) hlt));have HRWB:Hid (∀W',Calls Tryz.prog 79 #[.agg #[.int .i64 N,.int .i64 C,.slice (some ⟨pb,0,none⟩) P2 cb],.int .i64 k] W' fun e w'=>e=.returned (.slice (some ⟨pb,0+k*C,none⟩) C C)∧Below W'.heap.size W' w'):=Hd (fun W'=>zb2 N C k pb 0 P2 cb W' (by omega) (za8 (by rw[HP.out.2.1];exact hcb) hlk) (za8 (by rw[HP.out.2.1];omega) hlk));have HMORE:Hid (∀W',Below wr.heap.size wr W'→Calls Tryz.prog 78 #[.pointer (some ⟨fb,0,none⟩),.slice (some ⟨gb,i*C,none⟩) C C,.slice (some ⟨pb,k*C,none⟩) C C,.int .u8 (z:Nat)] W' (zic fb gb P3 (flat C (znl N A B i (k+1))) W')):=Hd (fun W' hW=>by
     have hiC:=zng (C:=C) hlt;have hkC:=zng (C:=C) hlk;rw[HP.out.2.2] at hiC;rw[HP.out.2.1] at hkC;have hvg:=HV.out.below hW;have hvb:=HB.out.vb.below hW;have hra:ze6 W' pb (k*C) C (B k):=⟨hvb.1,fun c hc=>by
      have:=(hvb.2 (k*C+c) (by omega)).1
      rwa[zab (by omega) _ _ _ hc] at this⟩
     rw[←hz];refine (zl9 fb gb (i*C) C P3 C pb (k*C) C (flat C (znl N A B i k)) (B k) (A i k) W' (HB.out.ok.below hW) hvg hra hiC (by omega) (by omega) (fun e=>HNE.out.2 e.symm) (.inl (by omega))).mono ?_;rintro e w' ⟨h1,h2,h3,h4⟩;exact⟨h1,h2,h3,h4.congr fun j hj=>zvo (R:=R) (by omega) (by rw[HP.out.2.2];exact hj)⟩)
    obtain⟨kp,hkp⟩:∃kp:Nat→Bool,∀k,kp k=true↔k<wr.heap.size∧k≠fb∧k≠gb:=⟨fun k=>decide (k<wr.heap.size∧k≠fb∧k≠gb),by simp⟩;have k1:kp w.heap.size=true:=(hkp _).2 ⟨by omega,by omega,by omega⟩;have k2:kp (w.heap.size+1+1)=true:=(hkp _).2 ⟨by omega,by omega,by omega⟩;have k3:kp b8=true:=(hkp _).2 ⟨by omega,by omega,by omega⟩;have HKP:=Hd hkp;clear hkp hz hij;gi_wp2;have hgr:=hgK (fun k=>kp k=true);refine zak (fun k=>kp k=true) [3,6,8] (.sq [0,1,2,4,5,7,3,6,8] .done) (by kernel_rfl) (by kernel_rfl) (by kernel_rfl) ?_;simp only[TQ,Oper.slim,Nat.reduceBEq,Nat.reduceAdd]
    repeat' first|((with_reducible refine w_I ?_);first|(with_reducible refine w_D ?_)|((with_reducible refine w_S (fun K hK=>?_));go_simp;first|(refine hK _ _ ?_;clear hK K)|(refine⟨by (intro kk hkk;first|(simp (disch:=(simp;omega)) only[h_D,h_N,h_A,h_S];done)|(simp[h_D,h_N,h_I,hkk];done)|fail),hK _ _ ?_⟩;clear hK K)|(go_at_call 79;first|((with_reducible refine (HRWM.out _).mono ?_);rintro e wx ⟨rfl,hbx⟩;have HBX:Hid (Below wr.heap.size wr wx):=Hd (((Zaa wr.heap.size wr).drew).trans hbx);refine⟨_,rfl,(fun kk hkk=>HBX.out.block kk ((HKP.out kk).1 hkk).1),hK _ _ ?_⟩;clear hbx hK K)|((with_reducible refine (HRWB.out _).mono ?_);rintro e wy ⟨rfl,hby⟩;have HBY:Hid (Below wr.heap.size wr wy):=Hd (HBX.out.trans (hby.mono HBX.out.size));refine⟨_,rfl,(fun kk hkk=>HBY.out.block kk ((HKP.out kk).1 hkk).1),hK _ _ ?_⟩;clear hby hK K))|(go_at_call 78;(with_reducible refine (HMORE.out _ HBY.out).mono ?_);rintro e wz ⟨rfl,hkz,hfz,hvz⟩;have HKZ:Hid (Kp [fb,gb] wr wz):=Hd ((Kp.of_below HBY.out).trans hkz);have HFZ:=Hd hfz;have HVZ:=Hd hvz;refine⟨_,rfl,(fun kk hkk=>HKZ.out.block kk ((HKP.out kk).1 hkk).1 (by have:=((HKP.out kk).1 hkk).2;simpa using this)),hK _ _ ?_⟩;clear hkz hfz hvz hK K)))|fail
    clear hgr;have HB7:=Hd (HB.out.step HKZ.out (fun x hx=>by simp at hx;omega) HFZ.out);have HK7:=Hd (HK.out.trans HKZ.out);gi_wp2;go_roundw
    case rel=>exact⟨k+1,by omega,by simp,HB7,HVZ,HK7⟩
    case measure=>simp[intOf]<;>omega
   ·obtain rfl:k=N:=by omega
    have HEND:Hid (KS ([b8+1]++List.range' w7.heap.size (0+2)) W wr∧W.heap.size≤wr.heap.size∧zxw fb pa pb gb b8 R k C P1 P2 P3 cb A B w wr∧zag wr gb P3 (flat C (znl k A B (pre++[i]).length 0))):=Hd ⟨zh6 HK.out (fun b hb=>by
     have h0:=HSZ.out;rcases Zba.1 hb with h|h
     ·rw[Zaq] at h;subst h;exact⟨hszW,by simp;omega⟩
     ·have:=Zbb.1 h
      exact⟨by omega,by simp;omega⟩),HK.out.size,HB.out,by
     rw[Zak,List.length_singleton,HL.out];exact HV.out.congr fun j hj=>by unfold flat;rw[zvp]⟩
    gi_wp2
    first|exact HEND.out|exact⟨HEND.out.1,HEND.out.2.1,by simpa using HEND.out.2.2⟩|exact⟨by simpa using HEND.out.1,by simpa using HEND.out.2.1,by simpa using HEND.out.2.2⟩
 case done =>
  rintro D0 xs W hD0 rfl ⟨hB,hV⟩ hK0;have HB:=Hd hB;have HV:Hid (zag W gb P3 (flat C (zsu N A B))):=Hd (hV.congr fun j hj=>by
   obtain⟨r,k,hr,hk,rfl⟩:=za2 (R:=R) (C:=C) (by omega) (by rw[HP.out.2.2];exact hj);rw[zab (by omega) _ _ _ hk,zab (by omega) _ _ _ hk,Zbg,zyw _ _ hr])
  have HK0:=Hd hK0;have HD0:=Hd hD0;have m0:=cOH hB.bm (j:=0) rfl;have m1:=cOH hB.bm (j:=1) rfl;have m2:=cOH hB.bm (j:=2) rfl;have y0:=cOH hB.b6 (j:=0) rfl;have y1:=cOH hB.b6 (j:=1) rfl;have y2:=cOH hB.b6 (j:=2) rfl;have z0:=fOH hB.b6 0;have z1:=fOH hB.b6 1;have z2:=fOH hB.b6 2;have g6:=lOH hB.b6;clear hB hV hK0 hD0;unfold ydy;go_wp2;have hD:=HD0.out;obtain⟨rb,hrb⟩:=zE4 (w.heap.size+1+1+1);rw[hrb] at g6 l4 ⊢;have hk:Kp [rb] W (((W.setCell ⟨rb,0,none⟩ (.int .i64 R)).setCell ⟨rb,1,none⟩ (.int .i64 C)).setCell ⟨rb,2,none⟩ (.slice (some ⟨gb,0,none⟩) P3 P3)) :=
   (((Kp.refl _ _).setCell (.inl (by simp)) _).setCell (.inl (by simp)) _).setCell (.inl (by simp)) _
  have h6:(((W.setCell ⟨rb,0,none⟩ (.int .i64 R)).setCell ⟨rb,1,none⟩ (.int .i64 C)).setCell ⟨rb,2,none⟩ (.slice (some ⟨gb,0,none⟩) P3 P3)).heap[rb]? = some (.cells #[.int .i64 R,.int .i64 C,.slice (some ⟨gb,0,none⟩) P3 P3] 66 (0,0)):=by have hb6:=HB.out.b6;rw[hrb] at hb6;have:=hSS (hSS (hSS hb6 0 (.int .i64 R)) 1 (.int .i64 C)) 2 (.slice (some ⟨gb,0,none⟩) P3 P3);simpa using this
  refine zal (B:=w.heap.size) [D0] _ (zbf.cons (zbf.nil _ _) (by omega) (hk.heap HK0.out (by simp;omega)) (by simp)) fun w' hk'=>⟨.tuple #[.agg #[.int .i64 R,.int .i64 C,.slice (some ⟨gb,0,none⟩) P3 P3],.int .i64 0],?_,?_⟩
  ·have h7:=hk'.heap h6 (by simp;omega);have c0:w'.cell? ⟨rb,0,none⟩=some (.int .i64 R):=cOH h7 rfl;have c1:w'.cell? ⟨rb,1,none⟩=some (.int .i64 C):=cOH h7 rfl;have c2:w'.cell? ⟨rb,2,none⟩=some (.slice (some ⟨gb,0,none⟩) P3 P3):=cOH h7 rfl;simp[results,Tryz.results40,go_sem,c0,c1,c2]
  ·refine⟨gb,rfl,by omega,(HV.out.kp hk (by simp;omega)).kp hk' (by simp;omega),(HB.out.kp.step hk (fun x hx=>by simp at hx;right;omega)).step hk' (fun x hx=>by simp at hx;right;omega),(HB.out.ok.kp hk (by simp;omega)).kp hk' (by simp;omega)⟩
def zmn (fb n:Nat) (b:List GF) (w:World) (e:Ending) (w':World):Prop:=∃g,e=.returned (.tuple #[.agg #[.int .i64 n,.int .i64 n,.slice (some ⟨g,0,none⟩) (n*n) (n*n)],.int .i64 0])∧w.heap.size≤g∧zag w' g (n*n) (flat n (fun r c=>b.getD (sI n r c) 0))∧Kp [fb] w w'∧FOk w' fb
structure ztn (fb gb b6 n M bb bo cap:Nat) (b:List GF) (w W:World):Prop where
 ok:FOk W fb
 b2:W.heap[w.heap.size]? = some (.cells #[.int .i64 n] 3 (0,0))
 b4:W.heap[w.heap.size+1+1]? = some (.cells #[.int .i64 0,.int .i64 0,.slice none 0 0] 66 (0,0))
 bm:W.heap[b6]? = some (.cells #[.int .i64 n,.int .i64 n,.slice (some ⟨gb,0,none⟩) M M] 66 (0,0))
 va:GRd W (.slice (some ⟨bb,bo,none⟩) b.length cap) b
 kp:Kp [fb] w W
 lt:fb<w.heap.size∧bb<w.heap.size∧w.heap.size+1+1<gb∧gb<b6
 ne:bb≠fb
theorem ztn.step {fb gb b6 n M bb bo cap:Nat} {b:List GF} {w W W':World} (h:ztn fb gb b6 n M bb bo cap b w W) {S:List Nat} (hk:Kp S W W') (hS:∀x∈S,x=fb∨x=gb∨x=w.heap.size+1∨b6<x) (hf:FOk W' fb):ztn fb gb b6 n M bb bo cap b w W':=by
 obtain⟨h1,h2,h3,h4⟩:=h.lt;have n1:=h.ne;have hn:∀k,k≠fb→k≠gb→k≠w.heap.size+1→k≤b6→k∉S:=fun k g1 g2 g3 g4 hm=>by rcases hS k hm with e|e|e|e<;>omega
 exact⟨hf,hk.heap h.b2 (hn _ (by omega) (by omega) (by omega) (by omega)),hk.heap h.b4 (hn _ (by omega) (by omega) (by omega) (by omega)),hk.heap h.bm (hn _ (by omega) (by omega) (by omega) (by omega)),h.va.kp hk (fun k hk2=>by simp[Value.ownBlock] at hk2;subst hk2;exact hn _ (by omega) (by omega) (by omega) (by omega)),
  h.kp.step hk (fun x hx=>by rcases hS x hx with e|e|e|e;exact .inl (by simp[e]);exact .inr (by omega);exact .inr (by omega);exact .inr (by omega)),h.lt,h.ne⟩
theorem ztn.stepB {fb gb b6 n M bb bo cap:Nat} {b:List GF} {w W:World} {v:Value} (h:ztn fb gb b6 n M bb bo cap b w W):ztn fb gb b6 n M bb bo cap b w (W.setCell ⟨w.heap.size+1,0,none⟩ v) :=
 h.step (S:=[w.heap.size+1]) ((Kp.refl _ _).setCell (.inl (by simp)) _) (fun x hx=>by rw[Zaq] at hx;exact .inr (.inr (.inl hx))) (h.ok.kp (S:=[w.heap.size+1]) ((Kp.refl _ _).setCell (.inl (by simp)) _) (by have:=h.lt;simp;omega))
theorem ztn.stp {fb gb b6 n M bb bo cap m B0:Nat} {b:List GF} {w W W':World} (h:ztn fb gb b6 n M bb bo cap b w W) (hk:Stp fb B0 m W W') (hb:b6<B0):ztn fb gb b6 n M bb bo cap b w W' :=
 h.step hk.kp (fun x hx=>by
  rcases Zbf.1 hx with rfl|hx
  ·exact .inl rfl
  ·have:=Zbb.1 hx
   exact .inr (.inr (.inr (by omega)))) (hk.ok h.ok)
theorem zuj (bb o1 Lp cp:Nat) (h:0<Lp) (hc:Lp≤cp):∃o2 cp2,(∀W,(Instr.slice 22 (.slice (some ⟨bb,o1,none⟩) Lp cp) (some (.int .i64 1)) none none).run Tryz.prog W=.ok (.slice (some ⟨bb,o2,none⟩) (Lp-1) cp2) W)∧Lp-1≤cp2∧(1<Lp→o2=o1+1):=by
 refine⟨if cp=1 then o1 else o1+1,cp-1,fun W=>?_,by omega,fun h1=>by rw[if_neg (by omega)]⟩;rw[run_slice_l (P:=Tryz.prog) (w:=W) 22 (some ⟨bb,o1,none⟩) Lp cp (by kernel_rfl) .i64 (1:Int) (by omega) (by omega),zcw];simp only[Result.andThen_ok,sliced];by_cases h1:cp=1
 ·subst h1;simp
 ·simp[h1,Addr.add_lit]
def ydj (w:World) (b6:Nat) (u:Nat→Value):Array Value:=#[u 0,u 1,.pointer (some ⟨w.heap.size,0,none⟩),.pointer (some ⟨w.heap.size+1,0,none⟩),.pointer (some ⟨w.heap.size+1+1,0,none⟩),u 5,.pointer (some ⟨b6,0,none⟩),u 7,u 8,u 9,u 10,u 11,u 12,u 13,u 14,u 15,u 16,u 17,u 18,u 19,u 20,u 21,u 22,u 23,u 24,u 25,u 26,u 27,u 28,u 29,u 30,u 31,u 32,u 33,u 34,u 35,u 36,u 37,u 38,u 39,u 40,u 41,u 42,u 43,u 44,u 45,u 46,u 47,u 48,u 49,u 50,u 51,u 52,u 53,u 54,u 55,u 56]
theorem zyy (fb n bb bo cap:Nat) (b:List GF) (w:World) (hF:FOk w fb) (hn:1≤n∧n≤256) (hb:GRd w (.slice (some ⟨bb,bo,none⟩) b.length cap) b) (hl:b.length=tri n n) (hnb:bb≠fb) :
  Calls Tryz.prog 80 #[.int .i64 n,.slice (some ⟨bb,bo,none⟩) b.length cap] w (zmn fb n b w):=by
 obtain⟨L,hL⟩:=zE4 b.length;obtain⟨M,hM⟩:=zE4 (n*n);have hMb:M≤256*256:=by rw[←hM];exact Zai hn.2 hn.2
 have hmono:∀i,i<n→∀k,k<n→tri n i+(k-i)<L:=fun i hi k hk=>by have h1:=zhx (K:=n) (show i+1≤n by omega);rw[zb0] at h1;omega
 have HMO:=Hd hmono;obtain⟨n1,hn1⟩:=zE4 (n+1);obtain⟨q,hq⟩:=zE4 (n*n1);have hql:q≤256*257:=by rw[←hq];exact Zai (by omega) (by omega)
 have hLq:q / 2=L:=by rw[←hL,hl,zhy,hn1,hq]
 have x1:¬(n:Int)<0:=by omega
 have x2:¬(65536:Int)<(n:Int):=by omega
 have x3:(n:Int)+1=(n1:Int):=by omega
 have x4:=zE6 (n1:Int) (by omega);have x5:(n:Int)*(n1:Int)=(q:Int):=by rw[←hq];simp
 have x6:=zE6 (q:Int) (by omega);have x7:(q:Int).tdiv 2=(L:Int):=by rw[←hLq];exact (Int.ofNat_tdiv q 2).symm
 have x8:=zE6 (L:Int) (by omega);have HNO:=Hd (fun W=>zf8 n n M W hM (by omega) (by omega) (by omega));have hLe:b.length≤cap:=hb.len.2;have HB0:=Hd hb;have HF:=Hd hF;have hfl:=hF.lt;have hbl:bb<w.heap.size:=by
  have h0:0<b.length:=by rw[hl];have:=hmono 0 (by omega) 0 (by omega);omega
  obtain⟨b',o',e,h1,_⟩:=hb.at (i:=0) (zE1 h0);cases e;exact h1
 have HL:=Hd hL;have HMM:=Hd hM;have HTL:Hid (tri n n=L):=Hd (by rw[←hL,hl]);unfold zmn;rw[hL] at hLe ⊢;rw[hM];clear hb hF hq hLq hl hmono hL hM hn1;refine zav Tryz.func80 rfl ?_;simp only[Tryz.ntmps80,TR,Nat.reduceAdd,Nat.reduceSub];go_wp2_with fail;refine (HNO.out _).mono ?_;rintro e w1 ⟨gb,rfl,hg1,hv1,hb1⟩;have b2:w1.heap[w.heap.size]? = some (.cells #[.int .i64 n] 3 (0,0)):=zad hb1 (by (repeat (refine Eq.trans (h_A _ _ _ ?_) ?_;(· first|(simp;done)|(simp;omega))));exact nwE _ _ _ (by simp));have b3:w1.heap[w.heap.size+1]? = some (.cells #[.slice (some ⟨bb,bo,none⟩) L cap] 22 (0,0)):=zad hb1 (by (repeat (refine Eq.trans (h_A _ _ _ ?_) ?_;(· first|(simp;done)|(simp;omega))));exact nwE _ _ _ (by simp));have b4:w1.heap[w.heap.size+1+1]? = some (.cells #[.int .i64 0,.int .i64 0,.slice none 0 0] 66 (0,0)):=zad hb1 (by (repeat (refine Eq.trans (h_A _ _ _ ?_) ?_;(· first|(simp;done)|(simp;omega))));exact nwE _ _ _ (by simp));have HB1:Hid (Below w.heap.size w w1):=Hd (((((Zaa _ _).alloc (zE3 _) _).alloc (by simp) _).alloc (by simp;omega) _).trans (hb1.mono (by simp;omega)));have hg2:w.heap.size+1+1<gb:=by simp at hg1;omega
 have hgl:=hv1.1;have HV1:=Hd hv1;have B2:=Hd b2;have B3:=Hd b3;have B4:=Hd b4;clear b2 b3 b4 hg1 hv1 hb1 HNO x1 x2 x3 x4 x5 x6 x7 x8;go_wp2_with (go_at_call 72;refine (zer n n gb M M _).mono ?_;rintro e w2 ⟨rfl,hb2,hbx2⟩);obtain⟨b6,hb6⟩:=zE4 w1.heap.size;have h2:Below w1.heap.size w1 w2:=((Zaa _ _).alloc (zE3 _) _).trans (hb2.mono (by simp));have bm2:w2.heap[b6]? = some (.cells #[.int .i64 n,.int .i64 n,.slice (some ⟨gb,0,none⟩) M M] 66 (0,0)):=by rw[←hb6];exact zad hb2 (nwA _ _)
 have hw2:=HB1.out.trans (h2.mono HB1.out.size);have HSB:Hid (ztn fb gb b6 n M bb bo cap b w w2):=Hd ⟨HF.out.below hw2,zad h2 B2.out,zad h2 B4.out,bm2,HB0.out.below hw2,Kp.of_below hw2,⟨hfl,hbl,hg2,by rw[←hb6];exact hgl⟩,hnb⟩;have HBB:Hid (w2.heap[w.heap.size+1]? = some (.cells #[.slice (some ⟨bb,bo,none⟩) L cap] 22 (0,0))):=Hd (zad h2 B3.out);have HV2:Hid (zag w2 gb M (flat n (zhz n b 0 0))):=Hd ((HV1.out.below h2).congr fun j hj=>by unfold flat;rw[zua]);have HBX:Hid (zhp w2 (b6+1) n n gb M M):=Hd (by rw[←hb6];simpa using hbx2);have hbl6:b6+1<w2.heap.size:=HBX.out.lt;clear hb2 hbx2 h2 bm2 hw2 B2 B3 B4 HB1 HV1 HF HB0 hgl;refine zc3 (ydj w b6) _ (by rw[←hb6];kernel_rfl) 31 (.func (.func 110) #[] #[.pointer (some ⟨b6+1,0,none⟩)]) (by rw[←hb6];simp) ?_;clear hb6;intro u hu;have HU:=Hd hu;clear hu;obtain⟨l1,l2,l3,l4⟩:=HSB.out.lt;refine zdg (gf:=110) (lb:=#[.pointer (some ⟨b6+1,0,none⟩)]) (show u 31=_ from HU.out) (enters_of Tryz.func110 (by kernel_rfl) rfl) (zlu fb n n gb M M (b6+1) w2 HBX.out (by omega) (by rw[HMM.out];exact zE3 _) (by omega) (by rw[HMM.out];omega)) (Zaa _ _) (fun _=>rfl) (by omega) n (fun n h=>by cases h;rfl)
  (fun pre W=>ztn fb gb b6 n M bb bo cap b w W∧zag W gb M (flat n (zhz n b pre.length 0))∧∃o1 Lp cp,W.heap[w.heap.size+1]? = some (.cells #[.slice (some ⟨bb,o1,none⟩) Lp cp] 22 (0,0))∧Lp+tri n pre.length=L∧Lp≤cp∧(0<Lp→o1=bo+tri n pre.length)) (fun _ _=>False)
  (fun pre W W' h hk=>⟨h.1.stp hk (by omega),h.2.1.stp hk (by omega) (by omega),by
   obtain⟨o1,Lp,cp,h1,h2⟩:=h.2.2;exact⟨o1,Lp,cp,hk.kp.heap h1 (zdd (by omega) (.inl (by omega))),h2⟩⟩) (fun _ _ _ h _=>h) (fun pre W h=>h.1.ok) ⟨HSB.out,HV2.out,bo,L,cap,HBB.out,rfl,hLe,fun _=>rfl⟩ (fun h=>by cases h) (fun b hb=>by rw[Zaq] at hb;omega)
  (fun x=>{ tmps:=#[u 0,u 1,.pointer (some ⟨w.heap.size,0,none⟩),.pointer (some ⟨w.heap.size+1,0,none⟩),.pointer (some ⟨w.heap.size+1+1,0,none⟩),u 5,.pointer (some ⟨b6,0,none⟩),u 7,u 8,u 9,u 10,u 11,u 12,u 13,u 14,u 15,u 16,u 17,u 18,u 19,u 20,u 21,u 22,u 23,u 24,u 25,u 26,u 27,u 28,u 29,u 30,u 31,.int .i64 (x:Nat),.slice (some ⟨gb,x*n,none⟩) n n,u 34,u 35,u 36,u 37,u 38,u 39,u 40,u 41,u 42,u 43,u 44,u 45,u 46,u 47,u 48,u 49,u 50,u 51,u 52,u 53,u 54,u 55,u 56],defers:=[] })
  (fun x=>{ tmps:=#[u 0,u 1,.pointer (some ⟨w.heap.size,0,none⟩),.pointer (some ⟨w.heap.size+1,0,none⟩),.pointer (some ⟨w.heap.size+1+1,0,none⟩),u 5,.pointer (some ⟨b6,0,none⟩),.int .i64 (x:Nat),.slice (some ⟨gb,x*n,none⟩) n n,u 9,u 10,u 11,u 12,u 13,u 14,u 15,u 16,u 17,u 18,u 19,u 20,u 21,u 22,u 23,u 24,u 25,u 26,u 27,u 28,u 29,u 30,u 31,.int .i64 (x:Nat),.slice (some ⟨gb,x*n,none⟩) n n,u 34,u 35,u 36,u 37,u 38,u 39,u 40,u 41,u 42,u 43,u 44,u 45,u 46,u 47,u 48,u 49,u 50,u 51,u 52,u 53,u 54,u 55,u 56],defers:=[] }) (fun x=>by kernel_rfl) ?assign ?body ?done ?stop
 case assign =>
  intro lv x W K hK;gi_wp2;exact hK
 case stop=>intro D pre W hD hp hx;exact hx.elim
 case body =>
  rintro lv pre i W ⟨hB,hV,o1,Lp,cp,hBB,hpp⟩ ⟨hsp,hsl⟩ hlt hsz;dsimp only;have hi:i=pre.length:=by
   have:=congrArg (fun l=>l[pre.length]?) hsp
   simpa[Zax] using this
  obtain⟨PL,hPL⟩:=zE4 pre.length;rw[hPL] at hi hlt hV hpp;subst hi;have HPL:=Hd hPL;have HB:=Hd hB;have HV:Hid (zag W gb M (flat n (zhz n b i i))):=Hd (hV.congr fun j hj=>by unfold flat;rw[zx5]);have HBB:=Hd hBB;have HPP:=Hd hpp;have hszW:b6+1<W.heap.size:=by omega
  have HSZ:=Hd hsz;clear hPL hB hV hBB hpp hsp hsl hsz HSB HV2 HBX;gi_wp2;gi_loopw [9] (fun s wr=>∃k o1 Lp cp:Nat,i≤k∧k≤n∧s=.int .i64 (k:Nat)∧Hid (ztn fb gb b6 n M bb bo cap b w wr)∧Hid (zag wr gb M (flat n (zhz n b i k)))∧Hid (wr.heap[w.heap.size+1]? = some (.cells #[.slice (some ⟨bb,o1,none⟩) Lp cp] 22 (0,0)))∧Hid (Kp [gb,w.heap.size+1] W wr)∧Lp+(tri n i+(k-i))=L∧Lp≤cp∧(0<Lp→o1=bo+(tri n i+(k-i))))
   (fun s _=>n-(intOf s).toNat)
  case atStart=>exact⟨i,o1,Lp,cp,zE3 _,by omega,rfl,HB,HV,HBB,Hd (Kp.refl _ _),by have:=HPP.out.1;omega,HPP.out.2.1,fun h=>by have:=HPP.out.2.2 h;omega⟩
  case round =>
   clear HB HV HBB HPP o1 Lp cp;obtain⟨k,o1,Lp,cp,hik0,hk,rfl,HB,HV,HBB,HK,hpp⟩:=hrel;have y2:=cOH HB.out.b2 (j:=0) rfl;have g2:=lOH HB.out.b2;by_cases hlk:k<n
   ·have hp0:=HMO.out i hlt k hlk;have hLp:0<Lp:=by omega
    obtain⟨o2,cp2,hsl1,hcp2,ho2⟩:=zuj bb o1 Lp cp hLp hpp.2.1;obtain⟨Lp2,hLp2⟩:=zE4 (Lp-1);rw[hLp2] at hsl1 hcp2;have HPP:Hid (Lp+(tri n i+(k-i))=L∧Lp2+1=Lp∧Lp2≤cp2∧(0<Lp2→o2=bo+(tri n i+(k+1-i)))):=Hd ⟨hpp.1,by omega,hcp2,fun h=>by have:=hpp.2.2 hLp;have:=ho2 (by omega);omega⟩;have ho1:bo+(tri n i+(k-i))=o1:=by have:=hpp.2.2 hLp;omega
    obtain⟨z,hz⟩:=zE4 ((b.getD (sI n i k) 0).n);have cb:wr.cell? ⟨bb,o1,none⟩=some (.int .u8 (z:Nat)):=by
     have h0:tri n i+(k-i)<b.length:=by rw[HL.out];exact hp0
     obtain⟨b',o',e,_,h2⟩:=HB.out.va.at (zE1 h0);cases e;rw[←ho1,h2,←hz,zo2 hik0,zE2,zE1 h0];rfl
    obtain⟨p1,hp1⟩:=zE4 (i*n+k);obtain⟨p2,hp2⟩:=zE4 (k*n+i);have hl1:p1<M:=by rw[←HMM.out,←hp1];exact zaz hlt hlk
    have hl2:p2<M:=by rw[←HMM.out,←hp2];exact zaz hlk hlt
    have HSET:Hid (∀W,zag W gb M (flat n (zhz n b i k))→zag ((W.setCell ⟨gb,p1,none⟩ (.int .u8 (z:Nat))).setCell ⟨gb,p2,none⟩ (.int .u8 (z:Nat))) gb M (flat n (zhz n b i (k+1)))):=Hd fun W h=>by rw[←hz];exact ((h.set hl1 _).set hl2 _).congr fun j hj=>by rw[←hp1,←hp2];exact zub hlt hlk hik0 (by rw[HMM.out];exact hj)
    obtain⟨c1,f1⟩:=HV.out.2 p1 hl1;obtain⟨c2,f2⟩:=HV.out.2 p2 hl2;obtain⟨v1,hv1⟩:=zE4 ((flat n (zhz n b i k) p1).n);obtain⟨v2,hv2⟩:=zE4 ((flat n (zhz n b i k) p2).n);rw[hv1] at c1;rw[hv2] at c2;have y3:=cOH HBB.out (j:=0) rfl;have y60:=cOH HB.out.bm (j:=0) rfl;have y61:=cOH HB.out.bm (j:=1) rfl;have y62:=cOH HB.out.bm (j:=2) rfl;have g3:=lOH HBB.out;have g6:=lOH HB.out.bm;have gg:=HV.out.1;have gbb:bb<wr.heap.size:=by omega
    have q2:(0:Int)≤(k:Int)∧(k:Int)<(n:Int):=by omega
    have q3:(0:Int)≤(i:Int)∧(i:Int)<(n:Int):=by omega
    have HRWM:Hid (∀W',Calls Tryz.prog 79 #[.agg #[.int .i64 n,.int .i64 n,.slice (some ⟨gb,0,none⟩) M M],.int .i64 k] W' fun e w'=>e=.returned (.slice (some ⟨gb,0+k*n,none⟩) n n)∧Below W'.heap.size W' w'):=Hd (fun W'=>zb2 n n k gb 0 M M W' (by omega) (za8 (by rw[HMM.out];exact zE3 _) hlk) (za8 (by rw[HMM.out];omega) hlk));obtain⟨kp,hkp⟩:∃kp:Nat→Bool,∀k,kp k=true↔k<wr.heap.size∧k≠gb:=⟨fun k=>decide (k<wr.heap.size∧k≠gb),by simp⟩;have k1:kp (w.heap.size+1)=true:=(hkp _).2 ⟨by omega,by omega⟩;have k2:kp bb=true:=(hkp _).2 ⟨by omega,by omega⟩;have k3:kp b6=true:=(hkp _).2 ⟨by omega,by omega⟩;have HKP:=Hd hkp;have HH1:Hid (i*n+k=p1):=Hd hp1;have HH2:Hid (k*n+i=p2):=Hd hp2;have HNN:Hid (¬i=k→¬p1=p2):=Hd fun h e=>h (by
     rw[←hp1,←hp2] at e;exact (zcy hlk hlt e).1)
    clear hkp hz hv1 hv2 hpp hLp2 ho1 ho2 hcp2;by_cases hik:i=k
    ·subst hik;obtain rfl:p1=p2:=by rw[←hp1,←hp2]
     clear hp2 HNN;gi_wp2;have hgr:=hgK (fun k=>kp k=true);refine zak (fun k=>kp k=true) [4,13,15] (.sq [0,1,2,3,5,6,7,8,9,10,11,4,12,13,14,15] .done) (by kernel_rfl) (by kernel_rfl) (by kernel_rfl) ?_;simp only[TQ,Oper.slim,Nat.reduceBEq,Nat.reduceAdd]
     repeat' first|((with_reducible refine w_I ?_);first|(with_reducible refine w_D ?_)|((with_reducible refine w_S (fun K hK=>?_));go_simp;first|(refine hK _ _ ?_;clear hK K)|(refine⟨by (intro kk hkk;first|(simp (disch:=(simp;omega)) only[h_D,h_N,h_A,h_S];done)|(simp[h_D,h_N,h_I,hkk];done)|(have hkk2:=(HKP.out kk).1 hkk;simp (disch:=(first|exact hkk2.2|(simp;done)|(simp;omega))) only[h_D,h_N,h_A,h_S];first|done|exact HBX.out.block kk hkk2.1)),hK _ _ ?_⟩;clear hK K)|(go_at_call 79;(with_reducible refine (HRWM.out _).mono ?_);rintro e wx ⟨rfl,hbx⟩;have HBX:Hid (Below wr.heap.size wr wx):=Hd (((Zaa wr.heap.size wr).drew).trans hbx);have c1:=(HBX.out.cell (p:=⟨gb,p1,none⟩) gg).trans c1;have c2:=(HBX.out.cell (p:=⟨gb,p1,none⟩) gg).trans c2;have f1:=(HBX.out.frozen (p:=⟨gb,p1,none⟩) gg).trans f1;have f2:=(HBX.out.frozen (p:=⟨gb,p1,none⟩) gg).trans f2;refine⟨_,rfl,(fun kk hkk=>HBX.out.block kk ((HKP.out kk).1 hkk).1),hK _ _ ?_⟩;clear hbx hK K)))|fail
     clear hgr
     all_goals
      have HV7:=Hd (HSET.out wx (HV.out.below HBX.out));have hk7:Kp [gb] wr ((wx.setCell ⟨gb,p1,none⟩ (.int .u8 (z:Nat))).setCell ⟨gb,p1,none⟩ (.int .u8 (z:Nat))):=((Kp.of_below (S:=[gb]) HBX.out).setCell (.inl (by simp)) _).setCell (.inl (by simp)) _;obtain⟨w7,hw7⟩:=zE5 ((wx.setCell ⟨gb,p1,none⟩ (.int .u8 (z:Nat))).setCell ⟨gb,p1,none⟩ (.int .u8 (z:Nat)));rw[←hw7] at HV7 hk7;have HB7:=Hd (HB.out.step hk7 (fun x hx=>by simp at hx;omega) (HB.out.ok.kp hk7 (by simp;omega)));have HBB7:Hid (w7.heap[w.heap.size+1]? = some (.cells #[.slice (some ⟨bb,o1,none⟩) Lp cp] 22 (0,0))):=Hd (hk7.heap HBB.out (by simp;omega));have HK7:Hid (Kp [gb,w.heap.size+1] W w7):=Hd (HK.out.trans (hk7.mono (by simp)));have y3:=cOH HBB7.out (j:=0) rfl;have z3:=fOH HBB7.out 0;have g3:=lOH HBB7.out;clear HB HV HBB HK hk7 y2 y60 y61 y62 c1 c2 f1 f2 k1 k2 k3 g2 g6 gg;rw[←hw7];clear hw7;gi_wp2;have HB8:=Hd (HB7.out.stepB (v:=.slice (some ⟨bb,o2,none⟩) Lp2 cp2));have HV8:=Hd (HV7.out.kp ((Kp.refl [w.heap.size+1] w7).setCell (p:=⟨w.heap.size+1,0,none⟩) (.inl (by simp)) (.slice (some ⟨bb,o2,none⟩) Lp2 cp2)) (by simp;omega));have HBB8:Hid ((w7.setCell ⟨w.heap.size+1,0,none⟩ (.slice (some ⟨bb,o2,none⟩) Lp2 cp2)).heap[w.heap.size+1]? = some (.cells #[.slice (some ⟨bb,o2,none⟩) Lp2 cp2] 22 (0,0))):=Hd (by have:=hSS HBB7.out 0 (.slice (some ⟨bb,o2,none⟩) Lp2 cp2);simpa using this);have HK8:Hid (Kp [gb,w.heap.size+1] W (w7.setCell ⟨w.heap.size+1,0,none⟩ (.slice (some ⟨bb,o2,none⟩) Lp2 cp2))):=Hd (HK7.out.setCell (.inl (by simp)) _);go_roundw
      case rel=>exact⟨i+1,o2,Lp2,cp2,by omega,by omega,by simp,HB8,HV8,HBB8,HK8,by have:=HPP.out;omega,by have:=HPP.out;omega,by have:=HPP.out;omega⟩
      case measure=>simp[intOf]<;>omega
    ·have hnp:=HNN.out hik;have hnp2:¬p2=p1:=fun e=>hnp e.symm;gi_wp2;have hgr:=hgK (fun k=>kp k=true);refine zak (fun k=>kp k=true) [4,13,15] (.sq [0,1,2,3,5,6,7,8,9,10,11,4,12,13,14,15] .done) (by kernel_rfl) (by kernel_rfl) (by kernel_rfl) ?_;simp only[TQ,Oper.slim,Nat.reduceBEq,Nat.reduceAdd]
     repeat' first|((with_reducible refine w_I ?_);first|(with_reducible refine w_D ?_)|((with_reducible refine w_S (fun K hK=>?_));go_simp;first|(refine hK _ _ ?_;clear hK K)|(refine⟨by (intro kk hkk;first|(simp (disch:=(simp;omega)) only[h_D,h_N,h_A,h_S];done)|(simp[h_D,h_N,h_I,hkk];done)|(have hkk2:=(HKP.out kk).1 hkk;simp (disch:=(first|exact hkk2.2|(simp;done)|(simp;omega))) only[h_D,h_N,h_A,h_S];first|done|exact HBX.out.block kk hkk2.1)),hK _ _ ?_⟩;clear hK K)|(go_at_call 79;(with_reducible refine (HRWM.out _).mono ?_);rintro e wx ⟨rfl,hbx⟩;have HBX:Hid (Below wr.heap.size wr wx):=Hd (((Zaa wr.heap.size wr).drew).trans hbx);have c1:=(HBX.out.cell (p:=⟨gb,p1,none⟩) gg).trans c1;have c2:=(HBX.out.cell (p:=⟨gb,p2,none⟩) gg).trans c2;have f1:=(HBX.out.frozen (p:=⟨gb,p1,none⟩) gg).trans f1;have f2:=(HBX.out.frozen (p:=⟨gb,p2,none⟩) gg).trans f2;refine⟨_,rfl,(fun kk hkk=>HBX.out.block kk ((HKP.out kk).1 hkk).1),hK _ _ ?_⟩;clear hbx hK K)))|fail
     clear hgr
     all_goals
      have HV7:=Hd (HSET.out wx (HV.out.below HBX.out));have hk7:Kp [gb] wr ((wx.setCell ⟨gb,p1,none⟩ (.int .u8 (z:Nat))).setCell ⟨gb,p2,none⟩ (.int .u8 (z:Nat))):=((Kp.of_below (S:=[gb]) HBX.out).setCell (.inl (by simp)) _).setCell (.inl (by simp)) _;obtain⟨w7,hw7⟩:=zE5 ((wx.setCell ⟨gb,p1,none⟩ (.int .u8 (z:Nat))).setCell ⟨gb,p2,none⟩ (.int .u8 (z:Nat)));rw[←hw7] at HV7 hk7;have HB7:=Hd (HB.out.step hk7 (fun x hx=>by simp at hx;omega) (HB.out.ok.kp hk7 (by simp;omega)));have HBB7:Hid (w7.heap[w.heap.size+1]? = some (.cells #[.slice (some ⟨bb,o1,none⟩) Lp cp] 22 (0,0))):=Hd (hk7.heap HBB.out (by simp;omega));have HK7:Hid (Kp [gb,w.heap.size+1] W w7):=Hd (HK.out.trans (hk7.mono (by simp)));have y3:=cOH HBB7.out (j:=0) rfl;have z3:=fOH HBB7.out 0;have g3:=lOH HBB7.out;clear HB HV HBB HK hk7 y2 y60 y61 y62 c1 c2 f1 f2 k1 k2 k3 g2 g6 gg;rw[←hw7];clear hw7;gi_wp2;have HB8:=Hd (HB7.out.stepB (v:=.slice (some ⟨bb,o2,none⟩) Lp2 cp2));have HV8:=Hd (HV7.out.kp ((Kp.refl [w.heap.size+1] w7).setCell (p:=⟨w.heap.size+1,0,none⟩) (.inl (by simp)) (.slice (some ⟨bb,o2,none⟩) Lp2 cp2)) (by simp;omega));have HBB8:Hid ((w7.setCell ⟨w.heap.size+1,0,none⟩ (.slice (some ⟨bb,o2,none⟩) Lp2 cp2)).heap[w.heap.size+1]? = some (.cells #[.slice (some ⟨bb,o2,none⟩) Lp2 cp2] 22 (0,0))):=Hd (by have:=hSS HBB7.out 0 (.slice (some ⟨bb,o2,none⟩) Lp2 cp2);simpa using this);have HK8:Hid (Kp [gb,w.heap.size+1] W (w7.setCell ⟨w.heap.size+1,0,none⟩ (.slice (some ⟨bb,o2,none⟩) Lp2 cp2))):=Hd (HK7.out.setCell (.inl (by simp)) _);go_roundw
      case rel=>exact⟨k+1,o2,Lp2,cp2,by omega,by omega,by simp,HB8,HV8,HBB8,HK8,by have:=HPP.out;omega,by have:=HPP.out;omega,by have:=HPP.out;omega⟩
      case measure=>simp[intOf]<;>omega
   ·obtain rfl:k=n:=by omega
    have HEND:Hid (KS ([b6+1]++List.range' w2.heap.size (0+2)) W wr∧W.heap.size≤wr.heap.size∧ztn fb gb b6 k M bb bo cap b w wr∧zag wr gb M (flat k (zhz k b (pre++[i]).length 0))∧∃o1 Lp cp,wr.heap[w.heap.size+1]? = some (.cells #[.slice (some ⟨bb,o1,none⟩) Lp cp] 22 (0,0))∧Lp+tri k (pre++[i]).length=L∧Lp≤cp∧(0<Lp→o1=bo+tri k (pre++[i]).length)):=Hd ⟨zh6 HK.out (fun b hb=>by
     have h0:=HSZ.out;rcases Zba.1 hb with h|h
     ·rw[Zaq] at h;subst h;exact⟨hszW,by simp;omega⟩
     ·have:=Zbb.1 h
      exact⟨by omega,by simp;omega⟩),HK.out.size,HB.out,by
     rw[Zak,List.length_singleton,HPL.out];exact HV.out.congr fun j hj=>by
      obtain⟨r,c,hr,hc,rfl⟩:=za2 (R:=k) (C:=k) (by omega) (by rw[HMM.out];exact hj);rw[zab (by omega) _ _ _ hc,zab (by omega) _ _ _ hc,zuc _ _ hr hc],o1,Lp,cp,HBB.out,by
     rw[Zak,List.length_singleton,HPL.out,zb0];exact hpp.1,hpp.2.1,fun h=>by
     rw[Zak,List.length_singleton,HPL.out,zb0];exact hpp.2.2 h⟩
    gi_wp2
    first|exact HEND.out|exact⟨HEND.out.1,HEND.out.2.1,by simpa using HEND.out.2.2⟩|exact⟨by simpa using HEND.out.1,by simpa using HEND.out.2.1,by simpa using HEND.out.2.2⟩
 case done =>
  rintro D0 xs W hD0 rfl ⟨hB,hV,-⟩ hK0;have HB:=Hd hB;have HV:Hid (zag W gb M (flat n (fun r c=>b.getD (sI n r c) 0))):=Hd (hV.congr fun j hj=>by
   obtain⟨r,k,hr,hk,rfl⟩:=za2 (R:=n) (C:=n) (by omega) (by rw[HMM.out];exact hj);rw[zab (by omega) _ _ _ hk,zab (by omega) _ _ _ hk,Zbg,zx6 _ _ hr hk])
  have HK0:=Hd hK0;have HD0:=Hd hD0;have m0:=cOH hB.bm (j:=0) rfl;have m1:=cOH hB.bm (j:=1) rfl;have m2:=cOH hB.bm (j:=2) rfl;have y0:=cOH hB.b4 (j:=0) rfl;have y1:=cOH hB.b4 (j:=1) rfl;have y2:=cOH hB.b4 (j:=2) rfl;have z0:=fOH hB.b4 0;have z1:=fOH hB.b4 1;have z2:=fOH hB.b4 2;have g6:=lOH hB.b4;clear hB hV hK0 hD0;unfold ydj;go_wp2;have hD:=HD0.out;obtain⟨rb,hrb⟩:=zE4 (w.heap.size+1+1);rw[hrb] at g6 l3 ⊢;have hk:Kp [rb] W (((W.setCell ⟨rb,0,none⟩ (.int .i64 n)).setCell ⟨rb,1,none⟩ (.int .i64 n)).setCell ⟨rb,2,none⟩ (.slice (some ⟨gb,0,none⟩) M M)) :=
   (((Kp.refl _ _).setCell (.inl (by simp)) _).setCell (.inl (by simp)) _).setCell (.inl (by simp)) _
  have h6:(((W.setCell ⟨rb,0,none⟩ (.int .i64 n)).setCell ⟨rb,1,none⟩ (.int .i64 n)).setCell ⟨rb,2,none⟩ (.slice (some ⟨gb,0,none⟩) M M)).heap[rb]? = some (.cells #[.int .i64 n,.int .i64 n,.slice (some ⟨gb,0,none⟩) M M] 66 (0,0)):=by have hb4:=HB.out.b4;rw[hrb] at hb4;have:=hSS (hSS (hSS hb4 0 (.int .i64 n)) 1 (.int .i64 n)) 2 (.slice (some ⟨gb,0,none⟩) M M);simpa using this
  refine zal (B:=w.heap.size) [D0] _ (zbf.cons (zbf.nil _ _) (by omega) (hk.heap HK0.out (by simp;omega)) (by simp)) fun w' hk'=>⟨.tuple #[.agg #[.int .i64 n,.int .i64 n,.slice (some ⟨gb,0,none⟩) M M],.int .i64 0],?_,?_⟩
  ·have h7:=hk'.heap h6 (by simp;omega);have c0:w'.cell? ⟨rb,0,none⟩=some (.int .i64 n):=cOH h7 rfl;have c1:w'.cell? ⟨rb,1,none⟩=some (.int .i64 n):=cOH h7 rfl;have c2:w'.cell? ⟨rb,2,none⟩=some (.slice (some ⟨gb,0,none⟩) M M):=cOH h7 rfl;simp[results,Tryz.results80,go_sem,c0,c1,c2]
  ·refine⟨gb,rfl,by omega,(HV.out.kp hk (by simp;omega)).kp hk' (by simp;omega),(HB.out.kp.step hk (fun x hx=>by simp at hx;right;omega)).step hk' (fun x hx=>by simp at hx;right;omega),(HB.out.ok.kp hk (by simp;omega)).kp hk' (by simp;omega)⟩
noncomputable def zm1 (A:Nat→Nat→GF) (I k:Nat):Nat→Nat→GF:=fun r c=>if c<I∨c=I∧r<k then A c r else 0
theorem ztz {A:Nat→Nat→GF} (r c:Nat):zm1 A 0 0 r c=0:=by unfold zm1;rw[if_neg (by omega)]
theorem zt1 {A:Nat→Nat→GF} {n I:Nat} (r c:Nat) (hr:r<n):zm1 A I n r c=zm1 A (I+1) 0 r c:=by
 unfold zm1;by_cases h:c<I∨c=I∧r<n
 ·rw[if_pos h,if_pos (by omega)]
 ·rw[if_neg h,if_neg (by omega)]
theorem zt0 {A:Nat→Nat→GF} {n I k:Nat} (hI:I<n) (hk:k<n) {j:Nat} (hj:j<n*n):(if j=k*n+I then A I k else flat n (zm1 A I k) j)=flat n (zm1 A I (k+1)) j:=by
 obtain⟨r,c,hr,hc,rfl⟩:=za2 (R:=n) (by omega) hj;rw[zab (by omega) _ _ _ hc,zab (by omega) _ _ _ hc];by_cases h1:r*n+c=k*n+I
 ·obtain⟨rfl,rfl⟩:=zcy hc hI h1;rw[if_pos rfl];unfold zm1;rw[if_pos (by omega)]
 ·rw[if_neg h1];have e1:¬(r=k∧c=I):=fun h=>h1 (by rw[h.1,h.2]);unfold zm1;by_cases h:c<I∨c=I∧r<k
  ·rw[if_pos h,if_pos (by omega)]
  ·rw[if_neg h,if_neg (by omega)]
theorem zx1 {A:Nat→Nat→GF} {n:Nat} (r c:Nat) (hc:c<n):zm1 A n 0 r c=A c r:=by unfold zm1;rw[if_pos (by omega)]
def zmm (fb n:Nat) (A:Nat→Nat→GF) (w:World) (e:Ending) (w':World):Prop:=∃g,e=.returned (.tuple #[.agg #[.int .i64 n,.int .i64 n,.slice (some ⟨g,0,none⟩) (n*n) (n*n)],.int .i64 0])∧w.heap.size≤g∧zag w' g (n*n) (flat n (fun r c=>A c r))∧Kp [fb] w w'∧FOk w' fb
structure zxu (fb gb b4 n M pa:Nat) (A:Nat→Nat→GF) (w W:World):Prop where
 ok:FOk W fb
 b2:W.heap[w.heap.size+1]? = some (.cells #[.int .i64 0,.int .i64 0,.slice none 0 0] 66 (0,0))
 bm:W.heap[b4]? = some (.cells #[.int .i64 n,.int .i64 n,.slice (some ⟨gb,0,none⟩) M M] 66 (0,0))
 va:zag W pa M (flat n A)
 kp:Kp [fb] w W
 lt:fb<w.heap.size∧pa<w.heap.size∧w.heap.size+1<gb∧gb<b4
 ne:pa≠fb
theorem zxu.step {fb gb b4 n M pa:Nat} {A:Nat→Nat→GF} {w W W':World} (h:zxu fb gb b4 n M pa A w W) {S:List Nat} (hk:Kp S W W') (hS:∀x∈S,x=fb∨x=gb∨b4<x) (hf:FOk W' fb):zxu fb gb b4 n M pa A w W':=by
 obtain⟨h1,h2,h3,h4⟩:=h.lt;have n1:=h.ne;have hn:∀k,k≠fb→k≠gb→k≤b4→k∉S:=fun k g1 g2 g3 hm=>by rcases hS k hm with e|e|e<;>omega
 exact⟨hf,hk.heap h.b2 (hn _ (by omega) (by omega) (by omega)),hk.heap h.bm (hn _ (by omega) (by omega) (by omega)),h.va.kp hk (hn _ (by omega) (by omega) (by omega)),
  h.kp.step hk (fun x hx=>by rcases hS x hx with e|e|e;exact .inl (by simp[e]);exact .inr (by omega);exact .inr (by omega)),h.lt,h.ne⟩
theorem zxu.stp {fb gb b4 n M pa m B0:Nat} {A:Nat→Nat→GF} {w W W':World} (h:zxu fb gb b4 n M pa A w W) (hk:Stp fb B0 m W W') (hb:b4<B0):zxu fb gb b4 n M pa A w W' :=
 h.step hk.kp (fun x hx=>by
  rcases Zbf.1 hx with rfl|hx
  ·exact .inl rfl
  ·have:=Zbb.1 hx
   exact .inr (.inr (by omega))) (hk.ok h.ok)
def ydi (w:World) (b4:Nat) (u:Nat→Value):Array Value:=#[u 0,.pointer (some ⟨w.heap.size,0,none⟩),.pointer (some ⟨w.heap.size+1,0,none⟩),u 3,.pointer (some ⟨b4,0,none⟩),u 5,u 6,u 7,u 8,u 9,u 10,u 11,u 12,u 13,u 14,u 15,u 16,u 17,u 18,u 19,u 20,u 21,u 22,u 23,u 24,u 25,u 26,u 27,u 28,u 29,u 30,u 31,u 32,u 33,u 34,u 35,u 36]
theorem zvr (fb n pa ca:Nat) (A:Nat→Nat→GF) (w:World) (hF:FOk w fb) (hn:1≤n∧n≤256) (ha:zag w pa (n*n) (flat n A)) (hca:n*n≤ca) (hna:pa≠fb) :
  Calls Tryz.prog 102 #[.agg #[.int .i64 n,.int .i64 n,.slice (some ⟨pa,0,none⟩) (n*n) ca]] w (zmm fb n A w):=by
 obtain⟨M,hM⟩:=zE4 (n*n);have hMb:M≤256*256:=by rw[←hM];exact Zai hn.2 hn.2
 have HRA:=Hd (fun W=>zcp n n (some ⟨pa,0,none⟩) M ca W (by omega) (by omega) hM.symm);have HNO:=Hd (fun W=>zf8 n n M W hM (by omega) (by omega) (by omega));unfold zmm;rw[hM] at ha hca ⊢;have HMM:=Hd hM;have HA:=Hd ha;have HF:=Hd hF;have hal:=ha.1;have hfl:=hF.lt;clear ha hF hM;refine zav Tryz.func102 rfl ?_;simp only[Tryz.ntmps102,TR,Nat.reduceAdd,Nat.reduceSub];go_wp2_with fail;refine (HRA.out _).mono ?_;rintro e w1 ⟨rfl,hb1⟩;have b1:w1.heap[w.heap.size]? = some (.cells #[.int .i64 n,.int .i64 n,.slice (some ⟨pa,0,none⟩) M ca] 66 (0,0)):=zad hb1 (by (repeat (refine Eq.trans (h_A _ _ _ ?_) ?_;(· first|(simp;done)|(simp;omega))));exact nwE _ _ _ (by simp));have b2:w1.heap[w.heap.size+1]? = some (.cells #[.int .i64 0,.int .i64 0,.slice none 0 0] 66 (0,0)):=zad hb1 (by (repeat (refine Eq.trans (h_A _ _ _ ?_) ?_;(· first|(simp;done)|(simp;omega))));exact nwE _ _ _ (by simp));have HB1:Hid (Below w.heap.size w w1):=Hd ((((Zaa _ _).alloc (zE3 _) _).alloc (by simp) _).trans (hb1.mono (by simp;omega)));have y0:=cOH b1 (j:=0) rfl;have y1:=cOH b1 (j:=1) rfl;have g1:=lOH b1;have g2:=lOH b2;have B1:=Hd b1;have B2:=Hd b2;clear b1 b2 hb1 HRA;go_wp2_with fail;refine (HNO.out _).mono ?_;rintro e w2 ⟨gb,rfl,hg2,hv2,hb2⟩;have hgb:w.heap.size+1<gb:=by omega
 have HB2:Hid (Below w.heap.size w w2):=Hd (HB1.out.trans (hb2.mono HB1.out.size));have B1:=Hd (zad hb2 B1.out);have B2:=Hd (zad hb2 B2.out);have y0:=cOH B1.out (j:=0) rfl;have y1:=cOH B1.out (j:=1) rfl;have y2:=cOH B1.out (j:=2) rfl;have g1:=lOH B1.out;have HV2:=Hd hv2;have hgl:=hv2.1;clear hg2 hv2 hb2 HNO HB1;go_wp2_with (go_at_call 72;refine (zer n n pa M ca _).mono ?_;rintro e w7 ⟨rfl,hb7,hbx7⟩);obtain⟨b4,hb4⟩:=zE4 w2.heap.size;have h27:Below w2.heap.size w2 w7:=((Zaa _ _).alloc (zE3 _) _).trans (hb7.mono (by simp));have bm7:w7.heap[b4]? = some (.cells #[.int .i64 n,.int .i64 n,.slice (some ⟨gb,0,none⟩) M M] 66 (0,0)):=by rw[←hb4];exact zad hb7 (nwA _ _)
 have hw7:=HB2.out.trans (h27.mono HB2.out.size);have HTB:Hid (zxu fb gb b4 n M pa A w w7):=Hd ⟨HF.out.below hw7,zad h27 B2.out,bm7,HA.out.below hw7,Kp.of_below hw7,⟨hfl,hal,hgb,by rw[←hb4];exact hgl⟩,hna⟩;have HV7:Hid (zag w7 gb M (flat n (zm1 A 0 0))):=Hd ((HV2.out.below h27).congr fun j hj=>by unfold flat;rw[ztz]);have HBX:Hid (zhp w7 (b4+1) n n pa M ca):=Hd (by rw[←hb4];simpa using hbx7);have hbl4:b4+1<w7.heap.size:=HBX.out.lt;clear hb7 hbx7 h27 bm7 hw7 B1 B2 HA HF HB2 HV2 y0 y1 y2 g1;refine zc3 (ydi w b4) _ (by rw[←hb4];kernel_rfl) 19 (.func (.func 110) #[] #[.pointer (some ⟨b4+1,0,none⟩)]) (by rw[←hb4];simp) ?_;clear hb4;intro u hu;have HU:=Hd hu;clear hu;obtain⟨l1,l2,l3,l4⟩:=HTB.out.lt;have HNE:=Hd HTB.out.ne;refine zdg (gf:=110) (lb:=#[.pointer (some ⟨b4+1,0,none⟩)]) (show u 19=_ from HU.out) (enters_of Tryz.func110 (by kernel_rfl) rfl) (zlu fb n n pa M ca (b4+1) w7 HBX.out (by omega) (by rw[HMM.out];exact hca) (by omega) (by rw[HMM.out];omega)) (Zaa _ _) (fun _=>rfl) (by omega) n (fun n h=>by cases h;rfl)
  (fun pre W=>zxu fb gb b4 n M pa A w W∧zag W gb M (flat n (zm1 A pre.length 0))) (fun _ _=>False)
  (fun pre W W' h hk=>⟨h.1.stp hk (by omega),h.2.stp hk (by omega) (by omega)⟩) (fun _ _ _ h _=>h) (fun pre W h=>h.1.ok) ⟨HTB.out,HV7.out⟩ (fun h=>by cases h) (fun b hb=>by rw[Zaq] at hb;omega)
  (fun x=>{ tmps:=#[u 0,.pointer (some ⟨w.heap.size,0,none⟩),.pointer (some ⟨w.heap.size+1,0,none⟩),u 3,.pointer (some ⟨b4,0,none⟩),u 5,u 6,u 7,u 8,u 9,u 10,u 11,u 12,u 13,u 14,u 15,u 16,u 17,u 18,u 19,.int .i64 (x:Nat),.slice (some ⟨pa,x*n,none⟩) n n,u 22,u 23,u 24,u 25,u 26,u 27,u 28,u 29,u 30,u 31,u 32,u 33,u 34,u 35,u 36],defers:=[] })
  (fun x=>{ tmps:=#[u 0,.pointer (some ⟨w.heap.size,0,none⟩),.pointer (some ⟨w.heap.size+1,0,none⟩),u 3,.pointer (some ⟨b4,0,none⟩),.int .i64 (x:Nat),.slice (some ⟨pa,x*n,none⟩) n n,u 7,u 8,u 9,u 10,u 11,u 12,u 13,u 14,u 15,u 16,u 17,u 18,u 19,.int .i64 (x:Nat),.slice (some ⟨pa,x*n,none⟩) n n,u 22,u 23,u 24,u 25,u 26,u 27,u 28,u 29,u 30,u 31,u 32,u 33,u 34,u 35,u 36],defers:=[] }) (fun x=>by kernel_rfl) ?assign ?body ?done ?stop
 case assign =>
  intro lv x W K hK;gi_wp2;exact hK
 case stop=>intro D pre W hD hp hx;exact hx.elim
 case body =>
  rintro lv pre i W ⟨hB,hV⟩ ⟨hsp,hsl⟩ hlt hsz;dsimp only;have hi:i=pre.length:=by
   have:=congrArg (fun l=>l[pre.length]?) hsp
   simpa[Zax] using this
  obtain⟨L,hL⟩:=zE4 pre.length;rw[hL] at hi hlt hV;subst hi;have HL:=Hd hL;have HB:=Hd hB;have HV:=Hd hV;have hszW:b4+1<W.heap.size:=by omega
  have HSZ:=Hd hsz;clear hL hB hV hsp hsl hsz HTB HV7 HBX;gi_wp2;gi_loopw [24] (fun s wr=>∃k:Nat,k≤n∧s=.int .i64 (k:Nat)∧Hid (zxu fb gb b4 n M pa A w wr)∧Hid (zag wr gb M (flat n (zm1 A i k)))∧Hid (Kp [gb] W wr))
   (fun s _=>n-(intOf s).toNat)
  case atStart=>exact⟨0,Zbp _,rfl,HB,HV,Hd (Kp.refl _ _)⟩
  case round =>
   clear HB HV;obtain⟨k,hk,rfl,HB,HV,HK⟩:=hrel;by_cases hlk:k<n
   ·have hij:i*n+k<M:=by rw[←HMM.out];exact zaz hlt hlk
    have hki:k*n+i<M:=by rw[←HMM.out];exact zaz hlk hlt
    have c1:=(HB.out.va.2 (i*n+k) hij).1;rw[zab (by omega) _ _ _ hlk] at c1;have hal2:pa<wr.heap.size:=HB.out.va.1;obtain⟨z,hz⟩:=zE4 ((A i k).n);rw[hz] at c1;have y80:=cOH HB.out.bm (j:=0) rfl;have y81:=cOH HB.out.bm (j:=1) rfl;have y82:=cOH HB.out.bm (j:=2) rfl;have g8:=lOH HB.out.bm;have q2:(0:Int)≤(k:Int)∧(k:Int)<(n:Int):=by omega
    have q3:(0:Int)≤(i:Int)∧(i:Int)<(n:Int):=by omega
    have HRW:Hid (∀W',Calls Tryz.prog 79 #[.agg #[.int .i64 n,.int .i64 n,.slice (some ⟨gb,0,none⟩) M M],.int .i64 k] W' fun e w'=>e=.returned (.slice (some ⟨gb,0+k*n,none⟩) n n)∧Below W'.heap.size W' w'):=Hd (fun W'=>zb2 n n k gb 0 M M W' (by omega) (za8 (by rw[HMM.out];exact zE3 _) hlk) (za8 (by rw[HMM.out];omega) hlk));have HZ:=Hd hz;clear hz hij;gi_wp2_with fail;refine⟨trivial,(callsIn_wide.2 (HRW.out _)).mono ?_⟩;rintro e w5 ⟨rfl,hb5⟩;have hv5:=HV.out.below hb5;obtain⟨c2,f2⟩:=hv5.2 (k*n+i) hki;obtain⟨v2,hv2⟩:=zE4 ((flat n (zm1 A i k) (k*n+i)).n);rw[hv2] at c2;have gg5:=hv5.1;have HV6:Hid (zag (w5.setCell ⟨gb,k*n+i,none⟩ (.int .u8 (z:Nat))) gb M (flat n (zm1 A i (k+1)))):=Hd (by
     rw[←HZ.out];exact (hv5.set hki _).congr fun j hj=>zt0 hlt hlk (by rw[HMM.out];exact hj))
    have hk6:Kp [gb] wr (w5.setCell ⟨gb,k*n+i,none⟩ (.int .u8 (z:Nat))):=(Kp.of_below (S:=[gb]) hb5).setCell (.inl (by simp)) _;have HB6:=Hd (HB.out.step hk6 (fun x hx=>by simp at hx;omega) (HB.out.ok.kp hk6 (by simp;omega)));have HK6:=Hd (HK.out.trans hk6);clear hv5 hb5 hv2 hk6 HB HV HK;gi_wp2;go_roundw
    case rel=>exact⟨k+1,by omega,by simp,HB6,HV6,HK6⟩
    case measure=>simp[intOf]<;>omega
   ·obtain rfl:k=n:=by omega
    have HEND:Hid (KS ([b4+1]++List.range' w7.heap.size (0+2)) W wr∧W.heap.size≤wr.heap.size∧zxu fb gb b4 k M pa A w wr∧zag wr gb M (flat k (zm1 A (pre++[i]).length 0))):=Hd ⟨zh6 HK.out (fun b hb=>by
     have h0:=HSZ.out;rcases Zba.1 hb with h|h
     ·rw[Zaq] at h;subst h;exact⟨hszW,by simp;omega⟩
     ·have:=Zbb.1 h
      exact⟨by omega,by simp;omega⟩),HK.out.size,HB.out,by
     rw[Zak,List.length_singleton,HL.out];exact HV.out.congr fun j hj=>by
      obtain⟨r,c,hr,hc,rfl⟩:=za2 (R:=k) (C:=k) (by omega) (by rw[HMM.out];exact hj);rw[zab (by omega) _ _ _ hc,zab (by omega) _ _ _ hc,zt1 _ _ hr]⟩
    gi_wp2
    first|exact HEND.out|exact⟨HEND.out.1,HEND.out.2.1,by simpa using HEND.out.2.2⟩|exact⟨by simpa using HEND.out.1,by simpa using HEND.out.2.1,by simpa using HEND.out.2.2⟩
 case done =>
  rintro D0 xs W hD0 rfl ⟨hB,hV⟩ hK0;have HB:=Hd hB;have HV:Hid (zag W gb M (flat n (fun r c=>A c r))):=Hd (hV.congr fun j hj=>by
   obtain⟨r,k,hr,hk,rfl⟩:=za2 (R:=n) (C:=n) (by omega) (by rw[HMM.out];exact hj);rw[zab (by omega) _ _ _ hk,zab (by omega) _ _ _ hk,Zbg,zx1 _ _ hk])
  have HK0:=Hd hK0;have HD0:=Hd hD0;have m0:=cOH hB.bm (j:=0) rfl;have m1:=cOH hB.bm (j:=1) rfl;have m2:=cOH hB.bm (j:=2) rfl;have y0:=cOH hB.b2 (j:=0) rfl;have y1:=cOH hB.b2 (j:=1) rfl;have y2:=cOH hB.b2 (j:=2) rfl;have z0:=fOH hB.b2 0;have z1:=fOH hB.b2 1;have z2:=fOH hB.b2 2;have g6:=lOH hB.b2;clear hB hV hK0 hD0;unfold ydi;go_wp2;have hD:=HD0.out;obtain⟨rb,hrb⟩:=zE4 (w.heap.size+1);rw[hrb] at g6 l3 ⊢;have hk:Kp [rb] W (((W.setCell ⟨rb,0,none⟩ (.int .i64 n)).setCell ⟨rb,1,none⟩ (.int .i64 n)).setCell ⟨rb,2,none⟩ (.slice (some ⟨gb,0,none⟩) M M)) :=
   (((Kp.refl _ _).setCell (.inl (by simp)) _).setCell (.inl (by simp)) _).setCell (.inl (by simp)) _
  have h6:(((W.setCell ⟨rb,0,none⟩ (.int .i64 n)).setCell ⟨rb,1,none⟩ (.int .i64 n)).setCell ⟨rb,2,none⟩ (.slice (some ⟨gb,0,none⟩) M M)).heap[rb]? = some (.cells #[.int .i64 n,.int .i64 n,.slice (some ⟨gb,0,none⟩) M M] 66 (0,0)):=by have hb2:=HB.out.b2;rw[hrb] at hb2;have:=hSS (hSS (hSS hb2 0 (.int .i64 n)) 1 (.int .i64 n)) 2 (.slice (some ⟨gb,0,none⟩) M M);simpa using this
  refine zal (B:=w.heap.size) [D0] _ (zbf.cons (zbf.nil _ _) (by omega) (hk.heap HK0.out (by simp;omega)) (by simp)) fun w' hk'=>⟨.tuple #[.agg #[.int .i64 n,.int .i64 n,.slice (some ⟨gb,0,none⟩) M M],.int .i64 0],?_,?_⟩
  ·have h7:=hk'.heap h6 (by simp;omega);have c0:w'.cell? ⟨rb,0,none⟩=some (.int .i64 n):=cOH h7 rfl;have c1:w'.cell? ⟨rb,1,none⟩=some (.int .i64 n):=cOH h7 rfl;have c2:w'.cell? ⟨rb,2,none⟩=some (.slice (some ⟨gb,0,none⟩) M M):=cOH h7 rfl;simp[results,Tryz.results102,go_sem,c0,c1,c2]
  ·refine⟨gb,rfl,by omega,(HV.out.kp hk (by simp;omega)).kp hk' (by simp;omega),(HB.out.kp.step hk (fun x hx=>by simp at hx;right;omega)).step hk' (fun x hx=>by simp at hx;right;omega),(HB.out.ok.kp hk (by simp;omega)).kp hk' (by simp;omega)⟩
end Go.Proofs.YtcclhhjcejmepaaGreat
namespace Go.Proofs.YtcclhhjcejmepaaGreat
open Go.RowKit Fld
attribute [local go_sem] Oper.semAt_some
def zc1 (k d j:Nat):Nat:=(j+k) % d
def yfo (k d j:Nat):Array Value:=#[.int .i64 (zc1 k d j:Nat)]
theorem zps (lb:Nat) (w:World) :
  Calls Tryz.prog 60 #[.pointer (some ⟨lb,0,none⟩)] w fun e w'=>e=.returned (.func (.func 101) #[] #[.pointer (some ⟨w.heap.size,0,none⟩)]) ∧
   Below w.heap.size w w'∧w'.heap[w.heap.size]? = some (.cells #[.pointer (some ⟨lb,0,none⟩)] 25 (0,0)):=by
 have hmf:∀(fn:Fn) (first cap:Array Value) (w:World),(Instr.makeFunc fn first cap).run Tryz.prog w=.ok (.func fn first cap) w:=fun _ _ _ _=>rfl;go_enter Tryz.func60,Tryz.ntmps60;go_wp2;go_ret;exact⟨rfl,by (repeat' (first|with_reducible (first|exact Zaa _ _|assumption|refine Zac ?_|refine Zab ?_ ?_ _)|omega|(simp;done)|(simp;omega))),nwA _ _⟩
theorem zzt (Bc lb fb k d:Nat) (w0:World) (hc:w0.heap[Bc]? = some (.cells #[.pointer (some ⟨lb,0,none⟩)] 25 (0,0))) (hlb:lb<w0.heap.size) (hk:w0.cell? ⟨lb,2,none⟩=some (.int .i64 k)) (hd:w0.cell? ⟨lb,3,none⟩=some (.int .i64 d))
  (hb:1≤d∧d≤255∧k≤255) :
  yes fb Tryz.prog 101 #[.pointer (some ⟨Bc,0,none⟩)] (yfo k d) [Bc,lb] 0 (fun xs=>xs=List.range d) (fun pre=>pre=List.range pre.length∧pre.length≤d) (some d) w0:=by
 intro lv N J Jx W hW hJ hJx hOk hN1 hN2 hY h0;obtain rfl:=hN1 _ rfl;have HC:Hid (W.heap[Bc]? = some (.cells #[.pointer (some ⟨lb,0,none⟩)] 25 (0,0))):=Hd (zad hW hc);have hk1:W.cell? ⟨lb,2,none⟩=some (.int .i64 k):=(hW.cell (p:=⟨lb,2,none⟩) hlb).trans hk;have hd1:W.cell? ⟨lb,3,none⟩=some (.int .i64 N):=(hW.cell (p:=⟨lb,3,none⟩) hlb).trans hd;have hlW:lb<W.heap.size:=Zaf hlb hW.size;refine callsIn_of_wp Tryz.func101 rfl trivial ?_ rfl;simp only[Tryz.ntmps101,TR,Nat.reduceAdd,Nat.reduceSub];have HJ0:=Hd h0;have HYY:=Hd hY;have HOK:=Hd hOk;have HJJ:=Hd hJ;have c0:W.cell? ⟨Bc,0,none⟩=some (.pointer (some ⟨lb,0,none⟩)):=cOH HC.out rfl;have HKD:=Hd (Zao hk1 hd1);clear hc hlb hk hW h0 hJ hJx hY hOk hN1 hN2 hd;gi_wp2;gi_loopw [8] (fun i wr=>∃j:Nat,j≤N∧i=.int .i64 (j:Nat)∧Hid (J (List.range j) wr)∧Hid (wr.heap[Bc]? = some (.cells #[.pointer (some ⟨lb,0,none⟩)] 25 (0,0)))∧Hid (wr.cell? ⟨lb,2,none⟩=some (.int .i64 k)∧wr.cell? ⟨lb,3,none⟩=some (.int .i64 N)∧lb<wr.heap.size))
  (fun i _=>N-(intOf i).toNat)
 case atStart=>exact⟨0,Zbp _,rfl,HJ0,HC,Hd ⟨hk1,hd1,hlW⟩⟩
 case round =>
  clear HJ0 HC hk1 hd1 c0 HKD;obtain⟨j,hj,rfl,HJ,HC,HKD⟩:=hrel;by_cases hlt:j<N
  ·have c0:wr.cell? ⟨Bc,0,none⟩=some (.pointer (some ⟨lb,0,none⟩)):=cOH HC.out rfl;have g0:=lOH HC.out;obtain⟨c2,c3,g1⟩:=HKD.out;obtain⟨s,hs⟩:=zE4 (j+k);obtain⟨q,hq⟩:=zE4 (s % N);have hqN:q<N:=by rw[←hq];exact Zck _ (by omega)
   have x1:(j:Int)+(k:Int)=(s:Int):=by omega
   have x2:=zE6 (s:Int) (by omega);have x3:(s:Int).tmod (N:Int)=(q:Int):=by rw[←hq];exact (Int.ofNat_tmod s N).symm
   have x4:(s:Int) % (N:Int)=(q:Int):=by rw[←hq];omega
   have x5:=zE6 (q:Int) (by omega);have x6:¬(N:Int)=0:=by omega
   have x7:¬N=0:=by omega
   have HLT:=Hd hlt;have HST:Hid (J (List.range j) wr.drew):=Hd (HJJ.out _ _ _ HJ.out ⟨(Kp.refl _ _).drew,fun h=>h.below ((Zaa _ _).drew)⟩);obtain⟨fn,tmps,assign,body,hy,hR5⟩:=HYY.out (List.range j) j wr.drew HST.out ⟨by simp[Zbh],by simp;exact HLT.out⟩ (by simpa using HLT.out) (HOK.out _ _ HST.out).2;have HR5:=Hd hR5;simp only[yfo,zc1,hs,hq] at hy;have HPRE:Hid (List.range j++[j]=List.range (j+1)):=Hd (by rw[Zbh]);rw[HPRE.out] at HR5;clear hR5 hs hq;have hmix:Tryz.prog.follows .mixedOrders=true:=by kernel_rfl
   gi_wp2;have HR6:Hid (RoundIn Fence.wide 4 Tryz.prog lv fn tmps assign body wr.drew fun e W'=>∃b,e=.returned (.bool b)∧KS ([Bc,lb]++List.range' W.heap.size 0) wr.drew W'∧wr.drew.heap.size≤W'.heap.size∧(b=true∧J (List.range (j+1)) W'∨b=false∧Jx (List.range (j+1)) W')):=Hd (HR5.out.mono (by
    rintro e W3 ⟨hks,hsz,⟨rfl,hJ3⟩|⟨rfl,hJ3⟩⟩
    ·exact⟨true,rfl,hks,hsz,.inl ⟨rfl,hJ3⟩⟩
    ·exact⟨false,rfl,hks,hsz,.inr ⟨rfl,hJ3⟩⟩))
   clear HR5;gi_region_with (refine HR6.out.mono ?_;rintro e W3 ⟨b,rfl,hks,hsz,hJb⟩)
   all_goals
    have HB3:Hid (W3.heap[Bc]? = some (.cells #[.pointer (some ⟨lb,0,none⟩)] 25 (0,0))):=Hd ((hks Bc (by simp)).trans HC.out);have hlb3:W3.heap[lb]? = wr.heap[lb]?:=hks lb (by simp);have HKD3:Hid (W3.cell? ⟨lb,2,none⟩=some (.int .i64 k)∧W3.cell? ⟨lb,3,none⟩=some (.int .i64 N)∧lb<W3.heap.size):=Hd ⟨(World.cell?_of_block (w:=wr) (a:=⟨lb,2,none⟩) hlb3).trans HKD.out.1,(World.cell?_of_block (w:=wr) (a:=⟨lb,3,none⟩) hlb3).trans HKD.out.2.1,Zaf HKD.out.2.2 hsz⟩;have HJB:=Hd hJb;clear hks hsz hJb hlb3 HR6;cases b
    case true =>
     have HJ3:Hid (J (List.range (j+1)) W3):=Hd (HJB.out.elim (fun h=>h.2) (fun h=>by cases h.1));gi_wp2;go_roundw
     case rel=>exact⟨j+1,by omega,by simp,HJ3,HB3,HKD3⟩
     case measure=>simp[intOf];omega
    case false =>
     have HX:Hid (Jx (List.range (j+1)) W3):=Hd (HJB.out.elim (fun h=>by cases h.1) (fun h=>h.2));gi_wp2;refine bodyPost_ret (results_none rfl _ _ _) rfl ?_;exact⟨⟨_,rfl⟩,.inr ⟨_,⟨by simp,by rw[Zbg];exact HLT.out⟩,HX.out⟩⟩
  ·obtain rfl:j=N:=by omega
   gi_wp2;go_end0;exact⟨⟨_,rfl⟩,.inl ⟨_,rfl,HJ.out⟩⟩
end Go.Proofs.YtcclhhjcejmepaaGreat
