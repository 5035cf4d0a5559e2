import Derived.Test.YtcclhhjcejmepaaGreatZMat
set_option linter.all false
namespace Go.Proofs.YtcclhhjcejmepaaGreat
open Go.RowKit
theorem zjy {α:Type} {P:Program} {g:Operand} {ps:Array Tmp} {assign body:Code} {Q:Exit→Act→World→Prop} {a:Act} {w:World}
  {gf:Nat} {lb:Array Value} (hg:a.eval g=.func (.func gf) #[] lb) (eg:∀args w,(callFunc gf args).run P w=.ok (.enter gf args) w)
  {encs:α→Array Value} {Sx Sp:List α→Prop} {N:Nat} {T:List Nat} {w0:World} (hseq:SeqStopsK Fence.wide 5 P gf lb encs (KS T) Sx Sp N w0) (hb0:Below w0.heap.size w0 w) (hps:∀x,(encs x).size=ps.size)
  (S:List Nat) (hT:∀b∈T,b<w.heap.size∧b∉S) (hS:∀x∈S,x<w.heap.size) (I:List α→World→Prop) (hI:OwnFrom w.heap.size I) (Ix:Code→List α→World→Prop) (hIx:∀c,OwnFrom w.heap.size (Ix c)) (h0:I [] w) (a₂ a₁:α→Act)
  (ha₂:∀x,({ tmps:=(ps.zip (encs x)).foldl (fun t (p,v)=>t.setIfInBounds p v) a.tmps,defers:=[] }:Act)=a₂ x)
  (hassign:∀(l:Nat) (x:α) (W:World) (K:Act→World→Prop),K (a₁ x) W→assign.wpIn (Fence.wide.inRound l) 4 P (Exit.then K (fun _ _ _=>False)) (a₂ x) W)
  (hbody:∀(l:Nat) (pre:List α) (x:α) (W:World),I pre W→pre.length<N→w.heap.size≤W.heap.size →
   body.wpIn (Fence.wide.inRound l) 4 P (fun e a' W'=>(e=.normal∧Kp S W W'∧I (pre++[x]) W')∨(e=.ret∧Kp S W W'∧Ix .ret (pre++[x]) W')) (a₁ x) W)
  (hdone:∀(D:Nat) (xs:List α) (W:World),w.heap.size≤D→Sx xs→I xs W→W.heap[D]? = some (.deferred (some []))→Q .normal { a with defers:={ target:=.collected D,args:=#[] } :: a.defers } W)
  (hstop:∀(D:Nat) (c:Code) (pre:List α) (W:World),w.heap.size≤D→Sp pre→Ix c pre W→W.heap[D]? = some (.deferred (some []))→c.wp P Q { a with defers:={ target:=.collected D,args:=#[] } :: a.defers } W) :
  (Code.rangeFunc g ps assign body).wp P Q a w:=by
 refine (wpIn_wide (n:=6)).1 ?_;refine wpIn_rangeFunc_ownG rfl (by decide) (gf:=gf) (lb:=lb) hg trivial eg hseq (fun h k b hb=>(k b hb).trans (h b hb))
  (fun W l o o' h _ _ _ b hb=>Zap (by have:=(hT b hb).1;omega)) hb0 hps (fun pre W=>I pre W∧w.heap.size≤W.heap.size) Ix
  (OwnFrom.and hI (fun _ W W' row hs hg hr=>Zat hs hg.size)) hIx ⟨h0,zE3 _⟩ a₁ (fun l x W K hK=>by rw[ha₂];exact hassign l x W K hK) ?body (fun D xs W hD hs h hK=>hdone D xs W hD hs h.1 hK) (fun D c pre W hD hp hx hK=>wpIn_wide.2 (hstop D c pre W hD hp hx hK))
 case body =>
  intro l pre x W ⟨h,hw⟩ hlt;refine wpIn_mono (hbody l pre x W h hlt hw) ?_;rintro e a' W' (⟨rfl,hk,hi⟩|⟨rfl,hk,hi⟩)
  ·exact⟨hk.keepsFrom fun x hx=>hS x hx,fun b hb=>hk.block b (by have:=(hT b hb).1;omega) (hT b hb).2,hi,Zat hw hk.size⟩
  ·exact⟨hk.keepsFrom fun x hx=>hS x hx,hi⟩
def yfq {α:Type} (P:Program) (gf:Nat) (lb:Array Value) (encs:α→Array Value) (R:α→World→World→Prop) (S:List α→Prop) (N:Nat) (w:World):Prop :=
 ∀(l:Nat) (J:List α→World→Prop) (W:World),Below w.heap.size w W→AbidesFrom W.heap.size J →
  (∀pre x W1,J pre W1→pre.length<N→YieldAt Fence.wide 4 P l (encs x) W1 fun e W'=>e=.returned (.bool true)∧J (pre++[x]) W'∧R x W1 W')→J [] W →
  CallsIn Fence.wide 5 P gf (#[.func (.yield l) #[] #[]]++lb) W fun e W'=>(∃v,e=.returned v)∧∃xs,S xs∧J xs W'
theorem zrr {α:Type} {P:Program} {g:Operand} {ps:Array Tmp} {assign body:Code} {Q:Exit→Act→World→Prop} {a:Act} {w:World}
  {gf:Nat} {lb:Array Value} (hg:a.eval g=.func (.func gf) #[] lb) (eg:∀args w,(callFunc gf args).run P w=.ok (.enter gf args) w)
  {encs:α→Array Value} {R:α→World→World→Prop} {S:List α→Prop} {N:Nat} {w0:World} (hseq:yfq P gf lb encs R S N w0) (hb0:Below w0.heap.size w0 w) (hps:∀x,(encs x).size=ps.size)
  (hR1:∀x W l o' W',w.heap.size≤l→R x (W.putObj l o') W'→R x W W') (hR2:∀x W W' l o',w.heap.size≤l→R x W W'→R x W (W'.putObj l o'))
  (T:List Nat) (hT:∀x∈T,x<w.heap.size) (I:List α→World→Prop) (hI:OwnFrom w.heap.size I) (h0:I [] w) (a₂ a₁:α→Act)
  (ha₂:∀x,({ tmps:=(ps.zip (encs x)).foldl (fun t (p,v)=>t.setIfInBounds p v) a.tmps,defers:=[] }:Act)=a₂ x)
  (hassign:∀(l:Nat) (x:α) (W:World) (K:Act→World→Prop),K (a₁ x) W→assign.wpIn (Fence.wide.inRound l) 4 P (Exit.then K (fun _ _ _=>False)) (a₂ x) W)
  (hbody:∀(l:Nat) (pre:List α) (x:α) (W:World),I pre W→pre.length<N→w.heap.size≤W.heap.size →
   body.wpIn (Fence.wide.inRound l) 4 P (fun e _ W'=>e=.normal∧Kp T W W'∧R x W W'∧I (pre++[x]) W') (a₁ x) W)
  (hdone:∀(D:Nat) (xs:List α) (W:World),w.heap.size≤D→S xs→I xs W→W.heap[D]? = some (.deferred (some []))→Q .normal { a with defers:={ target:=.collected D,args:=#[] } :: a.defers } W) :
  (Code.rangeFunc g ps assign body).wp P Q a w:=by
 refine (wpIn_wide (n:=6)).1 (wpIn_rangeFunc ?_);intro fn hfn;have hro:Fence.wide.round=none:=rfl;rw[hro];obtain⟨L,hL⟩:=zE5 (w.heap.size+1);obtain⟨rec,hrec⟩:∃rec:LoopState→Option Code→Loop,rec=fun st pe=>{ state:=st,pending:=pe,fn,tmps:=a.tmps,params:=ps,assign,body,defers:=w.heap.size }:=⟨_,rfl⟩;obtain⟨V,hV⟩:=zE5 ((w.alloc (.deferred (some []))).alloc (.loop (rec .ready none)));have hsV:V.heap.size=L+1:=by rw[hV,hL];simp
 have hVL:V.heap[L]? = some (.loop (rec .ready none)):=by rw[hV,hL];have:=World.alloc_heap_new (w.alloc (.deferred (some []))) (.loop (rec .ready none));rwa[World.size_alloc] at this
 have hVK:V.heap[w.heap.size]? = some (.deferred (some [])):=by rw[hV];exact (Below.heap_alloc _ _ _ (by simp)).trans (World.alloc_heap_new w _)
 have hVI:I [] V:=by rw[hV];exact hI.alloc _ (hI.alloc _ h0)
 have hbV:Below w0.heap.size w0 V:=by rw[hV];exact hb0.trans ((((Zaa _ w).alloc (zE3 _) _).alloc (by simp) _).mono hb0.size)
 refine⟨L,[{ target:=.collected w.heap.size,args:=#[] }],V,{ target:=.fn (.func gf) lb,args:=#[.func (.yield L) #[] #[]] },V,gf,#[.func (.yield L) #[] #[]]++lb,V,?enter,?res,?leads,?inv,fun _=>by decide,?call⟩
 case enter=>rw[hV,hrec,hL];exact run_enterLoop_outer _ _ _ _ _
 case res=>simp only[resolve,hg];simp[go_sem]
 case leads=>intro f' hf';exact trivial
 case inv=>simp[invoke,go_sem,eg]
 case call =>
  have hold:∀{A B:World} {row:Option Nat},(∀r,row=some r→V.heap.size≤r∧∃o:Obj,A.heap[r]? = some o∧o.isWalk=true)→(∀r,row=some r→w.heap.size≤r∧∃o:Obj,A.heap[r]? = some o∧o.isCells=false):=fun hr r e=>by obtain⟨h1,o,h2,h3⟩:=hr r e;exact⟨by omega,o,h2,Obj.not_cells_of_walk h3⟩
  refine (hseq L (fun pre W=>(I pre W∧w.heap.size≤W.heap.size)∧W.heap[L]? = some (.loop (rec .ready none))∧W.heap[w.heap.size]? = some (.deferred (some []))) V hbV ?abide ?round ⟨⟨hVI,by omega⟩,hVL,hVK⟩).mono ?behind
  case abide =>
   intro s A B row hs hg' hr;exact⟨⟨hI s A B row hs.1.1 hg' (hold (B:=B) hr),Zat hs.1.2 hg'.size⟩,(grownBy_keeps hg' (fun r e=>(hr r e).2) hs.2.1 rfl).trans hs.2.1,(grownBy_keeps hg' (fun r e=>(hr r e).2) hs.2.2 rfl).trans hs.2.2⟩
  case round =>
   rintro pre x W ⟨⟨hi,hw⟩,hl,hk⟩ hlen;have hlt:L<W.heap.size:=lOH hl;have hy:=run_yield (P:=P) (args:=encs x) hl (by rw[hrec];exact hps x);rw[hrec] at hy;refine⟨fn,_,assign,body,hy,roundIn_of_wpIn hfn ?_⟩;have:=ha₂ x;rw[this];refine hassign _ x W _ ⟨_,run_beginRound hl (by rw[hrec]),?_⟩;obtain⟨W2,hW2⟩:=zE5 (W.putObj L (.loop { rec .ready none with state:=.busy }));have h2l:W2.heap[L]? = some (.loop { rec .ready none with state:=.busy }):=by rw[hW2];exact Zcl hlt
   have h2k:W2.heap[w.heap.size]? = some (.deferred (some [])):=by rw[hW2];exact (Zap (by omega)).trans hk
   have h2i:I pre W2:=by rw[hW2];exact hI.putObj _ hi (by omega) hl rfl
   have h2s:w.heap.size≤W2.heap.size:=by rw[hW2];simpa using hw
   rw[←hW2];refine wpIn_mono (hbody _ pre x W2 h2i hlen h2s) ?_;rintro e a' W3 ⟨rfl,hkp,hR,h3i⟩;have hkf:KeepsFrom w.heap.size W2 W3:=hkp.keepsFrom hT;have h3l:=hkf.same _ _ (by omega) h2l rfl;have hend:=run_endRound (P:=P) (none:Option Code) h3l;rw[hrec] at hend;refine⟨_,_,hend,rfl,⟨⟨hI.putObj _ h3i (by omega) h3l rfl,?_⟩,?_,?_⟩,?_⟩
   ·have:=hkp.size
    simp;omega
   ·rw[hrec];exact Zcl (lOH h3l)
   ·exact (Zap (by omega)).trans (hkf.same _ _ (zE3 _) h2k rfl)
   ·rw[hW2] at hR;exact hR2 _ _ _ _ _ (by omega) (hR1 _ _ _ _ _ (by omega) hR)
  case behind =>
   rintro e W2 ⟨⟨v,rfl⟩,xs,hS,⟨hi,hw⟩,hl,hk⟩;exact⟨none,_,by have:=run_endLoop (P:=P) hl (by rw[hrec];simp);rw[hrec] at this;exact this,hdone _ xs _ (zE3 _) hS (hI.putObj _ hi (by omega) hl rfl) ((Zap (by omega)).trans hk)⟩
structure Stp (fb B m:Nat) (A A':World):Prop where
 kp:Kp (fb :: List.range' B m) A A'
 ok:FOk A fb→FOk A' fb
theorem yaq {fb B m x:Nat} (h:B≤x) (h2:x<B+m):x∈fb :: List.range' B m:=Zcb _ (Zbb.2 ⟨h,h2⟩)
theorem zdd {fb B m x:Nat} (hf:x≠fb) (h:x<B∨B+m≤x):x∉fb :: List.range' B m:=by
 intro hm;rcases Zbf.1 hm with rfl|hm
 ·exact hf rfl
 ·have:=Zbb.1 hm
  omega
theorem Stp.refl (fb B m:Nat) (A:World):Stp fb B m A A:=⟨Kp.refl _ _,id⟩
theorem Stp.trans {fb B m:Nat} {A A' A'':World} (h:Stp fb B m A A') (h2:Stp fb B m A' A''):Stp fb B m A A'':=⟨h.kp.trans h2.kp,fun x=>h2.ok (h.ok x)⟩
theorem Stp.wider {fb B m B' m':Nat} {A A':World} (h:Stp fb B m A A') (h1:B'≤B) (h2:B+m≤B'+m'):Stp fb B' m' A A' :=
 ⟨h.kp.mono fun x hx=>by
  rcases Zbf.1 hx with rfl|hx
  ·simp
  ·have:=Zbb.1 hx
   exact yaq (by omega) (by omega),h.ok⟩
theorem Stp.put {fb B m:Nat} (A:World) {D:Nat} (o:Obj) (h1:B≤D) (h2:D<B+m) (hf:fb<B):Stp fb B m A (A.putObj D o) :=
 ⟨(zdq A D o).mono fun x hx=>by obtain rfl:=Zaq.1 hx;exact yaq h1 h2,fun h=>h.kp (zdq A D o) (by simp;omega)⟩
theorem Stp.alloc {fb B m:Nat} (A:World) (o:Obj) (hf:fb<A.heap.size):Stp fb B m A (A.alloc o) :=
 ⟨(Kp.refl _ _).alloc _,fun h=>h.below ((Zaa _ _).alloc (zE3 _) _)⟩
def yes {α:Type} (fb:Nat) (P:Program) (gf:Nat) (lb:Array Value) (encs:α→Array Value) (T:List Nat) (m:Nat) (Sx Sp:List α→Prop) (No:Option Nat) (w:World):Prop :=
 ∀(l N:Nat) (J Jx:List α→World→Prop) (W:World),Below w.heap.size w W→(∀pre A A',J pre A→Stp fb W.heap.size m A A'→J pre A')→(∀pre A A',Jx pre A→Stp fb W.heap.size m A A'→Jx pre A') →
  (∀pre A,J pre A→FOk A fb∧W.heap.size≤A.heap.size)→(∀n,No=some n→N=n)→(No=none→N≤1000000∧∀pre A,J pre A→pre.length<N) →
  (∀pre x W1,J pre W1→Sp (pre++[x])→pre.length<N→W.heap.size+m≤W1.heap.size→YieldAt Fence.wide 4 P l (encs x) W1 fun e W' =>
   KS (T++List.range' W.heap.size m) W1 W'∧W1.heap.size≤W'.heap.size∧((e=.returned (.bool true)∧J (pre++[x]) W')∨(e=.returned (.bool false)∧Jx (pre++[x]) W')))→J [] W →
  CallsIn Fence.wide 5 P gf (#[.func (.yield l) #[] #[]]++lb) W fun e W'=>(∃v,e=.returned v)∧((∃xs,Sx xs∧J xs W')∨∃pre,Sp pre∧Jx pre W')
theorem zdg {α:Type} {P:Program} {g:Operand} {ps:Array Tmp} {assign body:Code} {Q:Exit→Act→World→Prop} {a:Act} {w:World}
  {gf:Nat} {lb:Array Value} (hg:a.eval g=.func (.func gf) #[] lb) (eg:∀args w,(callFunc gf args).run P w=.ok (.enter gf args) w)
  {fb:Nat} {encs:α→Array Value} {T:List Nat} {m:Nat} {Sx Sp:List α→Prop} {No:Option Nat} {w0:World} (hseq:yes fb P gf lb encs T m Sx Sp No w0) (hb0:Below w0.heap.size w0 w) (hps:∀x,(encs x).size=ps.size)
  (hfb:fb<w.heap.size) (N:Nat) (hN:∀n,No=some n→N=n) (I Ix:List α→World→Prop) (hI:∀pre A A',I pre A→Stp fb w.heap.size (m+2) A A'→I pre A') (hIx:∀pre A A',Ix pre A→Stp fb w.heap.size (m+2) A A'→Ix pre A')
  (hIf:∀pre A,I pre A→FOk A fb) (h0:I [] w) (hIN:No=none→N≤1000000∧∀pre W,I pre W→pre.length<N) (hT:∀b∈T,b<w.heap.size) (a₂ a₁:α→Act)
  (ha₂:∀x,({ tmps:=(ps.zip (encs x)).foldl (fun t (p,v)=>t.setIfInBounds p v) a.tmps,defers:=[] }:Act)=a₂ x)
  (hassign:∀(l:Nat) (x:α) (W:World) (K:Act→World→Prop),K (a₁ x) W→assign.wpIn (Fence.wide.inRound l) 4 P (Exit.then K (fun _ _ _=>False)) (a₂ x) W)
  (hbody:∀(l:Nat) (pre:List α) (x:α) (W:World),I pre W→Sp (pre++[x])→pre.length<N→w.heap.size+2+m≤W.heap.size →
   body.wpIn (Fence.wide.inRound l) 4 P (fun e _ W'=>KS (T++List.range' w.heap.size (m+2)) W W'∧W.heap.size≤W'.heap.size∧(e=.normal∧I (pre++[x]) W'∨e=.ret∧Ix (pre++[x]) W')) (a₁ x) W)
  (hdone:∀(D:Nat) (xs:List α) (W:World),D=w.heap.size→Sx xs→I xs W→W.heap[D]? = some (.deferred (some []))→Q .normal { a with defers:={ target:=.collected D,args:=#[] } :: a.defers } W)
  (hstop:∀(D:Nat) (pre:List α) (W:World),D=w.heap.size→Sp pre→Ix pre W→W.heap[D]? = some (.deferred (some []))→Code.ret.wp P Q { a with defers:={ target:=.collected D,args:=#[] } :: a.defers } W) :
  (Code.rangeFunc g ps assign body).wp P Q a w:=by
 refine (wpIn_wide (n:=6)).1 (wpIn_rangeFunc ?_);intro fn hfn;have hro:Fence.wide.round=none:=rfl;rw[hro];obtain⟨L,hL⟩:=zE5 (w.heap.size+1);obtain⟨rec,hrec⟩:∃rec:LoopState→Option Code→Loop,rec=fun st pe=>{ state:=st,pending:=pe,fn,tmps:=a.tmps,params:=ps,assign,body,defers:=w.heap.size }:=⟨_,rfl⟩;obtain⟨V,hV⟩:=zE5 ((w.alloc (.deferred (some []))).alloc (.loop (rec .ready none)));have hsV:V.heap.size=L+1:=by rw[hV,hL];simp
 have hVL:V.heap[L]? = some (.loop (rec .ready none)):=by rw[hV,hL];have:=World.alloc_heap_new (w.alloc (.deferred (some []))) (.loop (rec .ready none));rwa[World.size_alloc] at this
 have hVK:V.heap[w.heap.size]? = some (.deferred (some [])):=by rw[hV];exact (Below.heap_alloc _ _ _ (by simp)).trans (World.alloc_heap_new w _)
 have hVI:I [] V:=by rw[hV];exact hI _ _ _ h0 ((Stp.alloc _ _ hfb).trans (Stp.alloc _ _ (by simp;omega)))
 have hbV:Below w0.heap.size w0 V:=by rw[hV];exact hb0.trans ((((Zaa _ w).alloc (zE3 _) _).alloc (by simp) _).mono hb0.size)
 refine⟨L,[{ target:=.collected w.heap.size,args:=#[] }],V,{ target:=.fn (.func gf) lb,args:=#[.func (.yield L) #[] #[]] },V,gf,#[.func (.yield L) #[] #[]]++lb,V,?enter,?res,?leads,?inv,fun _=>by decide,?call⟩
 case enter=>rw[hV,hrec,hL];exact run_enterLoop_outer _ _ _ _ _
 case res=>simp only[resolve,hg];simp[go_sem]
 case leads=>intro f' hf';exact trivial
 case inv=>simp[invoke,go_sem,eg]
 case call =>
  have hkb:∀{A A':World},Stp fb V.heap.size m A A'→∀b,b≠fb→b<V.heap.size→b<A.heap.size→A'.heap[b]? = A.heap[b]?:=fun h b hb h1 h2=>h.kp.block b h2 (zdd hb (.inl h1));refine (hseq L N (fun pre W=>(I pre W∧V.heap.size≤W.heap.size)∧W.heap[L]? = some (.loop (rec .ready none))∧W.heap[w.heap.size]? = some (.deferred (some [])))
   (fun pre W=>Ix pre W∧W.heap[L]? = some (.loop (rec .done (some .ret)))∧W.heap[w.heap.size]? = some (.deferred (some []))) V hbV ?st ?stx (fun pre A h=>⟨hIf _ _ h.1.1,h.1.2⟩) hN (fun hn=>⟨(hIN hn).1,fun pre W h=>(hIN hn).2 pre W h.1.1⟩) ?round ⟨⟨hVI,zE3 _⟩,hVL,hVK⟩).mono ?behind
  case st =>
   intro pre A A' hs hst;exact⟨⟨hI _ _ _ hs.1.1 (hst.wider (by omega) (by omega)),Zat hs.1.2 hst.kp.size⟩,(hkb hst _ (by omega) (by omega) (lOH hs.2.1)).trans hs.2.1,(hkb hst _ (by omega) (by omega) (lOH hs.2.2)).trans hs.2.2⟩
  case stx =>
   intro pre A A' hs hst;exact⟨hIx _ _ _ hs.1 (hst.wider (by omega) (by omega)),(hkb hst _ (by omega) (by omega) (lOH hs.2.1)).trans hs.2.1,(hkb hst _ (by omega) (by omega) (lOH hs.2.2)).trans hs.2.2⟩
  case round =>
   rintro pre x W ⟨⟨hi,hw⟩,hl,hk⟩ hsp hlen hwm;have hlt:L<W.heap.size:=lOH hl;have hy:=run_yield (P:=P) (args:=encs x) hl (by rw[hrec];exact hps x);rw[hrec] at hy;refine⟨fn,_,assign,body,hy,roundIn_of_wpIn hfn ?_⟩;have:=ha₂ x;rw[this];refine hassign _ x W _ ⟨_,run_beginRound hl (by rw[hrec]),?_⟩;obtain⟨W2,hW2⟩:=zE5 (W.putObj L (.loop { rec .ready none with state:=.busy }));have h2l:W2.heap[L]? = some (.loop { rec .ready none with state:=.busy }):=by rw[hW2];exact Zcl hlt
   have h2k:W2.heap[w.heap.size]? = some (.deferred (some [])):=by rw[hW2];exact (Zap (by omega)).trans hk
   have h2i:I pre W2:=by rw[hW2];exact hI _ _ _ hi (Stp.put _ _ (by omega) (by omega) hfb)
   have h2z:W2.heap.size=W.heap.size:=by rw[hW2];simp
   have h2T:∀b,b≠L→W2.heap[b]? = W.heap[b]?:=fun b hb=>by rw[hW2];exact Zap hb
   have hTL:∀b∈T++List.range' V.heap.size m,b≠L:=fun b hb=>by
    rcases Zba.1 hb with h|h
    ·have:=hT b h;omega
    ·have:=(Zbb.1 h).1;omega
   have hTT:∀b∈T++List.range' V.heap.size m,b∈T++List.range' w.heap.size (m+2):=fun b hb=>by
    rcases Zba.1 hb with h|h
    ·exact List.mem_append_left _ h
    ·exact List.mem_append_right _ (Zbb.2 (by have:=Zbb.1 h;omega))
   have hLT:L∈T++List.range' w.heap.size (m+2):=List.mem_append_right _ (Zbb.2 (by omega));have hKT:w.heap.size∈T++List.range' w.heap.size (m+2):=List.mem_append_right _ (Zbb.2 (by omega));rw[←hW2];refine wpIn_mono (hbody _ pre x W2 h2i hsp hlen (by omega)) ?_;rintro e a' W3 ⟨hks,hsz,⟨rfl,h3i⟩|⟨rfl,h3i⟩⟩
   ·have h3l:=(hks L hLT).trans h2l;have hend:=run_endRound (P:=P) (none:Option Code) h3l;rw[hrec] at hend;refine⟨_,_,hend,fun b hb=>(Zap (hTL b hb)).trans ((hks b (hTT b hb)).trans (h2T b (hTL b hb))),by simp;omega,.inl ⟨rfl,⟨hI _ _ _ h3i (Stp.put _ _ (by omega) (by omega) hfb),by simp;omega⟩,?_,?_⟩⟩
    ·rw[hrec];exact Zcl (lOH h3l)
    ·exact (Zap (by omega)).trans ((hks _ hKT).trans h2k)
   ·have h3l:=(hks L hLT).trans h2l;have hend:=run_endRound (P:=P) (some Code.ret) h3l;rw[hrec] at hend;refine⟨_,_,hend,fun b hb=>(Zap (hTL b hb)).trans ((hks b (hTT b hb)).trans (h2T b (hTL b hb))),by simp;omega,.inr ⟨rfl,hIx _ _ _ h3i (Stp.put _ _ (by omega) (by omega) hfb),?_,?_⟩⟩
    ·rw[hrec];exact Zcl (lOH h3l)
    ·exact (Zap (by omega)).trans ((hks _ hKT).trans h2k)
  case behind =>
   rintro e W2 ⟨⟨v,rfl⟩,⟨xs,hS,⟨hi,hw⟩,hl,hk⟩|⟨pre,hS,hi,hl,hk⟩⟩
   ·exact⟨none,_,by have:=run_endLoop (P:=P) hl (by rw[hrec];simp);rw[hrec] at this;exact this,hdone _ xs _ rfl hS (hI _ _ _ hi (Stp.put _ _ (by omega) (by omega) hfb)) ((Zap (by omega)).trans hk)⟩
   ·refine⟨some Code.ret,_,by have:=run_endLoop (P:=P) hl (by rw[hrec];simp);rw[hrec] at this;exact this,?_⟩;exact wpIn_wide.2 (hstop _ pre _ rfl hS (hIx _ _ _ hi (Stp.put _ _ (by omega) (by omega) hfb)) ((Zap (by omega)).trans hk))
