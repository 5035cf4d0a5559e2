/-
  A range over a function that reads what it tells; a body that may leave it.
  A range over a function that works with the field between two rounds, or that ranges over another function itself.
-/
import Derived.Test.YtnjbkfeihbcalaaGreatZMat
import Derived.Test.YtnjbkfeihbcalaaGreatZFd
/- A range over a function that reads what it tells; a body that may leave it. -/
namespace Go.Proofs.YtnjbkfeihbcalaaGreat
open Go.RowKit
set_option linter.unusedVariables false

end Go.Proofs.YtnjbkfeihbcalaaGreat
/- A range over a function that works with the field between two rounds, or that ranges over another function itself. -/
namespace Go.Proofs.YtnjbkfeihbcalaaGreat
open Go.RowKit
set_option linter.unusedVariables false

theorem yieldAt_any {P:Program} {m n l:Nat} {args:Array Value} {W:World} {R:Ending→World→Prop} (h:YieldAt Fence.wide m P l args W R):YieldAt Fence.wide n P l args W R:=by
 obtain ⟨fn,tmps,assign,body,hy,hr⟩:=h
 exact ⟨fn,tmps,assign,body,hy,hr.1,fun c cs _=>hr.2 c cs (room_wide _)⟩
structure Stp (fb B m:Nat) (A A':World):Prop where
 kp:Kp (fb :: List.range' B m) A A'
 ok:FOk A fb→FOk A' fb
theorem in_own {fb B m x:Nat} (h:B≤x) (h2:x < B+m):x ∈ fb :: List.range' B m:=List.mem_cons_of_mem _ (List.mem_range'_1.2 ⟨h,h2⟩)
theorem not_own {fb B m x:Nat} (hf:x ≠ fb) (h:x < B ∨ B+m≤x):x ∉ fb :: List.range' B m:=by
 intro hm
 rcases List.mem_cons.1 hm with rfl | hm
 ·exact hf rfl
 ·have:=List.mem_range'_1.1 hm
  omega
theorem Stp.refl (fb B m:Nat) (A:World):Stp fb B m A A:=⟨Kp.refl _ _,id⟩
theorem Stp.trans {fb B m:Nat} {A A' A'':World} (h:Stp fb B m A A') (h2:Stp fb B m A' A''):Stp fb B m A A'':=⟨h.kp.trans h2.kp,fun x=>h2.ok (h.ok x)⟩
theorem Stp.wider {fb B m B' m':Nat} {A A':World} (h:Stp fb B m A A') (h1:B'≤B) (h2:B+m≤B'+m'):Stp fb B' m' A A' :=
 ⟨h.kp.mono fun x hx=>by
  rcases List.mem_cons.1 hx with rfl | hx
  ·simp
  ·have:=List.mem_range'_1.1 hx
   exact in_own (by omega) (by omega),h.ok⟩
theorem Stp.put {fb B m:Nat} (A:World) {D:Nat} (o:Obj) (h1:B≤D) (h2:D < B+m) (hf:fb < B):Stp fb B m A (A.putObj D o) :=
 ⟨(kp_putObj A D o).mono fun x hx=>by obtain rfl:=List.mem_singleton.1 hx;exact in_own h1 h2,fun h=>h.kp (kp_putObj A D o) (by simp;omega)⟩
theorem Stp.alloc {fb B m:Nat} (A:World) (o:Obj) (hf:fb < A.heap.size):Stp fb B m A (A.alloc o) :=
 ⟨(Kp.refl _ _).alloc _,fun h=>h.below ((Below.refl _ _).alloc (Nat.le_refl _) _)⟩
theorem Stp.of_kp {fb B m:Nat} {A A':World} {S:List Nat} (h:Kp S A A') (hS:∀ x ∈ S,B≤x∧x < B+m) (hf:fb < B):Stp fb B m A A' :=
 ⟨h.mono fun x hx=>in_own (hS x hx).1 (hS x hx).2,fun hk=>hk.kp h (fun hm=>by have:=(hS _ hm).1;omega)⟩

def SeqE {α:Type} (fb:Nat) (P:Program) (gf:Nat) (lb:Array Value) (encs:α→Array Value) (T:List Nat) (m:Nat) (Sx Sp:List α→Prop) (No:Option Nat) (w:World):Prop :=
 ∀ (l N:Nat) (J Jx:List α→World→Prop) (W:World),Below w.heap.size w W→(∀ pre A A',J pre A→Stp fb W.heap.size m A A'→J pre A')→(∀ pre A A',Jx pre A→Stp fb W.heap.size m A A'→Jx pre A') →
  (∀ pre A,J pre A→FOk A fb∧W.heap.size≤A.heap.size)→(∀ n,No=some n→N=n)→(No=none→N≤1000000∧∀ pre A,J pre A→pre.length < N) →
  (∀ pre x W1,J pre W1→Sp (pre ++ [x])→pre.length < N→W.heap.size+m≤W1.heap.size→YieldAt Fence.wide 4 P l (encs x) W1 fun e W' =>
   KS (T ++ List.range' W.heap.size m) W1 W'∧W1.heap.size≤W'.heap.size∧((e=.returned (.bool true)∧J (pre ++ [x]) W') ∨ (e=.returned (.bool false)∧Jx (pre ++ [x]) W')))→J [] W →
  CallsIn Fence.wide 5 P gf (#[.func (.yield l) #[] #[]] ++ lb) W fun e W'=>(∃ v,e=.returned v)∧((∃ xs,Sx xs∧J xs W') ∨ ∃ pre,Sp pre∧Jx pre W')

theorem wp_range_E {α:Type} {P:Program} {g:Operand} {ps:Array Tmp} {assign body:Code} {Q:Exit→Act→World→Prop} {a:Act} {w:World}
  {gf:Nat} {lb:Array Value} (hg:a.eval g=.func (.func gf) #[] lb) (eg:∀ args w,(callFunc gf args).run P w=.ok (.enter gf args) w)
  {fb:Nat} {encs:α→Array Value} {T:List Nat} {m:Nat} {Sx Sp:List α→Prop} {No:Option Nat} {w0:World} (hseq:SeqE fb P gf lb encs T m Sx Sp No w0) (hb0:Below w0.heap.size w0 w) (hps:∀ x,(encs x).size=ps.size)
  (hfb:fb < w.heap.size) (N:Nat) (hN:∀ n,No=some n→N=n) (I Ix:List α→World→Prop) (hI:∀ pre A A',I pre A→Stp fb w.heap.size (m+2) A A'→I pre A') (hIx:∀ pre A A',Ix pre A→Stp fb w.heap.size (m+2) A A'→Ix pre A')
  (hIf:∀ pre A,I pre A→FOk A fb) (h0:I [] w) (hIN:No=none→N≤1000000∧∀ pre W,I pre W→pre.length < N) (hT:∀ b ∈ T,b < w.heap.size) (a₂ a₁:α→Act)
  (ha₂:∀ x,({ tmps:=(ps.zip (encs x)).foldl (fun t (p,v)=>t.setIfInBounds p v) a.tmps,defers:=[] }:Act)=a₂ x)
  (hassign:∀ (l:Nat) (x:α) (W:World) (K:Act→World→Prop),K (a₁ x) W→assign.wpIn (Fence.wide.inRound l) 4 P (Exit.then K (fun _ _ _=>False)) (a₂ x) W)
  (hbody:∀ (l:Nat) (pre:List α) (x:α) (W:World),I pre W→Sp (pre ++ [x])→pre.length < N→w.heap.size+2+m≤W.heap.size →
   body.wpIn (Fence.wide.inRound l) 4 P (fun e _ W'=>KS (T ++ List.range' w.heap.size (m+2)) W W'∧W.heap.size≤W'.heap.size∧(e=.normal∧I (pre ++ [x]) W' ∨ e=.ret∧Ix (pre ++ [x]) W')) (a₁ x) W)
  (hdone:∀ (D:Nat) (xs:List α) (W:World),D=w.heap.size→Sx xs→I xs W→W.heap[D]? = some (.deferred (some []))→Q .normal { a with defers:={ target:=.collected D,args:=#[] } :: a.defers } W)
  (hstop:∀ (D:Nat) (pre:List α) (W:World),D=w.heap.size→Sp pre→Ix pre W→W.heap[D]? = some (.deferred (some []))→Code.ret.wp P Q { a with defers:={ target:=.collected D,args:=#[] } :: a.defers } W) :
  (Code.rangeFunc g ps assign body).wp P Q a w:=by
 refine (wpIn_wide (n:=6)).1 (wpIn_rangeFunc ?_)
 intro fn hfn
 have hro:Fence.wide.round=none:=rfl
 rw [hro]
 obtain ⟨L,hL⟩:∃ L,L=w.heap.size+1:=⟨_,rfl⟩
 obtain ⟨rec,hrec⟩:∃ rec:LoopState→Option Code→Loop,rec=fun st pe=>{ state:=st,pending:=pe,fn,tmps:=a.tmps,params:=ps,assign,body,defers:=w.heap.size }:=⟨_,rfl⟩
 obtain ⟨V,hV⟩:∃ V,V=(w.alloc (.deferred (some []))).alloc (.loop (rec .ready none)):=⟨_,rfl⟩
 have hsV:V.heap.size=L+1:=by rw [hV,hL];simp
 have hVL:V.heap[L]? = some (.loop (rec .ready none)):=by
  rw [hV,hL]
  have:=World.alloc_heap_new (w.alloc (.deferred (some []))) (.loop (rec .ready none))
  rwa [World.size_alloc] at this
 have hVK:V.heap[w.heap.size]? = some (.deferred (some [])):=by rw [hV];exact (Below.heap_alloc _ _ _ (by simp)).trans (World.alloc_heap_new w _)
 have hVI:I [] V:=by rw [hV];exact hI _ _ _ h0 ((Stp.alloc _ _ hfb).trans (Stp.alloc _ _ (by simp;omega)))
 have hbV:Below w0.heap.size w0 V:=by
  rw [hV]
  exact hb0.trans ((((Below.refl _ w).alloc (Nat.le_refl _) _).alloc (by simp) _).mono hb0.size)
 refine ⟨L,[{ target:=.collected w.heap.size,args:=#[] }],V,{ target:=.fn (.func gf) lb,args:=#[.func (.yield L) #[] #[]] },V,gf,#[.func (.yield L) #[] #[]] ++ lb,V,?enter,?res,?leads,?inv,fun _=>by decide,?call⟩
 case enter=>rw [hV,hrec,hL];exact run_enterLoop_outer _ _ _ _ _
 case res=>simp only [resolve,hg];simp [go_sem]
 case leads=>intro f' hf';exact trivial
 case inv=>simp [invoke,go_sem,eg]
 case call =>
  have hkb:∀ {A A':World},Stp fb V.heap.size m A A'→∀ b,b ≠ fb→b < V.heap.size→b < A.heap.size→A'.heap[b]? = A.heap[b]?:=fun h b hb h1 h2=>h.kp.block b h2 (not_own hb (.inl h1))
  refine (hseq L N (fun pre W=>(I pre W∧V.heap.size≤W.heap.size)∧W.heap[L]? = some (.loop (rec .ready none))∧W.heap[w.heap.size]? = some (.deferred (some [])))
   (fun pre W=>Ix pre W∧W.heap[L]? = some (.loop (rec .done (some .ret)))∧W.heap[w.heap.size]? = some (.deferred (some []))) V hbV ?st ?stx (fun pre A h=>⟨hIf _ _ h.1.1,h.1.2⟩) hN (fun hn=>⟨(hIN hn).1,fun pre W h=>(hIN hn).2 pre W h.1.1⟩) ?round ⟨⟨hVI,Nat.le_refl _⟩,hVL,hVK⟩).mono ?behind
  case st =>
   intro pre A A' hs hst
   exact ⟨⟨hI _ _ _ hs.1.1 (hst.wider (by omega) (by omega)),Nat.le_trans hs.1.2 hst.kp.size⟩,(hkb hst _ (by omega) (by omega) (lt_of_heap hs.2.1)).trans hs.2.1,(hkb hst _ (by omega) (by omega) (lt_of_heap hs.2.2)).trans hs.2.2⟩
  case stx =>
   intro pre A A' hs hst
   exact ⟨hIx _ _ _ hs.1 (hst.wider (by omega) (by omega)),(hkb hst _ (by omega) (by omega) (lt_of_heap hs.2.1)).trans hs.2.1,(hkb hst _ (by omega) (by omega) (lt_of_heap hs.2.2)).trans hs.2.2⟩
  case round =>
   rintro pre x W ⟨⟨hi,hw⟩,hl,hk⟩ hsp hlen hwm
   have hlt:L < W.heap.size:=lt_of_heap hl
   have hy:=run_yield (P:=P) (args:=encs x) hl (by rw [hrec];exact hps x)
   rw [hrec] at hy
   refine ⟨fn,_,assign,body,hy,roundIn_of_wpIn hfn ?_⟩
   have:=ha₂ x
   rw [this]
   refine hassign _ x W _ ⟨_,run_beginRound hl (by rw [hrec]),?_⟩
   obtain ⟨W2,hW2⟩:∃ W2,W2=W.putObj L (.loop { rec .ready none with state:=.busy }):=⟨_,rfl⟩
   have h2l:W2.heap[L]? = some (.loop { rec .ready none with state:=.busy }):=by rw [hW2];exact World.putObj_heap_same hlt
   have h2k:W2.heap[w.heap.size]? = some (.deferred (some [])):=by rw [hW2];exact (World.putObj_heap_other (by omega)).trans hk
   have h2i:I pre W2:=by rw [hW2];exact hI _ _ _ hi (Stp.put _ _ (by omega) (by omega) hfb)
   have h2z:W2.heap.size=W.heap.size:=by rw [hW2];simp
   have h2T:∀ b,b ≠ L→W2.heap[b]? = W.heap[b]?:=fun b hb=>by rw [hW2];exact World.putObj_heap_other hb
   have hTL:∀ b ∈ T ++ List.range' V.heap.size m,b ≠ L:=fun b hb=>by
    rcases List.mem_append.1 hb with h | h
    ·have:=hT b h;omega
    ·have:=(List.mem_range'_1.1 h).1;omega
   have hTT:∀ b ∈ T ++ List.range' V.heap.size m,b ∈ T ++ List.range' w.heap.size (m+2):=fun b hb=>by
    rcases List.mem_append.1 hb with h | h
    ·exact List.mem_append_left _ h
    ·exact List.mem_append_right _ (List.mem_range'_1.2 (by have:=List.mem_range'_1.1 h;omega))
   have hLT:L ∈ T ++ List.range' w.heap.size (m+2):=List.mem_append_right _ (List.mem_range'_1.2 (by omega))
   have hKT:w.heap.size ∈ T ++ List.range' w.heap.size (m+2):=List.mem_append_right _ (List.mem_range'_1.2 (by omega))
   rw [← hW2]
   refine wpIn_mono (hbody _ pre x W2 h2i hsp hlen (by omega)) ?_
   rintro e a' W3 ⟨hks,hsz,⟨rfl,h3i⟩ | ⟨rfl,h3i⟩⟩
   ·have h3l:=(hks L hLT).trans h2l
    have hend:=run_endRound (P:=P) (none:Option Code) h3l
    rw [hrec] at hend
    refine ⟨_,_,hend,fun b hb=>(World.putObj_heap_other (hTL b hb)).trans ((hks b (hTT b hb)).trans (h2T b (hTL b hb))),by simp;omega,.inl ⟨rfl,⟨hI _ _ _ h3i (Stp.put _ _ (by omega) (by omega) hfb),by simp;omega⟩,?_,?_⟩⟩
    ·rw [hrec]
     exact World.putObj_heap_same (lt_of_heap h3l)
    ·exact (World.putObj_heap_other (by omega)).trans ((hks _ hKT).trans h2k)
   ·have h3l:=(hks L hLT).trans h2l
    have hend:=run_endRound (P:=P) (some Code.ret) h3l
    rw [hrec] at hend
    refine ⟨_,_,hend,fun b hb=>(World.putObj_heap_other (hTL b hb)).trans ((hks b (hTT b hb)).trans (h2T b (hTL b hb))),by simp;omega,.inr ⟨rfl,hIx _ _ _ h3i (Stp.put _ _ (by omega) (by omega) hfb),?_,?_⟩⟩
    ·rw [hrec]
     exact World.putObj_heap_same (lt_of_heap h3l)
    ·exact (World.putObj_heap_other (by omega)).trans ((hks _ hKT).trans h2k)
  case behind =>
   rintro e W2 ⟨⟨v,rfl⟩,⟨xs,hS,⟨hi,hw⟩,hl,hk⟩ | ⟨pre,hS,hi,hl,hk⟩⟩
   ·exact ⟨none,_,by have:=run_endLoop (P:=P) hl (by rw [hrec];simp);rw [hrec] at this;exact this,hdone _ xs _ rfl hS (hI _ _ _ hi (Stp.put _ _ (by omega) (by omega) hfb)) ((World.putObj_heap_other (by omega)).trans hk)⟩
   ·refine ⟨some Code.ret,_,by have:=run_endLoop (P:=P) hl (by rw [hrec];simp);rw [hrec] at this;exact this,?_⟩
    exact wpIn_wide.2 (hstop _ pre _ rfl hS (hIx _ _ _ hi (Stp.put _ _ (by omega) (by omega) hfb)) ((World.putObj_heap_other (by omega)).trans hk))
end Go.Proofs.YtnjbkfeihbcalaaGreat
