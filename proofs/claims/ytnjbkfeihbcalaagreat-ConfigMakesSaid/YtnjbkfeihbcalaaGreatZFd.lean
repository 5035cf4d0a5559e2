/-
  The field in memory: made, or not yet; New; sync.Once's road.
  The field's tables are made.
  The field is made once.
  The field's product, quotient, inverse, powers.
-/
import Derived.Test.YtnjbkfeihbcalaaGreatRows
import Derived.Test.YtnjbkfeihbcalaaGreatZBase
import Derived.Test.YtnjbkfeihbcalaaGreatZReg
import Derived.WalkKit
import Derived.Below
import Derived.Defers
import Derived.Laws.Pointers
import Derived.Laws.LoneSync
import Derived.RegionTactic
import Derived.RegionCalls
import Derived.ChangeAlike
import Derived.Laws.NewBlocks
import Derived.Deep.Cut
import Derived.Deep.Draws
import Derived.Outline
import Derived.Lib.Hide
import Derived.Handy
import Derived.Deep.DeepCutAuto
import Derived.Deep.QuietTactic
import Derived.BigQuiet
/- The field in memory: made, or not yet; New; sync.Once's road. -/
namespace Go.Proofs.YtnjbkfeihbcalaaGreat
open Go.RowKit
set_option linter.unusedVariables false
set_option linter.unusedSimpArgs false

theorem fnew_any (w:World):Calls Tryz.prog 7 #[] w fun e w'=>e=.returned (.pointer (some ⟨w.heap.size,0,none⟩))∧w'=w.alloc (.cells Tryz.zeroCells71 71 (0,0)):=by
 go_enter Tryz.func7,Tryz.ntmps7
 go_wp2
 go_ret
 exact ⟨rfl,rfl⟩

def FB (w:World) (fb:Nat) (cs:Array Value):Prop:=w.heap[fb]? = some (.cells cs 71 (0,0))∧cs.size=769
theorem FB.cell {w:World} {fb:Nat} {cs:Array Value} (h:FB w fb cs) {i:Nat} {v:Value} (hi:cs[i]? = some v):w.cell? ⟨fb,i,none⟩=some v:=by
 rw [cell_of_row _ _ _ _ _ (0,0) h.1];exact hi
theorem FB.free {w:World} {fb:Nat} {cs:Array Value} (h:FB w fb cs) (i:Nat):w.frozen? ⟨fb,i,none⟩=false:=by
 simp [World.frozen?,h.1]
theorem FB.set {w:World} {fb:Nat} {cs:Array Value} (h:FB w fb cs) (i:Nat) (v:Value):FB (w.setCell ⟨fb,i,none⟩ v) fb (cs.setIfInBounds i v):=⟨heap_set_same h.1 i v,by simpa using h.2⟩
theorem FB.drew {w:World} {fb:Nat} {cs:Array Value} (h:FB w fb cs):FB w.drew fb cs:=h
theorem FB.drewN {w:World} {fb:Nat} {cs:Array Value} (h:FB w fb cs) (n:Nat):FB (w.drewN n) fb cs:=h
theorem FB.kp {S:List Nat} {w w':World} {fb:Nat} {cs:Array Value} (h:FB w fb cs) (hk:Kp S w w') (hn:fb ∉ S):FB w' fb cs:=⟨hk.heap h.1 hn,h.2⟩
theorem FB.lt {w:World} {fb:Nat} {cs:Array Value} (h:FB w fb cs):fb < w.heap.size:=lt_of_heap h.1
theorem FB.alloc {w:World} {fb:Nat} {cs:Array Value} (h:FB w fb cs) (o:Obj):FB (w.alloc o) fb cs:=⟨keepA h.1 o,h.2⟩
structure Tabs (cs:Array Value):Prop where
 exp:∀ i,i < 510→cs[3+i]? = some (.int .u8 ((GF.pown GF.two i).n:Nat))
 log:∀ i,i < 255→cs[513+(GF.pown GF.two i).n]? = some (.int .i64 (i:Nat))
def FMade (w:World) (fb:Nat):Prop:=∃ cs,FB w fb cs∧cs[0]? = some (.int .u32 1)∧cs[1]? = some (.int .i32 0)∧Tabs cs
def FOk (w:World) (fb:Nat):Prop:=∃ cs,FB w fb cs∧cs[1]? = some (.int .i32 0)∧(cs[0]? = some (.int .u32 0) ∨ cs[0]? = some (.int .u32 1)∧Tabs cs)
theorem FMade.ok {w:World} {fb:Nat} (h:FMade w fb):FOk w fb:=by
 obtain ⟨cs,h1,h2,h3,h4⟩:=h
 exact ⟨cs,h1,h3,.inr ⟨h2,h4⟩⟩
theorem FOk.kp {S:List Nat} {w w':World} {fb:Nat} (h:FOk w fb) (hk:Kp S w w') (hn:fb ∉ S):FOk w' fb:=by
 obtain ⟨cs,h1,h2⟩:=h
 exact ⟨cs,h1.kp hk hn,h2⟩
theorem FMade.kp {S:List Nat} {w w':World} {fb:Nat} (h:FMade w fb) (hk:Kp S w w') (hn:fb ∉ S):FMade w' fb:=by
 obtain ⟨cs,h1,h2⟩:=h
 exact ⟨cs,h1.kp hk hn,h2⟩
theorem FOk.below {w w':World} {fb:Nat} (h:FOk w fb) (hb:Below w.heap.size w w'):FOk w' fb:=h.kp (S:=[]) (Kp.of_below hb) (by simp)
theorem FOk.lt {w:World} {fb:Nat} (h:FOk w fb):fb < w.heap.size:=by
 obtain ⟨cs,h1,_⟩:=h
 exact h1.lt
theorem zc_size:Tryz.zeroCells71.size=769:=by kernel_rfl
theorem zc_0:Tryz.zeroCells71[0]? = some (.int .u32 0):=by kernel_rfl
theorem zc_1:Tryz.zeroCells71[1]? = some (.int .i32 0):=by kernel_rfl
theorem fok_new (w:World):FOk (w.alloc (.cells Tryz.zeroCells71 71 (0,0))) w.heap.size:=⟨Tryz.zeroCells71,⟨heap_newA w _,zc_size⟩,zc_1,.inl zc_0⟩

theorem disable (w:World):(callFunc 125 #[]).run Tryz.prog w=.ok (.value (.tuple #[])) w:=run_call_mark0 Tryz.func125 (by kernel_rfl) (by kernel_rfl) (by kernel_rfl) .disable (by kernel_rfl) w
theorem enable (w:World):(callFunc 127 #[]).run Tryz.prog w=.ok (.value (.tuple #[])) w:=run_call_mark0 Tryz.func127 (by kernel_rfl) (by kernel_rfl) (by kernel_rfl) .enable (by kernel_rfl) w
theorem acquire (a:Addr) (w:World):(callFunc 128 #[.pointer (some a)]).run Tryz.prog w=.ok (.value (.tuple #[])) w:=run_call_marked Tryz.func128 (by kernel_rfl) (by kernel_rfl) (by kernel_rfl) .acquire (by kernel_rfl) a w
theorem releaseMerge (a:Addr) (w:World):(callFunc 130 #[.pointer (some a)]).run Tryz.prog w=.ok (.value (.tuple #[])) w:=run_call_marked Tryz.func130 (by kernel_rfl) (by kernel_rfl) (by kernel_rfl) .releaseMerge (by kernel_rfl) a w

set_option maxRecDepth 100000 in
theorem store_deferred (a:Addr) (x:Value) (u:FrameMode) (w:World) (hc:w.cell? a=some x) (hz:w.frozen? a=false) :
  CallsD Tryz.prog 108 #[.pointer (some a),.bool true] u w fun e u' w'=>u'=u∧(e=.returned (.tuple #[])∧w'=w.drew.setCell a (.int .u32 1)):=by
 have hc':w.drew.cell? a=some x:=by go_simp
 have hz':w.drew.frozen? a=false:=by go_simp
 have hst:=run_call_store (P:=Tryz.prog) Tryz.func121 (by kernel_rfl) (by kernel_rfl) (by kernel_rfl) (by kernel_rfl) (k:=.u32) (y:=1) hc' hz'
 go_enter_d Tryz.func108,Tryz.ntmps108
 go_wp2
 go_region_calls
 all_goals (go_end0;exact ⟨rfl,rfl⟩)

set_option maxRecDepth 100000 in
theorem unlock_deferred (a:Addr) (u:FrameMode) (w:World) (hc:w.cell? a=some (.int .i32 1)) (hz:w.frozen? a=false) :
  CallsD Tryz.prog 107 #[.pointer (some a)] u w fun e u' w'=>u'=u∧(e=.returned (.tuple #[])∧w'=w.setCell a (.int .i32 0)):=by
 have hd:=disable
 have he:=enable
 have hr:=releaseMerge
 have hadd:=run_call_add (P:=Tryz.prog) Tryz.func131 (by kernel_rfl) (by kernel_rfl) (by kernel_rfl) .i32 (by kernel_rfl) (y:=-1) (s:=0) hc hz (by simp [go_sem];rfl)
 have hcv:=run_convert_to_unsafe (P:=Tryz.prog) (src:=190) (dst:=194) Tryz.underlying190 Tryz.underlying194 (by kernel_rfl) hc
 go_enter_d Tryz.func107,Tryz.ntmps107
 go_wp2
 go_end0
 go_wp2

set_option maxRecDepth 100000 in
theorem lock_free (a:Addr) (w:World) (hc:w.cell? a=some (.int .i32 0)) (hz:w.frozen? a=false) :
  Calls Tryz.prog 106 #[.pointer (some a)] w fun e w'=>e=.returned (.tuple #[])∧w'=w.setCell a (.int .i32 1):=by
 have hd:=disable
 have he:=enable
 have ha:=acquire
 have hcas:=run_call_cas_hit (P:=Tryz.prog) Tryz.func126 (by kernel_rfl) (by kernel_rfl) (by kernel_rfl) .i32 (by kernel_rfl) (y:=1) hc hz
 have hc':(w.setCell a (.int .i32 1)).cell? a=some (.int .i32 1):=World.cell?_setCell_same w a _ hc
 have hcv:=run_convert_to_unsafe (P:=Tryz.prog) (src:=190) (dst:=194) Tryz.underlying190 Tryz.underlying194 (by kernel_rfl) hc'
 go_enter Tryz.func106,Tryz.ntmps106
 go_wp2
 first | go_end0 | (simp only [Exit.inBlock,Exit.then];refine bodyPost_ret (results_none rfl _ _ _) rfl ?_) | refine bodyPost_ret (results_none rfl _ _ _) rfl ?_
 go_wp2
end Go.Proofs.YtnjbkfeihbcalaaGreat
/- The field's tables are made. -/
namespace Go.Proofs.YtnjbkfeihbcalaaGreat
open Go.RowKit
set_option linter.unusedVariables false
set_option linter.unusedSimpArgs false

structure TabI (I:Nat) (cs:Array Value):Prop where
 lo:∀ i,i < I→cs[3+i]? = some (.int .u8 ((GF.pown GF.two i).n:Nat))
 hi:∀ i,i < I→cs[3+(i+255)]? = some (.int .u8 ((GF.pown GF.two i).n:Nat))
 log:∀ i,i < I→cs[513+(GF.pown GF.two i).n]? = some (.int .i64 (i:Nat))
theorem TabI.zero (cs:Array Value):TabI 0 cs:=⟨fun i h=>by omega,fun i h=>by omega,fun i h=>by omega⟩
theorem TabI.done {cs:Array Value} (h:TabI 255 cs):Tabs cs:=by
 refine ⟨fun i hi=>?_,h.log⟩
 by_cases h1:i < 255
 ·exact h.lo i h1
 ·have:=h.hi (i - 255) (by omega)
  rw [show i - 255+255=i by omega] at this
  rw [this,← GF.pow_per (i - 255),show i - 255+255=i by omega]
def tabPut (I:Nat) (cs:Array Value):Array Value :=
 ((cs.setIfInBounds (3+I) (.int .u8 ((GF.pown GF.two I).n:Nat))).setIfInBounds (3+(I+255)) (.int .u8 ((GF.pown GF.two I).n:Nat))).setIfInBounds (513+(GF.pown GF.two I).n) (.int .i64 (I:Nat))
theorem TabI.succ {I:Nat} {cs:Array Value} (h:TabI I cs) (hI:I < 255) (hs:cs.size=769):TabI (I+1) (tabPut I cs)∧(tabPut I cs)[0]? = cs[0]?∧(tabPut I cs)[1]? = cs[1]?:=by
 have hp:=(GF.pown GF.two I).lt
 have hget:∀ k,(tabPut I cs)[k]? = if 513+(GF.pown GF.two I).n=k then (if k < 769 then some (.int .i64 (I:Nat)) else none) else if 3+(I+255)=k then (if k < 769 then some (.int .u8 ((GF.pown GF.two I).n:Nat)) else none) else if 3+I=k then (if k < 769 then some (.int .u8 ((GF.pown GF.two I).n:Nat)) else none) else cs[k]?:=fun k=>by
  simp only [tabPut,Array.getElem?_setIfInBounds,Array.size_setIfInBounds,hs]
  by_cases e1:513+(GF.pown GF.two I).n=k
  ·simp only [e1,if_true]
  ·simp only [e1,if_false]
   by_cases e2:3+(I+255)=k
   ·simp only [e2,if_true]
   ·simp only [e2,if_false]
    by_cases e3:3+I=k
    ·simp only [e3,if_true]
    ·simp only [e3,if_false]
 refine ⟨⟨fun i hi=>?_,fun i hi=>?_,fun i hi=>?_⟩,?_,?_⟩
 ·rw [hget,if_neg (by omega),if_neg (by omega)]
  by_cases e:i=I
  ·rw [if_pos (by omega),if_pos (by omega),e]
  ·rw [if_neg (by omega)];exact h.lo i (by omega)
 ·rw [hget,if_neg (by omega)]
  by_cases e:i=I
  ·rw [if_pos (by omega),if_pos (by omega),e]
  ·rw [if_neg (by omega),if_neg (by omega)];exact h.hi i (by omega)
 ·have hq:=(GF.pown GF.two i).lt
  rw [hget]
  by_cases e:i=I
  ·subst e;rw [if_pos rfl,if_pos (by omega)]
  ·rw [if_neg (fun e2=>e (GF.log_inj (by omega) hI (GF.ext' (by omega)))),if_neg (by omega),if_neg (by omega)]
   exact h.log i (by omega)
 ·rw [hget,if_neg (by omega),if_neg (by omega),if_neg (by omega)]
 ·rw [hget,if_neg (by omega),if_neg (by omega),if_neg (by omega)]
theorem pown_dbl (I:Nat):(if 255 < (GF.pown GF.two I).n * 2 then ((GF.pown GF.two I).n * 2) ^^^ 285 else (GF.pown GF.two I).n * 2)=(GF.pown GF.two (I+1)).n :=
 tab_double ⟨(GF.pown GF.two I).n,(GF.pown GF.two I).lt⟩

set_option maxRecDepth 100000 in
set_option maxHeartbeats 1000000 in
theorem made1_any (pl fb:Nat) (hne:pl ≠ fb) (cs:Array Value) (w:World) (hp:w.cell? ⟨pl,0,none⟩=some (.pointer (some ⟨fb,0,none⟩))) (h:FB w fb cs) :
  Calls Tryz.prog 65 #[.pointer (some ⟨pl,0,none⟩)] w fun e w'=>e=.returned (.tuple #[])∧Kp [fb] w w'∧∃ cs',FB w' fb cs'∧Tabs cs'∧cs'[0]? = cs[0]?∧cs'[1]? = cs[1]?:=by
 have hpl:pl < w.heap.size:=World.block_lt_of_cell? w _ hp
 go_enter Tryz.func65,Tryz.ntmps65
 go_wp2
 go_loopg [1,3] 255 (fun gk x i wr=>∃ (I:Nat) (c:Array Value),I≤255∧gk=255 - I∧i=.int .i64 I∧x=.int .i64 ((GF.pown GF.two I).n:Nat)∧Hid (FB wr fb c)∧Hid (TabI I c)∧Hid (c[0]? = cs[0]?)∧Hid (c[1]? = cs[1]?)∧Kp [fb] w wr)
 case atStart=>exact ⟨0,cs,by omega,rfl,rfl,rfl,Lib.hid h,Lib.hid (TabI.zero _),Lib.hid rfl,Lib.hid rfl,Kp.refl _ _⟩
 case round =>
  obtain ⟨I,c,hI,rfl,rfl,rfl,hF,hT,h0,h1,hK⟩:=hrel
  by_cases hlt:I < 255
  ·obtain ⟨X,hX⟩:∃ X,(GF.pown GF.two I).n=X:=⟨_,rfl⟩
   have hXl:X < 256:=by rw [← hX];exact (GF.pown GF.two I).lt
   obtain ⟨hT2,h02,h12⟩:=TabI.succ hT.out hlt hF.out.2
   have HS:=Lib.hid hF.out.2
   have hpl':wr.cell? ⟨pl,0,none⟩=some (.pointer (some ⟨fb,0,none⟩)):=(hK.cell (p:=⟨pl,0,none⟩) hpl (by simpa using hne)).trans hp
   have HD:=Lib.hid (pown_dbl I)
   have HT2:=Lib.hid hT2
   have H02:=Lib.hid (h02.trans h0.out)
   have H12:=Lib.hid (h12.trans h1.out)
   rw [hX] at HD ⊢
   have HX:=Lib.hid hX
   clear hX hT2 h02 h12
   obtain ⟨v1,c1⟩:∃ v,wr.cell? ⟨fb,3+I,none⟩=some v:=⟨_,hF.out.cell (Array.getElem?_eq_getElem (by rw [HS.out];omega))⟩
   obtain ⟨v2,c2⟩:∃ v,wr.cell? ⟨fb,3+(I+255),none⟩=some v:=⟨_,hF.out.cell (Array.getElem?_eq_getElem (by rw [HS.out];omega))⟩
   obtain ⟨v3,c3⟩:∃ v,wr.cell? ⟨fb,513+X,none⟩=some v:=⟨_,hF.out.cell (Array.getElem?_eq_getElem (by rw [HS.out];omega))⟩
   have f1:=hF.out.free (3+I)
   have f2:=hF.out.free (3+(I+255))
   have f3:=hF.out.free (513+X)
   have hfb:=hF.out.lt
   go_upto_region 4 with fail
   obtain ⟨kp,hkp⟩:∃ kp:Nat→Bool,∀ k,kp k=true↔k ≠ fb:=⟨fun k=>k != fb,by simp⟩
   have hk1:kp pl=true:=(hkp pl).2 hne
   have HKP:=Lib.hid hkp
   clear hkp
   have q1:IntKind.i64.wrap ((I:Int)+255)=(I:Int)+255:=IntWalk.i64_in _ (by omega)
   have q2:IntKind.u8.wrap (X:Int)=(X:Int):=by rw [IntKind.wrap_u8];omega
   have q3:(0:Int)≤(I:Int)∧(I:Int) < 510:=by omega
   have q4:(0:Int)≤(I:Int)+255∧(I:Int)+255 < 510:=by omega
   have q5:((I:Int)+255).toNat=I+255:=by omega
   have hgr:=fun (w0 W:World) (p:Addr) (hp:(fun k=>kp k=true) p.block)=>graft_cell (w0:=w0) (keep:=(fun k=>kp k=true)) W hp
   refine wp_region_tree (fun k=>kp k=true) [12,16] (.sq [0,1,2,3,4,5,6,7,8,9,10,11,13,14,12,15,16] .done) (by kernel_rfl) (by kernel_rfl) ?_
   simp only [Tr.sq,List.foldr_cons,List.foldr_nil,slimTr,slimStep,Oper.slim,List.contains_cons,List.contains_nil,Option.map_none,Option.map_some,List.getElem?_toArray,List.getElem?_cons_zero,List.getElem?_cons_succ,Option.bind_some,beq_self_eq_true,Bool.or_false,Nat.reduceBEq,Nat.reduceAdd,Nat.zero_add]
   repeat' first | ((with_reducible refine wpSlimT_id ?_);first | (with_reducible refine wpSlimT_done ?_) | ((with_reducible refine wpSlimT_step (fun K hK=>?_));go_simp;first | (refine hK _ _ ?_;clear hK K) | (refine ⟨by (intro kk hkk;first | (simp (disch:=(simp;omega)) only [hp_drew,hp_drewN,hp_alloc,hp_set];done) | (simp [hp_drew,hp_drewN,hp_alloc_if,hkk];done) | (have hkk2:=(HKP.out kk).1 hkk;simp (disch:=(first | exact hkk2 | (simp;done) | (simp;omega))) only [hp_drew,hp_drewN,hp_alloc,hp_set];done)),hK _ _ ?_⟩;clear hK K))) | fail
   clear hgr
   clear q1 q2 q3 q4 q5 hk1
   have HXR:=Lib.hid (i64_xor_nat (X * 2) 285 (by omega) (by omega))
   by_cases hb:255 < X * 2
   ·have hb2:(255:Int) < (X:Int) * 2:=by omega
    have HXE:Hid (bits .xor .i64 ((X:Int) * 2) 285=((GF.pown GF.two (I+1)).n:Nat)):=Lib.hid (by
     have e:=HD.out
     rw [if_pos hb] at e
     rw [← e]
     have e2:=HXR.out
     simpa using e2)
    clear HXR HD
    go_wp2
    go_roundg (255 - (I+1))
    case measure=>omega
    case rel=>exact ⟨I+1,tabPut I c,by omega,rfl,by go_num,by rw [HXE.out],by rw [tabPut,HX.out];exact Lib.hid (((hF.out.set _ _).set _ _).set _ _),HT2,H02,H12,(((hK.setCell (.inl (by simp)) _).setCell (.inl (by simp)) _).setCell (.inl (by simp)) _).drew⟩
   ·have hb2:¬ (255:Int) < (X:Int) * 2:=by omega
    have HXE:Hid ((X:Int) * 2=((GF.pown GF.two (I+1)).n:Nat)):=Lib.hid (by
     have e:=HD.out
     rw [if_neg hb] at e
     rw [← e]
     simp)
    clear HXR HD
    go_wp2
    go_roundg (255 - (I+1))
    case measure=>omega
    case rel=>exact ⟨I+1,tabPut I c,by omega,rfl,by go_num,by rw [HXE.out],by rw [tabPut,HX.out];exact Lib.hid (((hF.out.set _ _).set _ _).set _ _),HT2,H02,H12,(((hK.setCell (.inl (by simp)) _).setCell (.inl (by simp)) _).setCell (.inl (by simp)) _).drew⟩
  ·obtain rfl:I=255:=by omega
   go_wp2
   go_end0
   exact ⟨rfl,hK,c,hF.out,hT.out.done,h0.out,h1.out⟩
end Go.Proofs.YtnjbkfeihbcalaaGreat
/- The field is made once. -/
namespace Go.Proofs.YtnjbkfeihbcalaaGreat
open Go.RowKit
set_option linter.unusedVariables false
set_option linter.unusedSimpArgs false

theorem set_ne {cs:Array Value} {i k:Nat} {v:Value} (h:i ≠ k):(cs.setIfInBounds i v)[k]? = cs[k]?:=by simp [Array.getElem?_setIfInBounds,h]
theorem set_eq {cs:Array Value} {i:Nat} {v:Value} (h:i < cs.size):(cs.setIfInBounds i v)[i]? = some v:=by simp [Array.getElem?_setIfInBounds,h]
theorem Tabs.set {cs:Array Value} (h:Tabs cs) {i:Nat} (hi:i < 3) (v:Value):Tabs (cs.setIfInBounds i v) :=
 ⟨fun k hk=>(set_ne (by omega)).trans (h.exp k hk),fun k hk=>(set_ne (by omega)).trans (h.log k hk)⟩
set_option maxRecDepth 100000 in
set_option maxHeartbeats 1600000 in
theorem slow_any (pl fb:Nat) (hne:pl ≠ fb) (cs:Array Value) (w:World) (hp:w.cell? ⟨pl,0,none⟩=some (.pointer (some ⟨fb,0,none⟩))) (h:FB w fb cs)
  (h0:cs[0]? = some (.int .u32 0)) (h1:cs[1]? = some (.int .i32 0)) :
  Calls Tryz.prog 88 #[.pointer (some ⟨fb,0,none⟩),.func (.func 65) #[] #[.pointer (some ⟨pl,0,none⟩)]] w fun e w'=>e=.returned (.tuple #[])∧Kp [fb] w w'∧FMade w' fb:=by
 have hs:=h.2
 have k0:w.cell? ⟨fb,0,none⟩=some (.int .u32 0):=h.cell h0
 have k1:w.cell? ⟨fb,1,none⟩=some (.int .i32 0):=h.cell h1
 have z0:=h.free 0
 have z1:=h.free 1
 have H1:=h.set 1 (.int .i32 1)
 have hl:=run_call_load (P:=Tryz.prog) Tryz.func105 (by kernel_rfl) (by kernel_rfl) (by kernel_rfl) .u32 (by kernel_rfl) (w:=w.setCell ⟨fb,1,none⟩ (.int .i32 1)) (a:=⟨fb,0,none⟩) (x:=0) (H1.cell (by rw [set_ne (by omega)];exact h0))
 have hp1:(w.setCell ⟨fb,1,none⟩ (.int .i32 1)).cell? ⟨pl,0,none⟩=some (.pointer (some ⟨fb,0,none⟩)):=(World.cell?_setCell_other _ ⟨fb,1,none⟩ ⟨pl,0,none⟩ _ (by simp)).trans hp
 have hnot:∀ (x:Bool) (w:World),(Op.unary .not (.bool x)).run Tryz.prog w=.ok (.bool (!x)) w:=fun _ _=>rfl
 have HM:=Lib.hid (made1_any pl fb hne _ _ hp1 H1)
 have HK1:Hid (Kp [fb] w (w.setCell ⟨fb,1,none⟩ (.int .i32 1))):=Lib.hid ((Kp.refl _ _).setCell (.inl (by simp)) _)
 have HH0:=Lib.hid h0
 have HS:=Lib.hid hs
 clear h h0 h1 H1 hp1 hs
 go_enter_defers Tryz.func88,Tryz.ntmps88
 go_wp2_with (first | (go_at_call 106;refine (lock_free ⟨fb,1,none⟩ _ k1 z1).mono ?_;rintro e w' ⟨rfl,rfl⟩) | (go_at_call 87;go_in))
 refine HM.out.mono ?_
 rintro e w2 ⟨rfl,hK2,cs2,hF2,hT2,h02,h12⟩
 rw [set_ne (by omega)] at h02
 rw [set_eq (by rw [HS.out];omega)] at h12
 have HF2:=Lib.hid hF2
 have HC0:=Lib.hid (h02.trans HH0.out)
 have HC1:=Lib.hid h12
 clear hF2 h02 h12
 go_wp2

 refine leaves_cons (f:=108) (args:=#[.pointer (some ⟨fb,0,none⟩),.bool true]) (by simp) (by simp [go_sem]) ?_
 refine (store_deferred ⟨fb,0,none⟩ (.int .u32 0) .returning _ (HF2.out.cell HC0.out) (HF2.out.free 0)).mono ?_
 rintro e u' w'' ⟨rfl,rfl,rfl⟩
 have hF3:=HF2.out.drew.set 0 (.int .u32 1)
 refine leaves_cons (f:=107) (args:=#[.pointer (some ⟨fb,1,none⟩)]) (by simp [settle]) (by simp [go_sem]) ?_
 refine (unlock_deferred ⟨fb,1,none⟩ _ _ (hF3.cell ((set_ne (by omega)).trans HC1.out)) (hF3.free 1)).mono ?_
 rintro e u' w'' ⟨rfl,rfl,rfl⟩
 have hF4:=hF3.set 1 (.int .i32 0)
 have hfin:Kp [fb] w ((w2.drew.setCell ⟨fb,0,none⟩ (.int .u32 1)).setCell ⟨fb,1,none⟩ (.int .i32 0))∧FMade ((w2.drew.setCell ⟨fb,0,none⟩ (.int .u32 1)).setCell ⟨fb,1,none⟩ (.int .i32 0)) fb:=by
  refine ⟨(((HK1.out.trans hK2).drew).setCell (.inl (by simp)) _).setCell (.inl (by simp)) _,_,hF4,?_,?_,(hT2.set (by omega) _).set (by omega) _⟩
  ·rw [set_ne (by omega),set_eq (by rw [HF2.out.2];omega)]
  ·rw [set_eq (by simp [HF2.out.2])]
 have HFIN:=Lib.hid hfin
 clear hfin
 simp [Leaves,settle,results,Tryz.results88]
 exact HFIN.out

set_option maxRecDepth 100000 in
set_option maxHeartbeats 1600000 in
theorem do_first (pl fb:Nat) (hne:pl ≠ fb) (cs:Array Value) (w:World) (hp:w.cell? ⟨pl,0,none⟩=some (.pointer (some ⟨fb,0,none⟩))) (h:FB w fb cs)
  (h0:cs[0]? = some (.int .u32 0)) (h1:cs[1]? = some (.int .i32 0)) :
  Calls Tryz.prog 64 #[.pointer (some ⟨fb,0,none⟩),.func (.func 65) #[] #[.pointer (some ⟨pl,0,none⟩)]] w fun e w'=>e=.returned (.tuple #[])∧Kp [fb] w w'∧FMade w' fb:=by
 have HM:=Lib.hid (slow_any pl fb hne cs w hp h h0 h1)
 have hl:=run_call_load (P:=Tryz.prog) Tryz.func105 (by kernel_rfl) (by kernel_rfl) (by kernel_rfl) .u32 (by kernel_rfl) (h.cell h0)
 have hnot:∀ (x:Bool) (w:World),(Op.unary .not (.bool x)).run Tryz.prog w=.ok (.bool (!x)) w:=fun _ _=>rfl
 clear h h0 h1
 go_enter Tryz.func64,Tryz.ntmps64
 go_wp2_with (first | (go_at_call 88;refine HM.out.mono ?_;rintro e w' ⟨rfl,hk,hm⟩) | (go_at_call 87;go_in))
 go_end0
 exact ⟨rfl,hk,hm⟩
theorem do_done (a:Addr) (fv:Value) (w:World) (h0:w.cell? a=some (.int .u32 1)) :
  Calls Tryz.prog 64 #[.pointer (some a),fv] w fun e w'=>e=.returned (.tuple #[])∧w'=w:=by
 have hl:=run_call_load (P:=Tryz.prog) Tryz.func105 (by kernel_rfl) (by kernel_rfl) (by kernel_rfl) .u32 (by kernel_rfl) h0
 have hnot:∀ (x:Bool) (w:World),(Op.unary .not (.bool x)).run Tryz.prog w=.ok (.bool (!x)) w:=fun _ _=>rfl
 go_enter Tryz.func64,Tryz.ntmps64
 go_wp2
 go_end0
 exact ⟨rfl,rfl⟩
set_option maxRecDepth 100000 in
set_option maxHeartbeats 1600000 in
theorem made_any (fb:Nat) (w:World) (h:FOk w fb) :
  Calls Tryz.prog 46 #[.pointer (some ⟨fb,0,none⟩)] w fun e w'=>e=.returned (.pointer (some ⟨fb,0,none⟩))∧Kp [fb] w w'∧FMade w' fb:=by
 have hmf:∀ (fn:Fn) (first cap:Array Value) (w:World),(Instr.makeFunc fn first cap).run Tryz.prog w=.ok (.func fn first cap) w:=fun _ _ _ _=>rfl
 have hlt:=h.lt
 obtain ⟨cs,hF,h1,h2⟩:=h
 have HFA:=Lib.hid (hF.alloc (.cells #[.pointer (some ⟨fb,0,none⟩)] 30))
 have HB:Hid (Kp [fb] w (w.alloc (.cells #[.pointer (some ⟨fb,0,none⟩)] 30))):=Lib.hid ((Kp.refl _ _).alloc _)
 have p0:(w.alloc (.cells #[.pointer (some ⟨fb,0,none⟩)] 30)).cell? ⟨w.heap.size,0,none⟩=some (.pointer (some ⟨fb,0,none⟩)):=by simp
 have P0:=Lib.hid p0
 have hlt2:w.heap.size < (w.alloc (.cells #[.pointer (some ⟨fb,0,none⟩)] 30)).heap.size:=by simp
 rcases h2 with h2 | ⟨h2,hT⟩
 ·have HD:=Lib.hid (do_first w.heap.size fb (by omega) cs _ p0 HFA.out h2 h1)
  clear hF h1 h2 p0
  go_enter Tryz.func46,Tryz.ntmps46
  go_wp2_with (go_at_call 64;refine HD.out.mono ?_;rintro e w' ⟨rfl,hk,hm⟩;have hc:=(hk.cell (p:=⟨w.heap.size,0,none⟩) (by simp) (by simp;omega)).trans P0.out)
  go_ret
  exact ⟨rfl,HB.out.trans hk,hm⟩
 ·have HD:=Lib.hid (do_done ⟨fb,0,none⟩ (.func (.func 65) #[] #[.pointer (some ⟨w.heap.size,0,none⟩)]) (w.alloc (.cells #[.pointer (some ⟨fb,0,none⟩)] 30)) (HFA.out.cell h2))
  have HMd:Hid (FMade (w.alloc (.cells #[.pointer (some ⟨fb,0,none⟩)] 30)) fb):=Lib.hid ⟨cs,HFA.out,h2,h1,hT⟩
  clear hF h1 h2
  go_enter Tryz.func46,Tryz.ntmps46
  go_wp2_with (go_at_call 64;refine HD.out.mono ?_;rintro e w' ⟨rfl,rfl⟩)
  go_ret
  exact ⟨rfl,HB.out,HMd.out⟩
end Go.Proofs.YtnjbkfeihbcalaaGreat
/- The field's product, quotient, inverse, powers. -/
namespace Go.Proofs.YtnjbkfeihbcalaaGreat
open Go.RowKit Fld
set_option linter.unusedVariables false
set_option linter.unusedSimpArgs false

theorem FMade.look {w:World} {fb:Nat} (h:FMade w fb):(∀ a:GF,a ≠ 0→w.cell? ⟨fb,513+a.n,none⟩=some (.int .i64 (a.log:Nat)))∧(∀ i,i < 510→w.cell? ⟨fb,3+i,none⟩=some (.int .u8 ((GF.pown GF.two i).n:Nat))):=by
 obtain ⟨cs,hF,-,-,hT⟩:=h
 refine ⟨fun a ha=>?_,fun i hi=>hF.cell (hT.exp i hi)⟩
 have h1:=hF.cell (hT.log a.log (GF.log_lt a (GF.ne0.1 ha)))
 rw [GF.log_pow a (GF.ne0.1 ha)] at h1
 exact h1

theorem gadd_any (a b:GF) (w:World):Calls Tryz.prog 116 #[.int .u8 (a.n:Nat),.int .u8 (b.n:Nat)] w fun e w'=>e=.returned (.int .u8 ((a+b).n:Nat))∧w=w':=by
 have hx:=GF.u8_xor a b
 have HX:=Lib.hid hx
 clear hx
 obtain ⟨x,hx⟩:∃ x,a.n=x:=⟨_,rfl⟩
 obtain ⟨y,hy⟩:∃ x,b.n=x:=⟨_,rfl⟩
 rw [hx,hy] at HX ⊢
 clear hx hy
 go_enter Tryz.func116,Tryz.ntmps116
 go_wp2
 go_ret
 exact ⟨by rw [HX.out] <;> rfl,rfl⟩

def FPost (fb:Nat) (x:GF) (w:World) (e:Ending) (w':World):Prop:=e=.returned (.int .u8 (x.n:Nat))∧Kp [fb] w w'∧FOk w' fb
set_option maxRecDepth 100000 in
set_option maxHeartbeats 1000000 in
theorem fmul_any (a b:GF) (fb:Nat) (w:World) (h:FOk w fb) :
  Calls Tryz.prog 56 #[.pointer (some ⟨fb,0,none⟩),.int .u8 (a.n:Nat),.int .u8 (b.n:Nat)] w (FPost fb (a * b) w):=by
 have HH:=Lib.hid h
 by_cases h0:a=0 ∨ b=0
 ·have hr:a * b=0:=by rcases h0 with rfl | rfl;exact zmul _;exact mzero _
  rw [hr]
  by_cases ha:a=0
  ·subst ha
   rw [show ((0:GF).n:Int)=0 from rfl]
   clear h h0 hr
   obtain ⟨y,hy⟩:∃ x,b.n=x:=⟨_,rfl⟩
   rw [hy]
   clear hy
   go_enter Tryz.func56,Tryz.ntmps56
   go_wp2
   go_ret
   exact ⟨rfl,Kp.refl _ _,HH.out⟩
  ·have hb:b=0:=h0.resolve_left ha
   subst hb
   have hd:((a.n:Int) == 0)=false:=by have:=GF.ne0.1 ha;simpa using this
   rw [show ((0:GF).n:Int)=0 from rfl]
   clear h h0 hr
   obtain ⟨y,hy⟩:∃ x,a.n=x:=⟨_,rfl⟩
   rw [hy] at hd ⊢
   clear hy ha
   go_enter Tryz.func56,Tryz.ntmps56
   go_wp2
   go_ret
   exact ⟨rfl,Kp.refl _ _,HH.out⟩
 ·have ha:a ≠ 0:=fun e=>h0 (.inl e)
  have hb:b ≠ 0:=fun e=>h0 (.inr e)
  have hd:((a.n:Int) == 0)=false:=by have:=GF.ne0.1 ha;simpa using this
  have hd2:((b.n:Int) == 0)=false:=by have:=GF.ne0.1 hb;simpa using this
  have HR:=Lib.hid (congrArg GF.n (GF.mul_exp ha hb))
  have hi:=GF.log_lt a (GF.ne0.1 ha)
  have hj:=GF.log_lt b (GF.ne0.1 hb)
  have HL:Hid (∀ W,FMade W fb→W.cell? ⟨fb,513+a.n,none⟩=some (.int .i64 (a.log:Nat))∧W.cell? ⟨fb,513+b.n,none⟩=some (.int .i64 (b.log:Nat))∧W.cell? ⟨fb,3+(a.log+b.log),none⟩=some (.int .u8 ((GF.pown GF.two (a.log+b.log)).n:Nat))):=Lib.hid (fun W hW=>⟨hW.look.1 a ha,hW.look.1 b hb,hW.look.2 _ (by omega)⟩)
  obtain ⟨i,ei⟩:∃ i,a.log=i:=⟨_,rfl⟩
  obtain ⟨j,ej⟩:∃ j,b.log=j:=⟨_,rfl⟩
  obtain ⟨x,hx⟩:∃ x,a.n=x:=⟨_,rfl⟩
  obtain ⟨y,hy⟩:∃ x,b.n=x:=⟨_,rfl⟩
  obtain ⟨r,hr⟩:∃ r,(GF.pown GF.two (a.log+b.log)).n=r:=⟨_,rfl⟩
  rw [hr] at HL HR
  rw [ei] at hi
  rw [ej] at hj
  rw [ei,ej,hx,hy] at HL
  have hxl:x < 256:=by rw [← hx];exact a.lt
  have hyl:y < 256:=by rw [← hy];exact b.lt
  rw [hx] at hd ⊢
  rw [hy] at hd2 ⊢
  have HM:=Lib.hid (made_any fb w h)
  clear h h0 ha hb hx hy ei ej hr
  have q1:IntKind.i64.wrap ((i:Int)+(j:Int))=(i:Int)+(j:Int):=IntWalk.i64_in _ (by omega)
  have q2:(0:Int)≤(i:Int)+(j:Int)∧(i:Int)+(j:Int) < 510:=by omega
  have q3:((i:Int)+(j:Int)).toNat=i+j:=by omega
  have q4:(0:Int)≤(x:Int)∧(x:Int) < 256:=by omega
  have q5:(0:Int)≤(y:Int)∧(y:Int) < 256:=by omega
  go_enter Tryz.func56,Tryz.ntmps56
  go_wp2_with fail
  refine HM.out.mono ?_
  rintro e w1 ⟨rfl,hk,hm⟩
  obtain ⟨c1,c2,c3⟩:=HL.out w1 hm
  have HK:=Lib.hid hk
  have HMM:=Lib.hid hm
  clear hk hm
  go_upto_region 4 with fail
  go_quiet (fail)
  go_wp2
  go_ret
  exact ⟨by rw [HR.out] <;> rfl,HK.out.drewN _,HMM.out.ok.kp ((Kp.refl [] _).drewN _) (by simp)⟩

def DPost (fb:Nat) (x:GF) (ok:Bool) (w:World) (e:Ending) (w':World):Prop:=e=.returned (.tuple #[.int .u8 (x.n:Nat),.bool ok])∧Kp [fb] w w'∧FOk w' fb
theorem inv_zero:Fld.inv (0:GF)=0:=by show GF.inv' 0=0;rw [GF.inv',if_neg (by simp [GF.n_zero])];rfl
set_option maxRecDepth 100000 in
set_option maxHeartbeats 1000000 in
theorem fdiv_any (a b:GF) (fb:Nat) (w:World) (h:FOk w fb) :
  Calls Tryz.prog 115 #[.pointer (some ⟨fb,0,none⟩),.int .u8 (a.n:Nat),.int .u8 (b.n:Nat)] w (DPost fb (a * Fld.inv b) (decide (b ≠ 0)) w):=by
 have HM:=Lib.hid (made_any fb w h)
 by_cases hb:b=0
 ·subst hb
  rw [inv_zero,mzero,decide_eq_false (by simp)]
  rw [show ((0:GF).n:Int)=0 from rfl]
  clear h
  obtain ⟨x,hx⟩:∃ x,a.n=x:=⟨_,rfl⟩
  rw [hx]
  clear hx
  go_enter Tryz.func115,Tryz.ntmps115
  go_wp2_with fail
  refine HM.out.mono ?_
  rintro e w1 ⟨rfl,hk,hm⟩
  have HK:=Lib.hid hk
  have HMM:=Lib.hid hm
  clear hk hm
  go_wp2
  go_ret2
  exact ⟨rfl,HK.out,HMM.out.ok⟩
 have hd2:((b.n:Int) == 0)=false:=by have:=GF.ne0.1 hb;simpa using this
 rw [decide_eq_true hb]
 by_cases ha:a=0
 ·subst ha
  rw [zmul]
  rw [show ((0:GF).n:Int)=0 from rfl]
  clear h
  obtain ⟨x,hx⟩:∃ x,b.n=x:=⟨_,rfl⟩
  rw [hx] at hd2 ⊢
  clear hx hb
  go_enter Tryz.func115,Tryz.ntmps115
  go_wp2_with fail
  refine HM.out.mono ?_
  rintro e w1 ⟨rfl,hk,hm⟩
  have HK:=Lib.hid hk
  have HMM:=Lib.hid hm
  clear hk hm
  go_wp2
  go_ret2
  exact ⟨rfl,HK.out,HMM.out.ok⟩
 have hd:((a.n:Int) == 0)=false:=by have:=GF.ne0.1 ha;simpa using this
 have HR:=Lib.hid (congrArg GF.n (GF.div_exp ha hb))
 have hi:=GF.log_lt a (GF.ne0.1 ha)
 have hj:=GF.log_lt b (GF.ne0.1 hb)
 have HL:Hid (∀ W,FMade W fb→W.cell? ⟨fb,513+a.n,none⟩=some (.int .i64 (a.log:Nat))∧W.cell? ⟨fb,513+b.n,none⟩=some (.int .i64 (b.log:Nat))∧W.cell? ⟨fb,3+(a.log+255 - b.log),none⟩=some (.int .u8 ((GF.pown GF.two (a.log+255 - b.log)).n:Nat))):=Lib.hid (fun W hW=>⟨hW.look.1 a ha,hW.look.1 b hb,hW.look.2 _ (by omega)⟩)
 obtain ⟨i,ei⟩:∃ i,a.log=i:=⟨_,rfl⟩
 obtain ⟨j,ej⟩:∃ j,b.log=j:=⟨_,rfl⟩
 obtain ⟨x,hx⟩:∃ x,a.n=x:=⟨_,rfl⟩
 obtain ⟨y,hy⟩:∃ x,b.n=x:=⟨_,rfl⟩
 obtain ⟨r,hr⟩:∃ r,(GF.pown GF.two (a.log+255 - b.log)).n=r:=⟨_,rfl⟩
 rw [hr] at HL HR
 rw [ei] at hi
 rw [ej] at hj
 rw [ei,ej,hx,hy] at HL
 have hxl:x < 256:=by rw [← hx];exact a.lt
 have hyl:y < 256:=by rw [← hy];exact b.lt
 rw [hx] at hd ⊢
 rw [hy] at hd2 ⊢
 clear h ha hb hx hy ei ej hr
 have q0:IntKind.i64.wrap ((i:Int)+255)=(i:Int)+255:=IntWalk.i64_in _ (by omega)
 have q1:IntKind.i64.wrap ((i:Int)+255 - (j:Int))=(i:Int)+255 - (j:Int):=IntWalk.i64_in _ (by omega)
 have q2:(0:Int)≤(i:Int)+255 - (j:Int)∧(i:Int)+255 - (j:Int) < 510:=by omega
 have q2b:(j:Int)≤(i:Int)+255∧(i:Int)+255 - (j:Int) < 510:=by omega
 have q3:((i:Int)+255 - (j:Int)).toNat=i+255 - j:=by omega
 have q4:(0:Int)≤(x:Int)∧(x:Int) < 256:=by omega
 have q5:(0:Int)≤(y:Int)∧(y:Int) < 256:=by omega
 go_enter Tryz.func115,Tryz.ntmps115
 go_wp2_with fail
 refine HM.out.mono ?_
 rintro e w1 ⟨rfl,hk,hm⟩
 obtain ⟨c1,c2,c3⟩:=HL.out w1 hm
 have HK:=Lib.hid hk
 have HMM:=Lib.hid hm
 clear hk hm
 go_upto_region 6 with fail
 go_quiet (fail)
 go_wp2
 go_ret2
 exact ⟨by rw [HR.out] <;> rfl,HK.out.drewN _,HMM.out.ok.kp ((Kp.refl [] _).drewN _) (by simp)⟩
set_option maxRecDepth 100000 in
theorem finv_any (b:GF) (fb:Nat) (w:World) (h:FOk w fb) :
  Calls Tryz.prog 100 #[.pointer (some ⟨fb,0,none⟩),.int .u8 (b.n:Nat)] w (DPost fb (Fld.inv b) (decide (b ≠ 0)) w):=by
 have HD:=Lib.hid (fdiv_any 1 b fb w h)
 rw [onem,show (((1:GF).n:Nat):Int)=1 from rfl] at HD
 obtain ⟨x,hx⟩:∃ x,(Fld.inv b).n=x:=⟨_,rfl⟩
 obtain ⟨y,hy⟩:∃ x,b.n=x:=⟨_,rfl⟩
 obtain ⟨ok,hok⟩:∃ x,decide (b ≠ 0)=x:=⟨_,rfl⟩
 unfold DPost at HD ⊢
 rw [hx,hy,hok] at HD
 rw [hx,hy,hok]
 clear hx hy hok h
 go_enter Tryz.func100,Tryz.ntmps100
 go_wp2_with fail
 refine HD.out.mono ?_
 rintro e w1 ⟨rfl,hk,hm⟩
 have HK:=Lib.hid hk
 have HMM:=Lib.hid hm
 clear hk hm
 go_wp2
 go_ret2
 exact ⟨rfl,HK.out,HMM.out⟩

theorem rest_any (n:Nat) (w:World) (hn:n < 9223372036854775808):Calls Tryz.prog 47 #[.int .i64 (n:Nat)] w fun e w'=>e=.returned (.int .i64 ((n % 255:Nat):Nat))∧w=w':=by
 obtain ⟨r,hr⟩:∃ r,n % 255=r:=⟨_,rfl⟩
 have h1:(n:Int).tmod 255=(r:Int):=by rw [Int.tmod_eq_emod_of_nonneg (by omega)];omega
 have h2:(n:Int) % 255=(r:Int):=by omega
 have hl:r < 255:=by omega
 rw [hr]
 have HR:=Lib.hid hr
 clear hr
 go_enter Tryz.func47,Tryz.ntmps47
 go_wp2
 go_ret
 exact ⟨rfl,rfl⟩
set_option maxRecDepth 100000 in
set_option maxHeartbeats 1000000 in
theorem fexp_any (n fb:Nat) (w:World) (h:FOk w fb) (hn:n < 9223372036854775808) :
  Calls Tryz.prog 26 #[.pointer (some ⟨fb,0,none⟩),.int .i64 (n:Nat)] w (FPost fb (GF.pown GF.two n) w):=by
 have HD:Hid (FOk w.drew fb):=Lib.hid h
 have HR:=Lib.hid (congrArg GF.n (GF.pow_mod n))
 have hl:n % 255 < 255:=Nat.mod_lt _ (by omega)
 have HS:=Lib.hid (fun W=>rest_any n W hn)
 have HL:Hid (∀ W,FMade W fb→W.cell? ⟨fb,3+n % 255,none⟩=some (.int .u8 ((GF.pown GF.two (n % 255)).n:Nat))):=Lib.hid (fun W hW=>hW.look.2 _ (by omega))
 obtain ⟨i,ei⟩:∃ i,n % 255=i:=⟨_,rfl⟩
 rw [ei] at hl HR HL HS
 obtain ⟨r,hr⟩:∃ r,(GF.pown GF.two i).n=r:=⟨_,rfl⟩
 rw [hr] at HL HR
 clear h hr ei
 have q2:(0:Int)≤(i:Int)∧(i:Int) < 510:=by omega
 go_enter Tryz.func26,Tryz.ntmps26
 obtain ⟨kp,hkp⟩:∃ kp:Nat→Bool,∀ k,kp k=true↔k < w.heap.size∧k ≠ fb:=⟨fun k=>decide (k < w.heap.size∧k ≠ fb),by simp⟩
 have HKP:=Lib.hid hkp
 clear hkp
 go_upto_region 1 with fail
 have hgr:=fun (w0 W:World) (p:Addr) (hp:(fun k=>kp k=true) p.block)=>graft_cell (w0:=w0) (keep:=(fun k=>kp k=true)) W hp
 refine wp_region_tree (fun k=>kp k=true) [1,3,7] (.sq [0,2,1,4,5,3,6,7,8] .done) (by kernel_rfl) (by kernel_rfl) ?_
 simp only [Tr.sq,List.foldr_cons,List.foldr_nil,slimTr,slimStep,Oper.slim,List.contains_cons,List.contains_nil,Option.map_none,Option.map_some,List.getElem?_toArray,List.getElem?_cons_zero,List.getElem?_cons_succ,Option.bind_some,beq_self_eq_true,Bool.or_false,Nat.reduceBEq,Nat.reduceAdd,Nat.zero_add]
 repeat' first | ((with_reducible refine wpSlimT_id ?_);first | (with_reducible refine wpSlimT_done ?_) | ((with_reducible refine wpSlimT_step (fun K hK=>?_));go_simp;first | (refine hK _ _ ?_;clear hK K) | (refine ⟨by (intro kk hkk;first | (simp (disch:=(simp;omega)) only [hp_drew,hp_drewN,hp_alloc,hp_set];done) | (simp [hp_drew,hp_drewN,hp_alloc_if,hkk];done) | fail),hK _ _ ?_⟩;clear hK K) | (go_at_call 46;(with_reducible refine (made_any fb _ HD.out).mono ?_);rintro e w1 ⟨rfl,hk,hm⟩;have c3:=HL.out w1 hm;have HK:=Lib.hid hk;have HMM:=Lib.hid hm;clear hk hm;refine ⟨_,rfl,(fun kk hkk=>HK.out.block kk ((HKP.out kk).1 hkk).1 (by have:=((HKP.out kk).1 hkk).2;simpa using this)),hK _ _ ?_⟩;clear hK K) | (go_at_call 47;(with_reducible refine (HS.out _).mono ?_);rintro e w2 ⟨rfl,rfl⟩;refine ⟨_,rfl,(fun kk hkk=>HK.out.block kk ((HKP.out kk).1 hkk).1 (by have:=((HKP.out kk).1 hkk).2;simpa using this)),hK _ _ ?_⟩;clear hK K) | (refine ⟨(fun kk hkk=>HK.out.block kk ((HKP.out kk).1 hkk).1 (by have:=((HKP.out kk).1 hkk).2;simpa using this)),hK _ _ ?_⟩;clear hK K))) | fail
 clear hgr
 go_wp2
 go_ret
 refine ⟨by rw [← HR.out] <;> rfl,?_,HMM.out.ok⟩
 exact ((Kp.refl [fb] w).drew).trans HK.out
set_option maxRecDepth 100000 in
set_option maxHeartbeats 1000000 in
theorem fpow_any (a:GF) (n fb:Nat) (w:World) (h:FOk w fb) (hn:n < 9223372036854775808) :
  Calls Tryz.prog 30 #[.pointer (some ⟨fb,0,none⟩),.int .u8 (a.n:Nat),.int .i64 (n:Nat)] w (FPost fb (pw a n) w):=by
 have HH:=Lib.hid h
 by_cases h0:n=0
 ·subst h0
  rw [show pw a 0=(1:GF) from rfl]
  clear h hn
  obtain ⟨x,hx⟩:∃ x,a.n=x:=⟨_,rfl⟩
  rw [hx]
  clear hx
  go_enter Tryz.func30,Tryz.ntmps30
  go_wp2
  go_ret
  exact ⟨rfl,Kp.refl _ _,HH.out⟩
 have hd0:((n:Int) == 0)=false:=by simpa using h0
 by_cases ha:a=0
 ·subst ha
  have hz:pw (0:GF) n=0:=by
   obtain ⟨m,rfl⟩:∃ m,n=m+1:=⟨n - 1,by omega⟩
   rw [pw,mzero]
  rw [hz,show ((0:GF).n:Int)=0 from rfl]
  clear h h0 hz
  go_enter Tryz.func30,Tryz.ntmps30
  go_wp2
  go_ret
  exact ⟨rfl,Kp.refl _ _,HH.out⟩
 have hd:((a.n:Int) == 0)=false:=by have:=GF.ne0.1 ha;simpa using this
 have HR:Hid ((pw a n).n=(GF.pown GF.two (a.log * (n % 255) % 255)).n):=Lib.hid (by
  rw [GF.pow_mod,← GF.pw_exp ha,GF.pw_mod ha])
 have hi:=GF.log_lt a (GF.ne0.1 ha)
 have hl:n % 255 < 255:=Nat.mod_lt _ (by omega)
 have HS:=Lib.hid (fun W=>rest_any n W hn)
 have HL:Hid (∀ W,FMade W fb→W.cell? ⟨fb,513+a.n,none⟩=some (.int .i64 (a.log:Nat))∧W.cell? ⟨fb,3+a.log * (n % 255) % 255,none⟩=some (.int .u8 ((GF.pown GF.two (a.log * (n % 255) % 255)).n:Nat))):=Lib.hid (fun W hW=>⟨hW.look.1 a ha,hW.look.2 _ (Nat.lt_trans (Nat.mod_lt _ (by omega)) (by omega))⟩)
 obtain ⟨j,ej⟩:∃ j,n % 255=j:=⟨_,rfl⟩
 obtain ⟨i,ei⟩:∃ i,a.log=i:=⟨_,rfl⟩
 obtain ⟨x,hx⟩:∃ x,a.n=x:=⟨_,rfl⟩
 rw [ej] at hl HR HL HS
 rw [ei] at hi HR HL
 obtain ⟨m,em⟩:∃ m,i * j % 255=m:=⟨_,rfl⟩
 rw [em] at HL HR
 obtain ⟨r,hr⟩:∃ r,(GF.pown GF.two m).n=r:=⟨_,rfl⟩
 rw [hr] at HL HR
 rw [hx] at hd HL ⊢
 have hxl:x < 256:=by rw [← hx];exact a.lt
 have hij:i * j≤254 * 254:=Nat.mul_le_mul (by omega) (by omega)
 have hml:m < 255:=by rw [← em];exact Nat.mod_lt _ (by omega)
 have q1:IntKind.i64.wrap ((i:Int) * (j:Int))=(i:Int) * (j:Int):=IntWalk.i64_in _ (by rw [show ((i:Int) * (j:Int))=((i * j:Nat):Int) from by simp];omega)
 have q0:((i:Int) * (j:Int)).tmod 255=(m:Int):=by rw [show ((i:Int) * (j:Int))=((i * j:Nat):Int) from by simp,Int.tmod_eq_emod_of_nonneg (by omega)];omega
 have q0b:((i:Int) * (j:Int)) % 255=(m:Int):=by rw [show ((i:Int) * (j:Int))=((i * j:Nat):Int) from by simp];omega
 have q1b:IntKind.i64.wrap (m:Int)=(m:Int):=IntWalk.i64_in _ (by omega)
 have q2:(0:Int)≤(m:Int)∧(m:Int) < 510:=by omega
 have q4:(0:Int)≤(x:Int)∧(x:Int) < 256:=by omega
 have HM:=Lib.hid (made_any fb w h)
 clear h h0 ha hx ei ej hr em hij hml
 go_enter Tryz.func30,Tryz.ntmps30
 go_wp2_with fail
 refine HM.out.mono ?_
 rintro e w1 ⟨rfl,hk,hm⟩
 obtain ⟨c1,c3⟩:=HL.out w1 hm
 have HK:=Lib.hid hk
 have HMM:=Lib.hid hm
 clear hk hm
 go_upto_region 6 with fail
 go_quiet ((go_at_call 47;exact Calls.quiet_of_same ((HS.out _).mono fun e w' h=>⟨h.1,h.2.symm⟩)))
 go_wp2
 go_ret
 exact ⟨by rw [HR.out] <;> rfl,HK.out.drewN _,HMM.out.ok.kp ((Kp.refl [] _).drewN _) (by simp)⟩
end Go.Proofs.YtnjbkfeihbcalaaGreat
