/-
  Nodes that each have the byte 5.
  A small code?
  A word's symbols as shares.
  The chapter's example: what its numbers are.
-/
import Derived.Test.YtbiaoohodjoojaaGreatOwnSyG
import Derived.Test.YtbiaoohodjoojaaGreatKit
import Derived.Test.YtbiaoohodjoojaaGreatSyG
import Derived.Test.YtbiaoohodjoojaaGreatRefsA
import Derived.Test.YtbiaoohodjoojaaGreatLocDG
import Derived.Test.YtbiaoohodjoojaaGreatNearG
/- Nodes that each have the byte 5. -/
namespace Go.Proofs.YtbiaoohodjoojaaGreat
open Go.RowKit Fld
set_option linter.unusedVariables false
set_option linter.unusedSimpArgs false

def FivePost (ns:List Int) (w:World) (e:Ending) (w':World):Prop:=∃ v l,e=.returned v∧SyOwn w' w.heap.size v l∧Below w.heap.size w w'∧Sy.nodes l=ns∧∀ s ∈ l,s.d=gl [5]
set_option maxRecDepth 100000 in
set_option maxHeartbeats 4000000 in
theorem fives_any (v:Value) (ns:List Int) (w:World) (h:IRd w v ns) (hl:ns.length≤1000) :
  Calls Tryz.prog 37 #[v] w (FivePost ns w):=by
 obtain ⟨a,cap,rfl⟩:=h.form
 obtain ⟨L,hL⟩:∃ L,ns.length=L:=⟨_,rfl⟩
 have H:=Lib.hid h
 have HL:=Lib.hid hL
 rw [hL] at H hl ⊢
 clear h hL
 go_enter Tryz.func37,Tryz.ntmps37
 go_wp2
 go_loopg [3,4] L (fun gk p i wr=>∃ (V:Value) (l:List Sy) (I:Nat),V=p∧I≤L∧gk=L - I∧i=.int .i64 I∧Hid (SyOwn wr w.heap.size V l)∧Hid (Below w.heap.size w wr)∧Hid (Sy.nodes l=ns.take I)∧Hid (∀ s ∈ l,s.d=gl [5]))
 case atStart=>exact ⟨_,[],0,rfl,by omega,rfl,rfl,Lib.hid (SyOwn.nil _ _),Lib.hid (Below.refl _ _),Lib.hid rfl,Lib.hid (by simp)⟩
 case round =>
  obtain ⟨V,l,I,rfl,hI,rfl,rfl,HO,HB,HN,HD⟩:=hrel
  have hsr:=HB.out.size
  by_cases hlt:I < L
  ·obtain ⟨x,hx⟩:∃ x,ns[I]? = some x:=⟨_,List.getElem?_eq_getElem (by rw [HL.out];exact hlt)⟩
   obtain ⟨-,-,b,o,rfl,hb,-⟩:=IRd.cell H.out hx
   have cx:=IRd.cells (H.out.below HB.out) I x hx
   obtain ⟨W,hW⟩:∃ W,W=wr.alloc (.cells #[.int .u8 5] 5):=⟨_,rfl⟩
   have hWs:W.heap.size=wr.heap.size+1:=by rw [hW];simp
   have hWb:Below wr.heap.size wr W:=by rw [hW];exact (Below.refl _ _).alloc (Nat.le_refl _) _
   have hrd:GRd W (.slice (some ⟨wr.heap.size,0,none⟩) 1 1) (gl [5]):=GRd.lit (t:=5) (gl [5]) (by rw [hW];exact heap_newA _ _) rfl
   have hll:l.length≤1000:=by
    have:=congrArg List.length HN.out
    rw [List.length_take] at this
    simp [Sy.nodes] at this
    omega
   obtain ⟨v1,w6,hap,ho1,-,hb6,-⟩:=app_sy (W:=W) (s:=⟨x,some ⟨wr.heap.size,0,none⟩,1,gl [5]⟩) (HO.out.below hWb) hrd (fun a ha=>by
    cases ha
    exact ⟨hsr,fun e=>by have:=(HO.out.row.lt _ e).2;simp at this,by simp only [];omega⟩) (by omega) (by omega) (ad:=wr.heap.size+1) hWs.symm
   have HO6:=Lib.hid ho1
   have HB6:Hid (Below w.heap.size w w6):=Lib.hid ((HB.out.trans (hWb.mono hsr)).trans hb6)
   have HN6:Hid (Sy.nodes (l ++ [⟨x,some ⟨wr.heap.size,0,none⟩,1,gl [5]⟩])=ns.take (I+1)):=Lib.hid (by
    rw [Sy.nodes,List.map_append,List.take_add_one,hx]
    rw [show l.map Sy.node=ns.take I from HN.out]
    rfl)
   have HD6:Hid (∀ s ∈ l ++ [(⟨x,some ⟨wr.heap.size,0,none⟩,1,gl [5]⟩:Sy)],s.d=gl [5]):=Lib.hid (fun s hs=>by
    rcases List.mem_append.1 hs with hs | hs
    ·exact HD.out s hs
    ·simp only [List.mem_singleton] at hs
     rw [hs])
   rw [hW] at hap
   have hap':=hap
   simp only [show (gl [5]).length=1 from rfl] at hap'
   have i1:(0:Int)≤(I:Int)∧(I:Int) < (L:Int):=by omega
   clear hx ho1 hb6 hW hWs hWb hrd hll hap
   go_wp2_with (at_builtin;refine wpList_append rfl _ _ _ rfl rfl rfl hap' ?_)
   go_roundg (L - (I+1))
   case measure=>omega
   case rel=>exact ⟨v1,_,I+1,rfl,by omega,rfl,by go_num,HO6,HB6,HN6,HD6⟩
  ·obtain rfl:I=L:=by omega
   have HP:Hid (FivePost ns w (.returned V) wr):=Lib.hid ⟨V,l,rfl,HO.out,HB.out,by rw [HN.out,← HL.out,List.take_length],HD.out⟩
   go_wp2
   go_ret
   exact HP.out
end Go.Proofs.YtbiaoohodjoojaaGreat
/- A small code? -/
namespace Go.Proofs.YtbiaoohodjoojaaGreat
open Go.RowKit Fld
set_option linter.unusedVariables false
set_option linter.unusedSimpArgs false

def FewPost (n k r:Int) (w:World) (e:Ending) (w':World):Prop:=∃ b,e=.returned (.bool b)∧w=w'∧(b=true↔n≤15∧k≤15∧r≤15)
set_option maxHeartbeats 1000000 in
theorem few_any (n k r:Int) (w:World) :
  Calls Tryz.prog 17 #[.int .i64 n,.int .i64 k,.int .i64 r] w (FewPost n k r w):=by
 by_cases h1:n≤15
 ·by_cases h2:k≤15
  ·by_cases h3:r≤15
   ·have HP:Hid (FewPost n k r w (.returned (.bool true)) w):=Lib.hid ⟨true,rfl,rfl,fun _=>⟨h1,h2,h3⟩,fun _=>rfl⟩
    go_enter Tryz.func17,Tryz.ntmps17
    go_wp2
    go_ret
    exact HP.out
   ·have HP:Hid (FewPost n k r w (.returned (.bool false)) w):=Lib.hid ⟨false,rfl,rfl,(fun h=>by cases h),fun h=>absurd h.2.2 h3⟩
    go_enter Tryz.func17,Tryz.ntmps17
    go_wp2
    go_ret
    exact HP.out
  ·have HP:Hid (FewPost n k r w (.returned (.bool false)) w):=Lib.hid ⟨false,rfl,rfl,(fun h=>by cases h),fun h=>absurd h.2.1 h2⟩
   go_enter Tryz.func17,Tryz.ntmps17
   go_wp2
   go_ret
   exact HP.out
 ·have HP:Hid (FewPost n k r w (.returned (.bool false)) w):=Lib.hid ⟨false,rfl,rfl,(fun h=>by cases h),fun h=>absurd h.1 h1⟩
  go_enter Tryz.func17,Tryz.ntmps17
  go_wp2
  go_ret
  exact HP.out
end Go.Proofs.YtbiaoohodjoojaaGreat
/- A word's symbols as shares. -/
namespace Go.Proofs.YtbiaoohodjoojaaGreat
open Go.RowKit Fld
set_option linter.unusedVariables false
set_option linter.unusedSimpArgs false

def RowsPost (ws:List GF) (w:World) (e:Ending) (w':World):Prop:=∃ v l,e=.returned v∧OwnR w' w.heap.size v l∧Below w.heap.size w w'∧l.map Ro.d=ws.map (fun x=>[x])∧∀ s ∈ l,GRd w' s.v s.d
set_option maxRecDepth 100000 in
set_option maxHeartbeats 4000000 in
theorem rows12_any (v:Value) (ws:List GF) (w:World) (h:GRd w v ws) (hl:ws.length≤1000) :
  Calls Tryz.prog 34 #[v] w (RowsPost ws w):=by
 obtain ⟨a,cap,rfl,hcap⟩:=h.form
 obtain ⟨L,hL⟩:∃ L,ws.length=L:=⟨_,rfl⟩
 have H:=Lib.hid h
 have HL:=Lib.hid hL
 rw [hL] at H hl hcap ⊢
 clear h hL
 go_enter Tryz.func34,Tryz.ntmps34
 go_wp2
 go_loopg [3,4] L (fun gk p i wr=>∃ (V:Value) (l:List Ro) (I:Nat),V=p∧I≤L∧gk=L - I∧i=.int .i64 I∧Hid (OwnR wr w.heap.size V l)∧Hid (Below w.heap.size w wr)∧Hid (l.map Ro.d=(ws.take I).map (fun x=>[x]))∧Hid (∀ s ∈ l,GRd w s.v s.d))
 case atStart=>exact ⟨_,[],0,rfl,by omega,rfl,rfl,Lib.hid (OwnR.nil _ _),Lib.hid (Below.refl _ _),Lib.hid rfl,Lib.hid (by simp)⟩
 case round =>
  obtain ⟨V,l,I,rfl,hI,rfl,rfl,HO,HB,HN,HD⟩:=hrel
  have hsr:=HB.out.size
  by_cases hlt:I < L
  ·obtain ⟨x,hx,hxd⟩:=at_get (l:=ws) (i:=I) (by rw [HL.out];exact hlt)
   obtain ⟨b,o,rfl,hb,c0⟩:=H.out.at hx
   have hll:l.length≤1000:=by
    have:=congrArg List.length HN.out
    simp at this
    omega
   have hrd:GRd w (.slice (some ⟨b,o+I,none⟩) 1 (cap - I)) [x]:=by
    refine ⟨fun y hy=>?_,some ⟨b,o+I,none⟩,cap - I,by simp,by simp;omega,fun _=>⟨b,o+I,rfl,hb,fun i hi=>?_⟩⟩
    ·simp at hy;rw [hy];exact x.lt
    ·simp at hi
     subst hi
     simpa using c0
   obtain ⟨v1,w6,hap,ho1,-,hb6,-⟩:=app_ro (W:=wr) (s:=⟨some ⟨b,o+I,none⟩,cap - I,[x]⟩) HO.out (by omega) hsr (ad:=wr.heap.size) rfl
   have HO6:=Lib.hid ho1
   have HB6:Hid (Below w.heap.size w w6):=Lib.hid (HB.out.trans hb6)
   have HN6:Hid ((l ++ [(⟨some ⟨b,o+I,none⟩,cap - I,[x]⟩:Ro)]).map Ro.d=(ws.take (I+1)).map (fun x=>[x])):=Lib.hid (by
    rw [List.take_add_one,hx,List.map_append,List.map_append,HN.out]
    rfl)
   have HD6:Hid (∀ s ∈ l ++ [(⟨some ⟨b,o+I,none⟩,cap - I,[x]⟩:Ro)],GRd w s.v s.d):=Lib.hid (fun s hs=>by
    rcases List.mem_append.1 hs with hs | hs
    ·exact HD.out s hs
    ·simp only [List.mem_singleton] at hs
     rw [hs]
     exact hrd)
   have hap':=hap
   simp only [show [x].length=1 from rfl] at hap'
   obtain ⟨E,hE⟩:∃ E,I+1=E:=⟨_,rfl⟩
   have e1:(I:Int)+1=(E:Int):=by omega
   have e2:IntKind.i64.wrap (E:Int)=(E:Int):=IntWalk.i64_in _ (by omega)
   have e3:E - I=1:=by omega
   have e4:I≤E:=by omega
   have e5:E≤cap:=by omega
   have e6:I < E:=by omega
   have e7:¬ E=I:=by omega
   have e8:¬ E≤I:=by omega
   have e9:(0:Int)≤(I:Int)∧(I:Int)≤(E:Int)∧(E:Int)≤(cap:Int):=by omega
   clear hx hxd ho1 hb6 hrd hap hE
   go_wp2_with (at_builtin;refine wpList_append rfl _ _ _ rfl rfl rfl hap' ?_)
   go_roundg (L - (I+1))
   case measure=>omega
   case rel=>exact ⟨v1,_,I+1,rfl,by omega,rfl,by go_num,HO6,HB6,HN6,HD6⟩
  ·obtain rfl:I=L:=by omega
   have HP:Hid (RowsPost ws w (.returned V) wr):=Lib.hid ⟨V,l,rfl,HO.out,HB.out,by rw [HN.out,← HL.out,List.take_length],fun s hs=>(HD.out s hs).below HB.out⟩
   go_wp2
   go_ret
   exact HP.out
end Go.Proofs.YtbiaoohodjoojaaGreat
/- The chapter's example: what its numbers are. -/
namespace Go.Proofs.YtbiaoohodjoojaaGreat
open Go.RowKit Fld
set_option linter.unusedVariables false
set_option linter.unusedSimpArgs false

theorem polyL_two (a b:GF):polyL 2 1 [a,b]=[a,b]:=by
 have h0:(polyL 2 1 [a,b]).length=2:=polyL_len _ _ _
 refine List.ext_getElem (by rw [h0];rfl) fun i h1 h2=>?_
 have g1:(polyL 2 1 [a,b])[i]=(polyL 2 1 [a,b]).getD i 0:=by rw [List.getD_eq_getElem?_getD,List.getElem?_eq_getElem h1];rfl
 have hi:i < 2:=by rw [← h0];exact h1
 have h3:=polyL_get (r:=2) (d:=1) (c:=0) (e:=i) [a,b] (by omega) hi
 simp only [Nat.zero_mul,Nat.zero_add] at h3
 refine g1.trans (h3.trans ?_)
 rw [List.getD_eq_getElem?_getD,List.getElem?_eq_getElem h2]
 rfl
theorem ev_const (a x:GF):ev [a,0] x=a:=by
 rw [show [a,(0:GF)]=padTo [a] 2 from rfl,padTo_ev]
 simp [ev,mzero,addz]
theorem wrS_const {xs ys:List GF} {ps:List Int} (a:GF) (h:∀ i,i < ps.length→ys.getD i 0=a) (hg:GoodP xs.length ps):(wrS xs ps ys [a,0]).length=0:=by
 rw [← wrR_wrS ys [a,0] hg]
 have hz:∀ p,inR ps (xs.map (ev [a,0])) ys p ps.length=[] ∨ xs.length≤p:=fun p=>by
  rcases Nat.lt_or_ge p xs.length with hp | hp
  ·left
   have:∀ i,i≤ps.length→inR ps (xs.map (ev [a,0])) ys p i=[]:=fun i=>by
    induction i with
    | zero=>intro _;rfl
    | succ i ih =>
     intro hi
     rw [inR_no (fun _=>?_),ih (by omega)]
     rw [h i (by omega),List.getD_eq_getElem?_getD,List.getElem?_map,List.getElem?_eq_getElem hp]
     exact ev_const a _
   exact this _ (Nat.le_refl _)
  ·exact .inr hp
 have:∀ n,n≤xs.length→wrR ps (xs.map (ev [a,0])) ys n=[]:=fun n=>by
  induction n with
  | zero=>intro _;rfl
  | succ n ih =>
   intro hn
   rw [wrR_succ,ih (by omega)]
   rcases hz n with h1 | h1
   ·rw [h1];rfl
   ·omega
 rw [this _ (Nat.le_refl _)]
 rfl
theorem tell_const {xs ys:List GF} {ps:List Int} (a:GF) (h:∀ i,i < ps.length→ys.getD i 0=a) (hg:GoodP xs.length ps) (hn:xs.Nodup) (hk:2≤ps.length) {o:Option (List GF)} (ho:LTell xs 2 1 ps ys 0 o):o=some [a,0]:=by
 refine LTell.one (by omega) hn hg (by simpa using hk) ho (show LTell xs 2 1 ps ys 0 (some [a,0]) from ⟨rfl,?_⟩)
 rw [polyL_two,wrS_const a h hg]
 exact Nat.le_refl _
theorem near_const {r t N:Nat} {xs:List GF} {l:List Sy} {b:GF} {c:Int} (h:NearIs r t N xs l b c) (hd:∀ s ∈ l,s.d=gl [5]) (hx:xs.length=N) (hn:xs.Nodup) (ht:t < N) (hg:SyGood N (t:Int) 1 l) (hr:1≤r) (hk:r≤(nearL r t l).length):b=⟨5,by omega⟩∧c=0:=by
 refine near_same hx hn h (.inr ⟨⟨ht,hg⟩,.inr ⟨hk,rfl,gl [5],⟨.inr (by decide),by rw [atL_len];show 1≤_;omega,fun j hj=>?_⟩,(ev_one1 _ _).symm⟩⟩)
 rw [atL_len] at hj
 rw [show gl [5]=[(⟨5,by omega⟩:GF)] from rfl,ev_one1]
 have hs:(nearL r t l)[j] ∈ l:=(nearL_sub r t l).mem (List.getElem_mem hj)
 have:=hd _ hs
 rw [ysL,List.getD_eq_getElem?_getD,List.getElem?_map,List.getElem?_eq_getElem hj]
 show _=(List.getD _ 0 0)
 rw [this]
 rfl
theorem near_few {r t N:Nat} {xs:List GF} {l:List Sy} {b:GF} {c:Int} (h:NearIs r t N xs l b c) (ht:t < N) (hg:SyGood N (t:Int) 1 l) (hk:(nearL r t l).length < r):b=0∧c=70:=by
 rcases h with ⟨h1,rfl,rfl⟩ | ⟨h1,⟨h2,rfl,rfl⟩ | ⟨h2,rfl,p,hp,rfl⟩⟩
 ·exact absurd ⟨ht,hg⟩ h1
 ·exact ⟨rfl,rfl⟩
 ·omega
end Go.Proofs.YtbiaoohodjoojaaGreat
