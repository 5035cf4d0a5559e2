/-
  The greatest common divisor; the first points; points of unlike powers.
  An append of a row of bytes to a row of one's own, and where it lies.
  A region that draws its order, whose last operations come up behind all others: one walk serves all orders of those ahead; the last ones may write what the others read.
  A code whose nodes store as little as may be: New.
-/
import Derived.Test.YtnjbkfeihbcalaaGreatZPtsG
import Derived.Test.YtnjbkfeihbcalaaGreatZKit
import Derived.Deep.LoopGhost
import Derived.Deep.DeepCutAuto
import Derived.Test.YtnjbkfeihbcalaaGreatZReg
import Derived.Test.YtnjbkfeihbcalaaGreatZPlainM
import Derived.Test.YtnjbkfeihbcalaaGreatZMsSto
import Derived.Test.YtnjbkfeihbcalaaGreatZMsInv
/- The greatest common divisor; the first points; points of unlike powers. -/
namespace Go.Proofs.YtnjbkfeihbcalaaGreat
open Go.RowKit Fld
set_option linter.unusedVariables false
set_option linter.unusedSimpArgs false

def GcdPost (a b:Nat) (w:World) (e:Ending) (w':World):Prop:=e=.returned (.int .i64 (Nat.gcd a b))∧Below w.heap.size w w'
set_option maxRecDepth 100000 in
set_option maxHeartbeats 1000000 in
theorem common_any (a b:Nat) (w:World) (ha:a≤1000) (hb:b≤1000) :
  Calls Tryz.prog 51 #[.int .i64 a,.int .i64 b] w (GcdPost a b w):=by
 go_enter Tryz.func51,Tryz.ntmps51
 go_wp2
 go_loopg [0,1] b (fun gk x y wr=>∃ A B:Nat,B=gk∧x=.int .i64 A∧y=.int .i64 B∧(A≤1000∧B≤1000)∧Hid (Nat.gcd A B=Nat.gcd a b)∧Hid (Below w.heap.size w wr))
 case atStart=>exact ⟨a,b,rfl,rfl,rfl,⟨ha,hb⟩,Lib.hid rfl,Lib.hid (Below.refl _ _)⟩
 case round =>
  obtain ⟨A,B,rfl,rfl,rfl,hAB,HG,HB⟩:=hrel
  by_cases h0:0 < B
  ·obtain ⟨M,hM⟩:∃ M,A % B=M:=⟨_,rfl⟩
   have hMl:M < B:=by rw [← hM];exact Nat.mod_lt _ h0
   have m1:Int.tmod (A:Int) (B:Int)=(M:Int):=by rw [← hM];exact (Int.ofNat_tmod A B).symm
   have m2:(A:Int) % (B:Int)=(M:Int):=by rw [← hM];rfl
   have m3:IntKind.i64.wrap (M:Int)=(M:Int):=IntWalk.i64_in _ (by omega)
   have n1:¬ B=0:=by omega
   have n2:¬ (B:Int)=0:=by omega
   have HG2:Hid (Nat.gcd B M=Nat.gcd a b):=Lib.hid (by rw [← HG.out,← hM,Nat.gcd_comm A B,Nat.gcd_rec B A,Nat.gcd_comm])
   have HB2:Hid (Below w.heap.size w wr.drew):=Lib.hid HB.out.drew
   clear hM HG HB
   go_wp2
   have hgr:=fun (w0 W:World) (p:Addr) (hp:(fun k=>k < wr.heap.size) p.block)=>graft_cell (w0:=w0) (keep:=(fun k=>k < wr.heap.size)) W hp
   refine wp_region_tree (fun k=>k < wr.heap.size) [] (.sq [0,1,2,3,4,5] .done) (by kernel_rfl) (by kernel_rfl) ?_
   simp only [Tr.sq,List.foldr_cons,List.foldr_nil,slimTr,slimStep,Oper.slim,List.contains_cons,List.contains_nil,Option.map_none,Option.map_some,List.getElem?_toArray,List.getElem?_cons_zero,List.getElem?_cons_succ,Option.bind_some,beq_self_eq_true,Bool.or_false,Nat.reduceBEq,Nat.reduceAdd,Nat.zero_add]
   repeat' first | ((with_reducible refine wpSlimT_id ?_);first | (with_reducible refine wpSlimT_done ?_) | ((with_reducible refine wpSlimT_step (fun K hK=>?_));go_simp;(refine hK _ _ ?_;clear hK K))) | fail
   clear hgr
   go_wp2
   go_roundg M
   case measure=>omega
   case rel=>exact ⟨B,M,rfl,rfl,rfl,by omega,HG2,HB2⟩
  ·have hz:B=0:=by omega
   have HG2:Hid (A=Nat.gcd a b):=Lib.hid (by rw [← HG.out,hz,Nat.gcd_zero_right])
   have m0:¬ (B:Int) > 0:=by omega
   clear HG hz
   go_wp2
   go_ret
   exact ⟨by rw [HG2.out];rfl,HB.out⟩
def OfPost (fb N:Nat) (w:World) (e:Ending) (w':World):Prop :=
 ∃ v,e=.returned (.tuple #[v,.int .i64 0])∧OwnG w' w.heap.size v (pows N)∧Kp [fb] w w'∧FOk w' fb
def CollPost (fb n:Nat) (w:World) (e:Ending) (w':World):Prop :=
 ∃ v,e=.returned v∧OwnG w' w.heap.size v (pows n)∧Kp [fb] w w'∧FOk w' fb
theorem gPow_pows (n:Nat):(List.range n).map (gPow 0 1)=pows n:=by
 unfold pows
 refine List.map_congr_left fun j _=>?_
 unfold gPow
 rw [Nat.zero_add,Nat.mul_one]
set_option maxRecDepth 100000 in
set_option maxHeartbeats 1000000 in
theorem collect_any (fb n:Nat) (lb:Array Value) (T:List Nat) (Sp:List Nat→Prop) (w:World) (hseq:SeqE fb Tryz.prog 75 lb (pEnc 0 1) T 4 (fun xs=>xs=List.range n) Sp (some n) w)
  (hfb:fb < w.heap.size) (hF:FOk w fb) (hT:∀ b ∈ T,b < w.heap.size∧b ≠ fb) (hn:n≤100000) :
  Calls Tryz.prog 68 #[.func (.func 75) #[] lb] w (CollPost fb n w):=by
 have HAP:=Lib.hid (appseq_any fb 0 1 n w.heap.size (.slice none 0 0) [] lb T Sp w hseq (OwnG.nil _ _) hfb (Nat.le_refl _) hF hT (fun b hb hm=>by simp [Value.ownBlock] at hb) ⟨by simp,hn⟩)
 clear hseq hF hT hn hfb
 go_enter Tryz.func68,Tryz.ntmps68
 go_wp2_with fail
 refine HAP.out.mono ?_
 rintro e w1 ⟨v,rfl,ho,hk,hf,-⟩
 rw [List.nil_append,gPow_pows] at ho
 have HO:=Lib.hid ho
 have HK:=Lib.hid hk
 have HF:=Lib.hid hf
 clear ho hk hf HAP
 go_wp2
 go_ret
 exact ⟨v,rfl,HO.out,HK.out.mono (by simp [Value.ownBlock]),HF.out⟩
set_option maxRecDepth 100000 in
set_option maxHeartbeats 1000000 in
theorem ofp_any (fb N:Nat) (w:World) (hF:FOk w fb) (h0:0 < N) (hN:N≤255) :
  Calls Tryz.prog 52 #[.pointer (some ⟨fb,0,none⟩),.int .i64 N] w (OfPost fb N w):=by
 have hfl:=hF.lt
 have HF:=Lib.hid hF
 have HP:=Lib.hid (ppowers_any fb 0 1 w)
 have n1:¬ (N:Int) < 0:=by omega
 have n2:¬ (N:Int) > 255:=by omega
 clear hF
 go_enter Tryz.func52,Tryz.ntmps52
 go_wp2_with fail
 refine HP.out.mono ?_
 rintro e w1 ⟨rfl,hb1,h1,h2,h3⟩
 have hs1:w.heap.size+1+1 < w1.heap.size:=lt_of_heap h3
 have HB1:=Lib.hid hb1
 have HX1:=Lib.hid (And.intro h1 (And.intro h2 h3))
 have HFI:=Lib.hid (first_any (.func 76) #[] #[.pointer (some ⟨w.heap.size+1,0,none⟩),.pointer (some ⟨w.heap.size,0,none⟩),.pointer (some ⟨w.heap.size+1+1,0,none⟩)] N w1)
 clear hb1 h1 h2 h3 HP
 go_wp2_with fail
 refine HFI.out.mono ?_
 rintro e w2 ⟨rfl,hb2,h4,h5⟩
 have hs2:w1.heap.size+1 < w2.heap.size:=lt_of_heap h5
 have hb02:Below w.heap.size w w2:=HB1.out.trans (hb2.mono (by omega))
 have hF2:=HF.out.below hb02
 have hsq:=first_seq (w1.heap.size+1) w1.heap.size w.heap.size (w.heap.size+1) (w.heap.size+1+1) fb 0 1 N w2 h5 h4 (keepB hb2 HX1.out.1) (keepB hb2 HX1.out.2.1) (keepB hb2 HX1.out.2.2) ⟨by omega,by omega,by omega⟩ hF2.lt (by omega) ⟨by omega,by omega⟩ ⟨by omega,by omega⟩
 have HCO:=Lib.hid (collect_any fb N _ _ _ w2 hsq hF2.lt hF2 (fun b hb=>by
  simp only [List.mem_cons,List.not_mem_nil,or_false] at hb
  rcases hb with rfl | rfl | rfl <;> omega) (by omega))
 have HB02:=Lib.hid hb02
 clear hb2 h4 h5 hb02 hF2 hsq HFI
 go_wp2_with fail
 refine HCO.out.mono ?_
 rintro e w3 ⟨v,rfl,ho3,hk3,hf3⟩
 have HO3:=Lib.hid (ho3.mono HB02.out.size)
 have HK3:Hid (Kp [fb] w w3):=Lib.hid ((Kp.of_below HB02.out).trans hk3)
 have HF3:=Lib.hid hf3
 clear ho3 hk3 hf3 HCO
 go_wp2
 go_ret2
 exact ⟨v,rfl,HO3.out,HK3.out,HF3.out⟩
def SprPost (fb N a:Nat) (w:World) (e:Ending) (w':World):Prop:=Kp [fb] w w'∧FOk w' fb∧((N≤255 / Nat.gcd a 255∧∃ v,e=.returned (.tuple #[v,.int .i64 0])∧OwnG w' w.heap.size v (pows N)) ∨ ¬ N≤255 / Nat.gcd a 255∧e=.returned (.tuple #[.slice none 0 0,.int .i64 2]))
set_option maxRecDepth 100000 in
set_option maxHeartbeats 1000000 in
theorem spread_any (fb N a:Nat) (w:World) (hF:FOk w fb) (h0:0 < N∧N≤1000) (ha:1≤a∧a≤255) :
  Calls Tryz.prog 28 #[.pointer (some ⟨fb,0,none⟩),.int .i64 N,.int .i64 a] w (SprPost fb N a w):=by
 have hfl:=hF.lt
 have HF:=Lib.hid hF
 have n1:¬ (a:Int) < 1:=by omega
 have n2:¬ (a:Int) > 255:=by omega
 obtain ⟨g,hg⟩:∃ g,Nat.gcd a 255=g:=⟨_,rfl⟩
 have hg0:0 < g:=by rw [← hg];exact Nat.gcd_pos_of_pos_left _ (by omega)
 obtain ⟨Q,hQ⟩:∃ Q,255 / g=Q:=⟨_,rfl⟩
 have hQl:Q≤255:=by rw [← hQ];exact Nat.div_le_self _ _
 have hgl:g≤255:=by rw [← hg];exact Nat.gcd_le_right _ (by omega)
 have q1:(255:Int).tdiv (g:Int)=(Q:Int):=by rw [← hQ];exact (Int.ofNat_tdiv 255 g).symm
 have q2:IntKind.i64.wrap (Q:Int)=(Q:Int):=IntWalk.i64_in _ (by omega)
 have q3:¬ (g:Int)=0:=by omega
 have HGC:Hid (GcdPost a 255 w=fun e w'=>e=.returned (.int .i64 g)∧Below w.heap.size w w'):=Lib.hid (by unfold GcdPost;rw [hg])
 have HCM:=Lib.hid (common_any a 255 w (by omega) (by omega))
 rw [HGC.out] at HCM
 have HEQ:Hid (255 / Nat.gcd a 255=Q):=Lib.hid (by rw [hg,hQ])
 clear hF hg hQ HGC
 by_cases hN:N≤Q
 ·have m1:¬ (N:Int) > (Q:Int):=by omega
  have HN:=Lib.hid hN
  clear hN
  go_enter Tryz.func28,Tryz.ntmps28
  go_wp2_with fail
  refine HCM.out.mono ?_
  rintro e w1 ⟨rfl,hb1⟩
  have HB1:=Lib.hid hb1
  have HOF:=Lib.hid (ofp_any fb N w1 (HF.out.below hb1) h0.1 (by have:=HN.out;omega))
  clear hb1 HCM
  go_wp2_with fail
  refine HOF.out.mono ?_
  rintro e w2 ⟨v,rfl,ho,hk,hf⟩
  have HO:=Lib.hid (ho.mono HB1.out.size)
  have HK:Hid (Kp [fb] w w2):=Lib.hid ((Kp.of_below HB1.out).trans hk)
  have HF2:=Lib.hid hf
  clear ho hk hf HOF
  go_wp2
  go_ret2
  exact ⟨HK.out,HF2.out,.inl ⟨by rw [HEQ.out];exact HN.out,v,rfl,HO.out⟩⟩
 ·have m1:(N:Int) > (Q:Int):=by omega
  have HN:=Lib.hid hN
  clear hN
  go_enter Tryz.func28,Tryz.ntmps28
  go_wp2_with fail
  refine HCM.out.mono ?_
  rintro e w1 ⟨rfl,hb1⟩
  have HB1:=Lib.hid hb1
  clear hb1 HCM
  go_wp2
  go_ret2
  exact ⟨Kp.of_below HB1.out,HF.out.below HB1.out,.inr ⟨by rw [HEQ.out];exact HN.out,rfl⟩⟩
end Go.Proofs.YtnjbkfeihbcalaaGreat
/- An append of a row of bytes to a row of one's own, and where it lies. -/
namespace Go.Proofs.YtnjbkfeihbcalaaGreat
open Go.RowKit Fld
set_option linter.unusedVariables false
set_option linter.unusedSimpArgs false

theorem app_rowsK {W:World} {base:Nat} {V:Value} {l m:List GF} {A:Addr} {n cap:Nat} (h:OwnG W base V l) (hs:GRd W (.slice (some A) n cap) m) (hl:l.length≤1000000) (hm:m.length≤1000000) (hb:base≤W.heap.size) :
  ∃ v1 w3,(Builtin.append_ #[50,50] 50 #[V,.slice (some A) n cap]).run Tryz.prog W=.ok v1 w3∧OwnG w3 base v1 (l ++ m)∧Kp V.ownBlock.toList W w3∧Below base W w3∧(v1.ownBlock=V.ownBlock ∨ v1.ownBlock=some W.heap.size):=by
 obtain ⟨i0,hi,hz0,hz1,hz2⟩:=info_parts u8_info
 have hn:n=m.length:=by
  obtain ⟨_,_,e,_⟩:=hs.form
  cases e
  rfl
 subst hn
 obtain ⟨v1,w3,hap,hown1,hgrow1,-,hat1⟩:=run_append_own_at (P:=Tryz.prog) (w:=W) base 50 50 5 i0 (.int .u8 0) 1 1 Tryz.underlying50 hi hz0 hz1 hz2 rfl (by decide) V l.length _ h A m.length cap (gv m) (by simp [gv]) (fun j u hj=>hs.news j u hj) gv_one (by unfold maxLen;omega) (by omega) hb
 refine ⟨v1,w3,hap,?_,(Kp.refl _ W).grown hgrow1 (fun b hb=>.inl (by rw [hb];simp)),(Below.refl base W).grown hgrow1 hb (fun b hb=>(h.lt b hb).1),hat1⟩
 unfold OwnG
 rw [gv_append,List.length_append]
 exact hown1
end Go.Proofs.YtnjbkfeihbcalaaGreat
/- A region that draws its order, whose last operations come up behind all others: one walk serves all orders of those ahead; the last ones may write what the others read. -/
set_option linter.unusedVariables false
namespace Go.Proofs.YtnjbkfeihbcalaaGreat

section
variable {P:Program} {ops:Array Oper} {md:Region.Mode} {S:World→Prop} {cs:List Nat}

def wpAnyB (P:Program) (md:Region.Mode) (ops:Array Oper) (S:World→Prop) (cs:List Nat) (B:Array Bool→Act→World→Prop):Nat→Array Bool→Act→World→Prop
 | 0,listed,a,w=>B listed a w
 | fuel+1,listed,a,w =>
  (Region.ready md ops listed ≠ []) ∧
  ∀ i ∈ Region.ready md ops listed,mixOp P ops S cs i (fun a' w'=>S w'∧wpAnyB P md ops S cs B fuel (listed.setIfInBounds i true) a' w') a w
theorem wpAny_of_B {B:Array Bool→Act→World→Prop} {Q':Exit→Act→World→Prop} {m:Nat} (hQ:∀ l a w,B l a w→wpAny P md ops Q' m l a w):∀ (fuel:Nat) (listed:Array Bool) (a:Act) (w:World),S w →
  wpAnyB P md ops S cs B fuel listed a w→wpAny P md ops Q' (m+fuel) listed a w
 | 0,_,_,_,_,h=>hQ _ _ _ h
 | fuel+1,_,_,_,hw,h=>⟨fun h0=>absurd h0 h.1,fun i hi=>wpOp_of_mixOp hw (fun a' w' hk=>wpAny_of_B hQ fuel _ a' w' hk.1 hk.2) (h.2 i hi)⟩
theorem wpAnyB_first {B:Array Bool→Act→World→Prop} {T:Nat→Bool} (hb:∀ l a w,B l a w→∀ j o,ops[j]? = some o→T j=false→l.getD j false=true) (hT:∀ t i o,T t=true→ops[i]? = some o→T i=false→reach md ops 8 t i=true) {i:Nat} {oi:Oper} {v:Value} (hi:ops[i]? = some oi) (hsel:∀ (j:Nat) (o:Oper) cs b,ops[j]? = some o→o.op ≠ .select cs b) :
  ∀ (fuel:Nat) (listed:Array Bool) (a:Act) (w:World),S w→Down md ops listed→T i=false →
   (∀ j oj,ops[j]? = some oj→j ≠ i→listed.getD j true=false→(∀ e ∈ oj.after,Region.binds md e=true→e.on ≠ i)→oi.apart ops oj=true) →
   i ∈ Region.ready md ops listed→(Region.wanted oi (yielded ops a.tmps)=false ∨ cs.contains i=false)→YieldsM P ops S oi v a →
   wpAnyB P md ops S cs B fuel (listed.setIfInBounds i true) (a.put oi.dst v) w→wpAnyB P md ops S cs B (fuel+1) listed a w:=by
 intro fuel
 induction fuel with
 | zero =>
  intro listed a w hS hD hTi _ hr hc hy H
  refine ⟨fun h=>(by rw [h] at hr;cases hr),fun j hj=>?_⟩
  by_cases hji:j=i
  ·subst hji;exact hy.mixOp hi hc ⟨hS,H⟩
  ·obtain ⟨_,oj,hoj,_⟩:=mem_ready.1 hj
   cases hTj:T j with
   | false =>
    have h1:=getD_of_ready (ready_mono hj hji)
    rw [hb _ _ _ H j oj hoj hTj] at h1
    cases h1
   | true=>exact absurd hj (not_ready_of_reach hD (hT j i oi hTj hi hTi) (getD_of_ready hr))
 | succ fuel ih =>
  intro listed a w hS hD hTi hfree hr hc hy H
  refine ⟨fun h=>(by rw [h] at hr;cases hr),fun j hj=>?_⟩
  by_cases hji:j=i
  ·subst hji;exact hy.mixOp hi hc ⟨hS,H⟩
  ·have h1:=H.2 j (ready_mono hj hji)
   obtain ⟨hjun,oj,hoj,hall⟩:=mem_ready.1 hj
   have hnot:∀ e ∈ oj.after,Region.binds md e=true→e.on ≠ i:=fun e he hb heq=>by
    have h1:=hall e he hb
    have h0:=(mem_ready.1 hr).1
    rw [heq] at h1
    rcases Nat.lt_or_ge i listed.size with h' | h'
    ·simp [h'] at h0 h1;rw [h0] at h1;cases h1
    ·simp [Array.getElem?_eq_none h'] at h1
   have hap:=hfree j oj hoj hji hjun hnot
   have h2:=mixOp_put hoj hap (fun cs b=>hsel i oi cs b hi) (fun cs b=>hsel j oj cs b hoj) hy h1
   have hfree':∀ k ok,ops[k]? = some ok→k ≠ i→(listed.setIfInBounds j true).getD k true=false →
     (∀ e ∈ ok.after,Region.binds md e=true→e.on ≠ i)→oi.apart ops ok=true:=fun k ok hk hki hun hno=>by
    refine hfree k ok hk hki ?_ hno
    by_cases hjk:j=k
    ·subst hjk;exact hjun
    ·rw [getD_set_ne true hjk] at hun;exact hun
   have hcj:∀ u,Region.wanted oi (yielded ops (a.put oj.dst u).tmps)=Region.wanted oi (yielded ops a.tmps):=fun u=>wanted_put oi a oj.dst u (Oper.apart_spec hap).2.2
   have hc2:mixOp P ops S cs j (fun a' w'=>(Region.wanted oi (yielded ops a'.tmps)=false ∨ cs.contains i=false)∧YieldsM P ops S oi v a'∧(S w'∧wpAnyB P md ops S cs B fuel ((listed.setIfInBounds i true).setIfInBounds j true) (a'.put oi.dst v) w')) a w:=by
    unfold mixOp at h2 ⊢
    simp only [hoj] at h2 ⊢
    split
    ·rename_i hw
     simp only [hw,if_true] at h2
     split
     ·rename_i hcc
      simp only [hcc,if_true] at h2
      exact chainUpon_mono (fun u w' hk=>⟨by rw [hcj];exact hc,hk⟩) h2
     ·rename_i hcc
      simp only [hcc] at h2
      obtain ⟨u,hu,hn⟩:=h2
      exact ⟨u,hu,by rw [hcj];exact hc,hn⟩
    ·rename_i hw
     simp only [hw] at h2
     exact ⟨by rw [hcj];exact hc,h2⟩
   refine mixOp_mono (fun a' w' h3=>⟨h3.2.2.1,ih (listed.setIfInBounds j true) a' w' h3.2.2.1 (hD.step hj) hTi hfree' (ready_mono hr (Ne.symm hji)) h3.1 h3.2.1 ?_⟩) hc2
   rw [Array.setIfInBounds_comm _ _ hji]
   exact h3.2.2.2

theorem wpAnyB_chain {B:Array Bool→Act→World→Prop} {T:Nat→Bool} (hb:∀ l a w,B l a w→∀ j o,ops[j]? = some o→T j=false→l.getD j false=true) (hT:∀ t i o,T t=true→ops[i]? = some o→T i=false→reach md ops 8 t i=true) {i f:Nat} {oi:Oper} (hi:ops[i]? = some oi) (hsel:∀ (j:Nat) (o:Oper) cs b,ops[j]? = some o→o.op ≠ .select cs b) :
  ∀ (fuel:Nat) (listed:Array Bool) (a:Act) (w:World),S w→Down md ops listed→T i=false →
   (∀ j oj,ops[j]? = some oj→j ≠ i→listed.getD j true=false→(∀ e ∈ oj.after,Region.binds md e=true→e.on ≠ i)→oi.apart ops oj=true) →
   (∀ j,cs.contains j=true→j ≠ i→listed.getD j false=true ∨ reach md ops f j i=true) →
   i ∈ Region.ready md ops listed→cs.contains i=true→Region.wanted oi (yielded ops a.tmps)=true →
   Chains P oi a w (fun v w'=>S w'∧wpAnyB P md ops S cs B fuel (listed.setIfInBounds i true) (a.put oi.dst v) w')→wpAnyB P md ops S cs B (fuel+1) listed a w:=by
 intro fuel
 induction fuel with
 | zero =>
  intro listed a w hS hD hTi _ _ hr hc hw H
  refine ⟨fun h=>(by rw [h] at hr;cases hr),fun j hj=>?_⟩
  by_cases hji:j=i
  ·subst hji
   unfold mixOp
   simp only [hi,hw,if_true,hc]
   exact H
  ·obtain ⟨v,w',_,h2⟩:=chainUpon_some H
   obtain ⟨_,oj,hoj,_⟩:=mem_ready.1 hj
   cases hTj:T j with
   | false =>
    have h1:=getD_of_ready (ready_mono hj hji)
    rw [hb _ _ _ h2 j oj hoj hTj] at h1
    cases h1
   | true=>exact absurd hj (not_ready_of_reach hD (hT j i oi hTj hi hTi) (getD_of_ready hr))
 | succ fuel ih =>
  intro listed a w hS hD hTi hfree hch hr hc hw H
  refine ⟨fun h=>(by rw [h] at hr;cases hr),fun j hj=>?_⟩
  by_cases hji:j=i
  ·subst hji
   unfold mixOp
   simp only [hi,hw,if_true,hc]
   exact H
  ·obtain ⟨hjun,oj,hoj,hall⟩:=mem_ready.1 hj
   have hiun:=getD_of_ready hr
   have hjc:cs.contains j=false:=by
    cases hcj:cs.contains j with
    | false=>rfl
    | true =>
     rcases hch j hcj hji with h | h
     ·have:=getD_of_ready hj
      rw [h] at this
      cases this
     ·exact absurd hj (not_ready_of_reach hD h hiun)
   have hnot:∀ e ∈ oj.after,Region.binds md e=true→e.on ≠ i:=fun e he hb heq=>by
    have h1:=hall e he hb
    rw [heq,hiun] at h1
    cases h1
   have hap:=hfree j oj hoj hji hjun hnot
   obtain ⟨h1,h2,h3⟩:=Oper.apart_spec hap
   have hselj:=fun cs b=>hsel j oj cs b hoj
   have hseli:=fun cs b=>hsel i oi cs b hi
   have hafter:∀ v w',(S w'∧wpAnyB P md ops S cs B (fuel+1) (listed.setIfInBounds i true) (a.put oi.dst v) w') →
     ∃ u,YieldsM P ops S oj u a∧S w'∧wpAnyB P md ops S cs B fuel ((listed.setIfInBounds i true).setIfInBounds j true) ((a.put oi.dst v).put oj.dst u) w':=by
    rintro v w' ⟨hS',hk⟩
    obtain ⟨u,hy,hk2⟩:=yieldsM_of_mixOp hoj (.inr hjc) (hk.2 j (ready_mono hj hji))
    exact ⟨u,hy.of_same (execOp_put oj hselj a oi.dst v h1).symm (wanted_put oj a oi.dst v h1).symm,hk2⟩
   obtain ⟨v0,w0,hk0⟩:=chainUpon_some H
   obtain ⟨u,hyu,hS0,_⟩:=hafter v0 w0 hk0
   refine hyu.mixOp hoj (.inr hjc) ⟨hS,ih (listed.setIfInBounds j true) (a.put oj.dst u) w hS (hD.step hj) hTi ?_ ?_ (ready_mono hr (Ne.symm hji)) hc ?_ ?_⟩
   ·intro k ok hk hki hun hno
    refine hfree k ok hk hki ?_ hno
    by_cases hjk:j=k
    ·subst hjk;exact hjun
    ·rw [getD_set_ne true hjk] at hun;exact hun
   ·intro k hk hki
    rcases hch k hk hki with h | h
    ·exact .inl (getD_set_true h)
    ·exact .inr h
   ·rw [wanted_put oi a oj.dst u h3];exact hw
   ·unfold Chains at *
    rw [execOp_put oi hseli a oj.dst u h3]
    refine chainUpon_mono (fun v w' hk=>?_) H
    obtain ⟨u',hy',hS',hk'⟩:=hafter v w' hk
    have hu:u'=u:=YieldsM.det hS' hy' hyu
    subst hu
    refine ⟨hS',?_⟩
    rw [Array.setIfInBounds_comm _ _ hji,← Act.put_comm a v u' h2]
    exact hk'


def Tr.ixs:Tr→List Nat
 | .step i r=>i :: r.ixs
 | _=>[]
def Tr.okB (md:Region.Mode) (ops:Array Oper) (cs ts:List Nat) (u:Tr):Tr→Array Bool→Bool
 | .done,l=>((List.range ops.size).all fun j=>ts.contains j || l.getD j false) && u.ok md ops cs l
 | .step i r,l=>(Region.ready md ops l).contains i && Region.free md ops l i && (!cs.contains i || cs.all fun j=>j == i || l.getD j false || reach md ops 8 j i) && !ts.contains i && Tr.okB md ops cs ts u r (l.setIfInBounds i true)
 | .fork i s j t,l=>(Region.ready md ops l) == [i,j] && s.len == t.len && Tr.okB md ops cs ts u s (l.setIfInBounds i true) && Tr.okB md ops cs ts u t (l.setIfInBounds j true)
 | .fork3 i s j t k v,l=>(Region.ready md ops l) == [i,j,k] && s.len == t.len && s.len == v.len && Tr.okB md ops cs ts u s (l.setIfInBounds i true) && Tr.okB md ops cs ts u t (l.setIfInBounds j true) && Tr.okB md ops cs ts u v (l.setIfInBounds k true)
theorem wpAnyB_tr {B:Array Bool→Act→World→Prop} {Q:Act→World→Prop} {ts:List Nat} {u:Tr} (hb:∀ l a w,B l a w→∀ j o,ops[j]? = some o→ts.contains j=false→l.getD j false=true) (hT:∀ t i o,ts.contains t=true→ops[i]? = some o→ts.contains i=false→reach md ops 8 t i=true)
  (hQB:∀ l a w,Down md ops l→((List.range ops.size).all fun j=>ts.contains j || l.getD j false)=true→u.ok md ops cs l=true→Q a w→B l a w) (hs:Region.noSelect ops=true):∀ (t:Tr) (listed:Array Bool) (a:Act) (w:World),S w→Down md ops listed →
  Tr.okB md ops cs ts u t listed=true→wpTr P ops S cs Q t a w→wpAnyB P md ops S cs B t.len listed a w
 | .done,listed,a,w,_,hD,hB,h=>by
  simp only [Tr.okB,Bool.and_eq_true] at hB
  exact hQB _ _ _ hD hB.1 hB.2 h
 | .fork i s j t,listed,a,w,hS,hD,hB,h=>by
  simp only [Tr.okB,Bool.and_eq_true,beq_iff_eq] at hB
  obtain ⟨⟨⟨hr,hl⟩,h1⟩,h2⟩:=hB
  have hi:i ∈ Region.ready md ops listed:=by rw [hr];simp
  have hj:j ∈ Region.ready md ops listed:=by rw [hr];simp
  refine ⟨fun h0=>(by rw [hr] at h0;cases h0),fun k hk=>?_⟩
  rw [hr] at hk
  simp only [List.mem_cons,List.not_mem_nil,or_false] at hk
  rcases hk with rfl | rfl
  ·exact mixOp_mono (fun a' w' hh=>⟨hh.1,wpAnyB_tr hb hT hQB hs s _ a' w' hh.1 (hD.step hi) h1 hh.2⟩) h.1
  ·exact mixOp_mono (fun a' w' hh=>⟨hh.1,by rw [hl];exact wpAnyB_tr hb hT hQB hs t _ a' w' hh.1 (hD.step hj) h2 hh.2⟩) h.2
 | .fork3 i s j t k v,listed,a,w,hS,hD,hB,h=>by
  simp only [Tr.okB,Bool.and_eq_true,beq_iff_eq] at hB
  obtain ⟨⟨⟨⟨⟨hr,hl⟩,hl2⟩,h1⟩,h2⟩,h3⟩:=hB
  have hi:i ∈ Region.ready md ops listed:=by rw [hr];simp
  have hj:j ∈ Region.ready md ops listed:=by rw [hr];simp
  have hk3:k ∈ Region.ready md ops listed:=by rw [hr];simp
  refine ⟨fun h0=>(by rw [hr] at h0;cases h0),fun q hq=>?_⟩
  rw [hr] at hq
  simp only [List.mem_cons,List.not_mem_nil,or_false] at hq
  rcases hq with rfl | rfl | rfl
  ·exact mixOp_mono (fun a' w' hh=>⟨hh.1,wpAnyB_tr hb hT hQB hs s _ a' w' hh.1 (hD.step hi) h1 hh.2⟩) h.1
  ·exact mixOp_mono (fun a' w' hh=>⟨hh.1,by rw [hl];exact wpAnyB_tr hb hT hQB hs t _ a' w' hh.1 (hD.step hj) h2 hh.2⟩) h.2.1
  ·exact mixOp_mono (fun a' w' hh=>⟨hh.1,by rw [hl2];exact wpAnyB_tr hb hT hQB hs v _ a' w' hh.1 (hD.step hk3) h3 hh.2⟩) h.2.2
 | .step k r,listed,a,w,hS,hD,hB,h=>by
  simp only [Tr.okB,Bool.and_eq_true,Bool.not_eq_true'] at hB
  obtain ⟨⟨⟨⟨hr,hf⟩,hc⟩,hTk⟩,hB'⟩:=hB
  have hr':k ∈ Region.ready md ops listed:=by simpa using hr
  obtain ⟨o,h0⟩:∃ o,ops[k]? = some o:=by
   obtain ⟨_,o,ho,_⟩:=mem_ready.1 hr'
   exact ⟨o,ho⟩
  have hgo:∀ a' w',S w'→wpTr P ops S cs Q r a' w'→wpAnyB P md ops S cs B r.len (listed.setIfInBounds k true) a' w':=fun a' w' hS' hh =>
   wpAnyB_tr hb hT hQB hs r _ a' w' hS' (hD.step hr') hB' hh
  simp only [wpTr] at h
  unfold mixOp at h
  simp only [h0] at h
  by_cases hw:Region.wanted o (yielded ops a.tmps)=true
  ·simp only [hw,if_true] at h
   by_cases hcs:cs.contains k=true
   ·simp only [hcs,if_true] at h
    refine wpAnyB_chain (f:=8) (T:=fun j=>ts.contains j) hb hT h0 (Region.noSelect_spec hs) r.len listed a w hS hD hTk (Region.free_spec h0 hf) (fun j hj hjk=>?_) hr' hcs hw (chainUpon_mono (fun v w' hk=>⟨hk.1,hgo _ _ hk.1 hk.2⟩) h)
    simp only [hcs,Bool.not_true,Bool.false_or,List.all_eq_true] at hc
    have:=hc j (by simpa using hj)
    simp only [Bool.or_eq_true,beq_iff_eq] at this
    rcases this with (h1 | h1) | h1
    ·exact absurd h1 hjk
    ·exact .inl h1
    ·exact .inr h1
   ·simp only [hcs] at h
    obtain ⟨v,h1,h2⟩:=h
    exact wpAnyB_first (T:=fun j=>ts.contains j) hb hT h0 (Region.noSelect_spec hs) r.len listed a w hS hD hTk (Region.free_spec h0 hf) hr' (.inr (by simpa using hcs)) (.inl ⟨hw,h1⟩) (hgo _ _ h2.1 h2.2)
  ·simp only [hw] at h
   exact wpAnyB_first (T:=fun j=>ts.contains j) hb hT h0 (Region.noSelect_spec hs) r.len listed a w hS hD hTk (Region.free_spec h0 hf) hr' (.inl (by simpa using hw)) (.inr ⟨by simpa using hw,rfl⟩) (hgo _ _ h.1 h.2)

def treeOk2 (l:List Oper) (cs:List Nat) (t u:Tr):Bool :=
 Region.noSelect l.toArray && (u.len+t.len == l.length) && (u.ixs.all fun x=>(List.range l.length).all fun i=>u.ixs.contains i || reach .any l.toArray 8 x i) && Tr.okB .any l.toArray cs u.ixs u t (Array.replicate l.length false)

theorem wp_region_tree2 {id:Nat} {Q:Exit→Act→World→Prop} {a:Act} {w:World} {l:List Oper} (keep:Nat→Prop) (cs:List Nat) (t u:Tr) (hm:P.follows .mixedOrders=true) (hB:treeOk2 l cs t u=true)
  (h:wpSlimT P w.drew keep (fun a' w'=>wpSlimT P w' (fun _=>False) (fun a2 w2=>Q .normal a2 w2) (slimTr l.toArray cs u) a' w') (slimTr l.toArray cs t) a w.drew):(Code.region id l.toArray true).wp P Q a w:=by
 simp only [treeOk2,Bool.and_eq_true,beq_iff_eq] at hB
 obtain ⟨⟨⟨hn,hl⟩,hr⟩,hch⟩:=hB
 have hT:∀ x i o,u.ixs.contains x=true→l.toArray[i]? = some o→u.ixs.contains i=false→reach .any l.toArray 8 x i=true:=fun x i o hx hi hni=>by
  have h1:=List.all_eq_true.1 hr x (by simpa using hx)
  have hil:i < l.length:=by
   rcases Nat.lt_or_ge i l.length with h2 | h2
   ·exact h2
   ·rw [Array.getElem?_eq_none (by simpa using h2)] at hi;cases hi
  have h2:=List.all_eq_true.1 h1 i (List.mem_range.2 hil)
  rw [hni,Bool.false_or] at h2
  exact h2
 have hmain:=wpAnyB_tr (P:=P) (S:=Cls w.drew keep) (cs:=cs) (md:=.any) (ops:=l.toArray) (u:=u) (ts:=u.ixs)
  (B:=fun l' a w=>(∀ j o,l.toArray[j]? = some o→u.ixs.contains j=false→l'.getD j false=true)∧wpAny P .any l.toArray Q u.len l' a w)
  (Q:=fun a' w'=>wpSlimT P w' (fun _=>False) (fun a2 w2=>Q .normal a2 w2) (slimTr l.toArray cs u) a' w')
  (fun l' a w hb=>hb.1) hT (fun l' a w hD hall hok hq=>⟨fun j o hj hjn=>by
   have hjl:j < l.toArray.size:=by
    rcases Nat.lt_or_ge j l.toArray.size with h2 | h2
    ·exact h2
    ·rw [Array.getElem?_eq_none h2] at hj;cases hj
   have h2:=List.all_eq_true.1 hall j (List.mem_range.2 hjl)
   rw [hjn,Bool.false_or] at h2
   exact h2,wpAny_of_mix (S:=Cls w (fun _=>False)) (cs:=cs) (Q:=fun a' w'=>Q .normal a' w') (fun _ _ h=>h) _ _ _ _ (Cls.refl _ _) (wpAnyM_tr hn u l' a w (Cls.refl _ _) hD hok (wpTr_of_slim u a w (Cls.refl _ _) hq))⟩) hn t (Array.replicate l.length false) a w.drew (Cls.refl _ _)
  (fun j o _ hl=>by simp [Array.getElem?_replicate] at hl;split at hl <;> simp at hl) hch (wpTr_of_slim t a w.drew (Cls.refl _ _) h)
 have:=wpAny_of_B (S:=Cls w.drew keep) (cs:=cs) (Q':=Q) (m:=u.len) (fun l' a w hb=>hb.2) _ _ _ _ (Cls.refl _ _) hmain
 rw [hl] at this
 refine wp_region_any hm ?_
 simpa using this
end
end Go.Proofs.YtnjbkfeihbcalaaGreat
/- A code whose nodes store as little as may be: New. -/
namespace Go.Proofs.YtnjbkfeihbcalaaGreat
open Go.RowKit Fld
set_option linter.unusedVariables false
set_option linter.unusedSimpArgs false

def MsX (a:Nat) (X:Nat→Nat→GF):Prop:=∀ x z:Nat→GF,(∀ i,i < 2 * hf a→sm (2 * hf a) (fun k=>msA a i k * x k)=z i)↔∀ k,k < 2 * hf a→x k=sm (2 * hf a) (fun l=>X k l * z l)
structure MsC (w:World) (lb fb pb gb n k d u a:Nat) (vx vl:Value) (X:Nat→Nat→GF):Prop where
 box:w.heap[lb]? = some (.cells #[.pointer (some ⟨fb,0,none⟩),.int .i64 n,.int .i64 k,.int .i64 d,.int .i64 u,.int .i64 a,vx,.int .i64 (n+u:Nat),.int .i64 a,.slice (some ⟨pb,0,none⟩) ((n+u) * a) ((n+u) * a),vl,.int .i64 (2 * hf a:Nat),.int .i64 (2 * hf a:Nat),.slice (some ⟨gb,0,none⟩) (2 * hf a * (2 * hf a)) (2 * hf a * (2 * hf a))] 78 (0,0))
 base:MsB w lb fb pb a (n+u) vl
 xs:GRd w vx (pows (n+u))
 apx:Apart vx [fb]
 first:View w gb (2 * hf a * (2 * hf a)) (flat (2 * hf a) X)
 gne:gb ≠ fb
 ok:MsOk n k d u a
 inv:MsX a X
def MsNewPost (fb:Nat) (n k d:Int) (w:World) (e:Ending) (w':World):Prop :=
 Kp [fb] w w'∧FOk w' fb∧((∃ N K D u a:Nat,n=(N:Int)∧k=(K:Int)∧d=(D:Int)∧∃ lb pb gb vx vl X,e=.returned (.tuple #[.pointer (some ⟨lb,0,none⟩),.int .i64 0])∧w.heap.size≤lb∧MsC w' lb fb pb gb N K D u a vx vl X) ∨
  (¬ ∃ N K D u a:Nat,n=(N:Int)∧k=(K:Int)∧d=(D:Int)∧MsOk N K D u a)∧e=.returned (.tuple #[.pointer none,.int .i64 2]))
theorem ms_big {k d q2 q e1 al:Int} (hk:1000 < k∧k≤9223372036854775807) (hd:-9223372036854775808≤d∧d≤254) (h1:IntKind.i64.wrap (2 * k)=q2) (h2:IntKind.i64.wrap (q2 - 2)=q) (h3:IntKind.i64.wrap (d - k)=e1) (h4:IntKind.i64.wrap (e1+1)=al) (h5:¬ d < q) (h6:¬ al > 16):al < 1:=by
 rw [IntKind.wrap_i64] at h1 h2 h3 h4
 omega
theorem spread_low (fb:Nat) (n a:Int) (w:World) (ha:a < 1) :
  Calls Tryz.prog 28 #[.pointer (some ⟨fb,0,none⟩),.int .i64 n,.int .i64 a] w fun e w'=>e=.returned (.tuple #[.slice none 0 0,.int .i64 2])∧w=w':=by
 go_enter Tryz.func28,Tryz.ntmps28
 go_wp2
 go_ret2
 exact ⟨rfl,rfl⟩
set_option maxRecDepth 100000 in
set_option maxHeartbeats 4000000 in
theorem msnew_low (fb:Nat) (n k d:Int) (w:World) (hF:FOk w fb) (hn:-9223372036854775808≤n∧n≤9223372036854775807) (hk:-9223372036854775808≤k∧k≤9223372036854775807) (hd:-9223372036854775808≤d∧d≤9223372036854775807)
  (hno:¬ (2≤k∧n≤255∧d < n∧2 * k≤d+2∧d+1≤k+16)) :
  Calls Tryz.prog 9 #[.pointer (some ⟨fb,0,none⟩),.int .i64 n,.int .i64 k,.int .i64 d] w fun e w'=>e=.returned (.tuple #[.pointer none,.int .i64 2])∧Kp [fb] w w'∧FOk w' fb:=by
 have HF:=Lib.hid hF
 clear hF
 by_cases h1:k < 2
 ·clear hno
  go_enter Tryz.func9,Tryz.ntmps9
  go_wp2
  go_ret2
  exact ⟨rfl,Kp.refl _ _,HF.out⟩
 by_cases h2:255 < n
 ·clear hno
  go_enter Tryz.func9,Tryz.ntmps9
  go_wp2
  go_ret2
  exact ⟨rfl,Kp.refl _ _,HF.out⟩
 by_cases h3:n≤d
 ·clear hno
  go_enter Tryz.func9,Tryz.ntmps9
  go_wp2
  go_ret2
  exact ⟨rfl,Kp.refl _ _,HF.out⟩
 obtain ⟨q2,hq2⟩:∃ q2,IntKind.i64.wrap (2 * k)=q2:=⟨_,rfl⟩
 obtain ⟨q,hq⟩:∃ q,IntKind.i64.wrap (q2 - 2)=q:=⟨_,rfl⟩
 obtain ⟨e1,he1⟩:∃ e1,IntKind.i64.wrap (d - k)=e1:=⟨_,rfl⟩
 obtain ⟨al,hal⟩:∃ al,IntKind.i64.wrap (e1+1)=al:=⟨_,rfl⟩
 by_cases h4:d < q
 ·clear hno
  go_enter Tryz.func9,Tryz.ntmps9
  go_wp2
  go_ret2
  exact ⟨rfl,Kp.refl _ _,HF.out⟩
 by_cases h5:al > 16
 ·clear hno
  go_enter Tryz.func9,Tryz.ntmps9
  go_wp2
  go_ret2
  exact ⟨rfl,Kp.refl _ _,HF.out⟩
 have hlow:al < 1:=by
  by_cases hkb:1000 < k
  ·exact ms_big ⟨hkb,hk.2⟩ ⟨hd.1,by omega⟩ hq2 hq he1 hal h4 h5
  ·rw [IntKind.wrap_i64] at hq2 hq he1 hal
   omega
 obtain ⟨q3,hq3⟩:∃ q3,IntKind.i64.wrap (d - q2)=q3:=⟨_,rfl⟩
 obtain ⟨u,hu⟩:∃ u,IntKind.i64.wrap (q3+2)=u:=⟨_,rfl⟩
 obtain ⟨nu,hnu⟩:∃ nu,IntKind.i64.wrap (n+u)=nu:=⟨_,rfl⟩
 clear hno
 obtain ⟨w1,hw1⟩:∃ w1,w1=w.alloc (.cells #[.pointer (some ⟨fb,0,none⟩),.int .i64 n,.int .i64 k,.int .i64 d,.int .i64 u,.int .i64 al,.slice none 0 0,.int .i64 0,.int .i64 0,.slice none 0 0,.slice none 0 0,.int .i64 0,.int .i64 0,.slice none 0 0] 78):=⟨_,rfl⟩
 have hb1:Below w.heap.size w w1:=by rw [hw1];exact (Below.refl _ _).alloc (Nat.le_refl _) _
 have d1:w1.heap[w.heap.size]? = some (.cells #[.pointer (some ⟨fb,0,none⟩),.int .i64 n,.int .i64 k,.int .i64 d,.int .i64 u,.int .i64 al,.slice none 0 0,.int .i64 0,.int .i64 0,.slice none 0 0,.slice none 0 0,.int .i64 0,.int .i64 0,.slice none 0 0] 78 (0,0)):=by rw [hw1];exact heap_newA _ _
 have c4:=cell_of_heap d1 (j:=4) rfl
 have c5:=cell_of_heap d1 (j:=5) rfl
 have hl1:=lt_of_heap d1
 have HSP:=Lib.hid (fun W=>spread_low fb nu al W hlow)
 have HB1:=Lib.hid hb1
 clear hb1 d1 hlow
 go_enter Tryz.func9,Tryz.ntmps9
 go_upto_region 4 with fail
 rw [← hw1]
 clear hw1
 have hgr:=fun (w0 W:World) (p:Addr) (hp:(fun k=>k < w1.heap.size) p.block)=>graft_cell (w0:=w0) (keep:=(fun k=>k < w1.heap.size)) W hp
 refine wp_region_tree (fun k=>k < w1.heap.size) [11] (.sq [0,1,2,3,4,5,6,7,8,9,10,11,12,13,14,15,16] .done) (by kernel_rfl) (by kernel_rfl) ?_
 simp only [Tr.sq,List.foldr_cons,List.foldr_nil,slimTr,slimStep,Oper.slim,List.contains_cons,List.contains_nil,Option.map_none,Option.map_some,List.getElem?_toArray,List.getElem?_cons_zero,List.getElem?_cons_succ,Option.bind_some,beq_self_eq_true,Bool.or_false,Nat.reduceBEq,Nat.reduceAdd,Nat.zero_add]
 repeat' first | ((with_reducible refine wpSlimT_id ?_);first | (with_reducible refine wpSlimT_done ?_) | ((with_reducible refine wpSlimT_step (fun K hK=>?_));go_simp;first | (refine hK _ _ ?_;clear hK K) | (refine ⟨by (intro kk hkk;first | (simp (disch:=(simp;omega)) only [hp_drew,hp_drewN,hp_alloc,hp_set];done) | (simp [hp_drew,hp_drewN,hp_alloc_if,hkk];done) | fail),hK _ _ ?_⟩;clear hK K) | (go_at_call 28;(with_reducible refine (HSP.out _).mono ?_);rintro e w2 ⟨rfl,hw2⟩;subst hw2;refine ⟨_,rfl,(fun kk hkk=>rfl),hK _ _ ?_⟩;clear hK K))) | fail
 clear hgr
 go_wp2
 go_ret2
 exact ⟨rfl,(Kp.of_below HB1.out).drew,HF.out.below HB1.out.drew⟩
set_option maxRecDepth 100000 in
set_option maxHeartbeats 4000000 in
theorem msnew_bad (fb N K D u a:Nat) (w:World) (hF:FOk w fb) (hk:2≤K) (hn:N≤255) (hd:D < N) (hu:D+2=2 * K+u) (ha:D+1=K+a) (h16:a≤16) (hg:¬ N+u≤255 / Nat.gcd a 255) :
  Calls Tryz.prog 9 #[.pointer (some ⟨fb,0,none⟩),.int .i64 N,.int .i64 K,.int .i64 D] w fun e w'=>e=.returned (.tuple #[.pointer none,.int .i64 2])∧Kp [fb] w w'∧FOk w' fb:=by
 have ha1:1≤a:=by omega
 have hu16:u≤255:=by omega
 obtain ⟨L,hL⟩:∃ L,N+u=L:=⟨_,rfl⟩
 obtain ⟨K2,hK2⟩:∃ K2,2 * K=K2:=⟨_,rfl⟩
 obtain ⟨K3,hK3⟩:∃ K3,K2 - 2=K3:=⟨_,rfl⟩
 obtain ⟨E,hE⟩:∃ E,D - K=E:=⟨_,rfl⟩
 have g1:¬ (K:Int) < 2:=by omega
 have g2:¬ (N:Int) > 255:=by omega
 have g3:¬ (D:Int) ≥ (N:Int):=by omega
 have n1:2 * (K:Int)=(K2:Int):=by omega
 have n2:IntKind.i64.wrap (K2:Int)=(K2:Int):=IntWalk.i64_in _ (by omega)
 have n3:(K2:Int) - 2=(K3:Int):=by omega
 have n4:IntKind.i64.wrap (K3:Int)=(K3:Int):=IntWalk.i64_in _ (by omega)
 have g4:¬ (D:Int) < (K3:Int):=by omega
 have n5:(D:Int) - (K:Int)=(E:Int):=by omega
 have n6:IntKind.i64.wrap (E:Int)=(E:Int):=IntWalk.i64_in _ (by omega)
 have n7:(E:Int)+1=(a:Int):=by omega
 have n8:IntKind.i64.wrap (a:Int)=(a:Int):=IntWalk.i64_in _ (by omega)
 have g5:¬ (a:Int) > 16:=by omega
 obtain ⟨z,hz⟩:∃ z,(D:Int) - (K2:Int)=z:=⟨_,rfl⟩
 have n9:IntKind.i64.wrap z=z:=IntWalk.i64_in _ (by omega)
 have n10:z+2=(u:Int):=by omega
 have n11:IntKind.i64.wrap (u:Int)=(u:Int):=IntWalk.i64_in _ (by omega)
 have n12:(N:Int)+(u:Int)=(L:Int):=by omega
 have n13:IntKind.i64.wrap (L:Int)=(L:Int):=IntWalk.i64_in _ (by omega)
 clear hK3
 have HF:=Lib.hid hF
 obtain ⟨w1,hw1⟩:∃ w1,w1=w.alloc (.cells #[.pointer (some ⟨fb,0,none⟩),.int .i64 N,.int .i64 K,.int .i64 D,.int .i64 u,.int .i64 a,.slice none 0 0,.int .i64 0,.int .i64 0,.slice none 0 0,.slice none 0 0,.int .i64 0,.int .i64 0,.slice none 0 0] 78):=⟨_,rfl⟩
 have hb1:Below w.heap.size w w1:=by rw [hw1];exact (Below.refl _ _).alloc (Nat.le_refl _) _
 have d1:w1.heap[w.heap.size]? = some (.cells #[.pointer (some ⟨fb,0,none⟩),.int .i64 N,.int .i64 K,.int .i64 D,.int .i64 u,.int .i64 a,.slice none 0 0,.int .i64 0,.int .i64 0,.slice none 0 0,.slice none 0 0,.int .i64 0,.int .i64 0,.slice none 0 0] 78 (0,0)):=by rw [hw1];exact heap_newA _ _
 have c4:=cell_of_heap d1 (j:=4) rfl
 have c5:=cell_of_heap d1 (j:=5) rfl
 have hl1:=lt_of_heap d1
 have HSP:Hid (∀ W,FOk W fb→Calls Tryz.prog 28 #[.pointer (some ⟨fb,0,none⟩),.int .i64 L,.int .i64 a] W fun e w'=>e=.returned (.tuple #[.slice none 0 0,.int .i64 2])∧Kp [fb] W w'∧FOk w' fb):=Lib.hid fun W hW =>
  (spread_any fb L a W hW (by omega) (by omega)).mono fun e w' ⟨h1,h2,h3⟩=>by
   rcases h3 with ⟨h4,-⟩ | ⟨-,h4⟩
   ·exact absurd (by rw [← hL] at h4;exact h4) hg
   ·exact ⟨h4,h1,h2⟩
 have HB1:=Lib.hid hb1
 have hfl:=hF.lt
 obtain ⟨kp,hkp⟩:∃ kp:Nat→Bool,∀ k,kp k=true↔k < w1.heap.size∧k ≠ fb:=⟨fun k=>decide (k < w1.heap.size∧k ≠ fb),by simp⟩
 have k1:kp w.heap.size=true:=(hkp _).2 ⟨hl1,by omega⟩
 have HKP:=Lib.hid hkp
 clear hb1 d1 hF hk hn hd hu ha hg hL hK2 hE hkp
 go_enter Tryz.func9,Tryz.ntmps9
 go_upto_region 4 with fail
 rw [← hw1]
 clear hw1
 have hgr:=fun (w0 W:World) (p:Addr) (hp:(fun k=>kp k=true) p.block)=>graft_cell (w0:=w0) (keep:=(fun k=>kp k=true)) W hp
 refine wp_region_tree (fun k=>kp k=true) [11] (.sq [0,1,2,3,4,5,6,7,8,9,10,11,12,13,14,15,16] .done) (by kernel_rfl) (by kernel_rfl) ?_
 simp only [Tr.sq,List.foldr_cons,List.foldr_nil,slimTr,slimStep,Oper.slim,List.contains_cons,List.contains_nil,Option.map_none,Option.map_some,List.getElem?_toArray,List.getElem?_cons_zero,List.getElem?_cons_succ,Option.bind_some,beq_self_eq_true,Bool.or_false,Nat.reduceBEq,Nat.reduceAdd,Nat.zero_add]
 repeat' first | ((with_reducible refine wpSlimT_id ?_);first | (with_reducible refine wpSlimT_done ?_) | ((with_reducible refine wpSlimT_step (fun K hK=>?_));go_simp;first | (refine hK _ _ ?_;clear hK K) | (refine ⟨by (intro kk hkk;first | (simp (disch:=(simp;omega)) only [hp_drew,hp_drewN,hp_alloc,hp_set];done) | (simp [hp_drew,hp_drewN,hp_alloc_if,hkk];done) | fail),hK _ _ ?_⟩;clear hK K) | (go_at_call 28;(with_reducible refine (HSP.out _ (HF.out.below HB1.out.drew)).mono ?_);rintro e w2 ⟨rfl,hk2,hf2⟩;have HK2:=Lib.hid hk2;have HF2:=Lib.hid hf2;clear hk2 hf2;refine ⟨_,rfl,(fun kk hkk=>HK2.out.block kk ((HKP.out kk).1 hkk).1 (by simpa using ((HKP.out kk).1 hkk).2)),hK _ _ ?_⟩;clear hK K))) | fail
 clear hgr
 go_wp2
 go_ret2
 exact ⟨rfl,((Kp.of_below HB1.out).drew).trans HK2.out,HF2.out⟩
end Go.Proofs.YtnjbkfeihbcalaaGreat
