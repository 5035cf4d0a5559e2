/-
  A code whose nodes store as little as may be: what of it stands from the start; the row of a place; sums of products.
  A region whose forks are told as one.
  Parts of a row of bytes.
-/
import Derived.Test.YtnjbkfeihbcalaaGreatZPM
import Derived.Test.YtnjbkfeihbcalaaGreatZKit
import Derived.Test.YtnjbkfeihbcalaaGreatZPlains
import Derived.Test.YtnjbkfeihbcalaaGreatZRefsA
import Derived.Test.YtnjbkfeihbcalaaGreatZBase
import Derived.Control
import Derived.ControlIn
import Derived.Test.YtnjbkfeihbcalaaGreatZPlainM
/- A code whose nodes store as little as may be: what of it stands from the start; the row of a place; sums of products. -/
namespace Go.Proofs.YtnjbkfeihbcalaaGreat
open Go.RowKit Fld
set_option linter.unusedVariables false
set_option linter.unusedSimpArgs false

theorem slice_part (g p q n m C:Nat) (hn:0 < n) (hpq:p+n=q) (hq:q+m=C):∀ W:World,(Instr.slice 50 (.slice (some ⟨g,0,none⟩) C C) (some (.int .i64 (p:Nat))) (some (.int .i64 (q:Nat))) none).run Tryz.prog W=.ok (.slice (some ⟨g,p,none⟩) n (n+m)) W:=fun W=>by
 rw [run_slice_lh (P:=Tryz.prog) (w:=W) 50 (some ⟨g,0,none⟩) C C (by kernel_rfl) .i64 .i64 (p:Int) (q:Int) (by omega) (by omega) (by omega),u8_size]
 simp only [Result.andThen_ok,sliced,Int.toNat_natCast]
 rw [if_neg (by omega)]
 simp [Addr.add_lit]
 omega
structure MsB (w:World) (lb fb pb a N:Nat) (vl:Value):Prop where
 c0:w.cell? ⟨lb,0,none⟩=some (.pointer (some ⟨fb,0,none⟩))
 c5:w.cell? ⟨lb,5,none⟩=some (.int .i64 a)
 c9:w.cell? ⟨lb,9,none⟩=some (.slice (some ⟨pb,0,none⟩) (N * a) (N * a))
 c10:w.cell? ⟨lb,10,none⟩=some vl
 phi:View w pb (N * a) (flat a fun i c=>pw ((pows N).getD i 0) c)
 lam:GRd w vl ((pows N).map fun x=>pw x a)
 apl:Apart vl [fb]
 ok:FOk w fb
 lt:lb < w.heap.size∧lb ≠ fb∧pb ≠ fb
 nums:0 < a∧a≤16∧N≤300
theorem MsB.kp {S:List Nat} {w w':World} {lb fb pb a N:Nat} {vl:Value} (h:MsB w lb fb pb a N vl) (hk:Kp S w w') (h1:lb ∉ S) (h2:pb ∉ S) (h3:Apart vl S) (hf:FOk w' fb):MsB w' lb fb pb a N vl :=
 ⟨(hk.cell (p:=⟨lb,0,none⟩) h.lt.1 h1).trans h.c0,(hk.cell (p:=⟨lb,5,none⟩) h.lt.1 h1).trans h.c5,(hk.cell (p:=⟨lb,9,none⟩) h.lt.1 h1).trans h.c9,(hk.cell (p:=⟨lb,10,none⟩) h.lt.1 h1).trans h.c10,
  h.phi.kp hk h2,h.lam.kp hk h3,h.apl,hf,⟨by have:=hk.size;have:=h.lt.1;omega,h.lt.2⟩,h.nums⟩
theorem MsB.step {w w':World} {lb fb pb a N:Nat} {vl:Value} (h:MsB w lb fb pb a N vl) (hk:Kp [fb] w w') (hf:FOk w' fb):MsB w' lb fb pb a N vl :=
 h.kp hk (by simpa using h.lt.2.1) (by simpa using h.lt.2.2) h.apl hf
theorem MsB.below {w w':World} {lb fb pb a N:Nat} {vl:Value} (h:MsB w lb fb pb a N vl) (hb:Below w.heap.size w w'):MsB w' lb fb pb a N vl :=
 h.kp (Kp.of_below (S:=[]) hb) (by simp) (by simp) (fun k _ hm=>by cases hm) (h.ok.below hb)
theorem pows_at {N P:Nat} (h:P < N):(pows N)[P]? = some (GF.pown GF.two P):=by
 rw [pows,List.getElem?_map,List.getElem?_range h]
 rfl
theorem MsB.row {w:World} {lb fb pb a N:Nat} {vl:Value} (h:MsB w lb fb pb a N vl) {P:Nat} (hP:P < N):RowAt w pb (P * a) a (fun i=>pw (GF.pown GF.two P) i):=by
 have h1:=RowAt.of_view h.phi (o:=P * a) (n:=a) (by have:=Nat.mul_le_mul_right a (show P+1≤N by omega);rw [Nat.add_mul] at this;omega)
 refine ⟨h1.1,fun i hi=>?_⟩
 have:=h1.2 i hi
 rw [this]
 dsimp only
 rw [flat_at h.nums.1 _ _ _ hi]
 have e:(pows N).getD P 0=GF.pown GF.two P:=by rw [List.getD_eq_getElem?_getD,pows_at hP];rfl
 rw [e]
set_option maxRecDepth 100000 in
set_option maxHeartbeats 1000000 in
theorem msrow_any (lb fb pb a N P Pa:Nat) (vl:Value) (w:World) (hB:MsB w lb fb pb a N vl) (hP:P < N) (hPa:P * a=Pa) :
  Calls Tryz.prog 55 #[.pointer (some ⟨lb,0,none⟩),.int .i64 P] w fun e w'=>e=.returned (.slice (some ⟨pb,Pa,none⟩) a (N * a - Pa))∧Below w.heap.size w w':=by
 obtain ⟨ha0,ha1,hN⟩:=hB.nums
 obtain ⟨Q,hQ⟩:∃ Q,(P+1) * a=Q:=⟨_,rfl⟩
 obtain ⟨M,hM⟩:∃ M,N * a=M:=⟨_,rfl⟩
 have hPQ:Pa+a=Q:=by rw [← hQ,← hPa,Nat.add_mul,Nat.one_mul]
 have hQM:Q≤M:=by rw [← hQ,← hM];exact Nat.mul_le_mul_right a hP
 have hMb:M≤4800:=by rw [← hM];exact Nat.mul_le_mul hN ha1
 obtain ⟨m,hm⟩:∃ m,Q+m=M:=⟨M - Q,by omega⟩
 have hsl:=slice_part pb Pa Q a m M ha0 hPQ hm
 have hres:M - Pa=a+m:=by omega
 have c5:=hB.c5
 have c9:=hB.c9
 have hl:=hB.lt.1
 have x1:(P:Int) * (a:Int)=(Pa:Int):=by rw [← hPa];simp
 have x2:IntKind.i64.wrap (Pa:Int)=(Pa:Int):=IntWalk.i64_in _ (by omega)
 obtain ⟨P1,hP1⟩:∃ P1,P+1=P1:=⟨_,rfl⟩
 have x3:(P:Int)+1=(P1:Int):=by omega
 have x4:IntKind.i64.wrap (P1:Int)=(P1:Int):=IntWalk.i64_in _ (by omega)
 have x5:(P1:Int) * (a:Int)=(Q:Int):=by rw [← hQ,← hP1];simp
 have x6:IntKind.i64.wrap (Q:Int)=(Q:Int):=IntWalk.i64_in _ (by omega)
 rw [hM] at c9 ⊢
 rw [hres]
 clear hB hM hQ hPa hPQ hQM hm hres hP1
 go_enter Tryz.func55,Tryz.ntmps55
 go_upto_region 1 with fail
 have hgr:=fun (w0 W:World) (p:Addr) (hp:(fun k=>k < w.heap.size) p.block)=>graft_cell (w0:=w0) (keep:=(fun k=>k < w.heap.size)) W hp
 refine wp_region_tree (fun k=>k < w.heap.size) [] (.sq [0,1,2,3,4,5,6,7,8,9,10,11,12,13,14,15,16,17,18,19] .done) (by kernel_rfl) (by kernel_rfl) ?_
 simp only [Tr.sq,List.foldr_cons,List.foldr_nil,slimTr,slimStep,Oper.slim,List.contains_cons,List.contains_nil,Option.map_none,Option.map_some,List.getElem?_toArray,List.getElem?_cons_zero,List.getElem?_cons_succ,Option.bind_some,beq_self_eq_true,Bool.or_false,Nat.reduceBEq,Nat.reduceAdd,Nat.zero_add]
 repeat' first | ((with_reducible refine wpSlimT_id ?_);first | (with_reducible refine wpSlimT_done ?_) | ((with_reducible refine wpSlimT_step (fun K hK=>?_));go_simp;(refine hK _ _ ?_;clear hK K))) | fail
 clear hgr
 go_wp2
 go_ret
 exact ⟨rfl,(Below.refl _ _).drew⟩
end Go.Proofs.YtnjbkfeihbcalaaGreat
/- A region whose forks are told as one. -/
namespace Go.Proofs.YtnjbkfeihbcalaaGreat
open Go.RowKit
set_option linter.unusedVariables false

theorem wp_conseq {P:Program} {c:Code} {K K1:Act→World→Prop} {R:Exit→Act→World→Prop} {a:Act} {w:World} (h:c.wp P (Exit.then K1 R) a w) (hk:∀ a w,K1 a w→K a w):c.wp P (Exit.then K R) a w :=
 wp_mono h fun e a w h=>by
  cases e
  case normal=>exact hk _ _ h
  all_goals exact h
end Go.Proofs.YtnjbkfeihbcalaaGreat
/- Parts of a row of bytes. -/
namespace Go.Proofs.YtnjbkfeihbcalaaGreat
open Go.RowKit Fld
set_option linter.unusedVariables false
set_option linter.unusedSimpArgs false

theorem set3 {w:World} {sb:Nat} {a b c x y z:Value} {t:TypeId} (h:w.heap[sb]? = some (.cells #[a,b,c] t (0,0))):(((w.setCell ⟨sb,0,none⟩ x).setCell ⟨sb,1,none⟩ y).setCell ⟨sb,2,none⟩ z).heap[sb]? = some (.cells #[x,y,z] t (0,0)):=by
 have:=heap_set_same (heap_set_same (heap_set_same h 0 x) 1 y) 2 z
 simpa using this
theorem kp_set3 (w:World) (sb:Nat) (x y z:Value):Kp [sb] w (((w.setCell ⟨sb,0,none⟩ x).setCell ⟨sb,1,none⟩ y).setCell ⟨sb,2,none⟩ z) :=
 (((Kp.refl _ _).setCell (.inl (by simp)) _).setCell (.inl (by simp)) _).setCell (.inl (by simp)) _
theorem rowF_add (f:Nat→GF) (K:Nat):∀ E,rowF f (K+E)=rowF f K ++ rowF (fun e=>f (K+e)) E
 | 0=>by simp [rowF]
 | E+1=>by rw [← Nat.add_assoc,rowF_succ,rowF_succ,rowF_add f K E,List.append_assoc]
end Go.Proofs.YtnjbkfeihbcalaaGreat
