/-
  The places at which codes are evaluated: the powers of the generator, one behind the other; the first ones of a row.
  The first ones of a row.
  An append whose run is known, in a round.
  Rows to which an iterator's members are appended.
-/
import Derived.Test.YtnjbkfeihbcalaaGreatZRanges
import Derived.Test.YtnjbkfeihbcalaaGreatZReduce
import Derived.Test.YtnjbkfeihbcalaaGreatZKit
import Derived.Test.YtnjbkfeihbcalaaGreatZMat
/- The places at which codes are evaluated: the powers of the generator, one behind the other; the first ones of a row. -/
namespace Go.Proofs.YtnjbkfeihbcalaaGreat
open Go.RowKit Fld
set_option linter.unusedVariables false
set_option linter.unusedSimpArgs false
attribute [local go_sem] Oper.semAt_some

def pEnc (fr st:Nat) (j:Nat):Array Value:=#[.int .u8 (((GF.pown GF.two (fr+j * st)).n:Nat):Int)]
set_option maxHeartbeats 1000000 in
theorem ppowers_any (fb:Nat) (fr st:Int) (w:World) :
  Calls Tryz.prog 62 #[.pointer (some ⟨fb,0,none⟩),.int .i64 fr,.int .i64 st] w fun e w'=>e=.returned (.func (.func 76) #[] #[.pointer (some ⟨w.heap.size+1,0,none⟩),.pointer (some ⟨w.heap.size,0,none⟩),.pointer (some ⟨w.heap.size+1+1,0,none⟩)]) ∧
   Below w.heap.size w w'∧w'.heap[w.heap.size]? = some (.cells #[.pointer (some ⟨fb,0,none⟩)] 30 (0,0))∧w'.heap[w.heap.size+1]? = some (.cells #[.int .i64 fr] 3 (0,0))∧w'.heap[w.heap.size+1+1]? = some (.cells #[.int .i64 st] 3 (0,0)):=by
 have hmf:∀ (fn:Fn) (first cap:Array Value) (w:World),(Instr.makeFunc fn first cap).run Tryz.prog w=.ok (.func fn first cap) w:=fun _ _ _ _=>rfl
 go_enter Tryz.func62,Tryz.ntmps62
 go_wp2
 go_ret
 refine ⟨rfl,by (repeat' (first | (with_reducible exact RowKit.Below.refl _ _) | (with_reducible assumption) | (with_reducible refine RowKit.Below.drew ?_) | (with_reducible refine RowKit.Below.alloc ?_ ?_ _) | omega | (simp;done) | (simp;omega))),?_,?_,?_⟩
 ·exact keepA (keepA (heap_newA _ _) _) _
 ·exact keepA (heap_newE _ _ _ (by simp)) _
 ·exact heap_newE _ _ _ (by simp)
set_option maxHeartbeats 1000000 in
theorem first_any (fn:Fn) (fi lb:Array Value) (n:Int) (w:World) :
  Calls Tryz.prog 61 #[.func fn fi lb,.int .i64 n] w fun e w'=>e=.returned (.func (.func 75) #[] #[.pointer (some ⟨w.heap.size+1,0,none⟩),.pointer (some ⟨w.heap.size,0,none⟩)]) ∧
   Below w.heap.size w w'∧w'.heap[w.heap.size]? = some (.cells #[.func fn fi lb] 125 (0,0))∧w'.heap[w.heap.size+1]? = some (.cells #[.int .i64 n] 3 (0,0)):=by
 have hmf:∀ (fn:Fn) (first cap:Array Value) (w:World),(Instr.makeFunc fn first cap).run Tryz.prog w=.ok (.func fn first cap) w:=fun _ _ _ _=>rfl
 go_enter Tryz.func61,Tryz.ntmps61
 go_wp2
 go_ret
 refine ⟨rfl,by (repeat' (first | (with_reducible exact RowKit.Below.refl _ _) | (with_reducible assumption) | (with_reducible refine RowKit.Below.drew ?_) | (with_reducible refine RowKit.Below.alloc ?_ ?_ _) | omega | (simp;done) | (simp;omega))),?_,?_⟩
 ·exact keepA (heap_newA _ _) _
 ·exact heap_newE _ _ _ (by simp)
set_option maxRecDepth 100000 in
set_option maxHeartbeats 2000000 in
theorem powers_seq (Bf Bi Bs fb fr st:Nat) (w0:World) (hf:w0.heap[Bf]? = some (.cells #[.pointer (some ⟨fb,0,none⟩)] 30 (0,0))) (hi:w0.heap[Bi]? = some (.cells #[.int .i64 fr] 3 (0,0))) (hs:w0.heap[Bs]? = some (.cells #[.int .i64 st] 3 (0,0)))
  (hne:fb ≠ Bf∧fb ≠ Bi∧fb ≠ Bs) (hst:0 < st) (hb:fr≤1000∧st≤1000) :
  SeqE fb Tryz.prog 76 #[.pointer (some ⟨Bi,0,none⟩),.pointer (some ⟨Bf,0,none⟩),.pointer (some ⟨Bs,0,none⟩)] (pEnc fr st) [Bi,Bf,Bs] 0 (fun _=>False) (fun pre=>pre=List.range pre.length) none w0:=by
 intro lv N J Jx W hW hJ hJx hOk hN1 hN2 hY h0
 obtain ⟨hNb,hNl⟩:=hN2 rfl
 have HBf:Hid (W.heap[Bf]? = some (.cells #[.pointer (some ⟨fb,0,none⟩)] 30 (0,0))):=Lib.hid (keepB hW hf)
 have HBi:Hid (W.heap[Bi]? = some (.cells #[.int .i64 fr] 3 (0,0))):=Lib.hid (keepB hW hi)
 have HBs:Hid (W.heap[Bs]? = some (.cells #[.int .i64 st] 3 (0,0))):=Lib.hid (keepB hW hs)
 refine callsIn_of_wp Tryz.func76 rfl trivial ?_ rfl
 simp only [Tryz.ntmps76,List.size_toArray,List.length_cons,List.length_nil,Nat.reduceAdd,Nat.reduceSub,Array.replicate_succ,Array.replicate_zero,List.push_toArray,List.append_toArray,List.nil_append,List.cons_append]
 have ci:W.cell? ⟨Bi,0,none⟩=some (.int .i64 fr):=cell_of_row _ _ _ _ _ (0,0) HBi.out
 have HJ0:=Lib.hid h0
 have HYY:=Lib.hid hY
 have HJJ:=Lib.hid hJ
 have HJX:=Lib.hid hJx
 have HOK:=Lib.hid hOk
 have HNL:=Lib.hid hNl
 have HNE:=Lib.hid hne
 clear hf hi hs hW h0 hJ hJx hY hOk hN1 hN2 hNl hne
 gi_wp2
 gi_loopw [5] (fun i wr=>∃ (j I:Nat),i=.int .i64 (I:Nat)∧I=fr+j * st∧Hid (J (List.range j) wr)∧Hid (wr.heap[Bf]? = some (.cells #[.pointer (some ⟨fb,0,none⟩)] 30 (0,0)))∧Hid (wr.heap[Bs]? = some (.cells #[.int .i64 st] 3 (0,0))))
  (fun i _=>(((fr+N * st:Nat):Int) - intOf i).toNat)
 case atStart=>exact ⟨0,fr,rfl,by simp,HJ0,HBf,HBs⟩
 case round =>
  obtain ⟨j,I,rfl,hI,HJ,HBf,HBs⟩:=hrel
  have hjN:j < N:=by simpa using HNL.out _ _ HJ.out
  have hjs:j * st+st≤N * st:=by
   have:=Nat.mul_le_mul_right st (show j+1≤N from hjN)
   rwa [Nat.add_mul,Nat.one_mul] at this
  have hNs:N * st≤1000000 * 1000:=Nat.mul_le_mul hNb hb.2
  have cf:wr.cell? ⟨Bf,0,none⟩=some (.pointer (some ⟨fb,0,none⟩)):=cell_of_row _ _ _ _ _ (0,0) HBf.out
  have hok:=HOK.out _ _ HJ.out
  have HSZ:=Lib.hid hok.2
  have HEX:=Lib.hid (fexp_any I fb wr hok.1 (by omega))
  have HI:=Lib.hid hI
  have HQ:Hid (fr+N * st≤2000000000∧I+st≤fr+N * st):=Lib.hid (by omega)
  clear ci hok hI hNs hjs
  gi_wp2_with fail
  refine ⟨trivial,(callsIn_wide.2 HEX.out).mono ?_⟩
  rintro e w1 ⟨rfl,hk1,hf1⟩
  have hst1:Stp fb W.heap.size 0 wr w1:=⟨hk1.mono (by simp),fun _=>hf1⟩
  have hJ1:=HJJ.out _ _ _ HJ.out hst1
  obtain ⟨fn,tmps,assign,body,hy,hR5⟩:=HYY.out (List.range j) j w1 hJ1 (by simp [List.range_succ]) (by simpa using hjN) (Nat.le_trans HSZ.out hk1.size)
  have HR5:=Lib.hid hR5
  have HBs1:Hid (w1.heap[Bs]? = some (.cells #[.int .i64 st] 3 (0,0))):=Lib.hid (hk1.heap HBs.out (by simp;exact fun e=>HNE.out.2.2 e.symm))
  have HBf1:Hid (w1.heap[Bf]? = some (.cells #[.pointer (some ⟨fb,0,none⟩)] 30 (0,0))):=Lib.hid (hk1.heap HBf.out (by simp;exact fun e=>HNE.out.1 e.symm))
  simp only [pEnc,← HI.out] at hy
  obtain ⟨y,hyy⟩:∃ y,(GF.pown GF.two I).n=y:=⟨_,rfl⟩
  rw [hyy] at hy ⊢
  clear hR5 hyy hk1 hf1 hst1 hJ1 cf
  gi_wp2
  refine HR5.out.mono ?_
  rintro e W3 ⟨hks,hsz,⟨rfl,hJ3⟩ | ⟨rfl,hJ3⟩⟩
  ·have HB3s:Hid (W3.heap[Bs]? = some (.cells #[.int .i64 st] 3 (0,0))):=Lib.hid ((hks Bs (by simp)).trans HBs1.out)
   have HB3f:Hid (W3.heap[Bf]? = some (.cells #[.pointer (some ⟨fb,0,none⟩)] 30 (0,0))):=Lib.hid ((hks Bf (by simp)).trans HBf1.out)
   have HJ3:Hid (J (List.range (j+1)) W3):=Lib.hid (by rw [List.range_succ];exact hJ3)
   have cs:W3.cell? ⟨Bs,0,none⟩=some (.int .i64 st):=cell_of_row _ _ _ _ _ (0,0) HB3s.out
   obtain ⟨I2,hI2⟩:∃ I2,I+st=I2:=⟨_,rfl⟩
   have HI2:=Lib.hid hI2
   have x1:(I:Int)+(st:Int)=(I2:Int):=by omega
   have x2:IntKind.i64.wrap (I2:Int)=(I2:Int):=IntWalk.i64_in _ (by have:=HQ.out;omega)
   clear hJ3 hks hsz hI2
   gi_wp2
   go_roundw
   case rel=>exact ⟨j+1,I2,rfl,by rw [← HI2.out,HI.out,Nat.add_mul];omega,HJ3,HB3f,HB3s⟩
   case measure=>have:=HQ.out;have:=HI2.out;simp [intOf] <;> omega
  ·have HX:Hid (Jx (List.range (j+1)) W3):=Lib.hid (by rw [List.range_succ];exact hJ3)
   clear hJ3 hks hsz
   gi_wp2
   go_end0
   exact ⟨⟨_,rfl⟩,.inr ⟨List.range (j+1),by simp,HX.out⟩⟩
end Go.Proofs.YtnjbkfeihbcalaaGreat
/- The first ones of a row. -/
namespace Go.Proofs.YtnjbkfeihbcalaaGreat
open Go.RowKit Fld
set_option linter.unusedVariables false
set_option linter.unusedSimpArgs false
attribute [local go_sem] Oper.semAt_some

structure FirI (fb lv N B:Nat) (J:List Nat→World→Prop) (pre:List Nat) (A:World):Prop where
 j:J pre A
 ok:FOk A fb
 len:pre.length < N
 yb:A.heap[B]? = some (.cells #[.func (.yield lv) #[] #[]] 142 (0,0))
 lb:A.heap[B+1]? = some (.cells #[.int .i64 ((N - pre.length:Nat):Int)] 3 (0,0))
set_option maxRecDepth 100000 in
set_option maxHeartbeats 2000000 in
theorem first_seq (Bn Bl Bf Bi Bs fb fr st n:Nat) (w0:World) (hbn:w0.heap[Bn]? = some (.cells #[.int .i64 n] 3 (0,0))) (hbl:w0.heap[Bl]? = some (.cells #[.func (.func 76) #[] #[.pointer (some ⟨Bi,0,none⟩),.pointer (some ⟨Bf,0,none⟩),.pointer (some ⟨Bs,0,none⟩)]] 125 (0,0)))
  (hf:w0.heap[Bf]? = some (.cells #[.pointer (some ⟨fb,0,none⟩)] 30 (0,0))) (hi:w0.heap[Bi]? = some (.cells #[.int .i64 fr] 3 (0,0))) (hs:w0.heap[Bs]? = some (.cells #[.int .i64 st] 3 (0,0)))
  (hne:fb ≠ Bf∧fb ≠ Bi∧fb ≠ Bs) (hfb:fb < w0.heap.size) (hst:0 < st) (hb:fr≤1000∧st≤1000) (hn:0 < n∧n≤1000000) :
  SeqE fb Tryz.prog 75 #[.pointer (some ⟨Bn,0,none⟩),.pointer (some ⟨Bl,0,none⟩)] (pEnc fr st) [Bi,Bf,Bs] 4 (fun xs=>xs=List.range n) (fun _=>True) (some n) w0:=by
 intro lv N J Jx W hW hJ hJx hOk hN1 hN2 hY h0
 obtain rfl:N=n:=hN1 n rfl
 have HBn:Hid (W.heap[Bn]? = some (.cells #[.int .i64 N] 3 (0,0))):=Lib.hid (keepB hW hbn)
 have HBl:Hid (W.heap[Bl]? = some (.cells #[.func (.func 76) #[] #[.pointer (some ⟨Bi,0,none⟩),.pointer (some ⟨Bf,0,none⟩),.pointer (some ⟨Bs,0,none⟩)]] 125 (0,0))):=Lib.hid (keepB hW hbl)
 have hfw:fb < W.heap.size:=Nat.lt_of_lt_of_le hfb hW.size
 have c1:=cell_of_heap HBn.out (j:=0) rfl
 have c2:=cell_of_heap HBl.out (j:=0) rfl
 have g1:=lt_of_heap HBn.out
 have g2:=lt_of_heap HBl.out
 have HW:=Lib.hid hW
 have HJ0:=Lib.hid h0
 have HYY:=Lib.hid hY
 have HJJ:=Lib.hid hJ
 have HJX:=Lib.hid hJx
 have HOK:=Lib.hid hOk
 have HN:=Lib.hid hn
 have hn0:¬ (N:Int)≤0:=by omega
 clear hbn hbl hW h0 hJ hJx hY hOk hN1 hN2
 refine callsIn_wide.2 (calls_of_marks Tryz.func75 rfl ?_)
 simp only [Tryz.ntmps75,List.size_toArray,List.length_cons,List.length_nil,Nat.reduceAdd,Nat.reduceSub,Array.replicate_succ,Array.replicate_zero,List.push_toArray,List.append_toArray,List.nil_append,List.cons_append]
 go_wp2
 obtain ⟨w2,hw2⟩:∃ w2,w2=(W.alloc (.cells #[.func (.yield lv) #[] #[]] 142)).alloc (.cells #[.int .i64 (N:Nat)] 3):=⟨_,rfl⟩
 have hs2:w2.heap.size=W.heap.size+1+1:=by rw [hw2];simp
 have hb2:Below W.heap.size W w2:=by rw [hw2];(repeat' (first | (with_reducible exact RowKit.Below.refl _ _) | (with_reducible assumption) | (with_reducible refine RowKit.Below.drew ?_) | (with_reducible refine RowKit.Below.alloc ?_ ?_ _) | omega | (simp;done) | (simp;omega)))
 have hy2:w2.heap[W.heap.size]? = some (.cells #[.func (.yield lv) #[] #[]] 142 (0,0)):=by rw [hw2];exact keepA (heap_newA _ _) _
 have hl2:w2.heap[W.heap.size+1]? = some (.cells #[.int .i64 (N:Nat)] 3 (0,0)):=by rw [hw2];exact heap_newE _ _ _ (by simp)
 have hst2:Stp fb W.heap.size 4 W w2:=by rw [hw2];exact (Stp.alloc _ _ hfw).trans (Stp.alloc _ _ (by simp;omega))
 have HJ2:Hid (J [] w2):=Lib.hid (HJJ.out _ _ _ HJ0.out hst2)
 rw [← hw2]
 clear c1 c2 g1 g2 hn0
 have HI2:Hid (FirI fb lv N W.heap.size J [] w2):=Lib.hid ⟨HJ2.out,(HOK.out _ _ HJ2.out).1,HN.out.1,hy2,by simpa using hl2⟩
 have hT:∀ b ∈ [Bi,Bf,Bs],b < W.heap.size:=fun b hb=>by
  have h1:=HW.out.size
  have h2:=lt_of_heap hf
  have h3:=lt_of_heap hi
  have h4:=lt_of_heap hs
  simp only [List.mem_cons,List.not_mem_nil,or_false] at hb
  rcases hb with rfl | rfl | rfl <;> omega
 have HT:=Lib.hid hT
 clear hy2 hl2 hst2 hw2 hT
 refine wp_range_E (gf:=76) (lb:=#[.pointer (some ⟨Bi,0,none⟩),.pointer (some ⟨Bf,0,none⟩),.pointer (some ⟨Bs,0,none⟩)]) (by kernel_rfl) (enters_of Tryz.func76 (by kernel_rfl) rfl)
  (powers_seq Bf Bi Bs fb fr st w0 hf hi hs hne hst hb) (HW.out.trans (hb2.mono HW.out.size)) (fun _=>rfl) (by omega) N (fun n h=>by cases h)
  (FirI fb lv N W.heap.size J) (fun pre A=>pre.length=N∧J pre A ∨ Jx pre A)
  (fun pre A A' h hst=>by
   have hn:∀ b,b < w2.heap.size→b ≠ fb→b < A.heap.size→A'.heap[b]? = A.heap[b]?:=fun b h1 h2 h3=>hst.kp.block b h3 (not_own h2 (.inl h1))
   refine ⟨HJJ.out _ _ _ h.j (hst.wider (by omega) (by omega)),hst.ok h.ok,h.len,(hn _ (by omega) (by omega) (lt_of_heap h.yb)).trans h.yb,(hn _ (by omega) (by omega) (lt_of_heap h.lb)).trans h.lb⟩)
  (fun pre A A' h hst=>h.elim (fun h=>.inl ⟨h.1,HJJ.out _ _ _ h.2 (hst.wider (by omega) (by omega))⟩) (fun h=>.inr (HJX.out _ _ _ h (hst.wider (by omega) (by omega)))))
  (fun pre A h=>h.ok) HI2.out (fun _=>⟨HN.out.2,fun pre A h=>h.len⟩) (fun b hb=>by have:=HT.out b hb;omega)
  (fun j=>{ tmps:=#[.func (.yield lv) #[] #[],.pointer (some ⟨Bn,0,none⟩),.pointer (some ⟨Bl,0,none⟩),.pointer (some ⟨W.heap.size,0,none⟩),.pointer (some ⟨W.heap.size+1,0,none⟩),undef,.int .i64 (N:Nat),.int .i64 (N:Nat),.bool false,.func (.func 76) #[] #[.pointer (some ⟨Bi,0,none⟩),.pointer (some ⟨Bf,0,none⟩),.pointer (some ⟨Bs,0,none⟩)],.int .u8 (((GF.pown GF.two (fr+j * st)).n:Nat):Int),undef,undef,undef,undef,undef,undef,undef,undef,undef,undef],defers:=[] })
  (fun j=>{ tmps:=#[.func (.yield lv) #[] #[],.pointer (some ⟨Bn,0,none⟩),.pointer (some ⟨Bl,0,none⟩),.pointer (some ⟨W.heap.size,0,none⟩),.pointer (some ⟨W.heap.size+1,0,none⟩),.int .u8 (((GF.pown GF.two (fr+j * st)).n:Nat):Int),.int .i64 (N:Nat),.int .i64 (N:Nat),.bool false,.func (.func 76) #[] #[.pointer (some ⟨Bi,0,none⟩),.pointer (some ⟨Bf,0,none⟩),.pointer (some ⟨Bs,0,none⟩)],.int .u8 (((GF.pown GF.two (fr+j * st)).n:Nat):Int),undef,undef,undef,undef,undef,undef,undef,undef,undef,undef],defers:=[] })
  (fun x=>by kernel_rfl) ?assign ?body ?done ?stop
 case assign =>
  intro l x W1 K hK
  gi_wp2
  exact hK
 case body =>
  intro l pre j W1 hI hsp0 hlen hsz
  clear hsp0
  have HI:=Lib.hid hI
  obtain ⟨L,hL⟩:∃ L,N - pre.length=L+1:=⟨N - pre.length - 1,by have:=hI.len;omega⟩
  have hlb:=hI.lb
  rw [hL] at hlb
  have y1:=cell_of_heap hlb (j:=0) rfl
  have z1:=free_of_heap hlb 0
  have q1:=lt_of_heap hlb
  have y2:=cell_of_heap hI.yb (j:=0) rfl
  have x1:(((L+1:Nat):Int)) - 1=(L:Int):=by omega
  have x2:IntKind.i64.wrap (L:Int)=(L:Int):=IntWalk.i64_in _ (by have:=HN.out.2;omega)
  have hk3:Kp [W.heap.size+1] W1 (W1.setCell ⟨W.heap.size+1,0,none⟩ (.int .i64 (L:Nat))):=(Kp.refl _ _).setCell (.inl (by simp)) _
  have hst3:Stp fb W.heap.size 4 W1 (W1.setCell ⟨W.heap.size+1,0,none⟩ (.int .i64 (L:Nat))):=Stp.of_kp hk3 (fun x hx=>by obtain rfl:=List.mem_singleton.1 hx;omega) hfw
  have hl3:=heap_set_same hlb 0 (.int .i64 (L:Nat))
  have hyb3:=hk3.heap hI.yb (by simp)
  have hJ3:=HJJ.out _ _ _ hI.j hst3
  have hs3:=hk3.size
  obtain ⟨fn,tmps,assign,body,hy,hR5⟩:=yieldAt_any (n:=3) (HYY.out pre j _ hJ3 trivial hlen (by omega))
  have HR5:=Lib.hid hR5
  have HL:=Lib.hid hL
  have HK3:=Lib.hid hk3
  obtain ⟨w3,hw3⟩:∃ w3,w3=W1.setCell ⟨W.heap.size+1,0,none⟩ (.int .i64 (L:Nat)):=⟨_,rfl⟩
  simp only [pEnc] at hy
  obtain ⟨y,hyy⟩:∃ y,(GF.pown GF.two (fr+j * st)).n=y:=⟨_,rfl⟩
  rw [hyy] at hy ⊢
  clear hI hL hk3 hst3 hJ3 hR5 hyy hlb
  rw [← hw3] at HR5 HK3
  have HSUB:Hid (KS ([Bi,Bf,Bs] ++ List.range' w2.heap.size (0+2)) W1 w3∧W1.heap.size≤w3.heap.size):=Lib.hid ⟨fun b hb=>HK3.out.block b (by
   rcases List.mem_append.1 hb with h | h
   ·have:=HT.out b h;omega
   ·have:=(List.mem_range'_1.1 h).2;omega) (by
   simp only [List.mem_singleton]
   rcases List.mem_append.1 hb with h | h
   ·have:=HT.out b h;omega
   ·have:=(List.mem_range'_1.1 h).1;omega),HK3.out.size⟩
  have HLB3:Hid (w3.heap[W.heap.size+1]? = some (.cells #[.int .i64 (L:Nat)] 3 (0,0))):=Lib.hid (by rw [hw3];simpa using hl3)
  have HYB3:Hid (w3.heap[W.heap.size]? = some (.cells #[.func (.yield lv) #[] #[]] 142 (0,0))):=Lib.hid (by rw [hw3];exact hyb3)
  have HM:∀ b,b ∈ [Bi,Bf,Bs] ++ List.range' w2.heap.size (0+2)→b ∈ [Bi,Bf,Bs] ++ List.range' W.heap.size 4:=fun b hb=>by
   rcases List.mem_append.1 hb with h | h
   ·exact List.mem_append_left _ h
   ·exact List.mem_append_right _ (List.mem_range'_1.2 (by have:=List.mem_range'_1.1 h;omega))
  have HM:=Lib.hid HM
  rw [hw3] at HSUB HLB3 HYB3 HR5
  clear hw3 hl3 hyb3 HK3
  gi_wp2
  refine RoundIn.mono (F:=Fence.wide.inRound l) HR5.out ?_
  rintro e w4 ⟨hks,hsz4,⟨rfl,hJ4⟩ | ⟨rfl,hJ4⟩⟩
  ·have HKS:Hid (KS ([Bi,Bf,Bs] ++ List.range' w2.heap.size (0+2)) W1 w4∧W1.heap.size≤w4.heap.size):=Lib.hid ⟨fun b hb=>(hks b (HM.out b hb)).trans (HSUB.out.1 b hb),Nat.le_trans HSUB.out.2 hsz4⟩
   have hl4:=(hks (W.heap.size+1) (List.mem_append_right _ (List.mem_range'_1.2 (by omega)))).trans HLB3.out
   have hy4:=(hks W.heap.size (List.mem_append_right _ (List.mem_range'_1.2 (by omega)))).trans HYB3.out
   have y4:=cell_of_heap hl4 (j:=0) rfl
   by_cases hL0:L=0
   ·have HFIN:Hid ((pre ++ [j]).length=N∧J (pre ++ [j]) w4 ∨ Jx (pre ++ [j]) w4):=Lib.hid (.inl ⟨by have:=HL.out;simp;omega,hJ4⟩)
    rw [hL0] at y4
    clear hJ4 hks hsz4 hl4 hy4
    gi_wp2
    have hk:=HKS.out
    rw [hs2] at hk
    exact ⟨hk.1,hk.2,by first | exact HFIN.out | simpa using HFIN.out⟩
   ·have HFIN:Hid (FirI fb lv N W.heap.size J (pre ++ [j]) w4):=Lib.hid ⟨hJ4,(HOK.out _ _ hJ4).1,by have:=HL.out;simp;omega,hy4,by
     have e:N - (pre ++ [j]).length=L:=by have:=HL.out;simp;omega
     rw [e];exact hl4⟩
    have hL0':¬ (L:Int)=0:=by omega
    clear hJ4 hks hsz4 hl4 hy4
    gi_wp2
    have hk:=HKS.out
    rw [hs2] at hk
    exact ⟨hk.1,hk.2,by first | exact HFIN.out | simpa using HFIN.out⟩
  ·have HKS:Hid (KS ([Bi,Bf,Bs] ++ List.range' w2.heap.size (0+2)) W1 w4∧W1.heap.size≤w4.heap.size):=Lib.hid ⟨fun b hb=>(hks b (HM.out b hb)).trans (HSUB.out.1 b hb),Nat.le_trans HSUB.out.2 hsz4⟩
   have HFIN:Hid ((pre ++ [j]).length=N∧J (pre ++ [j]) w4 ∨ Jx (pre ++ [j]) w4):=Lib.hid (.inr hJ4)
   clear hJ4 hks hsz4
   gi_wp2
   have hk:=HKS.out
   rw [hs2] at hk
   exact ⟨hk.1,hk.2,by first | exact HFIN.out | simpa using HFIN.out⟩
 case done =>
  intro D xs W1 hD h
  exact h.elim
 case stop =>
  intro D pre W1 hD hpre hX hK
  have HX:=Lib.hid hX
  have HPRE:=Lib.hid hpre
  have HD:=Lib.hid hD
  have HK:=Lib.hid hK
  clear hX hpre hD hK
  go_wp2
  have hD:=HD.out
  refine leaves_marks (B:=W.heap.size) [D] W1 (Marks.cons (Marks.nil _ _) (by omega) HK.out (by simp)) fun w' hk=>⟨.tuple #[],?_,⟨_,rfl⟩,?_⟩
  ·simp [results,Tryz.results75,go_sem]
  ·have hst:=Stp.of_kp (fb:=fb) (B:=W.heap.size) (m:=4) hk (fun x hx=>by obtain rfl:=List.mem_singleton.1 hx;omega) hfw
   rcases HX.out with ⟨h1,h2⟩ | h2
   ·refine .inl ⟨List.range N,rfl,?_⟩
    have:=HJJ.out _ _ _ h2 hst
    have e:=HPRE.out
    rw [h1] at e
    rwa [← e]
   ·exact .inr ⟨pre,trivial,HJX.out _ _ _ h2 hst⟩
end Go.Proofs.YtnjbkfeihbcalaaGreat
/- An append whose run is known, in a round. -/
namespace Go.Proofs.YtnjbkfeihbcalaaGreat
open Go.RowKit Fld
set_option linter.unusedVariables false

theorem wpListIn_append {F:Fence} {n:Nat} {P:Program} {ops:Array Oper} {rest:List Oper} {o:Oper} {a:Act} {w:World} {Q:Exit→Act→World→Prop} (hgd:o.guard=none) (s x:Operand) (t:TypeId)
  (ho:o.op=.call { callee:=.builtin .append,args:=#[s,x],argTypes:=#[t,t] }) {V X v:Value} {w3:World} (hs:a.eval s=V) (hx:a.eval x=X)
  (hr:(Builtin.append_ #[t,t] o.type #[V,X]).run P w=.ok v w3) (h:wpListIn F n P ops Q rest (a.put o.dst v) w3):wpListIn F n P ops Q (o :: rest) a w:=by
 refine wpListIn_plain hgd fun K hK=>?_
 unfold Oper.wpIn
 refine ⟨by simp [Oper.about,ho,resolve,Target.leads,Sem.run_pure],?_⟩
 rw [Oper.semAt_plain F _ _ (by rw [ho];intro c hc';cases hc')]
 simp [execOp,ho,resolve,invoke,builtin,hs,hx,hr,Result.andThen]
 exact hK _ _ h
end Go.Proofs.YtnjbkfeihbcalaaGreat
/- Rows to which an iterator's members are appended. -/
namespace Go.Proofs.YtnjbkfeihbcalaaGreat
open Go.RowKit Fld
set_option linter.unusedVariables false
set_option linter.unusedSimpArgs false
attribute [local go_sem] Oper.semAt_some

structure ApsI (fb Bb B M:Nat) (V:Value) (l:List GF) (f:Nat→GF) (w:World) (pre:List Nat) (A:World):Prop where
 ok:FOk A fb
 ex:∃ V',A.heap[Bb]? = some (.cells #[V'] 50 (0,0))∧OwnG A B V' (l ++ pre.map f)∧(∀ b,V'.ownBlock=some b→some b=V.ownBlock ∨ M≤b)
 kp:Kp (fb :: V.ownBlock.toList) w A
def gPow (fr st:Nat) (j:Nat):GF:=GF.pown GF.two (fr+j * st)
def ApsPost (fb fr st n B:Nat) (V:Value) (l:List GF) (w:World) (e:Ending) (w':World):Prop :=
 ∃ v,e=.returned v∧OwnG w' B v (l ++ (List.range n).map (gPow fr st))∧Kp (fb :: V.ownBlock.toList) w w'∧FOk w' fb∧(∀ b,v.ownBlock=some b→some b=V.ownBlock ∨ w.heap.size≤b)
set_option maxRecDepth 100000 in
set_option maxHeartbeats 2000000 in
theorem appseq_any (fb fr st n B:Nat) (V:Value) (l:List GF) (lb:Array Value) (T:List Nat) (Sp:List Nat→Prop) (w:World) (hseq:SeqE fb Tryz.prog 75 lb (pEnc fr st) T 4 (fun xs=>xs=List.range n) Sp (some n) w)
  (hV:OwnG w B V l) (hfb:fb < B) (hB:B≤w.heap.size) (hF:FOk w fb) (hT:∀ b ∈ T,b < w.heap.size∧b ≠ fb) (hTV:Apart V T) (hl:l.length≤100000∧n≤100000) :
  Calls Tryz.prog 60 #[V,.func (.func 75) #[] lb] w (ApsPost fb fr st n B V l w):=by
 obtain ⟨av,cv,rfl,hcv⟩:=hV.form
 have HS:=Lib.hid hseq
 have HV:=Lib.hid hV
 have HF:=Lib.hid hF
 have HT:=Lib.hid hT
 have HTV:=Lib.hid hTV
 obtain ⟨L0,hL0⟩:∃ L0,l.length=L0:=⟨_,rfl⟩
 rw [hL0] at HV HTV hcv hl ⊢
 have HL0:=Lib.hid hL0
 clear hseq hV hF hT hTV hL0 hcv
 refine calls_of_marks Tryz.func60 rfl ?_
 simp only [Tryz.ntmps60,List.size_toArray,List.length_cons,List.length_nil,Nat.reduceAdd,Nat.reduceSub,Array.replicate_succ,Array.replicate_zero,List.push_toArray,List.append_toArray,List.nil_append,List.cons_append]
 go_wp2
 obtain ⟨w1,hw1⟩:∃ w1,w1=w.alloc (.cells #[.slice av L0 cv] 50):=⟨_,rfl⟩
 have hs1:w1.heap.size=w.heap.size+1:=by rw [hw1];simp
 have hb1:Below w.heap.size w w1:=by rw [hw1];(repeat' (first | (with_reducible exact RowKit.Below.refl _ _) | (with_reducible assumption) | (with_reducible refine RowKit.Below.drew ?_) | (with_reducible refine RowKit.Below.alloc ?_ ?_ _) | omega | (simp;done) | (simp;omega)))
 have h1:w1.heap[w.heap.size]? = some (.cells #[.slice av L0 cv] 50 (0,0)):=by rw [hw1];exact heap_newA _ _
 have HI0:Hid (ApsI fb w.heap.size B (w1.heap.size+4+2) (.slice av L0 cv) l (gPow fr st) w [] w1):=Lib.hid ⟨HF.out.below hb1,⟨_,h1,by simpa using HV.out.below hb1,fun b hb=>.inl hb.symm⟩,Kp.of_below hb1⟩
 have hVlt:∀ b,(Value.slice av L0 cv).ownBlock=some b→B≤b∧b < w.heap.size:=fun b hb=>HV.out.lt b hb
 rw [← hw1]
 clear h1 hw1
 refine wp_range_E (gf:=75) (lb:=lb) (by kernel_rfl) (enters_of Tryz.func75 (by kernel_rfl) rfl)
  HS.out hb1 (fun _=>rfl) (by omega) n (fun m h=>by cases h;rfl)
  (ApsI fb w.heap.size B (w1.heap.size+4+2) (.slice av L0 cv) l (gPow fr st) w) (fun _ _=>False)
  (fun pre A A' h hst=>by
   obtain ⟨V',h1,h2,h3⟩:=h.ex
   refine ⟨hst.ok h.ok,⟨V',(hst.kp.block _ (lt_of_heap h1) (not_own (by omega) (.inl (by omega)))).trans h1,h2.kp hst.kp (fun b hb=>not_own (by have:=(h2.lt b hb).1;omega) ?_),h3⟩,h.kp.step hst.kp fun x hx=>?_⟩
   ·rcases h3 b hb with h4 | h4
    ·have:=(hVlt b h4.symm).2
     exact .inl (by omega)
    ·exact .inr (by omega)
   ·rcases List.mem_cons.1 hx with rfl | hx
    ·exact .inl (by simp)
    ·have:=(List.mem_range'_1.1 hx).1
     exact .inr (by omega))
  (fun pre A A' h hst=>h) (fun pre A h=>h.ok) HI0.out (fun h=>by cases h) (fun b hb=>by have:=(HT.out b hb).1;omega)
  (fun j=>{ tmps:=#[.slice av L0 cv,.func (.func 75) #[] lb,.pointer (some ⟨w.heap.size,0,none⟩),undef,.slice none 0 0,undef,.func (.func 75) #[] lb,.int .u8 (((GF.pown GF.two (fr+j * st)).n:Nat):Int),undef,undef,undef,undef,undef],defers:=[] })
  (fun j=>{ tmps:=#[.slice av L0 cv,.func (.func 75) #[] lb,.pointer (some ⟨w.heap.size,0,none⟩),undef,.slice none 0 0,.int .u8 (((GF.pown GF.two (fr+j * st)).n:Nat):Int),.func (.func 75) #[] lb,.int .u8 (((GF.pown GF.two (fr+j * st)).n:Nat):Int),undef,undef,undef,undef,undef],defers:=[] })
  (fun x=>by kernel_rfl) ?assign ?body ?done ?stop
 case assign =>
  intro l x W1 K hK
  gi_wp2
  exact hK
 case body =>
  intro lv pre j W1 hI hsp0 hlen hsz
  clear hsp0
  obtain ⟨V',hbx,hV',hVb⟩:=hI.ex
  obtain ⟨a1,c1,rfl,hc1⟩:=hV'.form
  obtain ⟨L1,hL1⟩:∃ L1,(l ++ pre.map (gPow fr st)).length=L1:=⟨_,rfl⟩
  rw [hL1] at hbx hV' hVb hc1
  obtain ⟨v1,w3,hap,ho3,hk3,hb3,hat⟩:=app_byte (W:=W1) (gPow fr st j) hV' (by have:=HL0.out;simp;omega) (by have:=hb1.size;omega) (n:=(GF.pown GF.two (fr+j * st)).n) rfl (ad:=W1.heap.size) rfl
  obtain ⟨a3,c3,rfl,hc3⟩:=ho3.form
  obtain ⟨L3,hL3⟩:∃ L3,(l ++ pre.map (gPow fr st) ++ [gPow fr st j]).length=L3:=⟨_,rfl⟩
  rw [hL3] at hap ho3 hat hc3
  have y1:=cell_of_heap hbx (j:=0) rfl
  have g1:=lt_of_heap hbx
  have hnb:w.heap.size ∉ (Value.slice a1 L1 c1).ownBlock.toList:=fun hm=>by
   have e:(Value.slice a1 L1 c1).ownBlock=some w.heap.size:=by simpa using hm
   rcases hVb _ e with h | h
   ·have:=(hVlt _ h.symm).2
    omega
   ·omega
  have hbx3:=hk3.heap hbx hnb
  have y3:=cell_of_heap hbx3 (j:=0) rfl
  have z3:=free_of_heap hbx3 0
  have g3:=lt_of_heap hbx3
  have hk4:Kp [w.heap.size] w3 (w3.setCell ⟨w.heap.size,0,none⟩ (.slice a3 L3 c3)):=(Kp.refl _ _).setCell (.inl (by simp)) _
  have hbx4:=heap_set_same hbx3 0 (.slice a3 L3 c3)
  have hVb3:∀ b,(Value.slice a3 L3 c3).ownBlock=some b→some b=(Value.slice av L0 cv).ownBlock ∨ w1.heap.size+4+2≤b:=fun b hb=>by
   rcases hat with h | h
   ·exact hVb b (by rw [← h];exact hb)
   ·rw [h] at hb
    cases hb
    exact .inr (by omega)
  have hsz4:W1.heap.size≤(w3.setCell ⟨w.heap.size,0,none⟩ (.slice a3 L3 c3)).heap.size:=Nat.le_trans hk3.size hk4.size
  have HFIN:Hid (KS (T ++ List.range' w1.heap.size (4+2)) W1 (w3.setCell ⟨w.heap.size,0,none⟩ (.slice a3 L3 c3))∧W1.heap.size≤(w3.setCell ⟨w.heap.size,0,none⟩ (.slice a3 L3 c3)).heap.size∧ApsI fb w.heap.size B (w1.heap.size+4+2) (.slice av L0 cv) l (gPow fr st) w (pre ++ [j]) (w3.setCell ⟨w.heap.size,0,none⟩ (.slice a3 L3 c3))):=Lib.hid (by
   refine ⟨fun b hb=>?_,hsz4,⟨?_,⟨.slice a3 L3 c3,by simpa using hbx4,?_,hVb3⟩,?_⟩⟩
   ·have hbW:b < W1.heap.size∧b ≠ w.heap.size∧b ∉ (Value.slice a1 L1 c1).ownBlock.toList:=by
     rcases List.mem_append.1 hb with h | h
     ·have h1:=(HT.out b h).1
      refine ⟨by omega,by omega,fun hm=>?_⟩
      rcases hVb b (by simpa using hm) with h2 | h2
      ·exact HTV.out b h2.symm h
      ·omega
     ·have h1:=List.mem_range'_1.1 h
      refine ⟨by omega,by omega,fun hm=>?_⟩
      rcases hVb b (by simpa using hm) with h2 | h2
      ·have:=(hVlt b h2.symm).2;omega
      ·omega
    exact (hk4.block b (Nat.lt_of_lt_of_le hbW.1 hk3.size) (by simpa using hbW.2.1)).trans (hk3.block b hbW.1 hbW.2.2)
   ·refine (hI.ok.kp hk3 fun hm=>?_).kp hk4 (by simp;omega)
    have e:(Value.slice a1 L1 c1).ownBlock=some fb:=by simpa using hm
    have:=(hV'.lt fb e).1
    omega
   ·rw [List.map_append,← List.append_assoc,List.map_cons,List.map_nil]
    refine ho3.kp hk4 fun b hb hm=>?_
    obtain rfl:=List.mem_singleton.1 hm
    rcases hVb3 _ hb with h | h
    ·have:=(hVlt _ h.symm).2;omega
    ·omega
   ·refine (hI.kp.step hk3 fun x hx=>?_).step hk4 fun x hx=>.inr (by obtain rfl:=List.mem_singleton.1 hx;omega)
    rcases hVb x (by simpa using hx) with h | h
    ·exact .inl (List.mem_cons_of_mem _ (by rw [← h];simp))
    ·exact .inr (by omega))
  clear hI hV' hVb hk3 hb3 hat hbx3 hk4 hbx4 hVb3 hsz4 ho3 hnb hbx
  gi_wp2_with (gi_at_builtin;refine wpListIn_append rfl _ _ _ rfl rfl rfl hap ?_)
  refine ⟨by have:=HFIN.out.1;rwa [hs1] at this,by simpa using HFIN.out.2.1,?_⟩
  first
   | exact HFIN.out.2.2
   | (have:=HFIN.out.2.2;rwa [hs1] at this)
 case done =>
  rintro D xs W1 hD rfl hI hK
  obtain ⟨V',hbx,hV',hVb⟩:=hI.ex
  obtain ⟨a1,c1,rfl,hc1⟩:=hV'.form
  obtain ⟨L1,hL1⟩:∃ L1,(l ++ (List.range n).map (gPow fr st)).length=L1:=⟨_,rfl⟩
  rw [hL1] at hbx hV' hVb hc1
  have y1:=cell_of_heap hbx (j:=0) rfl
  have g1:=lt_of_heap hbx
  have HBX:=Lib.hid hbx
  have HV':=Lib.hid hV'
  have HVB:=Lib.hid hVb
  have HI:=Lib.hid hI
  have HD:=Lib.hid hD
  have HK:=Lib.hid hK
  clear hI hV' hVb hD hK hL1 hc1 hbx
  go_wp2
  have hD:=HD.out
  have hD2:=lt_of_heap HK.out
  refine leaves_marks (B:=w.heap.size) [D] W1 (Marks.cons (Marks.nil _ _) (by omega) HK.out (by simp)) fun w' hk=>⟨.slice a1 L1 c1,?_,.slice a1 L1 c1,rfl,?_,?_,?_,?_⟩
  ·simp [results,Tryz.results60,go_sem]
  ·refine HV'.out.kp hk fun b hb hm=>?_
   obtain rfl:=List.mem_singleton.1 hm
   rcases HVB.out _ hb with h | h
   ·have:=(hVlt _ h.symm).2;omega
   ·omega
  ·exact HI.out.kp.step hk fun x hx=>.inr (by obtain rfl:=List.mem_singleton.1 hx;omega)
  ·exact HI.out.ok.kp hk (by simp;omega)
  ·intro b hb
   rcases HVB.out b hb with h | h
   ·exact .inl h
   ·exact .inr (by omega)
 case stop =>
  intro D pre W1 hD hpre hX
  exact hX.elim
end Go.Proofs.YtnjbkfeihbcalaaGreat
