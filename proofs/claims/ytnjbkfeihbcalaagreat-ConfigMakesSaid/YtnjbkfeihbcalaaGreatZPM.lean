/-
  Rows of a matrix picked.
  The matrix of powers.
-/
import Derived.Test.YtnjbkfeihbcalaaGreatZAts
import Derived.Test.YtnjbkfeihbcalaaGreatZKit
import Derived.Test.YtnjbkfeihbcalaaGreatZBase
/- Rows of a matrix picked. -/
namespace Go.Proofs.YtnjbkfeihbcalaaGreat
open Go.RowKit Fld Go.Shelf
set_option linter.unusedVariables false
set_option linter.unusedSimpArgs false

noncomputable def pkM (ps:List Int) (A:Nat→Nat→GF) (I:Nat):Nat→Nat→GF:=fun i c=>if i < I then A (ps.getD i 0).toNat c else 0
def MPickPost (C:Nat) (ps:List Int) (A:Nat→Nat→GF) (w:World) (e:Ending) (w':World):Prop :=
 ∃ g,e=.returned (.tuple #[.agg #[.int .i64 ps.length,.int .i64 C,.slice (some ⟨g,0,none⟩) (ps.length * C) (ps.length * C)],.int .i64 0])∧w.heap.size≤g∧View w' g (ps.length * C) (flat C (fun i c=>A (ps.getD i 0).toNat c))∧Below w.heap.size w w'
structure PickB (R C M N sb capm gb b6:Nat) (w W:World):Prop where
 b2:W.heap[w.heap.size]? = some (.cells #[.int .i64 R,.int .i64 C,.slice (some ⟨sb,0,none⟩) M capm] 76 (0,0))
 b4:W.heap[w.heap.size+1]? = some (.cells #[.int .i64 0,.int .i64 0,.slice none 0 0] 76 (0,0))
 bm:W.heap[b6]? = some (.cells #[.int .i64 N,.int .i64 C,.slice (some ⟨gb,0,none⟩) (N * C) (N * C)] 76 (0,0))
 be:Below w.heap.size w W
 lt:w.heap.size+1 < gb∧gb < b6
theorem PickB.step {R C M N sb capm gb b6:Nat} {w W W':World} (h:PickB R C M N sb capm gb b6 w W) (hk:Kp [gb] W W'):PickB R C M N sb capm gb b6 w W':=by
 obtain ⟨l1,l2⟩:=h.lt
 exact ⟨hk.heap h.b2 (by simp;omega),hk.heap h.b4 (by simp;omega),hk.heap h.bm (by simp;omega),h.be.trans (hk.below (B:=w.heap.size) h.be.size (fun x hx=>by rw [List.mem_singleton] at hx;omega)),h.lt⟩
end Go.Proofs.YtnjbkfeihbcalaaGreat
/- The matrix of powers. -/
namespace Go.Proofs.YtnjbkfeihbcalaaGreat
open Go.RowKit Fld Go.Shelf
set_option linter.unusedVariables false
set_option linter.unusedSimpArgs false
attribute [local go_sem] Oper.semAt_some

noncomputable def pwM (l:List GF) (P:Nat→Nat→Bool):Nat→Nat→GF:=fun i c=>if P i c=true then pw (l.getD i 0) c else 0
def PowPost (fb Kn:Nat) (l:List GF) (w:World) (e:Ending) (w':World):Prop :=
 ∃ b,e=.returned (.agg #[.int .i64 l.length,.int .i64 Kn,.slice (some ⟨b,0,none⟩) (l.length * Kn) (l.length * Kn)])∧w.heap.size≤b∧View w' b (l.length * Kn) (flat Kn (fun i c=>pw (l.getD i 0) c))∧Kp [fb] w w'∧FOk w' fb
def powFr (w:World) (b7:Nat) (u:Nat→Value):Array Value:=#[u 0,u 1,u 2,.pointer (some ⟨w.heap.size,0,none⟩),.pointer (some ⟨w.heap.size+1,0,none⟩),u 5,.pointer (some ⟨w.heap.size+1+1,0,none⟩),.pointer (some ⟨b7,0,none⟩),u 8,u 9,u 10,u 11,u 12,u 13,u 14,u 15,u 16,u 17,u 18,u 19,u 20,u 21,u 22,u 23,u 24,u 25,u 26,u 27,u 28,u 29,u 30,u 31,u 32,u 33,u 34,u 35,u 36,u 37,u 38,u 39,u 40,u 41,u 42,u 43,u 44,u 45,u 46,u 47,u 48,u 49,u 50,u 51,u 52,u 53,u 54,u 55,u 56]
theorem GRd.cell' {w:World} {b o n cap:Nat} {l:List GF} (h:GRd w (.slice (some ⟨b,o,none⟩) n cap) l) {i:Nat} {x:GF} (hi:l[i]? = some x):b < w.heap.size∧w.cell? ⟨b,o+i,none⟩=some (.int .u8 (x.n:Int)):=by
 obtain ⟨b',o',e,h1,h2⟩:=h.at hi
 cases e
 exact ⟨h1,h2⟩
theorem pw_set {Kn N:Nat} (l:List GF) (Pr:List Nat) {i c:Nat} (hc:c < Kn) {j:Nat} (hj:j < N * Kn) :
  (if j=i * Kn+c then pw (l.getD i 0) c else flat Kn (pwM l (fun r d=>decide (r ∈ Pr) || (decide (r=i) && decide (d < c)))) j)=flat Kn (pwM l (fun r d=>decide (r ∈ Pr) || (decide (r=i) && decide (d < c+1)))) j:=by
 obtain ⟨r,k,hr,hk,rfl⟩:=off_ex (R:=N) (by omega) hj
 rw [flat_at (by omega) _ _ _ hk,flat_at (by omega) _ _ _ hk]
 by_cases e:r * Kn+k=i * Kn+c
 ·have hri:r=i:=(off_in (a:=i) hk).1 (by omega)
  subst hri
  have hkc:k=c:=by omega
  subst hkc
  rw [if_pos rfl]
  simp [pwM]
 ·rw [if_neg e]
  by_cases hri:r=i
  ·subst hri
   have hkc:k ≠ c:=fun h=>e (by rw [h])
   have:decide (k < c+1)=decide (k < c):=by rw [decide_eq_decide];omega
   simp only [pwM,this]
  ·simp only [pwM,decide_eq_false hri,Bool.false_and]
structure PowB (fb gb b7 N Kn M:Nat) (a:Option Addr) (cap:Nat) (w W:World):Prop where
 ok:FOk W fb
 b3:W.heap[w.heap.size]? = some (.cells #[.pointer (some ⟨fb,0,none⟩)] 30 (0,0))
 b4:W.heap[w.heap.size+1]? = some (.cells #[.slice a N cap] 50 (0,0))
 b6:W.heap[w.heap.size+1+1]? = some (.cells #[.int .i64 0,.int .i64 0,.slice none 0 0] 76 (0,0))
 bm:W.heap[b7]? = some (.cells #[.int .i64 N,.int .i64 Kn,.slice (some ⟨gb,0,none⟩) M M] 76 (0,0))
 kp:Kp [fb] w W
 lt:fb < w.heap.size∧w.heap.size+1+1 < gb∧gb < b7
theorem PowB.step {fb gb b7 N Kn M:Nat} {a:Option Addr} {cap:Nat} {w W W':World} (h:PowB fb gb b7 N Kn M a cap w W) {S:List Nat} (hk:Kp S W W') (hS:∀ x ∈ S,x=fb ∨ x=gb ∨ b7 < x) (hf:FOk W' fb):PowB fb gb b7 N Kn M a cap w W':=by
 obtain ⟨h1,h2,h3⟩:=h.lt
 have hn:∀ k,k ≠ fb→k ≠ gb→k≤b7→k ∉ S:=fun k g1 g2 g3 hm=>by rcases hS k hm with e | e | e <;> omega
 exact ⟨hf,hk.heap h.b3 (hn _ (by omega) (by omega) (by omega)),hk.heap h.b4 (hn _ (by omega) (by omega) (by omega)),hk.heap h.b6 (hn _ (by omega) (by omega) (by omega)),hk.heap h.bm (hn _ (by omega) (by omega) (by omega)),h.kp.step hk (fun x hx=>by rcases hS x hx with e | e | e;exact .inl (by simp [e]);exact .inr (by omega);exact .inr (by omega)),h.lt⟩
set_option maxRecDepth 100000 in
set_option maxHeartbeats 4000000 in
theorem powers_any (fb Kn:Nat) (v:Value) (l:List GF) (w:World) (hF:FOk w fb) (hG:GRd w v l) (ha:Apart v [fb]) (h0:0 < l.length) (hl:l.length≤256) (hK0':0 < Kn) (hK:Kn≤256) :
  Calls Tryz.prog 29 #[.pointer (some ⟨fb,0,none⟩),v,.int .i64 Kn] w (PowPost fb Kn l w):=by
 obtain ⟨T,hT1,hT2⟩:=row_blocks hG ha
 obtain ⟨a,cap,rfl,hcap⟩:=hG.form
 have hfw:=hF.lt
 have HF:=Lib.hid hF
 have HG:=Lib.hid hG
 have HAP:=Lib.hid ha
 clear hF hG hT1 hT2 ha
 obtain ⟨N,hN⟩:∃ N,l.length=N:=⟨_,rfl⟩
 obtain ⟨M,hM⟩:∃ M,N * Kn=M:=⟨_,rfl⟩
 have hMb:M≤65536:=by rw [← hM];have:=Nat.mul_le_mul (show N≤256 by omega) hK;omega
 have HN:=Lib.hid hN
 have HM:=Lib.hid hM
 rw [hN] at hcap hl h0 ⊢
 obtain ⟨q,hq⟩:∃ q,(16777216:Int).tdiv (N:Int)=q:=⟨_,rfl⟩
 have hq1:(256:Int)≤q∧q≤16777216:=by
  rw [← hq,Int.tdiv_eq_ediv_of_nonneg (by omega)]
  refine ⟨(Int.le_ediv_iff_mul_le (by omega)).2 (by omega),Int.ediv_le_self _ (by omega)⟩
 have hq2:IntKind.i64.wrap q=q:=IntWalk.i64_in _ (by omega)
 have hq3:(Kn:Int)≤q:=by omega
 have hn0:¬ (N:Int)=0:=by omega
 have HNONE:=Lib.hid (fun W=>none_any N Kn M W hM (by omega) (by omega) (by omega))
 clear hN hM
 refine calls_of_marks Tryz.func29 rfl ?_
 simp only [Tryz.ntmps29,List.size_toArray,List.length_cons,List.length_nil,Nat.reduceAdd,Nat.reduceSub,Array.replicate_succ,Array.replicate_zero,List.push_toArray,List.append_toArray,List.nil_append,List.cons_append]
 go_wp2_with fail
 refine (HNONE.out _).mono ?_
 rintro e w1 ⟨gb,rfl,hg1,hv1,hb1⟩
 have b3:w1.heap[w.heap.size]? = some (.cells #[.pointer (some ⟨fb,0,none⟩)] 30 (0,0)):=keepB hb1 (by (repeat (refine Eq.trans (hp_alloc _ _ _ ?_) ?_;(· first | (simp;done) | (simp;omega))));exact heap_newE _ _ _ (by simp))
 have b4:w1.heap[w.heap.size+1]? = some (.cells #[.slice a N cap] 50 (0,0)):=keepB hb1 (by (repeat (refine Eq.trans (hp_alloc _ _ _ ?_) ?_;(· first | (simp;done) | (simp;omega))));exact heap_newE _ _ _ (by simp))
 have b6:w1.heap[w.heap.size+1+1]? = some (.cells #[.int .i64 0,.int .i64 0,.slice none 0 0] 76 (0,0)):=keepB hb1 (by (repeat (refine Eq.trans (hp_alloc _ _ _ ?_) ?_;(· first | (simp;done) | (simp;omega))));exact heap_newE _ _ _ (by simp))
 have HB1:Hid (Below w.heap.size w w1):=Lib.hid (((((Below.refl _ _).alloc (Nat.le_refl _) _).alloc (by simp) _).alloc (by simp;omega) _).trans (hb1.mono (by simp;omega)))
 have hg2:w.heap.size+1+1 < gb:=by simp at hg1;omega
 have HV1:=Lib.hid hv1
 have B3:=Lib.hid b3
 have B4:=Lib.hid b4
 have B6:=Lib.hid b6
 clear b3 b4 b6 hg1 hv1 hb1 HNONE
 go_wp2_with (go_at_call 54;refine (rows_any N Kn gb M M _).mono ?_;rintro e w2 ⟨rfl,hb2,hbx2⟩)
 have HPB:Hid (PowB fb gb w1.heap.size N Kn M a cap w w2):=Lib.hid (by
  have h2:Below w1.heap.size w1 w2:=((Below.refl _ _).alloc (Nat.le_refl _) _).trans (hb2.mono (by simp))
  refine ⟨(HF.out.below HB1.out).below h2,keepB h2 B3.out,keepB h2 B4.out,keepB h2 B6.out,keepB hb2 (heap_newA _ _),Kp.of_below (HB1.out.trans (h2.mono HB1.out.size)),hfw,hg2,HV1.out.1⟩)
 have HV2:Hid (View w2 gb M (fun _=>0)):=Lib.hid (HV1.out.below (((Below.refl _ _).alloc (Nat.le_refl _) _).trans (hb2.mono (by simp))))
 obtain ⟨b7,hb7⟩:∃ b7,w1.heap.size=b7:=⟨_,rfl⟩
 have HBX:Hid (MBox w2 (b7+1) N Kn gb M M):=Lib.hid (by rw [← hb7];simpa using hbx2)
 have hbl:b7+1 < w2.heap.size:=HBX.out.lt
 rw [hb7] at HPB
 clear hb2 hbx2 B3 B4 B6 HV1 HB1
 refine wp_frame (powFr w b7) _ (by rw [← hb7];kernel_rfl) 37 (.func (.func 69) #[] #[.pointer (some ⟨b7+1,0,none⟩)]) (by rw [← hb7];simp) ?_
 clear hb7
 intro u hu
 have HU:=Lib.hid hu
 clear hu
 obtain ⟨l1,l2,l3⟩:=HPB.out.lt
 refine wp_range_all2 (gf:=69) (lb:=#[.pointer (some ⟨b7+1,0,none⟩)]) (show u 37=_ from HU.out) (enters_of Tryz.func69 (by kernel_rfl) rfl) (rows1_stops N Kn gb M M (b7+1) w2 HBX.out hK0' (by have:=HM.out;omega) (by omega) (by have:=HM.out;omega)) (Below.refl _ _) hbl (fun _=>rfl) [fb,gb] (by simp;omega)
  (fun pre W=>PowB fb gb b7 N Kn M a cap w W∧View W gb M (flat Kn (pwM l (fun r _=>decide (r ∈ pre.map Fin.val)))))
  (ownFrom_of fun s W W' r h hr hk=>by
   have hn:∀ k,k < w2.heap.size→k ∉ r:=fun k hk hm=>by have:=hr k hm;omega
   exact ⟨h.1.step hk (fun x hx=>.inr (.inr (by have:=hr x hx;omega))) (h.1.ok.kp hk (hn _ (by omega))),h.2.kp hk (hn _ (by omega))⟩)
  ⟨HPB.out,HV2.out.congr fun j hj=>by simp [flat,pwM]⟩
  (fun x=>{ tmps:=#[u 0,u 1,u 2,.pointer (some ⟨w.heap.size,0,none⟩),.pointer (some ⟨w.heap.size+1,0,none⟩),u 5,.pointer (some ⟨w.heap.size+1+1,0,none⟩),.pointer (some ⟨b7,0,none⟩),u 8,u 9,u 10,u 11,u 12,u 13,u 14,u 15,u 16,u 17,u 18,u 19,u 20,u 21,u 22,u 23,u 24,u 25,u 26,u 27,u 28,u 29,u 30,u 31,u 32,u 33,u 34,u 35,u 36,u 37,.int .i64 (x.val:Nat),.slice (some ⟨gb,x.val * Kn,none⟩) Kn Kn,u 40,u 41,u 42,u 43,u 44,u 45,u 46,u 47,u 48,u 49,u 50,u 51,u 52,u 53,u 54,u 55,u 56],defers:=[] })
  (fun x=>{ tmps:=#[u 0,u 1,u 2,.pointer (some ⟨w.heap.size,0,none⟩),.pointer (some ⟨w.heap.size+1,0,none⟩),u 5,.pointer (some ⟨w.heap.size+1+1,0,none⟩),.pointer (some ⟨b7,0,none⟩),.int .i64 (x.val:Nat),.slice (some ⟨gb,x.val * Kn,none⟩) Kn Kn,u 10,u 11,u 12,u 13,u 14,u 15,u 16,u 17,u 18,u 19,u 20,u 21,u 22,u 23,u 24,u 25,u 26,u 27,u 28,u 29,u 30,u 31,u 32,u 33,u 34,u 35,u 36,u 37,.int .i64 (x.val:Nat),.slice (some ⟨gb,x.val * Kn,none⟩) Kn Kn,u 40,u 41,u 42,u 43,u 44,u 45,u 46,u 47,u 48,u 49,u 50,u 51,u 52,u 53,u 54,u 55,u 56],defers:=[] }) (fun x=>by kernel_rfl) ?assign ?body ?done
 case assign =>
  intro lv x W K hK
  gi_wp2
  exact hK
 case body =>
  rintro lv pre ⟨i,hi⟩ W ⟨hB,hV⟩ hlt hsz
  dsimp only
  obtain ⟨Pr,hPr⟩:∃ Pr,pre.map Fin.val=Pr:=⟨_,rfl⟩
  rw [hPr] at hV
  have HPR:=Lib.hid hPr
  have HB:=Lib.hid hB
  have HV:Hid (View W gb M (flat Kn (pwM l (fun r d=>decide (r ∈ Pr) || (decide (r=i) && decide (d < 0)))))):=Lib.hid (hV.congr fun j hj=>by simp [flat,pwM])
  clear hPr hB hV hlt hsz HPB HV2 HBX
  gi_wp2
  gi_loopw [42] (fun s wr=>∃ c:Nat,c≤Kn∧s=.int .i64 (c:Nat)∧Hid (PowB fb gb b7 N Kn M a cap w wr)∧Hid (View wr gb M (flat Kn (pwM l (fun r d=>decide (r ∈ Pr) || (decide (r=i) && decide (d < c))))))∧Hid (Kp [fb,gb] W wr))
   (fun s _=>Kn - (intOf s).toNat)
  case atStart=>exact ⟨0,Nat.zero_le _,rfl,HB,HV,Lib.hid (Kp.refl _ _)⟩
  case round =>
   clear HB HV
   obtain ⟨c,hc,rfl,HB,HV,HK⟩:=hrel
   by_cases hlt:c < Kn
   ·obtain ⟨x,hx⟩:∃ x,l[i]? = some x:=⟨_,List.getElem?_eq_getElem (by rw [HN.out];exact hi)⟩
    have hxs:=(HG.out.kp HB.out.kp HAP.out)
    rw [HN.out] at hxs
    obtain ⟨bb,oo,rfl,hbb,cx⟩:=hxs.at hx
    have hbf:bb ≠ fb:=by have:=HAP.out bb rfl;simpa using this
    have hbw:bb < w.heap.size:=by
     have h2:=HG.out
     rw [HN.out] at h2
     exact (GRd.cell' h2 hx).1
    have hij:i * Kn+c < M:=by rw [← HM.out];exact off_lt hi hlt
    obtain ⟨c1,f1⟩:=HV.out.2 (i * Kn+c) hij
    have y3:=cell_of_heap HB.out.b3 (j:=0) rfl
    have y4:=cell_of_heap HB.out.b4 (j:=0) rfl
    have g3:=lt_of_heap HB.out.b3
    have g4:=lt_of_heap HB.out.b4
    have gg:=HV.out.1
    have q1:(0:Int)≤(i:Int)∧(i:Int) < (N:Int):=by omega
    have q2:(0:Int)≤(c:Int)∧(c:Int) < (Kn:Int):=by omega
    obtain ⟨z,hz⟩:∃ z,(flat Kn (pwM l (fun r d=>decide (r ∈ Pr) || (decide (r=i) && decide (d < c)))) (i * Kn+c)).n=z:=⟨_,rfl⟩
    rw [hz] at c1
    have HPOW:Hid (∀ W,FOk W fb→Calls Tryz.prog 30 #[.pointer (some ⟨fb,0,none⟩),.int .u8 (x.n:Nat),.int .i64 (c:Nat)] W (FPost fb (pw x c) W)):=Lib.hid fun W h=>fpow_any x c fb W h (by omega)
    have hxd:l.getD i 0=x:=by rw [List.getD_eq_getElem?_getD,hx];rfl
    have HSET:Hid (∀ W,View W gb M (flat Kn (pwM l (fun r d=>decide (r ∈ Pr) || (decide (r=i) && decide (d < c)))))→View (W.setCell ⟨gb,i * Kn+c,none⟩ (.int .u8 ((pw x c).n:Nat))) gb M (flat Kn (pwM l (fun r d=>decide (r ∈ Pr) || (decide (r=i) && decide (d < c+1)))))):=Lib.hid fun W h=>(h.set hij (pw x c)).congr fun j hj=>by
     rw [← pw_set (Kn:=Kn) (N:=N) l Pr (i:=i) hlt (by rw [HM.out];exact hj),hxd]
    unfold FPost at HPOW
    obtain ⟨xn,hxn⟩:∃ xn,x.n=xn:=⟨_,rfl⟩
    obtain ⟨pn,hpn⟩:∃ pn,(pw x c).n=pn:=⟨_,rfl⟩
    rw [hxn] at cx
    rw [hxn,hpn] at HPOW
    rw [hpn] at HSET
    obtain ⟨kp,hkp⟩:∃ kp:Nat→Bool,∀ k,kp k=true↔k < wr.heap.size∧k ≠ fb∧k ≠ gb:=⟨fun k=>decide (k < wr.heap.size∧k ≠ fb∧k ≠ gb),by simp⟩
    have k1:kp w.heap.size=true:=(hkp _).2 ⟨by omega,by omega,by omega⟩
    have k2:kp (w.heap.size+1)=true:=(hkp _).2 ⟨by omega,by omega,by omega⟩
    have k3:kp bb=true:=(hkp _).2 ⟨by omega,by omega,by omega⟩
    have HKP:=Lib.hid hkp
    clear hkp hx hxs hz hxd hxn hpn hij
    gi_wp2
    have hgr:=fun (w0 W:World) (p:Addr) (hp:(fun k=>kp k=true) p.block)=>graft_cell (w0:=w0) (keep:=(fun k=>kp k=true)) W hp
    refine wpIn_region_tree (fun k=>kp k=true) [8,10] (.sq [0,1,2,3,4,5,6,7,8,9,10] .done) (by kernel_rfl) (by kernel_rfl) (by kernel_rfl) ?_
    simp only [Tr.sq,List.foldr_cons,List.foldr_nil,slimTr,slimStep,Oper.slim,List.contains_cons,List.contains_nil,Option.map_none,Option.map_some,List.getElem?_toArray,List.getElem?_cons_zero,List.getElem?_cons_succ,Option.bind_some,beq_self_eq_true,Bool.or_false,Nat.reduceBEq,Nat.reduceAdd,Nat.zero_add]
    repeat' first | ((with_reducible refine wpSlimT_id ?_);first | (with_reducible refine wpSlimT_done ?_) | ((with_reducible refine wpSlimT_step (fun K hK=>?_));go_simp;first | (refine hK _ _ ?_;clear hK K) | (refine ⟨by (intro kk hkk;first | (simp (disch:=(simp;omega)) only [hp_drew,hp_drewN,hp_alloc,hp_set];done) | (simp [hp_drew,hp_drewN,hp_alloc_if,hkk];done) | (have hkk2:=(HKP.out kk).1 hkk;simp (disch:=(first | exact hkk2 | (simp;done) | (simp;omega))) only [hp_drew,hp_drewN,hp_alloc,hp_set];first | done | exact HK5.out.block kk hkk2.1 (by have:=hkk2.2.1;simpa using this))),hK _ _ ?_⟩;clear hK K) | (go_at_call 30;(with_reducible refine (HPOW.out _ (HB.out.ok.below ((Below.refl _ _).drew))).mono ?_);rintro e w5 ⟨rfl,hk5,hf5⟩;have c5:=(hk5.cell (p:=⟨gb,i * Kn+c,none⟩) gg (by simp;omega)).trans c1;have f5:=(hk5.frozen (p:=⟨gb,i * Kn+c,none⟩) gg (by simp;omega)).trans f1;have HK5:=Lib.hid hk5;have HF5:=Lib.hid hf5;clear hk5 hf5;refine ⟨_,rfl,(fun kk hkk=>HK5.out.block kk ((HKP.out kk).1 hkk).1 (by have:=((HKP.out kk).1 hkk).2;simpa using this.1)),hK _ _ ?_⟩;clear hK K))) | fail
    clear hgr
    have hk6:Kp [gb] w5 (w5.setCell ⟨gb,i * Kn+c,none⟩ (.int .u8 (pn:Nat))):=(Kp.refl _ _).setCell (.inl (by simp)) _
    have hk7:Kp [fb,gb] wr (w5.setCell ⟨gb,i * Kn+c,none⟩ (.int .u8 (pn:Nat))):=((((Kp.refl [fb,gb] wr).drew).trans (HK5.out.mono (by simp)))).trans (hk6.mono (by simp))
    have HB7:=Lib.hid (HB.out.step hk7 (fun x hx=>by simp at hx;omega) (HF5.out.kp hk6 (by simp;omega)))
    have HV7:=Lib.hid (HSET.out w5 ((HV.out.drew).kp HK5.out (by simp;omega)))
    have HK7:=Lib.hid (HK.out.trans hk7)
    clear hk6 hk7
    gi_wp2
    go_roundw
    case rel=>exact ⟨c+1,by omega,by simp,HB7,HV7,HK7⟩
    case measure=>simp [intOf] <;> omega
   ·obtain rfl:c=Kn:=by omega
    have HEND:Hid (Kp [fb,gb] W wr∧PowB fb gb b7 N c M a cap w wr∧View wr gb M (flat c (pwM l (fun r _=>decide (r ∈ (pre ++ [(⟨i,hi⟩:Fin N)]).map Fin.val))))):=Lib.hid ⟨HK.out,HB.out,HV.out.congr fun j hj=>by
     obtain ⟨r,k,hr,hk,rfl⟩:=off_ex (R:=N) hK0' (by rw [HM.out];exact hj)
     rw [flat_at hK0' _ _ _ hk,flat_at hK0' _ _ _ hk]
     simp [pwM,HPR.out,hk]⟩
    gi_wp2
    refine ⟨HEND.out.1,HEND.out.2.1,HEND.out.2.2.congr fun j hj=>?_⟩
    simp [flat,pwM]
 case done =>
  rintro D0 xs W hD0 rfl ⟨hB,hV⟩ hK0
  have HB:=Lib.hid hB
  have HV:Hid (View W gb M (flat Kn (fun i c=>pw (l.getD i 0) c))):=Lib.hid (hV.congr fun j hj=>by
   obtain ⟨r,k,hr,hk,rfl⟩:=off_ex (R:=N) hK0' (by rw [HM.out];exact hj)
   rw [flat_at hK0' _ _ _ hk,flat_at hK0' _ _ _ hk]
   have:r ∈ (List.finRange N).map Fin.val:=List.mem_map.2 ⟨⟨r,hr⟩,List.mem_finRange _,rfl⟩
   simp only [pwM,this,decide_true,if_true])
  have HK0:=Lib.hid hK0
  have HD0:=Lib.hid hD0
  have m0:=cell_of_heap hB.bm (j:=0) rfl
  have m1:=cell_of_heap hB.bm (j:=1) rfl
  have m2:=cell_of_heap hB.bm (j:=2) rfl
  have y0:=cell_of_heap hB.b6 (j:=0) rfl
  have y1:=cell_of_heap hB.b6 (j:=1) rfl
  have y2:=cell_of_heap hB.b6 (j:=2) rfl
  have z0:=free_of_heap hB.b6 0
  have z1:=free_of_heap hB.b6 1
  have z2:=free_of_heap hB.b6 2
  have g6:=lt_of_heap hB.b6
  clear hB hV hK0 hD0
  unfold powFr
  go_wp2
  have hD:=HD0.out
  have hk:Kp [w.heap.size+1+1] W (((W.setCell ⟨w.heap.size+1+1,0,none⟩ (.int .i64 N)).setCell ⟨w.heap.size+1+1,1,none⟩ (.int .i64 Kn)).setCell ⟨w.heap.size+1+1,2,none⟩ (.slice (some ⟨gb,0,none⟩) M M)) :=
   (((Kp.refl _ _).setCell (.inl (by simp)) _).setCell (.inl (by simp)) _).setCell (.inl (by simp)) _
  have h6:(((W.setCell ⟨w.heap.size+1+1,0,none⟩ (.int .i64 N)).setCell ⟨w.heap.size+1+1,1,none⟩ (.int .i64 Kn)).setCell ⟨w.heap.size+1+1,2,none⟩ (.slice (some ⟨gb,0,none⟩) M M)).heap[w.heap.size+1+1]? = some (.cells #[.int .i64 N,.int .i64 Kn,.slice (some ⟨gb,0,none⟩) M M] 76 (0,0)):=by
   have:=heap_set_same (heap_set_same (heap_set_same HB.out.b6 0 (.int .i64 N)) 1 (.int .i64 Kn)) 2 (.slice (some ⟨gb,0,none⟩) M M)
   simpa using this
  refine leaves_marks (B:=w.heap.size) [D0] _ (Marks.cons (Marks.nil _ _) (by omega) (hk.heap HK0.out (by simp;omega)) (by simp)) fun w' hk'=>⟨.agg #[.int .i64 N,.int .i64 Kn,.slice (some ⟨gb,0,none⟩) M M],?_,?_⟩
  ·have h7:=hk'.heap h6 (by simp;omega)
   have c0:w'.cell? ⟨w.heap.size+1+1,0,none⟩=some (.int .i64 N):=cell_of_heap h7 rfl
   have c1:w'.cell? ⟨w.heap.size+1+1,1,none⟩=some (.int .i64 Kn):=cell_of_heap h7 rfl
   have c2:w'.cell? ⟨w.heap.size+1+1,2,none⟩=some (.slice (some ⟨gb,0,none⟩) M M):=cell_of_heap h7 rfl
   simp [results,Tryz.results29,go_sem,c0,c1,c2]
  ·refine ⟨gb,by rw [HN.out,HM.out],by omega,?_,(HB.out.kp.step hk (fun x hx=>by simp at hx;right;omega)).step hk' (fun x hx=>by simp at hx;right;omega),(HB.out.ok.kp hk (by simp;omega)).kp hk' (by simp;omega)⟩
   rw [HN.out,HM.out]
   exact (HV.out.kp hk (by simp;omega)).kp hk' (by simp;omega)
end Go.Proofs.YtnjbkfeihbcalaaGreat
