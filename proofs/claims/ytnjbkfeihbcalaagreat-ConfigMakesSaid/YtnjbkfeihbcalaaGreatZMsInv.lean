/-
  The matrix that changes nothing; the inverse of a matrix.
  The inverse of a matrix whose equations have one solution.
-/
import Derived.Test.YtnjbkfeihbcalaaGreatZPM
import Derived.Test.YtnjbkfeihbcalaaGreatZPlainM
/- The matrix that changes nothing; the inverse of a matrix. -/
namespace Go.Proofs.YtnjbkfeihbcalaaGreat
open Go.RowKit Fld Go.Shelf
set_option linter.unusedVariables false
set_option linter.unusedSimpArgs false
attribute [local go_sem] Oper.semAt_some

noncomputable def idM:Nat→Nat→GF:=fun i c=>if i=c then 1 else 0
noncomputable def onM (l:List Nat):Nat→Nat→GF:=fun i c=>if i ∈ l∧i=c then 1 else 0
def OnePost (N:Nat) (w:World) (e:Ending) (w':World):Prop :=
 ∃ b,e=.returned (.agg #[.int .i64 N,.int .i64 N,.slice (some ⟨b,0,none⟩) (N * N) (N * N)])∧w.heap.size≤b∧View w' b (N * N) (flat N idM)∧Below w.heap.size w w'
def oneFr (w:World) (b7:Nat) (u:Nat→Value):Array Value:=#[u 0,u 1,.pointer (some ⟨w.heap.size,0,none⟩),.pointer (some ⟨b7,0,none⟩),u 4,u 5,u 6,u 7,u 8,u 9,u 10,u 11,u 12,u 13,u 14,u 15,u 16,u 17,u 18,u 19,u 20,u 21,u 22]
theorem on_set {N i:Nat} (Pr:List Nat) (hi:i < N) {j:Nat} (hj:j < N * N) :
  (if j=i * N+i then (1:GF) else flat N (onM Pr) j)=flat N (onM (Pr ++ [i])) j:=by
 obtain ⟨r,k,hr,hk,rfl⟩:=off_ex (R:=N) (by omega) hj
 rw [flat_at (by omega) _ _ _ hk,flat_at (by omega) _ _ _ hk]
 by_cases e:r * N+k=i * N+i
 ·have hri:r=i:=(off_in (a:=i) hk).1 (by omega)
  subst hri
  have hkc:k=r:=by omega
  subst hkc
  rw [if_pos rfl]
  simp [onM]
 ·rw [if_neg e]
  unfold onM
  by_cases h1:r=k
  ·subst h1
   have:r ≠ i:=fun h=>e (by rw [h])
   simp [this]
  ·simp [h1]
structure OneB (gb b7 N M:Nat) (w W:World):Prop where
 b2:W.heap[w.heap.size]? = some (.cells #[.int .i64 0,.int .i64 0,.slice none 0 0] 76 (0,0))
 bm:W.heap[b7]? = some (.cells #[.int .i64 N,.int .i64 N,.slice (some ⟨gb,0,none⟩) M M] 76 (0,0))
 kp:Below w.heap.size w W
 lt:w.heap.size < gb∧gb < b7
theorem OneB.step {gb b7 N M:Nat} {w W W':World} (h:OneB gb b7 N M w W) {S:List Nat} (hk:Kp S W W') (hS:∀ x ∈ S,x=gb ∨ b7 < x):OneB gb b7 N M w W':=by
 obtain ⟨h1,h2⟩:=h.lt
 have hn:∀ k,k ≠ gb→k≤b7→k ∉ S:=fun k g1 g2 hm=>by rcases hS k hm with e | e <;> omega
 exact ⟨hk.heap h.b2 (hn _ (by omega) (by omega)),hk.heap h.bm (hn _ (by omega) (by omega)),h.kp.trans (hk.below h.kp.size (fun x hx=>by rcases hS x hx with e | e <;> omega)),h.lt⟩
set_option maxRecDepth 100000 in
set_option maxHeartbeats 4000000 in
theorem one_any (N:Nat) (w:World) (h0:0 < N) (hN:N≤4096) :
  Calls Tryz.prog 59 #[.int .i64 N] w (OnePost N w):=by
 obtain ⟨M,hM⟩:∃ M,N * N=M:=⟨_,rfl⟩
 have hMb:M≤16777216:=by rw [← hM];have:=Nat.mul_le_mul hN hN;omega
 have HM:=Lib.hid hM
 have n1:¬ (N:Int) < 0:=by omega
 have n2:¬ (N:Int) > 4096:=by omega
 have HNONE:=Lib.hid (fun W=>none_any N N M W hM (by omega) (by omega) (by omega))
 clear hM
 refine calls_of_marks Tryz.func59 rfl ?_
 simp only [Tryz.ntmps59,List.size_toArray,List.length_cons,List.length_nil,Nat.reduceAdd,Nat.reduceSub,Array.replicate_succ,Array.replicate_zero,List.push_toArray,List.append_toArray,List.nil_append,List.cons_append]
 go_wp2_with fail
 refine (HNONE.out _).mono ?_
 rintro e w1 ⟨gb,rfl,hg1,hv1,hb1⟩
 have b2:w1.heap[w.heap.size]? = some (.cells #[.int .i64 0,.int .i64 0,.slice none 0 0] 76 (0,0)):=keepB hb1 (heap_newA _ _)
 have HB1:Hid (Below w.heap.size w w1):=Lib.hid ((((Below.refl _ _).alloc (Nat.le_refl _) _)).trans (hb1.mono (by simp)))
 have hg2:w.heap.size < gb:=by simp at hg1;omega
 have HV1:=Lib.hid hv1
 have B2:=Lib.hid b2
 clear b2 hg1 hv1 hb1 HNONE
 go_wp2_with (go_at_call 54;refine (rows_any N N gb M M _).mono ?_;rintro e w2 ⟨rfl,hb2,hbx2⟩)
 have HPB:Hid (OneB gb w1.heap.size N M w w2):=Lib.hid (by
  have h2:Below w1.heap.size w1 w2:=((Below.refl _ _).alloc (Nat.le_refl _) _).trans (hb2.mono (by simp))
  exact ⟨keepB h2 B2.out,keepB hb2 (heap_newA _ _),HB1.out.trans (h2.mono HB1.out.size),hg2,HV1.out.1⟩)
 have HV2:Hid (View w2 gb M (fun _=>0)):=Lib.hid (HV1.out.below (((Below.refl _ _).alloc (Nat.le_refl _) _).trans (hb2.mono (by simp))))
 obtain ⟨b7,hb7⟩:∃ b7,w1.heap.size=b7:=⟨_,rfl⟩
 have HBX:Hid (MBox w2 (b7+1) N N gb M M):=Lib.hid (by rw [← hb7];simpa using hbx2)
 have hbl:b7+1 < w2.heap.size:=HBX.out.lt
 rw [hb7] at HPB
 clear hb2 hbx2 B2 HV1 HB1
 refine wp_frame (oneFr w b7) _ (by rw [← hb7];kernel_rfl) 16 (.func (.func 69) #[] #[.pointer (some ⟨b7+1,0,none⟩)]) (by rw [← hb7];simp) ?_
 clear hb7
 intro u hu
 have HU:=Lib.hid hu
 clear hu
 obtain ⟨l1,l2⟩:=HPB.out.lt
 refine wp_range_all2 (gf:=69) (lb:=#[.pointer (some ⟨b7+1,0,none⟩)]) (show u 16=_ from HU.out) (enters_of Tryz.func69 (by kernel_rfl) rfl) (rows1_stops N N gb M M (b7+1) w2 HBX.out h0 (by have:=HM.out;omega) (by omega) (by have:=HM.out;omega)) (Below.refl _ _) hbl (fun _=>rfl) [gb] (by simp;omega)
  (fun pre W=>OneB gb b7 N M w W∧View W gb M (flat N (onM (pre.map Fin.val))))
  (ownFrom_of fun s W W' r h hr hk=>by
   have hn:∀ k,k < w2.heap.size→k ∉ r:=fun k hk hm=>by have:=hr k hm;omega
   exact ⟨h.1.step hk (fun x hx=>.inr (by have:=hr x hx;omega)),h.2.kp hk (hn _ (by omega))⟩)
  ⟨HPB.out,HV2.out.congr fun j hj=>by simp [flat,onM]⟩
  (fun x=>{ tmps:=#[u 0,u 1,.pointer (some ⟨w.heap.size,0,none⟩),.pointer (some ⟨b7,0,none⟩),u 4,u 5,u 6,u 7,u 8,u 9,u 10,u 11,u 12,u 13,u 14,u 15,u 16,.int .i64 (x.val:Nat),.slice (some ⟨gb,x.val * N,none⟩) N N,u 19,u 20,u 21,u 22],defers:=[] })
  (fun x=>{ tmps:=#[u 0,u 1,.pointer (some ⟨w.heap.size,0,none⟩),.pointer (some ⟨b7,0,none⟩),.int .i64 (x.val:Nat),.slice (some ⟨gb,x.val * N,none⟩) N N,u 6,u 7,u 8,u 9,u 10,u 11,u 12,u 13,u 14,u 15,u 16,.int .i64 (x.val:Nat),.slice (some ⟨gb,x.val * N,none⟩) N N,u 19,u 20,u 21,u 22],defers:=[] }) (fun x=>by kernel_rfl) ?assign ?body ?done
 case assign =>
  intro lv x W K hK
  gi_wp2
  exact hK
 case body =>
  rintro lv pre ⟨i,hi⟩ W ⟨hB,hV⟩ hlt hsz
  dsimp only
  obtain ⟨Pr,hPr⟩:∃ Pr,pre.map Fin.val=Pr:=⟨_,rfl⟩
  rw [hPr] at hV
  have hij:i * N+i < M:=by rw [← HM.out];exact off_lt hi hi
  obtain ⟨c1,f1⟩:=hV.2 (i * N+i) hij
  have gg:=hV.1
  have q1:(0:Int)≤(i:Int)∧(i:Int) < (N:Int):=by omega
  have hs:=hV.set hij (1:GF)
  have h1n:((1:GF).n:Nat)=1:=rfl
  rw [h1n] at hs
  have hk6:Kp [gb] W (W.setCell ⟨gb,i * N+i,none⟩ (.int .u8 ((1:Nat):Int))):=(Kp.refl _ _).setCell (.inl (by simp)) _
  have HEND:Hid (Kp [gb] W (W.setCell ⟨gb,i * N+i,none⟩ (.int .u8 ((1:Nat):Int)))∧OneB gb b7 N M w (W.setCell ⟨gb,i * N+i,none⟩ (.int .u8 ((1:Nat):Int)))∧View (W.setCell ⟨gb,i * N+i,none⟩ (.int .u8 ((1:Nat):Int))) gb M (flat N (onM ((pre ++ [(⟨i,hi⟩:Fin N)]).map Fin.val)))) :=
   Lib.hid ⟨hk6,hB.step hk6 (fun x hx=>by simp at hx;exact .inl hx),hs.congr fun j hj=>by
    rw [List.map_append,hPr]
    exact on_set Pr hi (by rw [HM.out];exact hj)⟩
  obtain ⟨z,hz⟩:∃ z,(flat N (onM Pr) (i * N+i)).n=z:=⟨_,rfl⟩
  rw [hz] at c1
  clear hPr hB hV hlt hsz HPB HV2 HBX hs hk6 hz h1n
  gi_wp2
  exact ⟨HEND.out.1,HEND.out.2.1,by simpa using HEND.out.2.2⟩
 case done =>
  rintro D0 xs W hD0 rfl ⟨hB,hV⟩ hK0
  have HB:=Lib.hid hB
  have HV:Hid (View W gb M (flat N idM)):=Lib.hid (hV.congr fun j hj=>by
   obtain ⟨r,k,hr,hk,rfl⟩:=off_ex (R:=N) h0 (by rw [HM.out];exact hj)
   rw [flat_at h0 _ _ _ hk,flat_at h0 _ _ _ hk]
   have:r ∈ (List.finRange N).map Fin.val:=List.mem_map.2 ⟨⟨r,hr⟩,List.mem_finRange _,rfl⟩
   simp [onM,idM,this])
  have HK0:=Lib.hid hK0
  have HD0:=Lib.hid hD0
  have m0:=cell_of_heap hB.bm (j:=0) rfl
  have m1:=cell_of_heap hB.bm (j:=1) rfl
  have m2:=cell_of_heap hB.bm (j:=2) rfl
  have y0:=cell_of_heap hB.b2 (j:=0) rfl
  have y1:=cell_of_heap hB.b2 (j:=1) rfl
  have y2:=cell_of_heap hB.b2 (j:=2) rfl
  have z0:=free_of_heap hB.b2 0
  have z1:=free_of_heap hB.b2 1
  have z2:=free_of_heap hB.b2 2
  have g6:=lt_of_heap hB.b2
  clear hB hV hK0 hD0
  unfold oneFr
  go_wp2
  have hD:=HD0.out
  have hk:Kp [w.heap.size] W (((W.setCell ⟨w.heap.size,0,none⟩ (.int .i64 N)).setCell ⟨w.heap.size,1,none⟩ (.int .i64 N)).setCell ⟨w.heap.size,2,none⟩ (.slice (some ⟨gb,0,none⟩) M M)) :=
   (((Kp.refl _ _).setCell (.inl (by simp)) _).setCell (.inl (by simp)) _).setCell (.inl (by simp)) _
  have h6:(((W.setCell ⟨w.heap.size,0,none⟩ (.int .i64 N)).setCell ⟨w.heap.size,1,none⟩ (.int .i64 N)).setCell ⟨w.heap.size,2,none⟩ (.slice (some ⟨gb,0,none⟩) M M)).heap[w.heap.size]? = some (.cells #[.int .i64 N,.int .i64 N,.slice (some ⟨gb,0,none⟩) M M] 76 (0,0)):=by
   have:=heap_set_same (heap_set_same (heap_set_same HB.out.b2 0 (.int .i64 N)) 1 (.int .i64 N)) 2 (.slice (some ⟨gb,0,none⟩) M M)
   simpa using this
  refine leaves_marks (B:=w.heap.size) [D0] _ (Marks.cons (Marks.nil _ _) (by omega) (hk.heap HK0.out (by simp;omega)) (by simp)) fun w' hk'=>⟨.agg #[.int .i64 N,.int .i64 N,.slice (some ⟨gb,0,none⟩) M M],?_,?_⟩
  ·have h7:=hk'.heap h6 (by simp;omega)
   have c0:w'.cell? ⟨w.heap.size,0,none⟩=some (.int .i64 N):=cell_of_heap h7 rfl
   have c1:w'.cell? ⟨w.heap.size,1,none⟩=some (.int .i64 N):=cell_of_heap h7 rfl
   have c2:w'.cell? ⟨w.heap.size,2,none⟩=some (.slice (some ⟨gb,0,none⟩) M M):=cell_of_heap h7 rfl
   simp [results,Tryz.results59,go_sem,c0,c1,c2]
  ·refine ⟨gb,by rw [HM.out],by omega,?_,(HB.out.kp.trans (hk.below HB.out.kp.size (fun x hx=>by simp at hx;omega))).trans (hk'.below (by have:=HB.out.kp.size;have:=hk.size;omega) (fun x hx=>by simp at hx;omega))⟩
   rw [HM.out]
   exact (HV.out.kp hk (by simp;omega)).kp hk' (by simp;omega)
end Go.Proofs.YtnjbkfeihbcalaaGreat
/- The inverse of a matrix whose equations have one solution. -/
namespace Go.Proofs.YtnjbkfeihbcalaaGreat
open Go.RowKit Fld Go.Shelf
set_option linter.unusedVariables false
set_option linter.unusedSimpArgs false

def InvPost (fb R:Nat) (A:Nat→Nat→GF) (w:World) (e:Ending) (w':World):Prop :=
 Kp [fb] w w'∧FOk w' fb∧∃ b X,e=.returned (.tuple #[.agg #[.int .i64 R,.int .i64 R,.slice (some ⟨b,0,none⟩) (R * R) (R * R)],.int .i64 0])∧w.heap.size≤b∧View w' b (R * R) (flat R X) ∧
   ∀ x z:Nat→GF,(∀ i,i < R→sm R (fun k=>A i k * x k)=z i)↔∀ k,k < R→x k=sm R (fun l=>X k l * z l)
theorem met_id {R:Nat} {A:Nat→Nat→GF} {x z:Nat→GF}:MetS R R R A idM x z↔∀ i,i < R→sm R (fun k=>A i k * x k)=z i:=by
 have h:∀ i,i < R→sm R (fun l=>idM i l * z l)=z i:=fun i hi=>by
  rw [sm_one i hi (fun k hk hne=>by unfold idM;rw [if_neg (fun e=>hne e.symm),zmul])]
  unfold idM
  rw [if_pos rfl,onem]
 unfold MetS
 constructor
 ·intro hm i hi
  have:=hm i hi
  rw [eqn_iff,h i hi] at this
  exact this
 ·intro hm i hi
  rw [eqn_iff,h i hi]
  exact hm i hi
theorem solve_id (fb R M:Nat) (aa ab:Option Addr) (capa capb:Nat) (la lb:List GF) (A:Nat→Nat→GF) (w:World) (hF:FOk w fb)
  (ha:GRd w (.slice aa M capa) la) (hb:GRd w (.slice ab M capb) lb) (hM:R * R=M) (hA:∀ j,j < M→la.getD j 0=flat R A j) (hB:∀ j,j < M→lb.getD j 0=flat R idM j) (hR:0 < R) (hR2:R≤4096)
  (hinj:∀ x:Nat→GF,(∀ i,i < R→sm R (fun k=>A i k * x k)=0)→∀ k,k < R→x k=0) :
  Calls Tryz.prog 58 #[.pointer (some ⟨fb,0,none⟩),.agg #[.int .i64 R,.int .i64 R,.slice aa M capa],.agg #[.int .i64 R,.int .i64 R,.slice ab M capb]] w (InvPost fb R A w):=by
 have hMb:M≤16777216:=by rw [← hM];have:=Nat.mul_le_mul hR2 hR2;omega
 refine (solve_any fb R R R M M aa ab capa capb la lb A idM w hF ha hb hM hM hA hB hR hR hR (by omega) (by omega) (by omega) (by omega) (by omega)).mono ?_
 rintro e w' ⟨hk,hf,⟨b,X,rfl,hb,hv,hx⟩ | ⟨-,⟨x,⟨k,hk1,hk2⟩,hx⟩ | ⟨l,hl,hx⟩⟩⟩
 ·exact ⟨hk,hf,b,X,rfl,hb,hv,fun x z=>met_id.symm.trans (hx x z)⟩
 ·exact absurd (hinj x hx k hk1) hk2
 ·obtain ⟨x,hx2⟩:=square_surj hinj (dlt l)
  exact absurd (met_id.2 hx2) (hx x)
set_option maxRecDepth 100000 in
set_option maxHeartbeats 4000000 in
theorem inv_any (fb R M:Nat) (aa:Option Addr) (capa:Nat) (la:List GF) (A:Nat→Nat→GF) (w:World) (hF:FOk w fb)
  (ha:GRd w (.slice aa M capa) la) (hap:Apart (.slice aa M capa) [fb]) (hM:R * R=M) (hA:∀ j,j < M→la.getD j 0=flat R A j) (hR:0 < R) (hR2:R≤4096)
  (hinj:∀ x:Nat→GF,(∀ i,i < R→sm R (fun k=>A i k * x k)=0)→∀ k,k < R→x k=0) :
  Calls Tryz.prog 32 #[.pointer (some ⟨fb,0,none⟩),.agg #[.int .i64 R,.int .i64 R,.slice aa M capa]] w (InvPost fb R A w):=by
 have hfw:=hF.lt
 have HF:=Lib.hid hF
 have HA:=Lib.hid ha
 have HAP:=Lib.hid hap
 have HM:=Lib.hid hM
 have HAM:=Lib.hid hA
 have HIN:=Lib.hid hinj
 obtain ⟨w2,hw2⟩:∃ w2,w2=(w.alloc (.cells #[.int .i64 R,.int .i64 R,.slice aa M capa] 76)).alloc (.cells #[.int .i64 0,.int .i64 0,.slice none 0 0] 76):=⟨_,rfl⟩
 have hb2:Below w.heap.size w w2:=by rw [hw2];exact (((Below.refl _ _).alloc (Nat.le_refl _) _).alloc (by simp) _)
 have d3:w2.heap[w.heap.size]? = some (.cells #[.int .i64 R,.int .i64 R,.slice aa M capa] 76 (0,0)):=by rw [hw2];exact keepA (heap_newA _ _) _
 have d4:w2.heap[w.heap.size+1]? = some (.cells #[.int .i64 0,.int .i64 0,.slice none 0 0] 76 (0,0)):=by rw [hw2];exact heap_newE _ _ _ (by simp)
 have D3:=Lib.hid d3
 have D4:=Lib.hid d4
 have HB2:=Lib.hid hb2
 have hs2:=lt_of_heap d4
 have hRT:=Lib.hid (fun W=>right_true R R aa M capa W (by omega) (by omega) hM.symm)
 have n1:¬ (R:Int) > 4096:=by omega
 have a0:=cell_of_heap d3 (j:=0) rfl
 have a1:=cell_of_heap d3 (j:=1) rfl
 have a2:=cell_of_heap d3 (j:=2) rfl
 clear hF ha hap hM hA hinj d3 d4 hb2
 go_enter Tryz.func32,Tryz.ntmps32
 go_wp2_with fail
 rw [← hw2]
 clear hw2
 refine (hRT.out _).mono ?_
 rintro e w3 ⟨rfl,hb3⟩
 have HB3:Hid (Below w.heap.size w w3):=Lib.hid (HB2.out.trans (hb3.mono HB2.out.size))
 have E3:=Lib.hid (keepB hb3 D3.out)
 have E4:=Lib.hid (keepB hb3 D4.out)
 have HF3:=Lib.hid (HF.out.below HB3.out)
 have HA3:=Lib.hid (HA.out.below HB3.out)
 have hs3:=lt_of_heap E4.out
 have a0:=cell_of_heap E3.out (j:=0) rfl
 have a1:=cell_of_heap E3.out (j:=1) rfl
 have a2:=cell_of_heap E3.out (j:=2) rfl
 have HONE:Hid (∀ W,Calls Tryz.prog 59 #[.int .i64 R] W (fun e w'=>∃ b,e=.returned (.agg #[.int .i64 R,.int .i64 R,.slice (some ⟨b,0,none⟩) M M])∧W.heap.size≤b∧View w' b M (flat R idM)∧Below W.heap.size W w')):=Lib.hid fun W=>by
  have:=one_any R W hR hR2
  unfold OnePost at this
  rwa [HM.out] at this
 have HSO:Hid (∀ W b,FOk W fb→GRd W (.slice aa M capa) la→View W b M (flat R idM)→Calls Tryz.prog 58 #[.pointer (some ⟨fb,0,none⟩),.agg #[.int .i64 R,.int .i64 R,.slice aa M capa],.agg #[.int .i64 R,.int .i64 R,.slice (some ⟨b,0,none⟩) M M]] W (fun e w'=>Kp [fb] W w'∧FOk w' fb∧∃ b X,e=.returned (.tuple #[.agg #[.int .i64 R,.int .i64 R,.slice (some ⟨b,0,none⟩) M M],.int .i64 0])∧W.heap.size≤b∧View w' b M (flat R X) ∧
   ∀ x z:Nat→GF,(∀ i,i < R→sm R (fun k=>A i k * x k)=z i)↔∀ k,k < R→x k=sm R (fun l=>X k l * z l))):=Lib.hid fun W b h1 h2 h3=>by
  have:=solve_id fb R M aa _ capa M la _ A W h1 h2 (h3.rd (o:=0) (m:=M) (by omega) (Nat.le_refl _)) HM.out HAM.out (fun j hj=>by
   rw [List.getD_eq_getElem?_getD,List.getElem?_map,List.getElem?_range hj]
   simp) hR hR2 HIN.out
  unfold InvPost at this
  rwa [HM.out] at this
 obtain ⟨kp,hkp⟩:∃ kp:Nat→Bool,∀ k,kp k=true↔k < w3.heap.size∧k ≠ fb∧k ≠ w.heap.size+1:=⟨fun k=>decide (k < w3.heap.size∧k ≠ fb∧k ≠ w.heap.size+1),by simp⟩
 have k1:kp w.heap.size=true:=(hkp _).2 ⟨by omega,by omega,by omega⟩
 have HKP:=Lib.hid hkp
 clear hkp hRT hb3 D3 D4 HB2 HF HAM HIN
 go_upto_region 3 with fail
 have hgr:=fun (w0 W:World) (p:Addr) (hp:(fun k=>kp k=true) p.block)=>graft_cell (w0:=w0) (keep:=(fun k=>kp k=true)) W hp
 refine wp_region_tree (fun k=>kp k=true) [4,5,8] (.sq [0,1,2,3,4,5,6,7,8,9] .done) (by kernel_rfl) (by kernel_rfl) ?_
 simp only [Tr.sq,List.foldr_cons,List.foldr_nil,slimTr,slimStep,Oper.slim,List.contains_cons,List.contains_nil,Option.map_none,Option.map_some,List.getElem?_toArray,List.getElem?_cons_zero,List.getElem?_cons_succ,Option.bind_some,beq_self_eq_true,Bool.or_false,Nat.reduceBEq,Nat.reduceAdd,Nat.zero_add]
 repeat' first | ((with_reducible refine wpSlimT_id ?_);first | (with_reducible refine wpSlimT_done ?_) | ((with_reducible refine wpSlimT_step (fun K hK=>?_));go_simp;first | (refine hK _ _ ?_;clear hK K) | (refine ⟨by (intro kk hkk;first | (simp (disch:=(simp;omega)) only [hp_drew,hp_drewN,hp_alloc,hp_set];done) | (simp [hp_drew,hp_drewN,hp_alloc_if,hkk];done) | (have hkk2:=(HKP.out kk).1 hkk;simp (disch:=(first | exact hkk2 | (simp;done) | (simp;omega))) only [hp_drew,hp_drewN,hp_alloc,hp_set];first | done | exact HQ.out.block kk hkk2.1 (by have:=hkk2.2.1;simpa using this))),hK _ _ ?_⟩;clear hK K) | (go_at_call 59;(with_reducible refine (HONE.out _).mono ?_);rintro e wq ⟨ib,rfl,hib,hiv,hbq⟩;have HQ1:Hid (Below w3.heap.size w3 wq):=Lib.hid (((Below.refl w3.heap.size w3).drew).trans hbq);have HIV:=Lib.hid hiv;clear hiv hbq;refine ⟨_,rfl,(fun kk hkk=>HQ1.out.block kk ((HKP.out kk).1 hkk).1),hK _ _ ?_⟩;clear hK K) | (go_at_call 58;(with_reducible refine (HSO.out _ _ (HF3.out.below HQ1.out) (HA3.out.below HQ1.out) HIV.out).mono ?_);rintro e wz ⟨hkz,hfz,xb,X,rfl,hxb,hxv,hxs⟩;have HQ:Hid (Kp [fb] w3 wz):=Lib.hid ((Kp.of_below HQ1.out).trans hkz);have HFZ:=Lib.hid hfz;have HXV:=Lib.hid hxv;have HXS:=Lib.hid hxs;have HXB:Hid (w3.heap.size≤xb):=Lib.hid (Nat.le_trans HQ1.out.size hxb);have E4z:=Lib.hid (HQ.out.heap E4.out (by simp;omega));have y0:=cell_of_heap E4z.out (j:=0) rfl;have y1:=cell_of_heap E4z.out (j:=1) rfl;have y2:=cell_of_heap E4z.out (j:=2) rfl;have z0:=free_of_heap E4z.out 0;have z1:=free_of_heap E4z.out 1;have z2:=free_of_heap E4z.out 2;have g4:=lt_of_heap E4z.out;clear hkz hfz hxv hxs hxb;refine ⟨_,rfl,(fun kk hkk=>HQ.out.block kk ((HKP.out kk).1 hkk).1 (by have:=((HKP.out kk).1 hkk).2;simpa using this.1)),hK _ _ ?_⟩;clear hK K))) | fail
 clear hgr
 go_wp2
 have hk:Kp [w.heap.size+1] wz (((wz.setCell ⟨w.heap.size+1,0,none⟩ (.int .i64 R)).setCell ⟨w.heap.size+1,1,none⟩ (.int .i64 R)).setCell ⟨w.heap.size+1,2,none⟩ (.slice (some ⟨xb,0,none⟩) M M)) :=
  (((Kp.refl _ _).setCell (.inl (by simp)) _).setCell (.inl (by simp)) _).setCell (.inl (by simp)) _
 have h6:(((wz.setCell ⟨w.heap.size+1,0,none⟩ (.int .i64 R)).setCell ⟨w.heap.size+1,1,none⟩ (.int .i64 R)).setCell ⟨w.heap.size+1,2,none⟩ (.slice (some ⟨xb,0,none⟩) M M)).heap[w.heap.size+1]? = some (.cells #[.int .i64 R,.int .i64 R,.slice (some ⟨xb,0,none⟩) M M] 76 (0,0)):=by
  have:=heap_set_same (heap_set_same (heap_set_same E4z.out 0 (.int .i64 R)) 1 (.int .i64 R)) 2 (.slice (some ⟨xb,0,none⟩) M M)
  simpa using this
 have c0:=cell_of_heap h6 (j:=0) (v:=.int .i64 R) rfl
 have c1:=cell_of_heap h6 (j:=1) (v:=.int .i64 R) rfl
 have c2:=cell_of_heap h6 (j:=2) (v:=.slice (some ⟨xb,0,none⟩) M M) rfl
 have hx3:=HXB.out
 refine bodyPost_ret (v:=.tuple #[.agg #[.int .i64 R,.int .i64 R,.slice (some ⟨xb,0,none⟩) M M],.int .i64 0]) ?_ rfl ⟨(((Kp.of_below HB3.out).trans HQ.out).step hk (fun x hx=>by simp at hx;exact .inr (by omega))),HFZ.out.kp hk (by simp;omega),xb,X,by rw [HM.out],by have:=HB3.out.size;omega,by rw [HM.out];exact HXV.out.kp hk (by simp;omega),HXS.out⟩
 simp [results,Tryz.results32,go_sem,c0,c1,c2]
end Go.Proofs.YtnjbkfeihbcalaaGreat
