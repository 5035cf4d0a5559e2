/-
  Equations solved.
  Equations solved: the program.
-/
import Derived.Test.YtnjbkfeihbcalaaGreatZReduce
/- Equations solved. -/
namespace Go.Proofs.YtnjbkfeihbcalaaGreat
open Go.RowKit Fld
set_option linter.unusedVariables false
set_option linter.unusedSimpArgs false

namespace Fld
variable {F:Type} [Fld F]
noncomputable def dlt (l:Nat):Nat→F:=fun j=>if j=l then 1 else 0
theorem sm_dlt {n l:Nat} (hl:l < n) (f:Nat→F):sm n (fun k=>f k * dlt l k)=f l:=by
 rw [sm_one l hl (fun k _ hk=>by simp only [dlt];rw [if_neg hk,mzero])]
 simp only [dlt]
 rw [if_pos trivial,mone]
theorem met_full {R C D c:Nat} {NA NB:Nat→Nat→F} {p:Nat→Nat} (h:Ech R c C NA p) (hc:c≤C) (hz:∀ i,C≤i→i < R→∀ l,l < D→NB i l=0) (x z:Nat→F) :
  MetS R C D NA NB x z↔∀ k,k < C→x k=sm D (fun l=>NB k l * z l):=by
 have hf:=h.full hc
 have hCR:C≤R:=h.aR
 constructor
 ·intro hm k hk
  have:=(eqn_iff C D NA NB x z k).1 (hm k (by omega))
  rw [← this,sm_one k hk (fun j hj hjk=>by rw [hf k (by omega) j hj,if_neg (Ne.symm hjk),zmul]),hf k (by omega) k hk,if_pos rfl,onem]
 ·intro hm i hi
  rw [eqn_iff]
  by_cases hiC:i < C
  ·rw [sm_one i hiC (fun j hj hji=>by rw [hf i hi j hj,if_neg (Ne.symm hji),zmul]),hf i hi i hiC,if_pos rfl,onem,hm i hiC]
  ·rw [sm_0 (fun k hk=>by rw [hf i hi k hk,if_neg (by omega),zmul]),sm_0 (fun l hl=>by rw [hz i (by omega) hi l hl,zmul])]
theorem met_none {R C D c:Nat} {NA NB:Nat→Nat→F} {p:Nat→Nat} (h:Ech R c C NA p) (hc:c≤C) {i l:Nat} (hi:C≤i) (hiR:i < R) (hl:l < D) (hne:NB i l ≠ 0) (x:Nat→F):¬ MetS R C D NA NB x (dlt l):=by
 intro hm
 have:=(eqn_iff C D NA NB x _ i).1 (hm i hiR)
 rw [sm_0 (fun k hk=>by rw [h.full hc i hiR k hk,if_neg (by omega),zmul]),sm_dlt hl] at this
 exact hne this.symm
end Fld

theorem View.rd {w:World} {b N:Nat} {g:Nat→GF} (h:View w b N g) {o m:Nat} (hm:o+m≤N) {cap:Nat} (hc:m≤cap):GRd w (.slice (some ⟨b,o,none⟩) m cap) ((List.range m).map fun j=>g (o+j)):=by
 refine ⟨fun x hx=>?_,some ⟨b,o,none⟩,cap,by simp,by simpa using hc,fun hne=>⟨b,o,rfl,h.1,fun i hi=>?_⟩⟩
 ·obtain ⟨y,_,rfl⟩:=List.mem_map.1 hx
  exact y.lt
 ·simp at hi
  rw [(h.2 (o+i) (by omega)).1]
  simp [hi]

def IdxG (l:List GF) (p:GF→Bool) (w:World) (e:Ending) (w':World):Prop:=∃ r:Int,e=.returned (.int .i64 r)∧w=w'∧((r=-1∧∀ x ∈ l,p x=false) ∨ ∃ I:Nat,r=I∧I < l.length∧∀ x,l[I]? = some x→p x=true)
set_option maxHeartbeats 1000000 in
theorem solve1_any (x:GF) (w:World):Calls Tryz.prog 74 #[.int .u8 (x.n:Nat)] w fun e w'=>e=.returned (.bool (decide (x ≠ 0)))∧w=w':=by
 obtain ⟨b,hb⟩:∃ b,b=decide (x ≠ 0):=⟨_,rfl⟩
 rw [← hb]
 have h0:((x.n:Int) != 0)=b:=by
  rw [hb]
  by_cases h:x=0
  ·rw [h];rfl
  ·have:=GF.ne0.1 h
   simpa [h] using this
 obtain ⟨y,hy⟩:∃ y,x.n=y:=⟨_,rfl⟩
 rw [hy] at h0 ⊢
 clear hb hy
 go_enter Tryz.func74,Tryz.ntmps74
 go_wp2
 go_ret
 exact ⟨by rw [← h0];rfl,rfl⟩
set_option maxHeartbeats 1000000 in
theorem index_solve (v:Value) (l:List GF) (w:World) (h:GRd w v l) (hl:l.length≤1000000000000000) :
  Calls Tryz.prog 102 #[v,.func (.func 74) #[] #[]] w (IdxG l (fun x=>decide (x ≠ 0)) w):=by
 obtain ⟨p,hp⟩:∃ p:GF→Bool,p=fun x=>decide (x ≠ 0):=⟨_,rfl⟩
 have HP:Hid (∀ (x:GF) w,Calls Tryz.prog 74 #[.int .u8 (x.n:Nat)] w fun e w'=>e=.returned (.bool (p x))∧w=w'):=Lib.hid (by rw [hp];exact solve1_any)
 rw [← hp]
 clear hp
 obtain ⟨a,cap,rfl,hcap⟩:=h.form
 have H:=Lib.hid h
 clear h
 go_enter Tryz.func102,Tryz.ntmps102
 go_wp2
 go_loop [8] (fun i=>∃ I:Nat,I≤l.length∧i=.int .i64 I∧Hid (∀ i x,i < I→l[i]? = some x→p x=false)) (fun i=>l.length - (intOf i).toNat)
 case atStart=>exact ⟨0,by omega,rfl,Lib.hid (fun i c hi=>by omega)⟩
 case round =>
  obtain ⟨I,hI,rfl,hN⟩:=hrel
  by_cases hlt:I < l.length
  ·obtain ⟨x,hx⟩:∃ x,l[I]? = some x:=⟨_,List.getElem?_eq_getElem hlt⟩
   obtain ⟨b,o,rfl,hb,c0⟩:=H.out.at hx
   have HX:=Lib.hid hx
   have HCALL:=Lib.hid (HP.out x w)
   clear hx
   obtain ⟨pc,hpc⟩:∃ y,y=p x:=⟨_,rfl⟩
   rw [← hpc] at HCALL
   have HPC:=Lib.hid hpc
   clear hpc
   obtain ⟨y,hy⟩:∃ y,x.n=y:=⟨_,rfl⟩
   rw [hy] at c0 HCALL
   clear hy
   cases pc
   ·go_wp2_with (go_at_call 74;(with_reducible refine HCALL.out.mono ?_);rintro e wc ⟨rfl,rfl⟩)
    have HN2:Hid (∀ i c',i < I+1→l[i]? = some c'→p c'=false):=Lib.hid (fun i c' hi hc'=>by
     by_cases e:i=I
     ·subst e
      have:c'=x:=by have:=HX.out;rw [hc'] at this;exact Option.some.inj this
      subst this
      exact HPC.out.symm
     ·exact hN.out i c' (by omega) hc')
    go_round
    case rel=>exact ⟨I+1,by omega,by go_num,HN2⟩
    case measure=>simp [intOf];omega
   ·go_wp2_with (go_at_call 74;(with_reducible refine HCALL.out.mono ?_);rintro e wc ⟨rfl,rfl⟩)
    go_ret
    exact ⟨I,rfl,rfl,.inr ⟨I,rfl,hlt,fun c' hc'=>by
     have:c'=x:=by have:=HX.out;rw [hc'] at this;exact Option.some.inj this
     subst this
     exact HPC.out.symm⟩⟩
  ·obtain rfl:I=l.length:=by omega
   go_wp2
   go_ret
   exact ⟨-1,rfl,rfl,.inl ⟨rfl,fun x hx=>by
    obtain ⟨i,hi⟩:=List.getElem?_of_mem hx
    exact hN.out i x (List.getElem?_eq_some_iff.1 hi).1 hi⟩⟩
set_option maxHeartbeats 1000000 in
theorem contains_solve (v:Value) (l:List GF) (w:World) (h:GRd w v l) (hl:l.length≤1000000000000000) :
  Calls Tryz.prog 73 #[v,.func (.func 74) #[] #[]] w fun e w'=>e=.returned (.bool (l.any fun x=>decide (x ≠ 0)))∧w=w':=by
 obtain ⟨p,hp⟩:∃ p:GF→Bool,p=fun x=>decide (x ≠ 0):=⟨_,rfl⟩
 have HIDX:=Lib.hid (index_solve v l w h hl)
 rw [← hp] at HIDX ⊢
 clear h hp
 go_enter Tryz.func73,Tryz.ntmps73
 go_wp2_with (go_at_call 102;(with_reducible refine HIDX.out.mono ?_);rintro e w1 ⟨r,rfl,rfl,hr⟩;have HR:=Lib.hid hr;clear hr)
 go_ret
 refine ⟨?_,rfl⟩
 have key:decide ((0:Int)≤r)=l.any p:=by
  rcases HR.out with ⟨h1,h2⟩ | ⟨I,h1,h2,h4⟩
  ·have:l.any p=false:=by rw [List.any_eq_false];intro x hx;simp [h2 x hx]
   rw [this,h1]
   rfl
  ·have:l.any p=true:=List.any_eq_true.2 ⟨l[I],List.getElem_mem h2,h4 _ (List.getElem?_eq_getElem h2)⟩
   rw [this]
   exact decide_eq_true (by omega)
 rw [← key]
 rfl
end Go.Proofs.YtnjbkfeihbcalaaGreat
/- Equations solved: the program. -/
namespace Go.Proofs.YtnjbkfeihbcalaaGreat
open Go.RowKit Fld
set_option linter.unusedVariables false
set_option linter.unusedSimpArgs false

theorem met_zero {F:Type} [Fld F] {R C D:Nat} {A B:Nat→Nat→F} {x:Nat→F}:MetS R C D A B x (fun _=>0)↔∀ i,i < R→sm C (fun k=>A i k * x k)=0:=by
 have h1:∀ i,eqn C D A B x (fun _=>0) i=sm C (fun k=>A i k * x k):=fun i=>by
  unfold eqn
  rw [sm_0 (n:=D) (fun l hl=>mzero _),addz]
 constructor
 ·intro h i hi;rw [← h1];exact h i hi
 ·intro h i hi;rw [h1];exact h i hi
theorem ech_ac {F:Type} [Fld F] {R c a:Nat} {A:Nat→Nat→F} {p:Nat→Nat} (h:Ech R c a A p):a≤c:=by
 have h1:∀ r,r < a→r≤p r:=fun r=>by
  induction r with
  | zero=>intro _;omega
  | succ r ih=>intro hr;have:=ih (by omega);have:=h.mono r (r+1) (by omega) hr;omega
 by_cases e:a=0
 ·omega
 ·have:=h1 (a - 1) (by omega)
  have:=h.lt (a - 1) (by omega)
  omega
def OwnF (R C N:Nat) (A:Nat→Nat→GF) (w:World) (e:Ending) (w':World):Prop :=
 ∃ g cap,e=.returned (.agg #[.int .i64 R,.int .i64 C,.slice (some ⟨g,0,none⟩) N cap])∧w.heap.size≤g∧N≤cap∧View w' g N (flat C A)∧Below w.heap.size w w'
theorem GRd.len {w:World} {a:Option Addr} {n cap:Nat} {l:List GF} (h:GRd w (.slice a n cap) l):l.length=n∧n≤cap:=by
 obtain ⟨a',cap',h1,h2⟩:=h.form
 obtain ⟨rfl,rfl,rfl⟩:=(Value.slice.injEq ..).mp h1
 exact ⟨rfl,h2⟩
theorem own_flat (R C N:Nat) (A:Nat→Nat→GF) (aa:Option Addr) (capa:Nat) (la:List GF) (w:World) (h:GRd w (.slice aa N capa) la) (hA:∀ j,j < N→la.getD j 0=flat C A j) (h0:0 < N) (hN:N≤1000000000) :
  Calls Tryz.prog 71 #[.agg #[.int .i64 R,.int .i64 C,.slice aa N capa]] w (OwnF R C N A w):=by
 have hl:=h.len.1
 refine (own_any R C _ la w h (by omega) (fun e=>by rw [e] at hl;simp at hl;omega)).mono ?_
 rintro e w' ⟨b,cap,rfl,h1,h2,-,h4,h5⟩
 rw [hl] at h2 h4 ⊢
 exact ⟨b,cap,rfl,h1,h2,h4.congr hA,h5⟩

def SolPost (fb R C D:Nat) (A B:Nat→Nat→GF) (w:World) (e:Ending) (w':World):Prop :=
 Kp [fb] w w'∧FOk w' fb ∧
 ((∃ b X,e=.returned (.tuple #[.agg #[.int .i64 C,.int .i64 D,.slice (some ⟨b,0,none⟩) (C * D) (C * D)],.int .i64 0])∧w.heap.size≤b∧View w' b (C * D) (flat D X) ∧
   ∀ x z,MetS R C D A B x z↔∀ k,k < C→x k=sm D (fun l=>X k l * z l)) ∨
  (e=.returned (.tuple #[.agg #[.int .i64 0,.int .i64 0,.slice none 0 0],.int .i64 51]) ∧
   ((∃ x:Nat→GF,(∃ k,k < C∧x k ≠ 0)∧∀ i,i < R→sm C (fun k=>A i k * x k)=0) ∨ ∃ l,l < D∧∀ x,¬ MetS R C D A B x (dlt l))))
set_option maxHeartbeats 4000000 in
theorem solve_any (fb R C D M N:Nat) (aa ab:Option Addr) (capa capb:Nat) (la lb:List GF) (A B:Nat→Nat→GF) (w:World) (hF:FOk w fb)
  (ha:GRd w (.slice aa M capa) la) (hb:GRd w (.slice ab N capb) lb) (hM:R * C=M) (hN:R * D=N) (hA:∀ j,j < M→la.getD j 0=flat C A j) (hB:∀ j,j < N→lb.getD j 0=flat D B j)
  (hR:0 < R) (hC:0 < C) (hD:0 < D) (hR2:R≤65536) (hC2:C≤65536) (hD2:D≤65536) (hM2:M≤1000000000) (hN2:N≤1000000000) :
  Calls Tryz.prog 58 #[.pointer (some ⟨fb,0,none⟩),.agg #[.int .i64 R,.int .i64 C,.slice aa M capa],.agg #[.int .i64 R,.int .i64 D,.slice ab N capb]] w (SolPost fb R C D A B w):=by
 have HRTA:Hid (∀ W,Calls Tryz.prog 57 #[.agg #[.int .i64 R,.int .i64 C,.slice aa M capa]] W fun e w'=>e=.returned (.bool true)∧Below W.heap.size W w'):=Lib.hid fun W=>right_true R C aa M capa W hR2 hC2 hM.symm
 have HRTB:Hid (∀ W,Calls Tryz.prog 57 #[.agg #[.int .i64 R,.int .i64 D,.slice ab N capb]] W fun e w'=>e=.returned (.bool true)∧Below W.heap.size W w'):=Lib.hid fun W=>right_true R D ab N capb W hR2 hD2 hN.symm
 have HOA:Hid (∀ W,GRd W (.slice aa M capa) la→Calls Tryz.prog 71 #[.agg #[.int .i64 R,.int .i64 C,.slice aa M capa]] W (OwnF R C M A W)):=Lib.hid fun W h=>own_flat R C M A aa capa la W h hA (by rw [← hM];exact Nat.mul_pos hR hC) hM2
 have HOB:Hid (∀ W,GRd W (.slice ab N capb) lb→Calls Tryz.prog 71 #[.agg #[.int .i64 R,.int .i64 D,.slice ab N capb]] W (OwnF R D N B W)):=Lib.hid fun W h=>own_flat R D N B ab capb lb W h hB (by rw [← hN];exact Nat.mul_pos hR hD) hN2
 have HRED:Hid (∀ W ba bb capA capB,FOk W fb→View W ba M (flat C A)→View W bb N (flat D B)→fb ≠ ba→fb ≠ bb→ba ≠ bb→M≤capA→N≤capB →
   Calls Tryz.prog 72 #[.pointer (some ⟨fb,0,none⟩),.agg #[.int .i64 R,.int .i64 C,.slice (some ⟨ba,0,none⟩) M capA],.agg #[.int .i64 R,.int .i64 D,.slice (some ⟨bb,0,none⟩) N capB]] W (RedPost fb ba bb R C D A B W)):=Lib.hid fun W ba bb capA capB h1 h2 h3 h4 h5 h6 h7 h8=>by
  subst hM;subst hN
  exact reduce_any fb ba bb R C D capA capB A B W h1 h2 h3 h4 h5 h6 hR hC hD h7 h8 (by omega) (by omega) (by omega)
 have HCON:Hid (∀ W v l,GRd W v l→l.length≤1000000000→Calls Tryz.prog 73 #[v,.func (.func 74) #[] #[]] W fun e w'=>e=.returned (.bool (l.any fun x=>decide (x ≠ 0)))∧W=w'):=Lib.hid fun W v l h1 h2=>contains_solve v l W h1 (by omega)
 have HF:=Lib.hid hF
 have HA:=Lib.hid ha
 have HB:=Lib.hid hb
 have hfw:=hF.lt
 have HN:=Lib.hid hN
 obtain ⟨n,hn⟩:∃ n,C * D=n:=⟨_,rfl⟩
 have HNN:=Lib.hid hn
 have HPOS:Hid (0 < R∧0 < C∧0 < D):=Lib.hid ⟨hR,hC,hD⟩
 have e1:IntKind.i64.wrap ((C:Int) * (D:Int))=(n:Int):=by rw [show ((C:Int) * (D:Int))=((C * D:Nat):Int) from by simp,hn];exact IntWalk.i64_in _ (by have:=Nat.mul_le_mul hC2 hD2;omega)
 have e2:((C:Int) * (D:Int))=(n:Int):=by rw [← hn];simp
 have hnB:C≤R→n≤N:=fun h=>by rw [← hn,← hN];exact Nat.mul_le_mul_right D h
 have HNB:=Lib.hid hnB
 have hmf:∀ (fn:Fn) (first cap:Array Value) (w:World),(Instr.makeFunc fn first cap).run Tryz.prog w=.ok (.func fn first cap) w:=fun _ _ _ _=>rfl
 clear hF ha hb hA hB hM hN hn hnB
 go_enter Tryz.func58,Tryz.ntmps58
 go_wp2_with fail
 refine (HRTA.out _).mono ?_
 rintro e w1 ⟨rfl,hb1⟩
 have b4:w1.heap[w.heap.size]? = some (.cells #[.int .i64 R,.int .i64 C,.slice aa M capa] 76 (0,0)):=keepB hb1 (by (repeat (refine Eq.trans (hp_alloc _ _ _ ?_) ?_;(· first | (simp;done) | (simp;omega))));exact heap_newE _ _ _ (by simp))
 have b5:w1.heap[w.heap.size+1]? = some (.cells #[.int .i64 R,.int .i64 D,.slice ab N capb] 76 (0,0)):=keepB hb1 (by (repeat (refine Eq.trans (hp_alloc _ _ _ ?_) ?_;(· first | (simp;done) | (simp;omega))));exact heap_newE _ _ _ (by simp))
 have b6:w1.heap[w.heap.size+2]? = some (.cells #[.int .i64 0,.int .i64 0,.slice none 0 0] 76 (0,0)):=keepB hb1 (by (repeat (refine Eq.trans (hp_alloc _ _ _ ?_) ?_;(· first | (simp;done) | (simp;omega))));exact heap_newE _ _ _ (by simp))
 have HB1:Hid (Below w.heap.size w w1):=Lib.hid (((((Below.refl _ _).alloc (Nat.le_refl _) _).alloc (by simp) _).alloc (by simp;omega) _).trans (hb1.mono (by simp;omega)))
 have p0:w1.cell? ⟨w.heap.size+1,0,none⟩=some (.int .i64 R):=cell_of_heap b5 rfl
 have p1:w1.cell? ⟨w.heap.size+1,1,none⟩=some (.int .i64 D):=cell_of_heap b5 rfl
 have p2:w1.cell? ⟨w.heap.size+1,2,none⟩=some (.slice ab N capb):=cell_of_heap b5 rfl
 have B4:=Lib.hid b4
 have B5:=Lib.hid b5
 have B6:=Lib.hid b6
 clear b4 b5 b6 hb1
 go_wp2_with fail
 refine (HRTB.out _).mono ?_
 rintro e w2 ⟨rfl,hb2⟩
 have HB2:Hid (Below w.heap.size w w2):=Lib.hid (HB1.out.trans (hb2.mono HB1.out.size))
 have C4:=Lib.hid (keepB hb2 B4.out)
 have C5:=Lib.hid (keepB hb2 B5.out)
 have C6:=Lib.hid (keepB hb2 B6.out)
 clear p0 p1 p2 B4 B5 B6 hb2
 have p0:w2.cell? ⟨w.heap.size+1,0,none⟩=some (.int .i64 R):=cell_of_heap C5.out rfl
 have p1:w2.cell? ⟨w.heap.size+1,1,none⟩=some (.int .i64 D):=cell_of_heap C5.out rfl
 have p2:w2.cell? ⟨w.heap.size+1,2,none⟩=some (.slice ab N capb):=cell_of_heap C5.out rfl
 have q0:w2.cell? ⟨w.heap.size,0,none⟩=some (.int .i64 R):=cell_of_heap C4.out rfl
 go_wp2_with fail
 refine (HOB.out _ (HB.out.below HB2.out)).mono ?_
 rintro e w3 ⟨gb,cb,rfl,hg1,hcb,hvb,hb3⟩
 have HB3:Hid (Below w.heap.size w w3):=Lib.hid (HB2.out.trans (hb3.mono HB2.out.size))
 have D4:=Lib.hid (keepB hb3 C4.out)
 have D5:=Lib.hid (keepB hb3 C5.out)
 have D6:=Lib.hid (keepB hb3 C6.out)
 have hg2:w.heap.size+2 < gb:=by have:=lt_of_heap C6.out;omega
 have HVB:=Lib.hid hvb
 clear p0 p1 p2 q0 C4 C5 C6 hb3 hvb hg1
 go_upto_region 4 with fail
 have E8:(w3.alloc (.cells #[.int .i64 R,.int .i64 D,.slice (some ⟨gb,0,none⟩) N cb] 76)).heap[w3.heap.size]? = some (.cells #[.int .i64 R,.int .i64 D,.slice (some ⟨gb,0,none⟩) N cb] 76 (0,0)):=heap_newA _ _
 have E4:=keepA D4.out (.cells #[.int .i64 R,.int .i64 D,.slice (some ⟨gb,0,none⟩) N cb] 76)
 have E5:=keepA D5.out (.cells #[.int .i64 R,.int .i64 D,.slice (some ⟨gb,0,none⟩) N cb] 76)
 have E6:=keepA D6.out (.cells #[.int .i64 R,.int .i64 D,.slice (some ⟨gb,0,none⟩) N cb] 76)
 have hgb3:gb < w3.heap.size:=HVB.out.1
 have hws:w.heap.size+3≤w3.heap.size:=by have:=lt_of_heap D6.out;omega
 have HB4:Hid (Below w.heap.size w (w3.alloc (.cells #[.int .i64 R,.int .i64 D,.slice (some ⟨gb,0,none⟩) N cb] 76))):=Lib.hid (HB3.out.alloc HB3.out.size _)
 have HVB4:=Lib.hid (HVB.out.below ((Below.refl _ w3).alloc (Nat.le_refl _) (.cells #[.int .i64 R,.int .i64 D,.slice (some ⟨gb,0,none⟩) N cb] 76)))
 have hs4:(w3.alloc (.cells #[.int .i64 R,.int .i64 D,.slice (some ⟨gb,0,none⟩) N cb] 76)).heap.size=w3.heap.size+1:=by simp
 clear D4 D5 D6 HVB
 generalize w3.alloc (.cells #[.int .i64 R,.int .i64 D,.slice (some ⟨gb,0,none⟩) N cb] 76)=w4 at *
 obtain ⟨s8,hs8⟩:∃ s8,s8=w3.heap.size:=⟨_,rfl⟩
 rw [← hs8] at E8 hgb3 hws hs4 ⊢
 clear HB3 hs8
 have q0:w4.cell? ⟨w.heap.size,0,none⟩=some (.int .i64 R):=cell_of_heap E4 rfl
 have q1:w4.cell? ⟨w.heap.size,1,none⟩=some (.int .i64 C):=cell_of_heap E4 rfl
 have q2:w4.cell? ⟨w.heap.size,2,none⟩=some (.slice aa M capa):=cell_of_heap E4 rfl
 have r0:w4.cell? ⟨s8,0,none⟩=some (.int .i64 R):=cell_of_heap E8 rfl
 have r1:w4.cell? ⟨s8,1,none⟩=some (.int .i64 D):=cell_of_heap E8 rfl
 have r2:w4.cell? ⟨s8,2,none⟩=some (.slice (some ⟨gb,0,none⟩) N cb):=cell_of_heap E8 rfl
 obtain ⟨kp,hkp⟩:∃ kp:Nat→Bool,∀ k,kp k=true↔k < w4.heap.size∧k ≠ fb∧k ≠ gb:=⟨fun k=>decide (k < w4.heap.size∧k ≠ fb∧k ≠ gb),by simp⟩
 have k4:kp w.heap.size=true:=(hkp _).2 ⟨by omega,by omega,by omega⟩
 have k8:kp s8=true:=(hkp _).2 ⟨by omega,by omega,by omega⟩
 have HKP:=Lib.hid hkp
 have X4:=Lib.hid E4
 have X5:=Lib.hid E5
 have X6:=Lib.hid E6
 have X8:=Lib.hid E8
 clear hkp E4 E5 E6 E8
 have hgr:=fun (w0 W:World) (p:Addr) (hp:(fun k=>kp k=true) p.block)=>graft_cell (w0:=w0) (keep:=(fun k=>kp k=true)) W hp
 refine wp_region_tree (fun k=>kp k=true) [2,4] (.sq [0,1,3,5,6,2,4,7] .done) (by kernel_rfl) (by kernel_rfl) ?_
 simp only [Tr.sq,List.foldr_cons,List.foldr_nil,slimTr,slimStep,Oper.slim,List.contains_cons,List.contains_nil,Option.map_none,Option.map_some,List.getElem?_toArray,List.getElem?_cons_zero,List.getElem?_cons_succ,Option.bind_some,beq_self_eq_true,Bool.or_false,Nat.reduceBEq,Nat.reduceAdd,Nat.zero_add]
 repeat' first | ((with_reducible refine wpSlimT_id ?_);first | (with_reducible refine wpSlimT_done ?_) | ((with_reducible refine wpSlimT_step (fun K hK=>?_));go_simp;first | (refine hK _ _ ?_;clear hK K) | (refine ⟨by (intro kk hkk;first | (simp (disch:=(simp;omega)) only [hp_drew,hp_drewN,hp_alloc,hp_set];done) | (simp [hp_drew,hp_drewN,hp_alloc_if,hkk];done) | (have hkk2:=(HKP.out kk).1 hkk;simp (disch:=(first | exact hkk2 | (simp;done) | (simp;omega))) only [hp_drew,hp_drewN,hp_alloc,hp_set];done)),hK _ _ ?_⟩;clear hK K) | (go_at_call 71;(with_reducible refine (HOA.out _ ((HA.out.below HB4.out).below ((Below.refl _ _).drew))).mono ?_);rintro e w5 ⟨ga,ca,rfl,hg3,hca,hva,hb5⟩;have hb5k:Below w4.heap.size w4 w5:=((Below.refl _ _).drew).trans hb5;have HB5:=Lib.hid hb5k;have HVA:=Lib.hid hva;have hg4:w4.heap.size≤ga:=hg3;clear hva hb5 hg3;refine ⟨_,rfl,(fun kk hkk=>HB5.out.block kk ((HKP.out kk).1 hkk).1),hK _ _ ?_⟩;clear hK K) | (go_at_call 72;(with_reducible refine (HRED.out _ ga gb ca cb (HF.out.below (HB4.out.trans (HB5.out.mono HB4.out.size))) HVA.out (HVB4.out.below HB5.out) (by omega) (by omega) (by omega) hca hcb).mono ?_);rintro e w6 ⟨a,c,p,NA,NB,rfl,hk6,hf6,hv6a,hv6b,hech,hc6,ha6,hend,hmet⟩;have hk46:Kp [fb,gb] w4 w6:=(Kp.of_below HB5.out).step hk6 (fun x hx=>by simp at hx;rcases hx with rfl | rfl | rfl <;> simp <;> omega);have HK6:=Lib.hid hk46;have HF6:=Lib.hid hf6;have HV6:=Lib.hid hv6b;have HECH:=Lib.hid hech;have HEND:=Lib.hid hend;have HMET:=Lib.hid hmet;clear hk6 hf6 hv6a hv6b hech hend hmet;refine ⟨_,rfl,(fun kk hkk=>HK6.out.block kk ((HKP.out kk).1 hkk).1 (by have:=((HKP.out kk).1 hkk).2;simpa using this)),hK _ _ ?_⟩;clear hK K))) | fail
 clear hgr
 clear q0 q1 q2 r0 r1 r2 k4 k8
 have hn4:w.heap.size ∉ [fb,gb]:=by simp;omega
 have hn5:w.heap.size+1 ∉ [fb,gb]:=by simp;omega
 have hn6:w.heap.size+2 ∉ [fb,gb]:=by simp;omega
 have hn8:s8 ∉ [fb,gb]:=by simp;omega
 have Y4:=Lib.hid (HK6.out.heap X4.out hn4)
 have Y5:=Lib.hid (HK6.out.heap X5.out hn5)
 have Y6:=Lib.hid (HK6.out.heap X6.out hn6)
 have Y8:=Lib.hid (HK6.out.heap X8.out hn8)
 have hs6:w4.heap.size≤w6.heap.size:=HK6.out.size
 have HKF:Hid (Kp [fb] w w6):=Lib.hid ((Kp.of_below HB4.out).step HK6.out (fun x hx=>by simp at hx ⊢;rcases hx with rfl | rfl <;> omega))
 have m0:w6.cell? ⟨w.heap.size+1+1,0,none⟩=some (.int .i64 0):=cell_of_heap Y6.out rfl
 have m1:w6.cell? ⟨w.heap.size+1+1,1,none⟩=some (.int .i64 0):=cell_of_heap Y6.out rfl
 have m2:w6.cell? ⟨w.heap.size+1+1,2,none⟩=some (.slice none 0 0):=cell_of_heap Y6.out rfl
 have y0:w6.frozen? ⟨w.heap.size+1+1,0,none⟩=false:=free_of_heap Y6.out 0
 have y1:w6.frozen? ⟨w.heap.size+1+1,1,none⟩=false:=free_of_heap Y6.out 1
 have y2:w6.frozen? ⟨w.heap.size+1+1,2,none⟩=false:=free_of_heap Y6.out 2
 have hlt6:w.heap.size+1+1 < w6.heap.size:=by omega
 clear X4 X5 X6 X8 hn4 hn5 hn6 hn8
 by_cases haC:a < C
 ·have hdec:decide (a < C)=true:=decide_eq_true haC
  go_wp2
  refine bodyPost_ret (v:=.tuple #[.agg #[.int .i64 0,.int .i64 0,.slice none 0 0],.int .i64 51]) (by simp [results,Tryz.results58,go_sem,m0,m1,m2,y0,y1,y2]) rfl ?_
  have hk:Kp [w.heap.size+1+1] w6 (((w6.setCell ⟨w.heap.size+1+1,0,none⟩ (.int .i64 0)).setCell ⟨w.heap.size+1+1,1,none⟩ (.int .i64 0)).setCell ⟨w.heap.size+1+1,2,none⟩ (.slice none 0 0)) :=
   (((Kp.refl _ _).setCell (.inl (by simp)) _).setCell (.inl (by simp)) _).setCell (.inl (by simp)) _
  refine ⟨HKF.out.step hk (fun x hx=>by simp at hx;right;omega),HF6.out.kp hk (by simp;omega),.inr ⟨rfl,.inl ?_⟩⟩
  obtain ⟨x,hx,hz⟩:=HECH.out.kernel hc6 haC HEND.out
  exact ⟨x,hx,met_zero.1 ((HMET.out _ _).1 (met_zero.2 hz))⟩
 ·have hdec:decide (a < C)=false:=decide_eq_false haC
  have hac:a=C:=by have:=ech_ac HECH.out;omega
  subst hac
  have hnN:n≤N:=HNB.out ha6
  have hq1:(n:Int)≤(N:Int):=by omega
  have q1:w6.cell? ⟨w.heap.size,1,none⟩=some (.int .i64 a):=cell_of_heap Y4.out rfl
  have p1:w6.cell? ⟨w.heap.size+1,1,none⟩=some (.int .i64 D):=cell_of_heap Y5.out rfl
  have r2:w6.cell? ⟨s8,2,none⟩=some (.slice (some ⟨gb,0,none⟩) N cb):=cell_of_heap Y8.out rfl
  have p0:w6.cell? ⟨s8,0,none⟩=some (.int .i64 R):=cell_of_heap Y8.out rfl
  have p2:w6.cell? ⟨s8,1,none⟩=some (.int .i64 D):=cell_of_heap Y8.out rfl
  have hDpos:=HPOS.out.2.2
  have hv6:View w6 gb N (flat D NB):=by have:=HV6.out;rwa [HN.out] at this
  obtain ⟨bx,hbx⟩:∃ bx,bx=((List.range (N - n)).map fun j=>flat D NB (n+j)).any fun x=>decide (x ≠ 0):=⟨_,rfl⟩
  have HCAN:Hid (∀ v,GRd w6 v ((List.range (N - n)).map fun j=>flat D NB (n+j))→Calls Tryz.prog 73 #[v,.func (.func 74) #[] #[]] w6 fun e w'=>e=.returned (.bool bx)∧w6=w'):=Lib.hid fun v h=>by
   rw [hbx];exact HCON.out _ _ _ h (by simp;omega)
  have HG1:Hid (cb=n→GRd w6 (.slice (some ⟨gb,0,none⟩) (N - n) 0) ((List.range (N - n)).map fun j=>flat D NB (n+j))):=Lib.hid fun h=>by
   have e:N - n=0:=by omega
   rw [e]
   exact hv6.rd (o:=0) (m:=0) (by omega) (Nat.le_refl _)
  have HG2:Hid (GRd w6 (.slice (some ⟨gb,n,none⟩) (N - n) (cb - n)) ((List.range (N - n)).map fun j=>flat D NB (n+j))):=Lib.hid (hv6.rd (by omega) (by omega))
  have HFIN:Hid (bx=false→∀ i,a≤i→i < R→∀ l,l < D→NB i l=0):=Lib.hid fun h i h1 h2 l h3=>by
   rw [h] at hbx
   have hle:n≤i * D+l:=by
    have:=Nat.mul_le_mul_right D h1
    rw [HNN.out] at this
    omega
   have hlt:i * D+l < N:=by rw [← HN.out];exact off_lt h2 h3
   have h4:=List.any_eq_false.1 hbx.symm (flat D NB (i * D+l)) (List.mem_map.2 ⟨i * D+l - n,List.mem_range.2 (by omega),by rw [show n+(i * D+l - n)=i * D+l from by omega]⟩)
   rw [flat_at hDpos _ _ _ h3] at h4
   simpa using h4
  have HBAD:Hid (bx=true→∃ i l,a≤i∧i < R∧l < D∧NB i l ≠ 0):=Lib.hid fun h=>by
   rw [h] at hbx
   obtain ⟨x,hx,hne⟩:=List.any_eq_true.1 hbx.symm
   obtain ⟨j,hj,rfl⟩:=List.mem_map.1 hx
   have hjl:=List.mem_range.1 hj
   obtain ⟨i,l,hi,hl,he⟩:=off_ex (R:=R) hDpos (j:=n+j) (by rw [HN.out];omega)
   refine ⟨i,l,?_,hi,hl,?_⟩
   ·refine Classical.byContradiction fun hia=>?_
    have:=off_lt (R:=a) (C:=D) (i:=i) (k:=l) (by omega) hl
    rw [HNN.out] at this
    omega
   ·rw [he,flat_at hDpos _ _ _ hl] at hne
    simpa using hne
  have HVN:Hid (View w6 gb n (flat D NB)):=Lib.hid (hv6.mono hnN)
  have hN1:n≤cb:=by omega
  clear hv6 hbx
  obtain ⟨kp2,hkp⟩:∃ kp:Nat→Bool,∀ k,kp k=true↔k ≠ w.heap.size+1+1:=⟨fun k=>k != w.heap.size+1+1,by simp⟩
  have k4:kp2 w.heap.size=true:=(hkp _).2 (by omega)
  have k5:kp2 (w.heap.size+1)=true:=(hkp _).2 (by omega)
  have k8:kp2 s8=true:=(hkp _).2 (by omega)
  have HKP:=Lib.hid hkp
  clear hkp
  cases bx
  ·go_wp2_with fail
   all_goals
    first | (with_reducible refine (HCAN.out _ HG2.out).mono ?_) | (with_reducible refine (HCAN.out _ HG1.out).mono ?_) | (with_reducible refine (HCAN.out _ (HG1.out (by trivial))).mono ?_)
    rintro e w7 ⟨rfl,rfl⟩
    go_upto_region 9 with fail
    have hgr:=fun (w0 W:World) (p:Addr) (hp:(fun k=>kp2 k=true) p.block)=>graft_cell (w0:=w0) (keep:=(fun k=>kp2 k=true)) W hp
    refine wp_region_tree (fun k=>kp2 k=true) [10] (.sq [0,1,2,3,4,5,6,7,8,9,10,11] .done) (by kernel_rfl) (by kernel_rfl) ?_
    simp only [Tr.sq,List.foldr_cons,List.foldr_nil,slimTr,slimStep,Oper.slim,List.contains_cons,List.contains_nil,Option.map_none,Option.map_some,List.getElem?_toArray,List.getElem?_cons_zero,List.getElem?_cons_succ,Option.bind_some,beq_self_eq_true,Bool.or_false,Nat.reduceBEq,Nat.reduceAdd,Nat.zero_add]
    repeat' first | ((with_reducible refine wpSlimT_id ?_);first | (with_reducible refine wpSlimT_done ?_) | ((with_reducible refine wpSlimT_step (fun K hK=>?_));go_simp;first | (refine hK _ _ ?_;clear hK K) | (refine ⟨by (intro kk hkk;first | (simp (disch:=(simp;omega)) only [hp_drew,hp_drewN,hp_alloc,hp_set];done) | (simp [hp_drew,hp_drewN,hp_alloc_if,hkk];done) | (have hkk2:=(HKP.out kk).1 hkk;simp (disch:=(first | exact hkk2 | (simp;done) | (simp;omega))) only [hp_drew,hp_drewN,hp_alloc,hp_set];done)),hK _ _ ?_⟩;clear hK K))) | fail
    clear hgr
    go_wp2
    refine bodyPost_ret (v:=.tuple #[.agg #[.int .i64 a,.int .i64 D,.slice (some ⟨gb,0,none⟩) n n],.int .i64 0]) (by simp [results,Tryz.results58,go_sem,m0,m1,m2,y0,y1,y2]) rfl ?_
    have hk:Kp [w.heap.size+1+1] w6 (((w6.setCell ⟨w.heap.size+1+1,0,none⟩ (.int .i64 a)).setCell ⟨w.heap.size+1+1,1,none⟩ (.int .i64 D)).setCell ⟨w.heap.size+1+1,2,none⟩ (.slice (some ⟨gb,0,none⟩) n n)).drew :=
     ((((Kp.refl _ _).setCell (.inl (by simp)) _).setCell (.inl (by simp)) _).setCell (.inl (by simp)) _).drew
    refine ⟨HKF.out.step hk (fun x hx=>by simp at hx;right;omega),HF6.out.kp hk (by simp;omega),.inl ⟨gb,NB,by rw [HNN.out],by omega,by rw [HNN.out];exact HVN.out.kp hk (by simp;omega),fun x z=>(HMET.out x z).symm.trans (met_full HECH.out hc6 (by first | exact HFIN.out | exact HFIN.out (by trivial)) x z)⟩⟩
  ·go_wp2_with fail
   all_goals
    first | (with_reducible refine (HCAN.out _ HG2.out).mono ?_) | (with_reducible refine (HCAN.out _ HG1.out).mono ?_) | (with_reducible refine (HCAN.out _ (HG1.out (by trivial))).mono ?_)
    rintro e w7 ⟨rfl,rfl⟩
    go_wp2
    refine bodyPost_ret (v:=.tuple #[.agg #[.int .i64 0,.int .i64 0,.slice none 0 0],.int .i64 51]) (by simp [results,Tryz.results58,go_sem,m0,m1,m2,y0,y1,y2]) rfl ?_
    have hk:Kp [w.heap.size+1+1] w6 (((w6.setCell ⟨w.heap.size+1+1,0,none⟩ (.int .i64 0)).setCell ⟨w.heap.size+1+1,1,none⟩ (.int .i64 0)).setCell ⟨w.heap.size+1+1,2,none⟩ (.slice none 0 0)) :=
     (((Kp.refl _ _).setCell (.inl (by simp)) _).setCell (.inl (by simp)) _).setCell (.inl (by simp)) _
    refine ⟨HKF.out.step hk (fun x hx=>by simp at hx;right;omega),HF6.out.kp hk (by simp;omega),.inr ⟨rfl,.inr ?_⟩⟩
    obtain ⟨i,l,h1,h2,h3,h4⟩:=HBAD.out (by trivial)
    exact ⟨l,h3,fun x hm=>met_none HECH.out hc6 h1 h2 h3 h4 x ((HMET.out _ _).2 hm)⟩
end Go.Proofs.YtnjbkfeihbcalaaGreat
