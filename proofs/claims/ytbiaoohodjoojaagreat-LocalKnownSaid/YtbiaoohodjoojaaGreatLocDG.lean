/-
  Which message nodes' bytes tell: the plain laws.
  Three results that lie in memory.
  The message of shares: the program's Decode.
  A node's share of any others': the program's Repair.
-/
import Derived.Test.YtbiaoohodjoojaaGreatLocEG
import Derived.Test.YtbiaoohodjoojaaGreatNearG
import Derived.Test.YtbiaoohodjoojaaGreatWeExG
/- Which message nodes' bytes tell: the plain laws. -/
namespace Go.Proofs.YtbiaoohodjoojaaGreat
open Go.RowKit Fld
set_option linter.unusedVariables false
set_option linter.unusedSimpArgs false

section
variable {xs ys:List GF} {ps:List Int} {r d k t:Nat}
theorem pos_lt {r d c e:Nat} (hc:c < d) (he:e < r):c * (r+1)+e < d * (r+1) - 1:=by
 have h1:=Nat.mul_le_mul_right (r+1) (show c+1≤d from hc)
 rw [Nat.add_mul,Nat.one_mul] at h1
 omega
theorem polyL_get {c e:Nat} (m:List GF) (hc:c < d) (he:e < r):(polyL r d m).getD (c * (r+1)+e) 0=m.getD (c * r+e) 0:=by
 rw [polyL,rowF_get _ (pos_lt hc he),pF_in m he]
theorem polyL_gap {c:Nat} (m:List GF) (hc:c+1 < d):(polyL r d m).getD (c * (r+1)+r) 0=0:=by
 have h1:=Nat.mul_le_mul_right (r+1) (show c+2≤d from hc)
 rw [Nat.add_mul] at h1
 rw [polyL,rowF_get _ (by omega),pF_out]
theorem polyL_inj {m m':List GF} (hr:0 < r) (hm:m.length=d * r) (hm':m'.length=d * r) (h:polyL r d m=polyL r d m'):m=m':=by
 refine List.ext_getElem (by rw [hm,hm']) fun i h1 h2=>?_
 have hc:i / r < d:=Nat.div_lt_of_lt_mul (by rw [Nat.mul_comm,← hm];exact h1)
 have he:i % r < r:=Nat.mod_lt _ hr
 have e1:=polyL_get (d:=d) m hc he
 rw [h,polyL_get (d:=d) m' hc he,Nat.mul_comm,Nat.div_add_mod,List.getD_eq_getElem?_getD,List.getD_eq_getElem?_getD,List.getElem?_eq_getElem h1,List.getElem?_eq_getElem h2] at e1
 exact e1.symm
noncomputable def msgL (r:Nat) (p:List GF) (j:Nat):List GF:=rowF (fun i=>p.getD (i / r * (r+1)+i % r) 0) (j * r)
noncomputable def cutL (r j:Nat) (p:List GF):List GF:=rowF (fun e=>p.getD (j * (r+1)+e) 0) r
theorem msgL_len (r:Nat) (p:List GF) (j:Nat):(msgL r p j).length=j * r:=rowF_len _ _
theorem msgL_zero (r:Nat) (p:List GF):msgL r p 0=[]:=by simp [msgL,rowF]
theorem msgL_succ (r:Nat) (p:List GF) (j:Nat):msgL r p (j+1)=msgL r p j ++ cutL r j p:=by
 unfold msgL cutL
 rw [Nat.add_mul,Nat.one_mul]
 have er:List.range (j * r+r)=List.range (j * r) ++ (List.range r).map (j * r+·):=List.range_add ..
 unfold rowF
 rw [er,List.map_append,List.map_map]
 refine congrArg _ (List.map_congr_left fun e he=>?_)
 have he:=List.mem_range.1 he
 have h1:(j * r+e) / r=j:=by rw [Nat.mul_comm,Nat.mul_add_div (by omega),Nat.div_eq_of_lt he];omega
 have h2:(j * r+e) % r=e:=by rw [Nat.mul_comm,Nat.mul_add_mod,Nat.mod_eq_of_lt he]
 show p.getD ((j * r+e) / r * (r+1)+(j * r+e) % r) 0=p.getD (j * (r+1)+e) 0
 rw [h1,h2]
theorem polyL_msgL {p:List GF} (hr:0 < r) (hp:p.length=d * (r+1) - 1) (hz:∀ c,c+1 < d→p.getD (c * (r+1)+r) 0=0):polyL r d (msgL r p d)=p:=by
 refine List.ext_getElem (by rw [polyL_len,hp]) fun i h1 h2=>?_
 have hi:i < d * (r+1) - 1:=by rw [← hp];exact h2
 have g1:(polyL r d (msgL r p d))[i]=(polyL r d (msgL r p d)).getD i 0:=by rw [List.getD_eq_getElem?_getD,List.getElem?_eq_getElem h1];rfl
 have g2:p[i]=p.getD i 0:=by rw [List.getD_eq_getElem?_getD,List.getElem?_eq_getElem h2];rfl
 rw [g1,g2]
 have hdm:i=i / (r+1) * (r+1)+i % (r+1):=by rw [Nat.mul_comm];exact (Nat.div_add_mod i (r+1)).symm
 have hel:i % (r+1) < r+1:=Nat.mod_lt _ (by omega)
 have hcd:i / (r+1) < d:=Nat.div_lt_of_lt_mul (by rw [Nat.mul_comm];omega)
 generalize hc:i / (r+1)=c at *
 generalize he:i % (r+1)=e at *
 rw [hdm]
 by_cases h:e < r
 ·rw [polyL_get _ hcd h]
  have h3:c * r+e < d * r:=by
   have:=Nat.mul_le_mul_right r (show c+1≤d from hcd)
   rw [Nat.add_mul,Nat.one_mul] at this
   omega
  have h4:(c * r+e) / r=c:=by rw [Nat.mul_comm,Nat.mul_add_div (by omega),Nat.div_eq_of_lt h];omega
  have h5:(c * r+e) % r=e:=by rw [Nat.mul_comm,Nat.mul_add_mod,Nat.mod_eq_of_lt h]
  rw [msgL,rowF_get _ h3,h4,h5]
 ·obtain rfl:e=r:=by omega
  have h6:c+1 < d:=by
   rcases Nat.lt_or_ge (c+1) d with h | h
   ·exact h
   ·obtain rfl:d=c+1:=by omega
    rw [Nat.add_mul] at hi
    omega
  rw [polyL_gap _ h6,hz c h6]
def LTell (xs:List GF) (r d:Nat) (ps:List Int) (ys:List GF) (t:Nat):Option (List GF)→Prop
 | some m=>m.length=d * r∧(wrS xs ps ys (polyL r d m)).length≤t
 | none=>∀ m:List GF,m.length=d * r→¬ (wrS xs ps ys (polyL r d m)).length≤t
theorem LTell.one {o o':Option (List GF)} (hr:0 < r) (hn:xs.Nodup) (hg:GoodP xs.length ps) (hk:d * (r+1) - 1+2 * t≤ps.length) (h:LTell xs r d ps ys t o) (h':LTell xs r d ps ys t o'):o=o':=by
 cases o with
 | none=>cases o' with
  | none=>rfl
  | some m'=>exact absurd h'.2 (h m' h'.1)
 | some m=>cases o' with
  | none=>exact absurd h.2 (h' m h.1)
  | some m' =>
   have:=weTells_one hn hg hk (r:=some (polyL r d m)) (r':=some (polyL r d m')) ⟨polyL_len _ _ _,h.2⟩ ⟨polyL_len _ _ _,h'.2⟩
   rw [polyL_inj hr h.1 h'.1 (Option.some.inj this)]
theorem LTell.of_none (h:WeTells xs (d * (r+1) - 1) ps ys t none):LTell xs r d ps ys t none:=fun m _=>h _ (polyL_len _ _ _)
theorem LTell.of_gap {p:List GF} {c:Nat} (hn:xs.Nodup) (hg:GoodP xs.length ps) (hk:d * (r+1) - 1+2 * t≤ps.length) (h:WeTells xs (d * (r+1) - 1) ps ys t (some p)) (hc:c+1 < d) (hz:p.getD (c * (r+1)+r) 0 ≠ 0):LTell xs r d ps ys t none:=fun m _ hle=>by
 have:=weTells_one hn hg hk (r:=some (polyL r d m)) (r':=some p) ⟨polyL_len _ _ _,hle⟩ h
 rw [← Option.some.inj this,polyL_gap _ hc] at hz
 exact hz rfl
theorem LTell.of_some {p:List GF} (hr:0 < r) (h:WeTells xs (d * (r+1) - 1) ps ys t (some p)) (hz:∀ c,c+1 < d→p.getD (c * (r+1)+r) 0=0):LTell xs r d ps ys t (some (msgL r p d))∧polyL r d (msgL r p d)=p:=by
 have e:=polyL_msgL hr h.1 hz
 exact ⟨⟨msgL_len _ _ _,by rw [e];exact h.2⟩,e⟩
end
def LDecAns (B:Nat) (xs:List GF) (n r d:Nat) (l:List Sy) (t:Int) (e:Ending) (w':World):Prop :=
 (t < 0 ∨ ¬ SyGood n (-1) 1 l)∧e=.returned (.tuple #[.slice none 0 0,.slice none 0 0,.int .i64 2]) ∨
 (0≤t∧SyGood n (-1) 1 l)∧((l.length:Int) < ((d * (r+1) - 1:Nat):Int)+2 * t∧e=.returned (.tuple #[.slice none 0 0,.slice none 0 0,.int .i64 70]) ∨
  ((d * (r+1) - 1:Nat):Int)+2 * t≤(l.length:Int)∧((∃ m v1 v2,e=.returned (.tuple #[v1,v2,.int .i64 0])∧LTell xs r d (Sy.nodes l) (ysL l) t.toNat (some m)∧OwnG w' B v1 m∧RdZ w' B v2 (wrS xs (Sy.nodes l) (ysL l) (polyL r d m))) ∨
   e=.returned (.tuple #[.slice none 0 0,.slice none 0 0,.int .i64 80])∧LTell xs r d (Sy.nodes l) (ysL l) t.toNat none))
end Go.Proofs.YtbiaoohodjoojaaGreat
/- Three results that lie in memory. -/
namespace Go.Proofs.YtbiaoohodjoojaaGreat
open Go.RowKit Fld
set_option linter.unusedVariables false
set_option linter.unusedSimpArgs false

structure Res3 (W:World) (b:Nat) (U6 U7 U8:Value):Prop where
 h6:W.heap[b+1]? = some (.cells #[U6] 36 (0,0))
 h7:W.heap[b+1+1]? = some (.cells #[U7] 32 (0,0))
 h8:W.heap[b+1+1+1]? = some (.cells #[U8] 23 (0,0))
theorem Res3.kp {W W':World} {b:Nat} {U6 U7 U8:Value} {S:List Nat} (h:Res3 W b U6 U7 U8) (hk:Kp S W W') (hS:∀ x ∈ S,x < b+1 ∨ b+1+1+1 < x):Res3 W' b U6 U7 U8 :=
 ⟨hk.heap h.h6 fun hm=>by have:=hS _ hm;omega,hk.heap h.h7 fun hm=>by have:=hS _ hm;omega,hk.heap h.h8 fun hm=>by have:=hS _ hm;omega⟩
theorem Res3.below {W W':World} {b:Nat} {U6 U7 U8:Value} (h:Res3 W b U6 U7 U8) (hb:Below W.heap.size W W'):Res3 W' b U6 U7 U8:=h.kp (S:=[]) (Kp.of_below hb) (by simp)
theorem Res3.set {W:World} {b:Nat} {U6 U7 U8:Value} (h:Res3 W b U6 U7 U8) (V6 V7 V8:Value) :
  Res3 (((W.setCell ⟨b+1,0,none⟩ V6).setCell ⟨b+1+1,0,none⟩ V7).setCell ⟨b+1+1+1,0,none⟩ V8) b V6 V7 V8∧Kp [b+1,b+1+1,b+1+1+1] W (((W.setCell ⟨b+1,0,none⟩ V6).setCell ⟨b+1+1,0,none⟩ V7).setCell ⟨b+1+1+1,0,none⟩ V8):=by
 have k1:Kp [b+1] W (W.setCell ⟨b+1,0,none⟩ V6):=(Kp.refl _ _).setCell (.inl (by simp)) _
 have k2:Kp [b+1+1] (W.setCell ⟨b+1,0,none⟩ V6) ((W.setCell ⟨b+1,0,none⟩ V6).setCell ⟨b+1+1,0,none⟩ V7):=(Kp.refl _ _).setCell (.inl (by simp)) _
 have k3:Kp [b+1+1+1] ((W.setCell ⟨b+1,0,none⟩ V6).setCell ⟨b+1+1,0,none⟩ V7) (((W.setCell ⟨b+1,0,none⟩ V6).setCell ⟨b+1+1,0,none⟩ V7).setCell ⟨b+1+1+1,0,none⟩ V8):=(Kp.refl _ _).setCell (.inl (by simp)) _
 have a6:=heap_set_same h.h6 0 V6
 have a7:=heap_set_same (k1.heap h.h7 (by simp <;> omega)) 0 V7
 have a8:=heap_set_same (k2.heap (k1.heap h.h8 (by simp <;> omega)) (by simp <;> omega)) 0 V8
 refine ⟨⟨k3.heap (k2.heap (by simpa using a6) (by simp <;> omega)) (by simp <;> omega),k3.heap (by simpa using a7) (by simp <;> omega),by simpa using a8⟩,((k1.mono (by simp)).trans (k2.mono (by simp))).trans (k3.mono (by simp))⟩
theorem Res3.at {W:World} {b:Nat} {U6 U7 U8:Value} (h:Res3 W b U6 U7 U8):(W.cell? ⟨b+1,0,none⟩=some U6∧W.frozen? ⟨b+1,0,none⟩=false)∧(W.cell? ⟨b+1+1,0,none⟩=some U7∧W.frozen? ⟨b+1+1,0,none⟩=false) ∧
  (W.cell? ⟨b+1+1+1,0,none⟩=some U8∧W.frozen? ⟨b+1+1+1,0,none⟩=false)∧b+1+1+1 < W.heap.size :=
 ⟨⟨cell_of_heap h.h6 (j:=0) rfl,free_of_heap h.h6 0⟩,⟨cell_of_heap h.h7 (j:=0) rfl,free_of_heap h.h7 0⟩,⟨cell_of_heap h.h8 (j:=0) rfl,free_of_heap h.h8 0⟩,lt_of_heap h.h8⟩
theorem part_rd2 {W:World} {b o L cap r m:Nat} {p:List GF} (h:GRd W (.slice (some ⟨b,o,none⟩) L cap) p) (hj:r+m≤L) (hm:0 < m):GRd W (.slice (some ⟨b,o+r,none⟩) m m) (rowF (fun e=>p.getD (r+e) 0) m):=by
 have hL:L=p.length:=by
  obtain ⟨_,_,e,_⟩:=h.form
  cases e
  rfl
 refine ⟨fun x hx=>?_,some ⟨b,o+r,none⟩,m,?_,?_,fun _=>⟨b,o+r,rfl,?_,fun i hi=>?_⟩⟩
 ·obtain ⟨y,_,rfl⟩:=List.mem_map.1 hx
  exact y.lt
 ·rw [List.length_map,rowF_len]
 ·rw [List.length_map,rowF_len];exact Nat.le_refl _
 ·obtain ⟨b',o',e,hb,_⟩:=h.at (i:=0) (List.getElem?_eq_getElem (show 0 < p.length by omega))
  cases e
  exact hb
 ·rw [List.length_map,rowF_len] at hi
  have hi2:r+i < p.length:=by omega
  obtain ⟨b',o',e,_,hc⟩:=h.at (List.getElem?_eq_getElem hi2)
  cases e
  rw [show o+r+i=o+(r+i) by omega,hc,List.getD_eq_getElem?_getD,List.getElem?_map,rowF,List.getElem?_map,List.getElem?_range hi]
  simp [List.getElem?_eq_getElem hi2]
theorem nodes_take {l:List Sy} {I:Nat} {s:Sy} (hs:l[I]? = some s):Sy.nodes (l.take (I+1))=Sy.nodes (l.take I) ++ [s.node]:=by simp [Sy.nodes,List.take_add_one,hs]
theorem ysL_take {l:List Sy} {I:Nat} {s:Sy} (hs:l[I]? = some s):ysL (l.take (I+1))=ysL (l.take I) ++ [s.d.getD 0 0]:=by simp [ysL,List.take_add_one,hs]
theorem nodes_len (l:List Sy):(Sy.nodes l).length=l.length:=by simp [Sy.nodes]
end Go.Proofs.YtbiaoohodjoojaaGreat
/- The message of shares: the program's Decode. -/
namespace Go.Proofs.YtbiaoohodjoojaaGreat
open Go.RowKit Fld
set_option linter.unusedVariables false
set_option linter.unusedSimpArgs false
attribute [local go_sem] Oper.semAt_some

structure DecI (fb mb B M r d:Nat) (p:List GF) (w3:World) (pre:List Nat) (A:World):Prop where
 ok:FOk A fb
 ex:∃ V',A.heap[mb]? = some (.cells #[V'] 36 (0,0))∧OwnG A B V' (msgL r p pre.length)∧(∀ b,V'.ownBlock=some b→M≤b)
 kp:Kp [fb] w3 A
 z:∀ c,c < pre.length→c+1 < d→p.getD (c * (r+1)+r) 0=0
structure DecX (fb b r d:Nat) (p:List GF) (w3:World) (A:World):Prop where
 ok:FOk A fb
 kp:Kp [fb,b+1,b+1+1,b+1+1+1] w3 A
 res:Res3 A b (.slice none 0 0) (.slice none 0 0) (.int .i64 80)
 gap:∃ c,c+1 < d∧p.getD (c * (r+1)+r) 0 ≠ 0
theorem own_cells {W:World} {B b:Nat} {V:Value} {l:List GF} (h:OwnG W B V l) (hb:V.ownBlock=some b):∃ cs,W.heap[b]? = some (.cells cs 5 (0,0)):=by
 rcases h.2 with ⟨rfl,_⟩ | ⟨g,cap,cur,rfl,h2,h3,_⟩
 ·simp [Value.ownBlock] at hb
 ·simp [Value.ownBlock] at hb
  subst hb
  exact ⟨cur,h3⟩
def LDecPost (fb n r d:Nat) (xs:List GF) (l:List Sy) (t:Int) (w:World) (e:Ending) (w':World):Prop:=Kp [fb] w w'∧FOk w' fb∧LDecAns w.heap.size xs n r d l t e w'
set_option maxRecDepth 100000 in
set_option maxHeartbeats 8000000 in
theorem ldec_any (w:World) (lb cb fb n k r:Nat) (cv xv hv:Value) (xs:List GF) (l:List Sy) (t:Int) (h:LCode w lb cb fb n k r (k+k / r - 1) cv xv xs) (ho:LOkN n k r) (hx:xs.length=n) (hnd:xs.Nodup) (hl:SyAll w hv l) (hla:SyApart hv l [fb]) (hll:l.length≤256) (ht:-9223372036854775808≤t∧t≤9223372036854775807) :
  Calls Tryz.prog 27 #[.pointer (some ⟨lb,0,none⟩),hv,.int .i64 t] w (LDecPost fb n r (k / r) xs l t w):=by
 obtain ⟨ah,ch,rfl⟩:=hl.rd.form
 obtain ⟨L,hL⟩:∃ L,l.length=L:=⟨_,rfl⟩
 have hfl:=h.code.ok.lt
 have hlbl:=lt_of_heap h.box
 have y2:=cell_of_heap h.box (j:=2) rfl
 have H:=Lib.hid h
 have HO:=Lib.hid ho
 have HS:=Lib.hid hl
 have HSA:=Lib.hid hla
 have HL:=Lib.hid hL
 have HX:=Lib.hid hx
 have HND:=Lib.hid hnd
 obtain ⟨T,hT⟩:∃ T,k+k / r - 1=T:=⟨_,rfl⟩
 have htl:=ho.tells
 have hTb:T≤n:=by have:=ho.le;omega
 have n1:=ho.n1
 have r1:=ho.r1
 have hTd:k / r * (r+1) - 1=T:=by omega
 have hT1:1≤T:=by omega
 rw [hT] at H
 rw [hL] at HS HSA hll ⊢
 have hb1:Below w.heap.size w ((((w.alloc (.cells #[.pointer (some ⟨lb,0,none⟩)] 22)).alloc (.cells #[.slice none 0 0] 36)).alloc (.cells #[.slice none 0 0] 32)).alloc (.cells #[.int .i64 0] 23)):=by (repeat' (first | (with_reducible exact RowKit.Below.refl _ _) | (with_reducible assumption) | (with_reducible refine RowKit.Below.drew ?_) | (with_reducible refine RowKit.Below.alloc ?_ ?_ _) | omega | (simp;done) | (simp;omega)))
 have HFIT:=Lib.hid (lfit_any _ lb n _ l (-1) ((hb1.cell (p:=⟨lb,2,none⟩) hlbl).trans y2) (Nat.lt_of_lt_of_le hlbl hb1.size) (hl.below hb1) (by omega) (by omega))
 rw [hL] at HFIT
 have HTD:=Lib.hid hTd
 clear h ho hl hla hL hx hnd hT htl hTd y2 hb1
 refine calls_of_marks Tryz.func27 rfl ?_
 simp only [Tryz.ntmps27,List.size_toArray,List.length_cons,List.length_nil,Nat.reduceAdd,Nat.reduceSub,Array.replicate_succ,Array.replicate_zero,List.push_toArray,List.append_toArray,List.nil_append,List.cons_append]
 have HR0:Hid (∀ c:Int,Res3 ((((w.alloc (.cells #[.pointer (some ⟨lb,0,none⟩)] 22)).alloc (.cells #[.slice none 0 0] 36)).alloc (.cells #[.slice none 0 0] 32)).alloc (.cells #[.int .i64 c] 23)) w.heap.size (.slice none 0 0) (.slice none 0 0) (.int .i64 c)):=Lib.hid fun c =>
  ⟨keepA (keepA (heap_newE _ _ _ (by simp)) _) _,keepA (heap_newE _ _ _ (by simp)) _,heap_newE _ _ _ (by simp)⟩
 by_cases ht0:t < 0
 ·go_wp2
  have hb2:Below w.heap.size w ((((w.alloc (.cells #[.pointer (some ⟨lb,0,none⟩)] 22)).alloc (.cells #[.slice none 0 0] 36)).alloc (.cells #[.slice none 0 0] 32)).alloc (.cells #[.int .i64 2] 23)):=by (repeat' (first | (with_reducible exact RowKit.Below.refl _ _) | (with_reducible assumption) | (with_reducible refine RowKit.Below.drew ?_) | (with_reducible refine RowKit.Below.alloc ?_ ?_ _) | omega | (simp;done) | (simp;omega)))
  refine leaves_marks (B:=w.heap.size) [] _ (Marks.nil _ _) fun w' hk=>⟨.tuple #[.slice none 0 0,.slice none 0 0,.int .i64 2],?_,?_⟩
  ·have hr:=((HR0.out 2).kp hk (by simp)).at
   simp [results,Tryz.results27,go_sem,hr.1.1,hr.2.1.1,hr.2.2.1.1]
  ·exact ⟨(Kp.of_below hb2).trans (hk.mono (by simp)),(H.out.code.ok.below hb2).kp hk (by simp),.inl ⟨.inl ht0,rfl⟩⟩
 obtain ⟨tn,rfl⟩:∃ tn:Nat,t=(tn:Int):=⟨t.toNat,by omega⟩
 have hR:=HR0.out 0
 have hcb:((((w.alloc (.cells #[.pointer (some ⟨lb,0,none⟩)] 22)).alloc (.cells #[.slice none 0 0] 36)).alloc (.cells #[.slice none 0 0] 32)).alloc (.cells #[.int .i64 0] 23)).heap[w.heap.size]? = some (.cells #[.pointer (some ⟨lb,0,none⟩)] 22 (0,0)):=keepA (keepA (keepA (heap_newA _ _) _) _) _
 have hb0:Below w.heap.size w ((((w.alloc (.cells #[.pointer (some ⟨lb,0,none⟩)] 22)).alloc (.cells #[.slice none 0 0] 36)).alloc (.cells #[.slice none 0 0] 32)).alloc (.cells #[.int .i64 0] 23)):=by (repeat' (first | (with_reducible exact RowKit.Below.refl _ _) | (with_reducible assumption) | (with_reducible refine RowKit.Below.drew ?_) | (with_reducible refine RowKit.Below.alloc ?_ ?_ _) | omega | (simp;done) | (simp;omega)))
 have hs0:((((w.alloc (.cells #[.pointer (some ⟨lb,0,none⟩)] 22)).alloc (.cells #[.slice none 0 0] 36)).alloc (.cells #[.slice none 0 0] 32)).alloc (.cells #[.int .i64 0] 23)).heap.size=w.heap.size+1+1+1+1:=by simp
 have HRR:=Lib.hid (And.intro hR (And.intro hcb (And.intro hb0 hs0)))
 clear hR hcb hb0 hs0
 go_wp2_with fail
 refine HFIT.out.mono ?_
 rintro e w2 ⟨b,rfl,hb2,hbi⟩
 obtain ⟨hR,hcb,hb0,hs0⟩:=HRR.out
 have hR2:=hR.below hb2
 have hcb2:=keepB hb2 hcb
 have hbw:Below w.heap.size w w2:=hb0.trans (hb2.mono hb0.size)
 have hs2:w.heap.size+1+1+1+1≤w2.heap.size:=by have:=hb2.size;omega
 have HR2:=Lib.hid hR2
 have HCB:=Lib.hid hcb2
 have HBW:=Lib.hid hbw
 have HBI:=Lib.hid hbi
 clear hR hcb hb0 hs0 hb2 hbi hR2 hcb2 hbw HFIT HRR HR0
 have HF2:=Lib.hid (H.out.code.ok.below HBW.out)
 cases b
 ·obtain ⟨⟨y6,z6⟩,⟨y7,z7⟩,⟨y8,z8⟩,g8⟩:=HR2.out.at
  have g6:w.heap.size+1 < w2.heap.size:=by omega
  have g7:w.heap.size+1+1 < w2.heap.size:=by omega
  have HST:=Lib.hid (HR2.out.set (.slice none 0 0) (.slice none 0 0) (.int .i64 2))
  have HNG:Hid (¬ SyGood n (-1) 1 l):=Lib.hid fun h=>by have:=HBI.out.2 h;cases this
  clear HBI
  go_wp2
  refine leaves_marks (B:=w.heap.size) [] _ (Marks.nil _ _) fun w' hk=>⟨.tuple #[.slice none 0 0,.slice none 0 0,.int .i64 2],?_,?_⟩
  ·have hr:=(HST.out.1.kp hk (by simp)).at
   simp [results,Tryz.results27,go_sem,hr.1.1,hr.2.1.1,hr.2.2.1.1]
  ·have hst:=HST.out.2
   exact ⟨((Kp.of_below HBW.out).step hst (fun x hx=>.inr (by simp at hx;omega))).trans (hk.mono (by simp)),(HF2.out.kp hst (by simp;omega)).kp hk (by simp),.inl ⟨.inr HNG.out,rfl⟩⟩
 have HG:=Lib.hid (HBI.out.1 (by trivial))
 clear HBI
 have hsr0:=hs2
 go_wp2
 go_loopg [9,10,32] L (fun gk p q i wr=>∃ (V1 V2:Value) (I:Nat),V1=p∧V2=q∧I≤L∧gk=L - I∧i=.int .i64 I∧Hid (OwnZ wr w2.heap.size V1 (Sy.nodes (l.take I)))∧Hid (OwnG wr w2.heap.size V2 (ysL (l.take I)))∧Hid (Apart V2 V1.ownBlock.toList)∧Hid (Below w2.heap.size w2 wr))
 case atStart=>exact ⟨_,_,0,rfl,rfl,by omega,rfl,rfl,Lib.hid (OwnZ.nil _ _),Lib.hid (OwnG.nil _ _),Lib.hid (apart_nilG _),Lib.hid (Below.refl _ _)⟩
 case round =>
  obtain ⟨V1,V2,I,rfl,rfl,hI,rfl,rfl,HO1,HO2,HAP,HBR⟩:=hrel
  have hsr:=HBR.out.size
  have HBX:Hid (Below w.heap.size w wr):=Lib.hid (HBW.out.trans (HBR.out.mono HBW.out.size))
  by_cases hlt:I < L
  ·obtain ⟨s,hs⟩:∃ s,l[I]? = some s:=⟨_,List.getElem?_eq_getElem (by rw [HL.out];exact hlt)⟩
   obtain ⟨-,hcap,b,o,rfl,hb,hat⟩:=SRd.at (HS.out.below HBX.out).rd hs
   have c0:wr.cell? ⟨b,o+I * 2,none⟩=some (.int .i64 s.node):=hat 0 _ rfl
   have c1:wr.cell? ⟨b,o+I * 2+1,none⟩=some (.slice s.a s.d.length s.cp):=hat 1 _ rfl
   obtain ⟨-,-,hsd⟩:=HG.out.at hs
   rw [hsd] at c1
   obtain ⟨x,hx⟩:∃ x,s.node=x:=⟨_,rfl⟩
   rw [hx] at c0
   have i1:(0:Int)≤(I:Int)∧(I:Int) < (L:Int):=by omega
   have hsrd:=HS.out.each s (List.mem_of_getElem? hs)
   unfold Sy.rd at hsrd
   rw [hsd] at hsrd
   obtain ⟨y,hy,hyd⟩:=at_get (l:=s.d) (i:=0) (by rw [hsd];exact Nat.one_pos)
   obtain ⟨sa,sd,hsa⟩:∃ sa sd,sa=s.a∧sd=s.cp:=⟨_,_,rfl,rfl⟩
   rw [← hsa.1,← hsa.2] at hsrd c1
   obtain ⟨bd,od,rfl,hbd,-⟩:=hsrd.at hy
   obtain ⟨w6,hw6⟩:∃ w6,w6=wr.alloc (.cells #[.int .i64 x,.slice (some ⟨bd,od,none⟩) 1 sd] 45):=⟨_,rfl⟩
   have hb6:Below wr.heap.size wr w6:=by rw [hw6];exact (Below.refl _ _).alloc (Nat.le_refl _) _
   have hs6':w6.heap.size=wr.heap.size+1:=by rw [hw6];simp
   have d0:w6.cell? ⟨wr.heap.size,0,none⟩=some (.int .i64 x):=by rw [hw6];exact cell_of_heap (heap_newA _ _) (j:=0) rfl
   have d1:w6.cell? ⟨wr.heap.size,1,none⟩=some (.slice (some ⟨bd,od,none⟩) 1 sd):=by rw [hw6];exact cell_of_heap (heap_newA _ _) (j:=1) rfl
   obtain ⟨_,_,e,-,cy6⟩:=(hsrd.below (HBX.out.trans (hb6.mono HBX.out.size))).at hy
   cases e
   rw [Nat.add_zero] at cy6
   obtain ⟨yn,hyn⟩:∃ yn,y.n=yn:=⟨_,rfl⟩
   rw [hyn] at cy6
   have HX1:Hid (x=x):=Lib.hid rfl
   have HX2:=Lib.hid hyn
   have hlen:(l.take I).length≤256:=by rw [List.length_take,HL.out];omega
   have HL1:Hid ((Sy.nodes (l.take I)).length≤1000000):=Lib.hid (by rw [nodes_len];omega)
   have HL2:Hid ((ysL (l.take I)).length≤1000000):=Lib.hid (by rw [ysL_len];omega)
   have HE:Hid (Sy.nodes (l.take (I+1))=Sy.nodes (l.take I) ++ [x]∧ysL (l.take (I+1))=ysL (l.take I) ++ [y]):=Lib.hid ⟨by rw [nodes_take hs,hx],by rw [ysL_take hs,hyd]⟩
   have HV1:Hid (∀ b ∈ V1.ownBlock.toList,b < wr.heap.size∧w2.heap.size≤b):=Lib.hid fun b hb=>by have:=HO1.out.lt b (by simpa using hb);exact ⟨this.2,this.1⟩
   have HV2:Hid (∀ b ∈ V2.ownBlock.toList,b < wr.heap.size∧w2.heap.size≤b):=Lib.hid fun b hb=>by have:=HO2.out.lt b (by simpa using hb);exact ⟨this.2,this.1⟩
   have HBW2:Hid (Below w2.heap.size w2 w6):=Lib.hid (HBR.out.trans (hb6.mono hsr))
   have HO1:=Lib.hid (HO1.out.below hb6)
   have HO2:=Lib.hid (HO2.out.below hb6)
   obtain ⟨kp,hkp⟩:∃ kp:Nat→Bool,∀ k,kp k=true↔k < w6.heap.size∧k ∉ V1.ownBlock.toList∧k ∉ V2.ownBlock.toList:=⟨fun k=>decide (k < w6.heap.size∧k ∉ V1.ownBlock.toList∧k ∉ V2.ownBlock.toList),by simp⟩
   have k1:kp wr.heap.size=true:=(hkp _).2 ⟨by omega,fun hm=>by have:=(HV1.out _ hm).1;omega,fun hm=>by have:=(HV2.out _ hm).1;omega⟩
   have k4:kp bd=true:=(hkp _).2 ⟨by omega,fun hm=>by have:=(HV1.out _ hm).2;omega,fun hm=>by have:=(HV2.out _ hm).2;omega⟩
   have HKP:=Lib.hid hkp
   have hs6:wr.heap.size < w6.heap.size:=by omega
   clear hat hs hx hsd hsrd hy hyd hsa hb6 hyn hlen hkp hs6'
   go_upto_region 10 with fail
   rw [← hw6]
   clear hw6
   have hgr:=fun (w0 W:World) (p:Addr) (hp:(fun k=>kp k=true) p.block)=>graft_cell (w0:=w0) (keep:=(fun k=>kp k=true)) W hp
   refine wp_region_tree (fun k=>kp k=true) [3,4,10,11] (.sq [0,1,2,5,6,7,8,9] (.fork 3 (.fork 4 (.sq [10,11,12,13] .done) 10 (.sq [4,11,12,13] .done)) 10 (.sq [3,4,11,12,13] .done))) (by kernel_rfl) (by kernel_rfl) ?_
   simp only [Tr.sq,List.foldr_cons,List.foldr_nil,slimTr,slimStep,Oper.slim,List.contains_cons,List.contains_nil,Option.map_none,Option.map_some,List.getElem?_toArray,List.getElem?_cons_zero,List.getElem?_cons_succ,Option.bind_some,beq_self_eq_true,Bool.or_false,Nat.reduceBEq,Nat.reduceAdd,Nat.zero_add]
   repeat' first | ((with_reducible refine wpSlimT_id ?_);first | (with_reducible refine wpSlimT_done ?_) | (with_reducible refine wpSlimT_fork ?_ ?_) | (first | (refine wpSlimT_appE _ _ _ rfl rfl rfl rfl rfl (app_int_at _ (HO1.out.below (by (repeat' (first | (with_reducible exact RowKit.Below.refl _ _) | (with_reducible assumption) | (with_reducible refine RowKit.Below.drew ?_) | (with_reducible refine RowKit.Below.alloc ?_ ?_ _) | omega | (simp;done) | (simp;omega))))) HL1.out (by simp;omega) HX1.out (cell_of_heap (by first | exact heap_newA _ _ | exact keepA (heap_newA _ _) _ | exact heap_newE _ _ _ (by simp) | exact keepA (heap_newE _ _ _ (by simp)) _) (j:=0) rfl)) ?_;rintro v1 w7 ⟨ho1,hk1,hb1,hat1⟩;have HO1':=Lib.hid ho1;have HK1:=Lib.hid hk1;have HAT1:Hid (∀ b,v1.ownBlock=some b→b ∈ V1.ownBlock.toList ∨ w6.heap.size≤b):=Lib.hid (fun b hb=>by rcases hat1 with e | e <;> rw [e] at hb;exact .inl (by simpa using hb);(cases hb;exact .inr (by first | (simp;done) | (simp;omega))));have HBN7:Hid (Below w2.heap.size w2 w7):=Lib.hid ((HBW2.out.trans (by (repeat' (first | (with_reducible exact RowKit.Below.refl _ _) | (with_reducible assumption) | (with_reducible refine RowKit.Below.drew ?_) | (with_reducible refine RowKit.Below.alloc ?_ ?_ _) | omega | (simp;done) | (simp;omega))))).trans hb1);have HO2':=Lib.hid ((HO2.out.below (by (repeat' (first | (with_reducible exact RowKit.Below.refl _ _) | (with_reducible assumption) | (with_reducible refine RowKit.Below.drew ?_) | (with_reducible refine RowKit.Below.alloc ?_ ?_ _) | omega | (simp;done) | (simp;omega))))).kp hk1 HAP.out);have hs7:w6.heap.size < w7.heap.size:=Nat.lt_of_lt_of_le (by first | (simp;done) | (simp;omega)) hk1.size;have HB7:=Lib.hid hb1;have HKE7:Hid (∀ kk,kp kk=true→w7.heap[kk]? = w6.heap[kk]?):=Lib.hid (fun kk hkk=>(HK1.out.block kk (by have:=((HKP.out kk).1 hkk).1;simp;omega) ((HKP.out kk).1 hkk).2.1).trans (by have:=((HKP.out kk).1 hkk).1;first | exact hp_alloc _ _ _ (by simp;omega) | exact (hp_alloc _ _ _ (by simp;omega)).trans (hp_alloc _ _ _ (by simp;omega))));clear ho1 hk1 hb1 hat1;refine ⟨(fun kk hkk=>HKE7.out kk hkk),?_⟩) | (refine wpSlimT_appE _ _ _ rfl rfl rfl rfl rfl (app_byte_at _ (HO2'.out.below (by (repeat' (first | (with_reducible exact RowKit.Below.refl _ _) | (with_reducible assumption) | (with_reducible refine RowKit.Below.drew ?_) | (with_reducible refine RowKit.Below.alloc ?_ ?_ _) | omega | (simp;done) | (simp;omega))))) HL2.out (by first | omega | (simp;omega)) HX2.out (cell_of_heap (by first | (first | exact heap_newA _ _ | exact keepA (heap_newA _ _) _ | exact heap_newE _ _ _ (by simp) | exact keepA (heap_newE _ _ _ (by simp)) _) | (refine HK1.out.heap (by first | exact heap_newA _ _ | exact keepA (heap_newA _ _) _ | exact heap_newE _ _ _ (by simp) | exact keepA (heap_newE _ _ _ (by simp)) _) ?_;intro hm;have h9:=HV1.out _ hm;first | omega | (simp at h9;omega) | (have h8:w6.drew.heap.size=w6.heap.size:=rfl;omega))) (j:=0) rfl)) ?_;rintro v2 w8 ⟨ho2,hk2,hb2,hat2⟩;have HO2'':=Lib.hid ho2;have HK2:=Lib.hid hk2;have HBN8:Hid (Below w2.heap.size w2 w8):=Lib.hid ((HBN7.out.trans (by (repeat' (first | (with_reducible exact RowKit.Below.refl _ _) | (with_reducible assumption) | (with_reducible refine RowKit.Below.drew ?_) | (with_reducible refine RowKit.Below.alloc ?_ ?_ _) | omega | (simp;done) | (simp;omega))))).trans hb2);have HAP8:Hid (Apart v2 v1.ownBlock.toList):=Lib.hid (fun b hb hm=>by have hm0:v1.ownBlock=some b:=(by simpa using hm);have hm:=HO1'.out.lt b hm0;rcases hat2 with e | e <;> rw [e] at hb;(rcases HAT1.out b hm0 with h | h;exact HAP.out b hb h;have:=HV2.out b (by simpa using hb);omega);(cases hb;first | omega | (simp at hm;omega)));have HO1'':=Lib.hid ((HO1'.out.below (by (repeat' (first | (with_reducible exact RowKit.Below.refl _ _) | (with_reducible assumption) | (with_reducible refine RowKit.Below.drew ?_) | (with_reducible refine RowKit.Below.alloc ?_ ?_ _) | omega | (simp;done) | (simp;omega))))).kp hk2 (fun b hb hm=>by have h9:=HV2.out b hm;rcases HAT1.out b hb with h | h;exact HAP.out b (by simpa using hm) h;omega));have hs8:w6.heap.size < w8.heap.size:=Nat.lt_of_lt_of_le (by first | omega | (simp;omega)) hk2.size;have HB8:=Lib.hid hb2;clear ho2 hk2 hb2 hat2;refine ⟨?keep,?_⟩;(case keep=>(intro kk hkk;have hkk2:=((HKP.out kk).1 hkk).1;refine (HK2.out.block kk (by first | omega | (simp;omega)) ((HKP.out kk).1 hkk).2.2).trans ?_;first | exact HKE7.out kk hkk | (refine (hp_alloc _ _ _ ?_).trans (HKE7.out kk hkk);omega)))) | (refine wpSlimT_append _ _ _ rfl rfl rfl rfl rfl hap (fun kk hkk=>HKE.out kk ((HKP.out kk).1 hkk)) ?_)) | ((with_reducible refine wpSlimT_step (fun K hK=>?_));go_simp;first | (refine hK _ _ ?_;clear hK K) | (refine ⟨by (intro kk hkk;first | (simp (disch:=(simp;omega)) only [hp_drew,hp_drewN,hp_alloc,hp_set];done) | (simp [hp_drew,hp_drewN,hp_alloc_if,hkk];done) | (have hkk2:=((HKP.out kk).1 hkk).1;first | exact hp_alloc _ _ _ (by simp;omega) | exact (hp_alloc _ _ _ (by simp;omega)).trans (hp_alloc _ _ _ (by simp;omega)) | (refine (hp_alloc _ _ _ ?_).trans (HKE7.out kk hkk);omega) | exact (hp_set _ _ _ _ (by simp;exact ((HKP.out kk).1 hkk).2.1)).trans (HKE.out kk ((HKP.out kk).1 hkk)))),hK _ _ ?_⟩;clear hK K))) | fail
   all_goals clear hgr
   all_goals
    have HO1n:Hid (OwnZ w8 w2.heap.size v1 (Sy.nodes (l.take (I+1)))):=Lib.hid (by
     rw [HE.out.1]
     exact HO1''.out)
    have HO2n:Hid (OwnG w8 w2.heap.size v2 (ysL (l.take (I+1)))):=Lib.hid (by
     rw [HE.out.2]
     exact HO2''.out)
    clear HO1 HO2 HO1' HO2' HO1'' HO2'' HK1 HK2 HB7 HB8 HKE7 HAT1
    go_wp2
    go_roundg (L - (I+1))
    case measure=>omega
    case rel=>exact ⟨v1,v2,I+1,rfl,rfl,by omega,rfl,by go_num,HO1n,HO2n,HAP8,HBN8⟩
  ·obtain rfl:I=L:=by omega
   have hLt:l.take I=l:=by rw [← HL.out,List.take_length]
   rw [hLt] at HO1 HO2
   have hnl:(Sy.nodes l).length=I:=by rw [nodes_len,HL.out]
   have hyl:(ysL l).length=I:=by rw [ysL_len,HL.out]
   obtain ⟨a1,c1,rfl⟩:=HO1.out.rd.form
   obtain ⟨a2,c2,rfl,-⟩:=HO2.out.form
   rw [hnl] at HO1 HAP ⊢
   rw [hyl] at HO2 HAP ⊢
   have HRW:=Lib.hid (HR2.out.below HBR.out)
   have HCW:=Lib.hid (keepB HBR.out HCB.out)
   have HFW:=Lib.hid (HF2.out.below HBR.out)
   have HH:=Lib.hid (H.out.below HBX.out)
   have HGP:Hid (GoodP xs.length (Sy.nodes l)):=Lib.hid (by rw [HX.out];exact HG.out.1)
   have HAN:=Lib.hid (And.intro hnl hyl)
   have HWD:=Lib.hid (wdec_any wr cb fb T cv (.slice a1 I c1) (.slice a2 I c2) xs (Sy.nodes l) (ysL l) (tn:Int) HH.out.code HND.out hT1 (by rw [HX.out];exact hTb) (by rw [HX.out];omega) HO1.out.rd HO2.out.rd (.inr (fun b hb hm=>by have:=(HO1.out.lt b hb).1;simp at hm;omega)) (.inr (fun b hb hm=>by have:=(HO2.out.lt b hb).1;simp at hm;omega)) (by rw [hnl];omega) (by rw [hyl];omega) ht)
   have q0:=cell_of_heap HCW.out (j:=0) rfl
   have q1:=cell_of_heap HH.out.box (j:=0) rfl
   have g0:=lt_of_heap HCW.out
   have g1:=lt_of_heap HH.out.box
   clear hLt hnl hyl
   go_wp2_with fail
   refine HWD.out.mono ?_
   rintro e w3 ⟨hk3,hf3,han⟩
   have hRW3:=HRW.out.kp hk3 (by simp;omega)
   have HR3:=Lib.hid hRW3
   have HK3:=Lib.hid hk3
   have HF3:=Lib.hid hf3
   have HC3:=Lib.hid (hk3.heap HCW.out (by simp;omega))
   have HH3:=Lib.hid (HH.out.step hk3 hf3)
   have hs3:=hk3.size
   have HKW3:Hid (Kp [fb] w w3):=Lib.hid ((Kp.of_below HBX.out).trans hk3)
   clear hk3 hf3 hRW3 HWD q0 q1 g0 g1
   obtain ⟨⟨y6,z6⟩,⟨y7,z7⟩,⟨y8,z8⟩,g8⟩:=HR3.out.at
   have g6:w.heap.size+1 < w3.heap.size:=by omega
   have g7:w.heap.size+1+1 < w3.heap.size:=by omega
   have hpl:(Sy.nodes l).length=I:=HAN.out.1
   rcases han with ⟨hbad,-⟩ | ⟨hgood,⟨hfew,rfl⟩ | ⟨hmany,⟨p,v1,v2,rfl,htell,ho1,hr2⟩ | ⟨rfl,hnone⟩⟩⟩
   ·exfalso
    rcases hbad with hbad | hbad
    ·exact hbad ⟨HGP.out,by rw [HAN.out.1,HAN.out.2]⟩
    ·omega
   ·have HST:=Lib.hid (HR3.out.set (.slice none 0 0) (.slice none 0 0) (.int .i64 70))
    have HFEW:Hid ((l.length:Int) < ((k / r * (r+1) - 1:Nat):Int)+2 * (tn:Int)):=Lib.hid (by rw [HTD.out,HL.out];rw [hpl] at hfew;exact hfew)
    clear hfew hgood hpl
    go_wp2
    refine leaves_marks (B:=w.heap.size) [] _ (Marks.nil _ _) fun w' hk=>⟨.tuple #[.slice none 0 0,.slice none 0 0,.int .i64 70],?_,?_⟩
    ·have hr:=(HST.out.1.kp hk (by simp)).at
     simp [results,Tryz.results27,go_sem,hr.1.1,hr.2.1.1,hr.2.2.1.1]
    ·have hst:=HST.out.2
     exact ⟨(HKW3.out.step hst (fun x hx=>.inr (by simp at hx;omega))).trans (hk.mono (by simp)),(HF3.out.kp hst (by simp;omega)).kp hk (by simp),.inr ⟨⟨by omega,HG.out⟩,.inl ⟨HFEW.out,rfl⟩⟩⟩
   ·have HMANY:Hid (((k / r * (r+1) - 1:Nat):Int)+2 * (tn:Int)≤(l.length:Int)):=Lib.hid (by rw [HTD.out,HL.out];rw [hpl] at hmany;exact hmany)
    have HTELL:=Lib.hid htell
    have HOP:=Lib.hid ho1
    have HWR:=Lib.hid hr2
    have hnl9:=nodes_len l
    have hpT:p.length=T:=htell.1
    obtain ⟨gp,cp,rfl,hgp1,hgp2,hgpv⟩:=ho1.view (fun e=>by rw [e] at hpT;simp at hpT;omega)
    obtain ⟨a3,c3,rfl⟩:=hr2.rd.form
    obtain ⟨Lw,hLw⟩:∃ Lw,(wrS xs (Sy.nodes l) (ysL l) p).length=Lw:=⟨_,rfl⟩
    have HLW:=Lib.hid hLw
    have HPT:=Lib.hid hpT
    rw [hpT] at HOP hgp2 ⊢
    rw [hLw] at HWR ⊢
    obtain ⟨R,hR⟩:∃ R,r+1=R:=⟨_,rfl⟩
    have e1:(r:Int)+1=(R:Int):=by omega
    have e2:IntKind.i64.wrap (R:Int)=(R:Int):=IntWalk.i64_in _ (by omega)
    have q0:=cell_of_heap HC3.out (j:=0) rfl
    have q4:=cell_of_heap HH3.out.box (j:=4) rfl
    have g0:=lt_of_heap HC3.out
    have g4:=lt_of_heap HH3.out.box
    have hR0:0 < R:=by omega
    have HRR:=Lib.hid hR
    clear hmany hgood hpl htell ho1 hr2 hpT hLw hgpv hR
    go_wp2_with (go_at_call 41;refine (chunk_any _ _ _ _ _ hR0).mono ?_;rintro e w4 ⟨rfl,hb4,hc1,hc2⟩)
    have hsz3:(w3.alloc (.cells #[.slice none 0 0] 36)).heap.size=w3.heap.size+1:=by simp
    rw [hsz3] at hb4 hc1 hc2
    have hm3:(w3.alloc (.cells #[.slice none 0 0] 36)).heap[w3.heap.size]? = some (.cells #[.slice none 0 0] 36 (0,0)):=heap_newA _ _
    have hb34:Below w3.heap.size w3 w4:=((Below.refl _ _).alloc (Nat.le_refl _) _).trans (hb4.mono (by omega))
    have hm4:w4.heap[w3.heap.size]? = some (.cells #[.slice none 0 0] 36 (0,0)):=(hb4.block _ (by omega)).trans hm3
    have hs4:w3.heap.size+1+1 < w4.heap.size:=lt_of_heap hc2
    have hcb:(fun j=>j)=(fun j:Nat=>j):=rfl
    have HI0:Hid (DecI fb w3.heap.size w3.heap.size (w4.heap.size+0+2) r (k / r) p w3 [] w4):=Lib.hid ⟨HF3.out.below hb34,⟨_,hm4,by rw [List.length_nil,msgL_zero];exact OwnG.nil _ _,fun b hb=>by simp [Value.ownBlock] at hb⟩,Kp.of_below hb34,fun c hc=>by simp at hc⟩
    have HCH:=Lib.hid (And.intro hc1 hc2)
    have HP3:=Lib.hid (OwnG.below HOP.out hb34)
    have hgpl:gp < w3.heap.size:=(HOP.out.lt gp rfl).2
    have hcn:chN T R=k / r:=by
     have h1:=HTD.out
     rw [HRR.out] at h1
     unfold chN
     refine Nat.div_eq_of_lt_le ?_ ?_
     ·omega
     ·rw [Nat.add_mul]
      omega
    have HCN:=Lib.hid hcn
    clear hb4 hc1 hc2 hm3 hb34 hm4 hcb hcn hsz3 q0 q4 g0 g4 e1 e2
    refine wp_range_E (gf:=64) (lb:=#[.pointer (some ⟨w3.heap.size+1,0,none⟩),.pointer (some ⟨w3.heap.size+1+1,0,none⟩)]) (by kernel_rfl) (enters_of Tryz.func64 (by kernel_rfl) rfl)
     (chunk1_seq (w3.heap.size+1) (w3.heap.size+1+1) fb gp 0 T cp R _ w4 HCH.out.1 HCH.out.2 (fun _=>rfl) hgp2 hR0 ⟨by omega,by have:=HRR.out;omega⟩) (Below.refl _ _) (fun _=>rfl) (by omega) (chN T R) (fun n h=>by cases h;rfl)
     (DecI fb w3.heap.size w3.heap.size (w4.heap.size+0+2) r (k / r) p w3) (fun _=>DecX fb w.heap.size r (k / r) p w3)
     (fun pre A A' h hst=>by
      obtain ⟨V',h1,h2,h3⟩:=h.ex
      refine ⟨hst.ok h.ok,⟨V',(hst.kp.block _ (lt_of_heap h1) (not_own (by omega) (.inl (by omega)))).trans h1,h2.kp hst.kp (fun b hb=>not_own (by have:=(h2.lt b hb).1;omega) (.inr (by have:=h3 b hb;omega))),h3⟩,h.kp.step hst.kp fun x hx=>?_,h.z⟩
      rcases List.mem_cons.1 hx with rfl | hx
      ·exact .inl (by simp)
      ·have:=(List.mem_range'_1.1 hx).1
       exact .inr (by omega))
     (fun pre A A' h hst=>by
      refine ⟨hst.ok h.ok,h.kp.step hst.kp fun x hx=>?_,h.res.kp hst.kp fun x hx=>?_,h.gap⟩
      ·rcases List.mem_cons.1 hx with rfl | hx
       ·exact .inl (by simp)
       ·have:=(List.mem_range'_1.1 hx).1
        exact .inr (by omega)
      ·rcases List.mem_cons.1 hx with rfl | hx
       ·omega
       ·have:=(List.mem_range'_1.1 hx).1
        omega)
     (fun pre A h=>h.ok) HI0.out (fun h=>by cases h) (fun b hb=>by
      simp only [List.mem_cons,List.not_mem_nil,or_false] at hb
      rcases hb with rfl | rfl <;> omega)
     (fun x=>{ tmps:=#[.pointer (some ⟨lb,0,none⟩),.slice ah I ch,.int .i64 (tn:Nat),.pointer (some ⟨w.heap.size,0,none⟩),undef,undef,.pointer (some ⟨w.heap.size+1,0,none⟩),.pointer (some ⟨w.heap.size+1+1,0,none⟩),.pointer (some ⟨w.heap.size+1+1+1,0,none⟩),.slice a1 I c1,.slice a2 I c2,undef,u12,.slice (some ⟨gp,0,none⟩) T cp,.slice a3 Lw c3,.int .i64 0,.pointer (some ⟨w3.heap.size,0,none⟩),undef,.bool false,.pointer (some ⟨lb,0,none⟩),.bool false,.bool false,.int .i64 (tn:Nat),.bool false,.bool false,.pointer (some ⟨lb,0,none⟩),.slice ah I ch,.bool true,.bool false,.bool false,.slice ah I ch,.int .i64 (I:Nat),.int .i64 (I:Nat),.bool false,u34,u35,u36,u37,u38,u39,u40,u41,u42,u43,u44,u45,u46,u47,u48,.tuple #[.slice (some ⟨gp,0,none⟩) T cp,.slice a3 Lw c3,.int .i64 0],.pointer (some ⟨lb,0,none⟩),.pointer (some ⟨lb,0,none⟩),.pointer (some ⟨lb,0,none⟩),.pointer (some ⟨lb,0,none⟩),.pointer (some ⟨cb,0,none⟩),.slice a1 I c1,.slice a2 I c2,.int .i64 (tn:Nat),.tuple #[.slice (some ⟨gp,0,none⟩) T cp,.slice a3 Lw c3,.int .i64 0],.slice (some ⟨gp,0,none⟩) T cp,.slice a3 Lw c3,.int .i64 0,.int .i64 0,.bool false,undef,.slice (some ⟨gp,0,none⟩) T cp,.pointer (some ⟨lb,0,none⟩),.pointer (some ⟨lb,0,none⟩),.pointer (some ⟨lb,4,none⟩),.int .i64 (r:Nat),.int .i64 (R:Nat),.func (.func 64) #[] #[.pointer (some ⟨w3.heap.size+1,0,none⟩),.pointer (some ⟨w3.heap.size+1+1,0,none⟩)],.slice (some ⟨gp,0+x * R,none⟩) (min R (T - x * R)) (min R (T - x * R)),undef,undef,undef,undef,undef,undef,undef,undef,undef,undef,undef,undef,undef,undef,undef,undef,undef,undef,undef,undef,undef,undef,undef,undef,undef,undef,undef],defers:=[] })
     (fun x=>{ tmps:=#[.pointer (some ⟨lb,0,none⟩),.slice ah I ch,.int .i64 (tn:Nat),.pointer (some ⟨w.heap.size,0,none⟩),undef,undef,.pointer (some ⟨w.heap.size+1,0,none⟩),.pointer (some ⟨w.heap.size+1+1,0,none⟩),.pointer (some ⟨w.heap.size+1+1+1,0,none⟩),.slice a1 I c1,.slice a2 I c2,undef,u12,.slice (some ⟨gp,0,none⟩) T cp,.slice a3 Lw c3,.int .i64 0,.pointer (some ⟨w3.heap.size,0,none⟩),.slice (some ⟨gp,0+x * R,none⟩) (min R (T - x * R)) (min R (T - x * R)),.bool false,.pointer (some ⟨lb,0,none⟩),.bool false,.bool false,.int .i64 (tn:Nat),.bool false,.bool false,.pointer (some ⟨lb,0,none⟩),.slice ah I ch,.bool true,.bool false,.bool false,.slice ah I ch,.int .i64 (I:Nat),.int .i64 (I:Nat),.bool false,u34,u35,u36,u37,u38,u39,u40,u41,u42,u43,u44,u45,u46,u47,u48,.tuple #[.slice (some ⟨gp,0,none⟩) T cp,.slice a3 Lw c3,.int .i64 0],.pointer (some ⟨lb,0,none⟩),.pointer (some ⟨lb,0,none⟩),.pointer (some ⟨lb,0,none⟩),.pointer (some ⟨lb,0,none⟩),.pointer (some ⟨cb,0,none⟩),.slice a1 I c1,.slice a2 I c2,.int .i64 (tn:Nat),.tuple #[.slice (some ⟨gp,0,none⟩) T cp,.slice a3 Lw c3,.int .i64 0],.slice (some ⟨gp,0,none⟩) T cp,.slice a3 Lw c3,.int .i64 0,.int .i64 0,.bool false,undef,.slice (some ⟨gp,0,none⟩) T cp,.pointer (some ⟨lb,0,none⟩),.pointer (some ⟨lb,0,none⟩),.pointer (some ⟨lb,4,none⟩),.int .i64 (r:Nat),.int .i64 (R:Nat),.func (.func 64) #[] #[.pointer (some ⟨w3.heap.size+1,0,none⟩),.pointer (some ⟨w3.heap.size+1+1,0,none⟩)],.slice (some ⟨gp,0+x * R,none⟩) (min R (T - x * R)) (min R (T - x * R)),undef,undef,undef,undef,undef,undef,undef,undef,undef,undef,undef,undef,undef,undef,undef,undef,undef,undef,undef,undef,undef,undef,undef,undef,undef,undef,undef],defers:=[] })
     (fun x=>by kernel_rfl) ?assign ?body ?done ?stop
    case assign =>
     intro l x W1 K hK
     generalize min R (T - x * R)=q at hK ⊢
     simp only [Nat.zero_add] at hK ⊢
     gi_wp2
     exact hK
    case body =>
     intro lv pre j W1 hI hsp hlen hsz
     obtain ⟨hpre,hplen⟩:=hsp
     obtain rfl:j=pre.length:=by
      have h1:(pre ++ [j])[pre.length]? = some j:=by simp
      rw [hpre,List.getElem?_range (by simp)] at h1
      exact (Option.some.inj h1).symm
     obtain ⟨P,hP⟩:∃ P,pre.length=P:=⟨_,rfl⟩
     have HPL:Hid ((pre ++ [pre.length]).length=P+1):=Lib.hid (by simp [hP])
     have HPP:=Lib.hid hP
     rw [hP] at hlen ⊢
     have hPD:P < k / r:=by rw [← HCN.out];exact hlen
     have hTR:k / r * R - 1=T:=by have:=HTD.out;rwa [HRR.out] at this
     have hPR:P * R+R≤k / r * R:=by
      have h1:=Nat.mul_le_mul_right R (show P+1≤k / r from hPD)
      rwa [Nat.add_mul,Nat.one_mul] at h1
     have hrR:R=r+1:=HRR.out.symm
     obtain ⟨V',hbx,hV',hVb⟩:=hI.ex
     rw [hP] at hV'
     obtain ⟨a5,c5,rfl,hc5⟩:=hV'.form
     obtain ⟨L1,hL1⟩:∃ L1,(msgL r p P).length=L1:=⟨_,rfl⟩
     rw [hL1] at hbx hV' hVb hc5
     have hW1:=hI.kp.size
     have hL1b:L1≤100000:=by
      rw [← hL1,msgL_len]
      exact Nat.le_trans (Nat.mul_le_mul (show P≤255 by have:=Nat.div_le_self k r;have:=HO.out.k1;omega) (show r≤255 by omega)) (by omega)
     obtain ⟨m,hm⟩:∃ m,min R (T - P * R)=m:=⟨_,rfl⟩
     have hmr:r≤m∧0 < m∧P * R+m≤T:=by omega
     have hp3:GRd W1 (.slice (some ⟨gp,0,none⟩) T cp) p:=HOP.out.rd.kp hI.kp (fun b hb hm=>by simp [Value.ownBlock] at hb hm;have:=(HOP.out.lt gp rfl).1;omega)
     have hpart:=part_rd2 hp3 hmr.2.2 hmr.2.1
     rw [Nat.zero_add] at hpart ⊢
     rw [hm]
     obtain ⟨sa,sc,hsl,hsrd,hsn⟩:=slice_h (some ⟨gp,P * R,none⟩) m m r hmr.1
     have hcut:GRd W1 (.slice sa r sc) (cutL r P p):=by
      have h1:=hsrd W1 _ hpart (by rw [rowF_len];exact hmr.1)
      have h2:(rowF (fun e=>p.getD (P * R+e) 0) m).take r=cutL r P p:=by
       unfold cutL rowF
       rw [← List.map_take,List.take_range,Nat.min_eq_left hmr.1,hrR]
      rwa [h2] at h1
     obtain ⟨sA,rfl⟩:∃ sA,sa=some sA:=by
      cases sa with
      | none=>exact absurd rfl (hsn (by simp))
      | some A=>exact ⟨A,rfl⟩
     obtain ⟨v6,w8,hap,ho6,hk6,hb6,hat6⟩:=app_rowsK (W:=W1.drew) hV' hcut (by rw [hL1];omega) (by rw [cutL,rowF_len];omega) (show w3.heap.size≤W1.heap.size by omega)
     rw [← msgL_succ] at ho6
     obtain ⟨a6,c6,rfl,-⟩:=ho6.form
     obtain ⟨L6,hL6⟩:∃ L6,(msgL r p (P+1)).length=L6:=⟨_,rfl⟩
     rw [hL6] at hap ho6 hat6
     have hk6':Kp (Value.slice a5 L1 c5).ownBlock.toList W1 w8:=((Kp.refl _ W1).drew).trans hk6
     have hv6:∀ b,(Value.slice a6 L6 c6).ownBlock=some b→w4.heap.size+0+2≤b:=fun b hb=>by
      rcases hat6 with h | h
      ·exact hVb b (by rw [← h];exact hb)
      ·rw [h] at hb
       cases hb
       have hh:W1.drew.heap.size=W1.heap.size:=rfl
       omega
     have hnb:∀ x,x ∈ (Value.slice a5 L1 c5).ownBlock.toList→w4.heap.size+0+2≤x:=fun x hx=>hVb x (by simpa using hx)
     have hbx8:=hk6'.heap hbx (fun hm=>by have:=hnb _ hm;omega)
     have y9:=cell_of_heap hbx8 (j:=0) rfl
     have z9:=free_of_heap hbx8 0
     have g9:=lt_of_heap hbx8
     have hk9:Kp [w3.heap.size] w8 (w8.setCell ⟨w3.heap.size,0,none⟩ (.slice a6 L6 c6)):=(Kp.refl _ _).setCell (.inl (by simp)) _
     have hbx9:=heap_set_same hbx8 0 (.slice a6 L6 c6)
     have hk19:Kp (w3.heap.size :: (Value.slice a5 L1 c5).ownBlock.toList) W1 (w8.setCell ⟨w3.heap.size,0,none⟩ (.slice a6 L6 c6)):=(hk6'.mono (fun x hx=>List.mem_cons_of_mem _ hx)).trans (hk9.mono (by simp))
     have hmem:∀ x,x ∈ w3.heap.size :: (Value.slice a5 L1 c5).ownBlock.toList→x=w3.heap.size ∨ w4.heap.size+0+2≤x:=fun x hx=>by
      rcases List.mem_cons.1 hx with h | h
      ·exact .inl h
      ·exact .inr (hnb x h)
     have HFIN:Hid ((P+1 < k / r→p.getD (P * R+r) 0=0)→KS ([w3.heap.size+1,w3.heap.size+1+1] ++ List.range' w4.heap.size (0+2)) W1 (w8.setCell ⟨w3.heap.size,0,none⟩ (.slice a6 L6 c6))∧W1.heap.size≤(w8.setCell ⟨w3.heap.size,0,none⟩ (.slice a6 L6 c6)).heap.size ∧
       DecI fb w3.heap.size w3.heap.size (w4.heap.size+0+2) r (k / r) p w3 (pre ++ [pre.length]) (w8.setCell ⟨w3.heap.size,0,none⟩ (.slice a6 L6 c6))):=Lib.hid fun hz=>by
      refine ⟨fun b hb=>hk19.block b ?_ fun hm=>?_,hk19.size,hI.ok.kp hk19 (fun hm=>by have:=hmem _ hm;omega),⟨_,by simpa using hbx9,?_,hv6⟩,hI.kp.step hk19 fun x hx=>.inr (by have:=hmem x hx;omega),fun c hc hcd=>?_⟩
      ·rcases List.mem_append.1 hb with h | h
       ·simp only [List.mem_cons,List.not_mem_nil,or_false] at h
        rcases h with rfl | rfl <;> omega
       ·have:=List.mem_range'_1.1 h
        omega
      ·have h2:=hmem b hm
       rcases List.mem_append.1 hb with h | h
       ·simp only [List.mem_cons,List.not_mem_nil,or_false] at h
        rcases h with rfl | rfl <;> omega
       ·have:=List.mem_range'_1.1 h
        omega
      ·rw [HPL.out]
       exact ho6.kp hk9 (fun b hb hm=>by obtain rfl:=List.mem_singleton.1 hm;have:=hv6 _ hb;omega)
      ·rw [HPL.out] at hc
       by_cases e:c=P
       ·rw [e,← hrR]
        exact hz (by omega)
       ·exact hI.z c (by rw [hP];omega) hcd
     have x0:=cell_of_heap (hI.kp.heap HC3.out (by simp;omega)) (j:=0) rfl
     have x4:=cell_of_heap (hI.kp.heap HH3.out.box (by have:=HH3.out.ne;simpa using this)) (j:=4) rfl
     have hlbf:=HH3.out.ne
     have hlb3:=lt_of_heap HH3.out.box
     have hx3:=lt_of_heap HC3.out
     have x5:=cell_of_heap hbx (j:=0) rfl
     have HKE:Hid (∀ kk,kk < W1.heap.size∧kk ≠ w3.heap.size∧kk ∉ (Value.slice a5 L1 c5).ownBlock.toList→w8.heap[kk]? = W1.heap[kk]?):=Lib.hid fun kk hkk=>hk6'.block kk hkk.1 hkk.2.2
     obtain ⟨kp,hkp⟩:∃ kp:Nat→Bool,∀ k,kp k=true↔k < W1.heap.size∧k ≠ w3.heap.size∧k ∉ (Value.slice a5 L1 c5).ownBlock.toList:=⟨fun k=>decide (k < W1.heap.size∧k ≠ w3.heap.size∧k ∉ (Value.slice a5 L1 c5).ownBlock.toList),by simp⟩
     have k1:kp lb=true:=(hkp _).2 ⟨by omega,by omega,fun hm=>by have:=hnb _ hm;omega⟩
     have k2:kp w.heap.size=true:=(hkp _).2 ⟨by omega,by omega,fun hm=>by have:=hnb _ hm;omega⟩
     have HKP:=Lib.hid hkp
     have HI:=Lib.hid hI
     have HG3:=Lib.hid (And.intro hp3 hgpl)
     have HNU:=Lib.hid (And.intro hPD (And.intro hTR (And.intro hPR hm)))
     have HR1:=Lib.hid (HR3.out.kp hI.kp (fun x hx=>by obtain rfl:=List.mem_singleton.1 hx;omega))
     have HSZ:=Lib.hid (And.intro hsz hs4)
     clear hI hV' hVb hk6 hk6' hb6 hat6 hv6 hbx8 hk9 hbx9 hk19 hmem ho6 hpart hcut hsrd hsn hp3 hpre hplen hlen hL1 hL6 hbx hkp y6 z6 y7 z7 y8 z8 g6 g7 g8
     by_cases hlast:P+1 < k / r
     ·obtain rfl:m=R:=by
       have h1:=Nat.mul_le_mul_right R (show P+2≤k / r from hlast)
       rw [Nat.add_mul] at h1
       omega
      obtain ⟨g,hg,hgd⟩:=at_get (l:=p) (i:=P * m+r) (by rw [HPT.out];omega)
      obtain ⟨_,_,e,-,cg⟩:=HG3.out.1.at hg
      cases e
      rw [Nat.zero_add] at cg
      obtain ⟨gn,hgn⟩:∃ gn,g.n=gn:=⟨_,rfl⟩
      rw [hgn] at cg
      have i1:(0:Int)≤(r:Int)∧(r:Int) < (m:Int):=by omega
      have i2:(m:Int) > (r:Int):=by omega
      have HLAST:=Lib.hid hlast
      by_cases hg0:gn=0
      ·have hg0':((gn:Int) == 0)=true:=by simp;exact hg0
       have hg0'':(gn:Int)=0:=by omega
       have HZ:Hid (P+1 < k / r→p.getD (P * m+r) 0=0):=Lib.hid fun _=>by rw [hgd];exact GF.eq0.2 (by rw [hgn];exact hg0)
       clear hg hgd hgn hlast hrR hmr hPR hTR hPD hm hP hg0
       gi_wp2
       have hgr:=fun (w0 W:World) (p:Addr) (hp:(fun k=>kp k=true) p.block)=>graft_cell (w0:=w0) (keep:=(fun k=>kp k=true)) W hp
       refine wpIn_region_tree (fun k=>kp k=true) [0,7,8] (.sq [1,2,3,4,5,6,0,7,8] .done) (by kernel_rfl) (by kernel_rfl) (by kernel_rfl) ?_
       simp only [Tr.sq,List.foldr_cons,List.foldr_nil,slimTr,slimStep,Oper.slim,List.contains_cons,List.contains_nil,Option.map_none,Option.map_some,List.getElem?_toArray,List.getElem?_cons_zero,List.getElem?_cons_succ,Option.bind_some,beq_self_eq_true,Bool.or_false,Nat.reduceBEq,Nat.reduceAdd,Nat.zero_add]
       repeat' first | ((with_reducible refine wpSlimT_id ?_);first | (with_reducible refine wpSlimT_done ?_) | (first | (refine wpSlimT_appE _ _ _ rfl rfl rfl rfl rfl (app_int_at _ (HO1.out.below (by (repeat' (first | (with_reducible exact RowKit.Below.refl _ _) | (with_reducible assumption) | (with_reducible refine RowKit.Below.drew ?_) | (with_reducible refine RowKit.Below.alloc ?_ ?_ _) | omega | (simp;done) | (simp;omega))))) HL1.out (by simp;omega) HX1.out (cell_of_heap (by first | exact heap_newA _ _ | exact keepA (heap_newA _ _) _ | exact heap_newE _ _ _ (by simp) | exact keepA (heap_newE _ _ _ (by simp)) _) (j:=0) rfl)) ?_;rintro v1 w7 ⟨ho1,hk1,hb1,hat1⟩;have HO1':=Lib.hid ho1;have HK1:=Lib.hid hk1;have HAT1:Hid (∀ b,v1.ownBlock=some b→b ∈ V1.ownBlock.toList ∨ w6.heap.size≤b):=Lib.hid (fun b hb=>by rcases hat1 with e | e <;> rw [e] at hb;exact .inl (by simpa using hb);(cases hb;exact .inr (by first | (simp;done) | (simp;omega))));have HBN7:Hid (Below w2.heap.size w2 w7):=Lib.hid ((HBW2.out.trans (by (repeat' (first | (with_reducible exact RowKit.Below.refl _ _) | (with_reducible assumption) | (with_reducible refine RowKit.Below.drew ?_) | (with_reducible refine RowKit.Below.alloc ?_ ?_ _) | omega | (simp;done) | (simp;omega))))).trans hb1);have HO2':=Lib.hid ((HO2.out.below (by (repeat' (first | (with_reducible exact RowKit.Below.refl _ _) | (with_reducible assumption) | (with_reducible refine RowKit.Below.drew ?_) | (with_reducible refine RowKit.Below.alloc ?_ ?_ _) | omega | (simp;done) | (simp;omega))))).kp hk1 HAP.out);have hs7:w6.heap.size < w7.heap.size:=Nat.lt_of_lt_of_le (by first | (simp;done) | (simp;omega)) hk1.size;have HB7:=Lib.hid hb1;have HKE7:Hid (∀ kk,kp kk=true→w7.heap[kk]? = w6.heap[kk]?):=Lib.hid (fun kk hkk=>(HK1.out.block kk (by have:=((HKP.out kk).1 hkk).1;simp;omega) ((HKP.out kk).1 hkk).2.1).trans (by have:=((HKP.out kk).1 hkk).1;first | exact hp_alloc _ _ _ (by simp;omega) | exact (hp_alloc _ _ _ (by simp;omega)).trans (hp_alloc _ _ _ (by simp;omega))));clear ho1 hk1 hb1 hat1;refine ⟨(fun kk hkk=>HKE7.out kk hkk),?_⟩) | (refine wpSlimT_appE _ _ _ rfl rfl rfl rfl rfl (app_byte_at _ (HO2'.out.below (by (repeat' (first | (with_reducible exact RowKit.Below.refl _ _) | (with_reducible assumption) | (with_reducible refine RowKit.Below.drew ?_) | (with_reducible refine RowKit.Below.alloc ?_ ?_ _) | omega | (simp;done) | (simp;omega))))) HL2.out (by first | omega | (simp;omega)) HX2.out (cell_of_heap (by first | (first | exact heap_newA _ _ | exact keepA (heap_newA _ _) _ | exact heap_newE _ _ _ (by simp) | exact keepA (heap_newE _ _ _ (by simp)) _) | (refine HK1.out.heap (by first | exact heap_newA _ _ | exact keepA (heap_newA _ _) _ | exact heap_newE _ _ _ (by simp) | exact keepA (heap_newE _ _ _ (by simp)) _) ?_;intro hm;have h9:=HV1.out _ hm;first | omega | (simp at h9;omega) | (have h8:w6.drew.heap.size=w6.heap.size:=rfl;omega))) (j:=0) rfl)) ?_;rintro v2 w8 ⟨ho2,hk2,hb2,hat2⟩;have HO2'':=Lib.hid ho2;have HK2:=Lib.hid hk2;have HBN8:Hid (Below w2.heap.size w2 w8):=Lib.hid ((HBN7.out.trans (by (repeat' (first | (with_reducible exact RowKit.Below.refl _ _) | (with_reducible assumption) | (with_reducible refine RowKit.Below.drew ?_) | (with_reducible refine RowKit.Below.alloc ?_ ?_ _) | omega | (simp;done) | (simp;omega))))).trans hb2);have HAP8:Hid (Apart v2 v1.ownBlock.toList):=Lib.hid (fun b hb hm=>by have hm0:v1.ownBlock=some b:=(by simpa using hm);have hm:=HO1'.out.lt b hm0;rcases hat2 with e | e <;> rw [e] at hb;(rcases HAT1.out b hm0 with h | h;exact HAP.out b hb h;have:=HV2.out b (by simpa using hb);omega);(cases hb;first | omega | (simp at hm;omega)));have HO1'':=Lib.hid ((HO1'.out.below (by (repeat' (first | (with_reducible exact RowKit.Below.refl _ _) | (with_reducible assumption) | (with_reducible refine RowKit.Below.drew ?_) | (with_reducible refine RowKit.Below.alloc ?_ ?_ _) | omega | (simp;done) | (simp;omega))))).kp hk2 (fun b hb hm=>by have h9:=HV2.out b hm;rcases HAT1.out b hb with h | h;exact HAP.out b (by simpa using hm) h;omega));have hs8:w6.heap.size < w8.heap.size:=Nat.lt_of_lt_of_le (by first | omega | (simp;omega)) hk2.size;have HB8:=Lib.hid hb2;clear ho2 hk2 hb2 hat2;refine ⟨?keep,?_⟩;(case keep=>(intro kk hkk;have hkk2:=((HKP.out kk).1 hkk).1;refine (HK2.out.block kk (by first | omega | (simp;omega)) ((HKP.out kk).1 hkk).2.2).trans ?_;first | exact HKE7.out kk hkk | (refine (hp_alloc _ _ _ ?_).trans (HKE7.out kk hkk);omega)))) | (refine wpSlimT_append _ _ _ rfl rfl rfl rfl rfl hap (fun kk hkk=>HKE.out kk ((HKP.out kk).1 hkk)) ?_)) | ((with_reducible refine wpSlimT_step (fun K hK=>?_));go_simp;first | (refine hK _ _ ?_;clear hK K) | (refine ⟨by (intro kk hkk;first | (simp (disch:=(simp;omega)) only [hp_drew,hp_drewN,hp_alloc,hp_set];done) | (simp [hp_drew,hp_drewN,hp_alloc_if,hkk];done) | (have hkk2:=((HKP.out kk).1 hkk).1;first | exact hp_alloc _ _ _ (by simp;omega) | exact (hp_alloc _ _ _ (by simp;omega)).trans (hp_alloc _ _ _ (by simp;omega)) | (refine (hp_alloc _ _ _ ?_).trans (HKE7.out kk hkk);omega) | exact (hp_set _ _ _ _ (by simp;exact ((HKP.out kk).1 hkk).2.1)).trans (HKE.out kk ((HKP.out kk).1 hkk)))),hK _ _ ?_⟩;clear hK K))) | fail
       clear hgr
       gi_wp2
       have hf:=HFIN.out HZ.out
       rw [HPP.out] at hf
       exact ⟨hf.1,by simpa using hf.2.1,hf.2.2⟩
      ·have hg0':((gn:Int) == 0)=false:=by simp;exact hg0
       have hg0'':¬ (gn:Int)=0:=by omega
       obtain ⟨⟨y6,z6⟩,⟨y7,z7⟩,⟨y8,z8⟩,g8⟩:=HR1.out.at
       have g6:w.heap.size+1 < W1.heap.size:=by omega
       have g7:w.heap.size+1+1 < W1.heap.size:=by omega
       have hst:=HR1.out.set (.slice none 0 0) (.slice none 0 0) (.int .i64 80)
       have HX1:Hid (KS ([w3.heap.size+1,w3.heap.size+1+1] ++ List.range' w4.heap.size (0+2)) W1 (((W1.setCell ⟨w.heap.size+1,0,none⟩ (.slice none 0 0)).setCell ⟨w.heap.size+1+1,0,none⟩ (.slice none 0 0)).setCell ⟨w.heap.size+1+1+1,0,none⟩ (.int .i64 80)) ∧
         W1.heap.size≤(((W1.setCell ⟨w.heap.size+1,0,none⟩ (.slice none 0 0)).setCell ⟨w.heap.size+1+1,0,none⟩ (.slice none 0 0)).setCell ⟨w.heap.size+1+1+1,0,none⟩ (.int .i64 80)).heap.size∧DecX fb w.heap.size r (k / r) p w3 (((W1.setCell ⟨w.heap.size+1,0,none⟩ (.slice none 0 0)).setCell ⟨w.heap.size+1+1,0,none⟩ (.slice none 0 0)).setCell ⟨w.heap.size+1+1+1,0,none⟩ (.int .i64 80))):=Lib.hid
        ⟨fun b hb=>hst.2.block b (by
         rcases List.mem_append.1 hb with h | h
         ·simp only [List.mem_cons,List.not_mem_nil,or_false] at h
          rcases h with rfl | rfl <;> omega
         ·have:=List.mem_range'_1.1 h
          omega) (fun hm=>by
         simp only [List.mem_cons,List.not_mem_nil,or_false] at hm
         rcases List.mem_append.1 hb with h | h
         ·simp only [List.mem_cons,List.not_mem_nil,or_false] at h
          omega
         ·have:=List.mem_range'_1.1 h
          omega),hst.2.size,HI.out.ok.kp hst.2 (by simp;omega),(HI.out.kp.mono (by simp)).trans (hst.2.mono (fun x hx=>List.mem_cons_of_mem _ hx)),hst.1,P,HLAST.out,by rw [← hrR,hgd];exact GF.ne0.2 (by rw [hgn];exact hg0)⟩
       clear hg hgd hgn hlast hrR hmr hPR hTR hPD hm hP hg0 hst
       gi_wp2
       exact ⟨HX1.out.1,HX1.out.2.2⟩
     ·obtain rfl:m=r:=by
       have h1:=Nat.mul_le_mul_right R (show k / r≤P+1 by omega)
       rw [Nat.add_mul] at h1
       omega
      have HZ:Hid (P+1 < k / m→p.getD (P * R+m) 0=0):=Lib.hid fun h=>absurd h hlast
      have i2:¬ (m:Int) > (m:Int):=by omega
      clear hlast hrR hmr hPR hTR hPD hm hP
      gi_wp2
      have hgr:=fun (w0 W:World) (p:Addr) (hp:(fun k=>kp k=true) p.block)=>graft_cell (w0:=w0) (keep:=(fun k=>kp k=true)) W hp
      refine wpIn_region_tree (fun k=>kp k=true) [0,7,8] (.sq [1,2,3,4,5,6,0,7,8] .done) (by kernel_rfl) (by kernel_rfl) (by kernel_rfl) ?_
      simp only [Tr.sq,List.foldr_cons,List.foldr_nil,slimTr,slimStep,Oper.slim,List.contains_cons,List.contains_nil,Option.map_none,Option.map_some,List.getElem?_toArray,List.getElem?_cons_zero,List.getElem?_cons_succ,Option.bind_some,beq_self_eq_true,Bool.or_false,Nat.reduceBEq,Nat.reduceAdd,Nat.zero_add]
      repeat' first | ((with_reducible refine wpSlimT_id ?_);first | (with_reducible refine wpSlimT_done ?_) | (first | (refine wpSlimT_appE _ _ _ rfl rfl rfl rfl rfl (app_int_at _ (HO1.out.below (by (repeat' (first | (with_reducible exact RowKit.Below.refl _ _) | (with_reducible assumption) | (with_reducible refine RowKit.Below.drew ?_) | (with_reducible refine RowKit.Below.alloc ?_ ?_ _) | omega | (simp;done) | (simp;omega))))) HL1.out (by simp;omega) HX1.out (cell_of_heap (by first | exact heap_newA _ _ | exact keepA (heap_newA _ _) _ | exact heap_newE _ _ _ (by simp) | exact keepA (heap_newE _ _ _ (by simp)) _) (j:=0) rfl)) ?_;rintro v1 w7 ⟨ho1,hk1,hb1,hat1⟩;have HO1':=Lib.hid ho1;have HK1:=Lib.hid hk1;have HAT1:Hid (∀ b,v1.ownBlock=some b→b ∈ V1.ownBlock.toList ∨ w6.heap.size≤b):=Lib.hid (fun b hb=>by rcases hat1 with e | e <;> rw [e] at hb;exact .inl (by simpa using hb);(cases hb;exact .inr (by first | (simp;done) | (simp;omega))));have HBN7:Hid (Below w2.heap.size w2 w7):=Lib.hid ((HBW2.out.trans (by (repeat' (first | (with_reducible exact RowKit.Below.refl _ _) | (with_reducible assumption) | (with_reducible refine RowKit.Below.drew ?_) | (with_reducible refine RowKit.Below.alloc ?_ ?_ _) | omega | (simp;done) | (simp;omega))))).trans hb1);have HO2':=Lib.hid ((HO2.out.below (by (repeat' (first | (with_reducible exact RowKit.Below.refl _ _) | (with_reducible assumption) | (with_reducible refine RowKit.Below.drew ?_) | (with_reducible refine RowKit.Below.alloc ?_ ?_ _) | omega | (simp;done) | (simp;omega))))).kp hk1 HAP.out);have hs7:w6.heap.size < w7.heap.size:=Nat.lt_of_lt_of_le (by first | (simp;done) | (simp;omega)) hk1.size;have HB7:=Lib.hid hb1;have HKE7:Hid (∀ kk,kp kk=true→w7.heap[kk]? = w6.heap[kk]?):=Lib.hid (fun kk hkk=>(HK1.out.block kk (by have:=((HKP.out kk).1 hkk).1;simp;omega) ((HKP.out kk).1 hkk).2.1).trans (by have:=((HKP.out kk).1 hkk).1;first | exact hp_alloc _ _ _ (by simp;omega) | exact (hp_alloc _ _ _ (by simp;omega)).trans (hp_alloc _ _ _ (by simp;omega))));clear ho1 hk1 hb1 hat1;refine ⟨(fun kk hkk=>HKE7.out kk hkk),?_⟩) | (refine wpSlimT_appE _ _ _ rfl rfl rfl rfl rfl (app_byte_at _ (HO2'.out.below (by (repeat' (first | (with_reducible exact RowKit.Below.refl _ _) | (with_reducible assumption) | (with_reducible refine RowKit.Below.drew ?_) | (with_reducible refine RowKit.Below.alloc ?_ ?_ _) | omega | (simp;done) | (simp;omega))))) HL2.out (by first | omega | (simp;omega)) HX2.out (cell_of_heap (by first | (first | exact heap_newA _ _ | exact keepA (heap_newA _ _) _ | exact heap_newE _ _ _ (by simp) | exact keepA (heap_newE _ _ _ (by simp)) _) | (refine HK1.out.heap (by first | exact heap_newA _ _ | exact keepA (heap_newA _ _) _ | exact heap_newE _ _ _ (by simp) | exact keepA (heap_newE _ _ _ (by simp)) _) ?_;intro hm;have h9:=HV1.out _ hm;first | omega | (simp at h9;omega) | (have h8:w6.drew.heap.size=w6.heap.size:=rfl;omega))) (j:=0) rfl)) ?_;rintro v2 w8 ⟨ho2,hk2,hb2,hat2⟩;have HO2'':=Lib.hid ho2;have HK2:=Lib.hid hk2;have HBN8:Hid (Below w2.heap.size w2 w8):=Lib.hid ((HBN7.out.trans (by (repeat' (first | (with_reducible exact RowKit.Below.refl _ _) | (with_reducible assumption) | (with_reducible refine RowKit.Below.drew ?_) | (with_reducible refine RowKit.Below.alloc ?_ ?_ _) | omega | (simp;done) | (simp;omega))))).trans hb2);have HAP8:Hid (Apart v2 v1.ownBlock.toList):=Lib.hid (fun b hb hm=>by have hm0:v1.ownBlock=some b:=(by simpa using hm);have hm:=HO1'.out.lt b hm0;rcases hat2 with e | e <;> rw [e] at hb;(rcases HAT1.out b hm0 with h | h;exact HAP.out b hb h;have:=HV2.out b (by simpa using hb);omega);(cases hb;first | omega | (simp at hm;omega)));have HO1'':=Lib.hid ((HO1'.out.below (by (repeat' (first | (with_reducible exact RowKit.Below.refl _ _) | (with_reducible assumption) | (with_reducible refine RowKit.Below.drew ?_) | (with_reducible refine RowKit.Below.alloc ?_ ?_ _) | omega | (simp;done) | (simp;omega))))).kp hk2 (fun b hb hm=>by have h9:=HV2.out b hm;rcases HAT1.out b hb with h | h;exact HAP.out b (by simpa using hm) h;omega));have hs8:w6.heap.size < w8.heap.size:=Nat.lt_of_lt_of_le (by first | omega | (simp;omega)) hk2.size;have HB8:=Lib.hid hb2;clear ho2 hk2 hb2 hat2;refine ⟨?keep,?_⟩;(case keep=>(intro kk hkk;have hkk2:=((HKP.out kk).1 hkk).1;refine (HK2.out.block kk (by first | omega | (simp;omega)) ((HKP.out kk).1 hkk).2.2).trans ?_;first | exact HKE7.out kk hkk | (refine (hp_alloc _ _ _ ?_).trans (HKE7.out kk hkk);omega)))) | (refine wpSlimT_append _ _ _ rfl rfl rfl rfl rfl hap (fun kk hkk=>HKE.out kk ((HKP.out kk).1 hkk)) ?_)) | ((with_reducible refine wpSlimT_step (fun K hK=>?_));go_simp;first | (refine hK _ _ ?_;clear hK K) | (refine ⟨by (intro kk hkk;first | (simp (disch:=(simp;omega)) only [hp_drew,hp_drewN,hp_alloc,hp_set];done) | (simp [hp_drew,hp_drewN,hp_alloc_if,hkk];done) | (have hkk2:=((HKP.out kk).1 hkk).1;first | exact hp_alloc _ _ _ (by simp;omega) | exact (hp_alloc _ _ _ (by simp;omega)).trans (hp_alloc _ _ _ (by simp;omega)) | (refine (hp_alloc _ _ _ ?_).trans (HKE7.out kk hkk);omega) | exact (hp_set _ _ _ _ (by simp;exact ((HKP.out kk).1 hkk).2.1)).trans (HKE.out kk ((HKP.out kk).1 hkk)))),hK _ _ ?_⟩;clear hK K))) | fail
      clear hgr
      gi_wp2
      have hf:=HFIN.out HZ.out
      rw [HPP.out] at hf
      exact ⟨hf.1,by simpa using hf.2.1,hf.2.2⟩
    case done =>
     rintro D0 xs' W1 hD rfl hI hK
     rw [HCN.out] at hI
     obtain ⟨V',hbx,hV',hVb⟩:=hI.ex
     rw [List.length_range] at hV'
     obtain ⟨a5,c5,rfl,hc5⟩:=hV'.form
     obtain ⟨L1,hL1⟩:∃ L1,(msgL r p (k / r)).length=L1:=⟨_,rfl⟩
     rw [hL1] at hbx hV' hVb hc5
     have hz:∀ c,c+1 < k / r→p.getD (c * (r+1)+r) 0=0:=fun c hc=>hI.z c (by simp;omega) hc
     have hls:=LTell.of_some (xs:=xs) (ps:=Sy.nodes l) (ys:=ysL l) (t:=((tn:Nat):Int).toNat) r1.1 (by rw [HTD.out];exact HTELL.out) hz
     have HLS:=Lib.hid hls
     have HR1:=Lib.hid (HR3.out.kp hI.kp (fun x hx=>by obtain rfl:=List.mem_singleton.1 hx;omega))
     have HST:=Lib.hid (HR1.out.set (.slice a5 L1 c5) (.slice a3 Lw c3) (.int .i64 0))
     have HV:=Lib.hid hV'
     have HI:=Lib.hid hI
     have HD:=Lib.hid hD
     have HK:=Lib.hid hK
     have hW1:=hI.kp.size
     have x5:=cell_of_heap hbx (j:=0) rfl
     have g5:=lt_of_heap hbx
     clear hI hV' hVb hD hK hbx hz hls y6 z6 y7 z7 y8 z8 g6 g7 g8 hL1 hc5
     obtain ⟨⟨y6,z6⟩,⟨y7,z7⟩,⟨y8,z8⟩,g8⟩:=HR1.out.at
     have g6:w.heap.size+1 < W1.heap.size:=by omega
     have g7:w.heap.size+1+1 < W1.heap.size:=by omega
     go_wp2
     have hDD:=HD.out
     have hst:=HST.out.2
     have hkd:=hst.heap HK.out (by simp;omega)
     refine leaves_marks (B:=w.heap.size) [D0] _ (Marks.cons (Marks.nil _ _) (by omega) hkd (by simp)) fun w' hk=>⟨.tuple #[.slice a5 L1 c5,.slice a3 Lw c3,.int .i64 0],?_,?_⟩
     ·have hr:=(HST.out.1.kp hk (fun x hx=>by obtain rfl:=List.mem_singleton.1 hx;omega)).at
      simp [results,Tryz.results27,go_sem,hr.1.1,hr.2.1.1,hr.2.2.1.1]
     ·have hDs:∀ x ∈ [D0],w.heap.size≤x:=fun x hx=>by obtain rfl:=List.mem_singleton.1 hx;omega
      refine ⟨((HKW3.out.trans HI.out.kp).step hst (fun x hx=>.inr (by simp at hx;omega))).step hk (fun x hx=>.inr (hDs x hx)),(HI.out.ok.kp hst (by simp;omega)).kp hk (by simp;omega),.inr ⟨⟨by omega,HG.out⟩,.inr ⟨HMANY.out,.inl ⟨_,_,_,rfl,HLS.out.1,?_,?_⟩⟩⟩⟩
      ·refine ((HV.out.kp hst (fun b hb hm=>by have:=(HV.out.lt b hb).1;simp at hm;omega)).kp hk (fun b hb hm=>?_)).mono (by omega)
       obtain rfl:=List.mem_singleton.1 hm
       obtain ⟨g,hg⟩:=own_cells HV.out hb
       rw [HK.out] at hg
       cases hg
      ·rw [HLS.out.2]
       refine RdZ.mono (B:=wr.heap.size) ?_ (by omega)
       have hw2:=(HWR.out.kp HI.out.kp (fun x hx=>by obtain rfl:=List.mem_singleton.1 hx;omega)).kp hst (fun x hx=>by simp at hx;omega)
       refine ⟨IRd.kp hw2.rd hk (fun b hb hm=>?_),fun b hb=>⟨(hw2.lo b hb).1,Nat.lt_of_lt_of_le (hw2.lo b hb).2 hk.size⟩⟩
       obtain rfl:=List.mem_singleton.1 hm
       have:=(HWR.out.lo _ hb).2
       omega
    case stop =>
     intro D pre W1 hD hpre hX hK
     have HX1:=Lib.hid hX
     have HD:=Lib.hid hD
     have HK:=Lib.hid hK
     clear hX hD hK hpre
     go_wp2
     have hDD:=HD.out
     have hkd:=HK.out
     have hss:=HX1.out.kp.size
     refine leaves_marks (B:=w.heap.size) [D] W1 (Marks.cons (Marks.nil _ _) (by omega) hkd (by simp)) fun w' hk=>⟨.tuple #[.slice none 0 0,.slice none 0 0,.int .i64 80],?_,?_⟩
     ·have hr:=(HX1.out.res.kp hk (fun x hx=>by obtain rfl:=List.mem_singleton.1 hx;omega)).at
      simp [results,Tryz.results27,go_sem,hr.1.1,hr.2.1.1,hr.2.2.1.1]
     ·obtain ⟨c,hc,hz⟩:=HX1.out.gap
      refine ⟨(HKW3.out.step HX1.out.kp (fun x hx=>?_)).step hk (fun x hx=>.inr (by obtain rfl:=List.mem_singleton.1 hx;omega)),HX1.out.ok.kp hk (by simp;omega),.inr ⟨⟨by omega,HG.out⟩,.inr ⟨HMANY.out,.inr ⟨rfl,LTell.of_gap HND.out HGP.out (by rw [Int.toNat_natCast,hnl9];have:=HMANY.out;omega) (by rw [HTD.out];exact HTELL.out) hc hz⟩⟩⟩⟩
      rcases List.mem_cons.1 hx with rfl | hx
      ·exact .inl (by simp)
      ·exact .inr (by simp at hx;omega)
   ·have HST:=Lib.hid (HR3.out.set (.slice none 0 0) (.slice none 0 0) (.int .i64 80))
    have HMANY:Hid (((k / r * (r+1) - 1:Nat):Int)+2 * (tn:Int)≤(l.length:Int)):=Lib.hid (by rw [HTD.out,HL.out];rw [hpl] at hmany;exact hmany)
    have HNONE:Hid (LTell xs r (k / r) (Sy.nodes l) (ysL l) ((tn:Nat):Int).toNat none):=Lib.hid (LTell.of_none (by rw [HTD.out];exact hnone))
    clear hmany hgood hpl hnone
    go_wp2
    refine leaves_marks (B:=w.heap.size) [] _ (Marks.nil _ _) fun w' hk=>⟨.tuple #[.slice none 0 0,.slice none 0 0,.int .i64 80],?_,?_⟩
    ·have hr:=(HST.out.1.kp hk (by simp)).at
     simp [results,Tryz.results27,go_sem,hr.1.1,hr.2.1.1,hr.2.2.1.1]
    ·have hst:=HST.out.2
     exact ⟨(HKW3.out.step hst (fun x hx=>.inr (by simp at hx;omega))).trans (hk.mono (by simp)),(HF3.out.kp hst (by simp;omega)).kp hk (by simp),.inr ⟨⟨by omega,HG.out⟩,.inr ⟨HMANY.out,.inr ⟨rfl,HNONE.out⟩⟩⟩⟩
end Go.Proofs.YtbiaoohodjoojaaGreat
/- A node's share of any others': the program's Repair. -/
namespace Go.Proofs.YtbiaoohodjoojaaGreat
open Go.RowKit Fld
set_option linter.unusedVariables false
set_option linter.unusedSimpArgs false

def LRepIs (xs:List GF) (n r d:Nat) (tz:Int) (l:List Sy) (t:Int) (b:GF) (c:Int):Prop :=
 ¬ ((0≤tz∧tz < (n:Int))∧SyGood n tz 1 l)∧b=0∧c=2 ∨ ((0≤tz∧tz < (n:Int))∧SyGood n tz 1 l)∧(t < 0∧b=0∧c=2 ∨ 0≤t∧((l.length:Int) < ((d * (r+1) - 1:Nat):Int)+2 * t∧b=0∧c=70 ∨
  ((d * (r+1) - 1:Nat):Int)+2 * t≤(l.length:Int)∧(LTell xs r d (Sy.nodes l) (ysL l) t.toNat none∧b=0∧c=80 ∨ ∃ m,LTell xs r d (Sy.nodes l) (ysL l) t.toNat (some m)∧c=0∧b=ev (polyL r d m) (xs.getD tz.toNat 0))))
theorem rep_same {xs:List GF} {n r d:Nat} {tz t:Int} {l:List Sy} {b b':GF} {c c':Int} (hr:0 < r) (hx:xs.length=n) (hn:xs.Nodup) (h:LRepIs xs n r d tz l t b c) (h':LRepIs xs n r d tz l t b' c'):b=b'∧c=c':=by
 rcases h with ⟨h1,rfl,rfl⟩ | ⟨h1,⟨h2,rfl,rfl⟩ | ⟨h2,⟨h3,rfl,rfl⟩ | ⟨h3,⟨h4,rfl,rfl⟩ | ⟨m,h4,rfl,rfl⟩⟩⟩⟩ <;> rcases h' with ⟨g1,rfl,rfl⟩ | ⟨g1,⟨g2,rfl,rfl⟩ | ⟨g2,⟨g3,rfl,rfl⟩ | ⟨g3,⟨g4,rfl,rfl⟩ | ⟨m',g4,rfl,rfl⟩⟩⟩⟩
 all_goals first
  | exact ⟨rfl,rfl⟩
  | exact absurd g1 h1
  | exact absurd h1 g1
  | (exfalso;omega)
  | skip
 all_goals
  have hg:GoodP xs.length (Sy.nodes l):=by rw [hx];exact h1.2.1
  have hk:d * (r+1) - 1+2 * t.toNat≤(Sy.nodes l).length:=by rw [nodes_len];omega
  have:=h4.one hr hn hg hk g4
  cases this
 exact ⟨rfl,rfl⟩
theorem SyGood.any {n:Nat} {tz:Int} {sz:Nat} {l:List Sy} (h:SyGood n tz sz l):SyGood n (-1) sz l:=⟨h.1,fun s hs=>⟨fun e=>by
 have:=(h.1.1 s.node (List.mem_map.2 ⟨s,hs,rfl⟩)).1
 omega,(h.2 s hs).2⟩⟩
def LRepPost (fb:Nat) (xs:List GF) (n r d:Nat) (tz:Int) (l:List Sy) (t:Int) (w:World) (e:Ending) (w':World):Prop :=
 Kp [fb] w w'∧FOk w' fb∧∃ (b:GF) (c:Int),e=.returned (.tuple #[.int .u8 (b.n:Nat),.int .i64 c])∧LRepIs xs n r d tz l t b c
set_option maxRecDepth 100000 in
set_option maxHeartbeats 8000000 in
theorem lrep_any (w:World) (lb cb fb n k r:Nat) (cv xv hv:Value) (xs:List GF) (l:List Sy) (tz t:Int) (h:LCode w lb cb fb n k r (k+k / r - 1) cv xv xs) (ho:LOkN n k r) (hx:xs.length=n) (hnd:xs.Nodup) (hl:SyAll w hv l) (hla:SyApart hv l [fb]) (hll:l.length≤256) (ht:-9223372036854775808≤t∧t≤9223372036854775807) :
  Calls Tryz.prog 29 #[.pointer (some ⟨lb,0,none⟩),.int .i64 tz,hv,.int .i64 t] w (LRepPost fb xs n r (k / r) tz l t w):=by
 have n1:=ho.n1
 have hlbl:=lt_of_heap h.box
 have y2:=cell_of_heap h.box (j:=2) rfl
 have HIS:=Lib.hid (lis_any w lb n tz y2)
 have HFIT:=Lib.hid (lfit_any w lb n _ l tz y2 hlbl hl (by omega) (by omega))
 unfold LIsPost at HIS
 have HF:=Lib.hid h.code.ok
 have H:=Lib.hid h
 have HO:=Lib.hid ho
 have HX:=Lib.hid hx
 have HND:=Lib.hid hnd
 have HS:=Lib.hid hl
 have HSA:=Lib.hid hla
 obtain ⟨ah,ch,rfl⟩:=hl.rd.form
 obtain ⟨L,hL⟩:∃ L,l.length=L:=⟨_,rfl⟩
 have HL:=Lib.hid hL
 rw [hL] at HFIT HS HSA hll ⊢
 clear h ho hx hnd hl hla y2 hL
 by_cases hin:0≤tz∧tz < (n:Int)
 case neg =>
  rw [decide_eq_false hin] at HIS
  have HIN:=Lib.hid hin
  clear hin HFIT
  go_enter Tryz.func29,Tryz.ntmps29
  go_wp2_with fail
  refine HIS.out.mono ?_
  rintro e w' ⟨rfl,rfl⟩
  go_wp2
  go_ret2
  exact ⟨Kp.refl _ _,HF.out,0,2,rfl,.inl ⟨fun h=>HIN.out h.1,rfl,rfl⟩⟩
 rw [decide_eq_true hin] at HIS
 obtain ⟨z,rfl⟩:∃ z:Nat,tz=(z:Int):=⟨tz.toNat,by omega⟩
 have hzn:z < n:=by omega
 have HIN:=Lib.hid hin
 clear hin
 go_enter Tryz.func29,Tryz.ntmps29
 go_wp2_with fail
 refine HIS.out.mono ?_
 rintro e w' ⟨rfl,rfl⟩
 go_wp2_with fail
 refine HFIT.out.mono ?_
 rintro e w1 ⟨b,rfl,hb1,hbi⟩
 have HB1:=Lib.hid hb1
 have HF1:=Lib.hid (HF.out.below hb1)
 have HBI:=Lib.hid hbi
 have hs1:=hb1.size
 cases b
 ·have HNG:Hid (¬ SyGood n (z:Int) 1 l):=Lib.hid fun h=>by have:=hbi.2 h;cases this
  clear hb1 hbi HFIT HIS
  go_wp2
  go_ret2
  exact ⟨Kp.of_below HB1.out,HF1.out,0,2,rfl,.inl ⟨fun h=>HNG.out h.2,rfl,rfl⟩⟩
 have HG:=Lib.hid (hbi.1 rfl)
 have HH1:=Lib.hid (H.out.below hb1)
 have hsa:=HSA.out
 have HD:=Lib.hid (ldec_any w1 lb cb fb n k r cv xv _ xs l t HH1.out HO.out HX.out HND.out (HS.out.below hb1) hsa (by rw [HL.out];exact hll) ht)
 clear hb1 hbi HFIT HIS HBI hsa
 go_wp2_with fail
 refine HD.out.mono ?_
 rintro e w2 ⟨hk2,hf2,han⟩
 have HK2:Hid (Kp [fb] w w2):=Lib.hid ((Kp.of_below HB1.out).trans hk2)
 have HF2:=Lib.hid hf2
 have HH2:=Lib.hid (HH1.out.step hk2 hf2)
 have hs2:=hk2.size
 clear hk2 hf2 HD
 have hgd:=HG.out
 rcases han with ⟨hbad,rfl⟩ | ⟨⟨ht0,-⟩,⟨hfew,rfl⟩ | ⟨hmany,⟨m,v1,v2,rfl,htell,ho1,hr2⟩ | ⟨rfl,hnone⟩⟩⟩
 ·have HT:Hid (t < 0):=Lib.hid (hbad.resolve_right fun h=>h hgd.any)
  clear hbad hgd
  go_wp2
  go_ret2
  exact ⟨HK2.out,HF2.out,0,2,rfl,.inr ⟨⟨HIN.out,HG.out⟩,.inl ⟨HT.out,rfl,rfl⟩⟩⟩
 ·have HT:=Lib.hid (And.intro ht0 hfew)
  clear hfew hgd ht0
  go_wp2
  go_ret2
  exact ⟨HK2.out,HF2.out,0,70,rfl,.inr ⟨⟨HIN.out,HG.out⟩,.inr ⟨HT.out.1,.inl ⟨HT.out.2,rfl,rfl⟩⟩⟩⟩
 ·have HT:=Lib.hid (And.intro ht0 (And.intro hmany htell))
  have hml:m.length=k:=by have:=htell.1;rw [this];exact Nat.div_mul_cancel (Nat.dvd_of_mod_eq_zero HO.out.kr)
  have hfw:fb < w.heap.size:=HF.out.lt
  have HE:=Lib.hid (lencode_any w2 lb cb fb n k r cv xv v1 xs m HH2.out HO.out HX.out ho1.rd (.inr (fun b hb hm=>by have:=(ho1.lt b hb).1;simp at hm;omega)))
  obtain ⟨a1,c1,rfl,-⟩:=ho1.form
  obtain ⟨a2,c2,rfl⟩:=hr2.rd.form
  have HML:=Lib.hid hml
  rw [hml] at HE ⊢
  clear hmany hgd ht0 htell ho1 hr2 hml
  go_wp2_with fail
  refine HE.out.mono ?_
  rintro e w3 ⟨hk3,hf3,⟨-,g,rfl,hg,hv⟩ | ⟨hno,-⟩⟩
  ·obtain ⟨cg,fg⟩:=hv.2 z hzn
   have gg:=hv.1
   have HK3:=Lib.hid (HK2.out.trans hk3)
   have HF3:=Lib.hid hf3
   obtain ⟨rn,hrn⟩:∃ rn,(ev (polyL r (k / r) m) (xs.getD z 0)).n=rn:=⟨_,rfl⟩
   have HRN:=Lib.hid hrn
   rw [hrn] at cg
   have i1:(0:Int)≤(z:Int)∧(z:Int) < (n:Int):=by omega
   clear hk3 hf3 hv hrn hg HE
   go_wp2
   go_ret2
   exact ⟨HK3.out,HF3.out,ev (polyL r (k / r) m) (xs.getD z 0),0,by rw [HRN.out] <;> rfl,.inr ⟨⟨HIN.out,HG.out⟩,.inr ⟨HT.out.1,.inr ⟨HT.out.2.1,.inr ⟨m,HT.out.2.2,rfl,by rw [Int.toNat_natCast]⟩⟩⟩⟩⟩
  ·exact absurd HML.out hno
 ·have HT:=Lib.hid (And.intro ht0 (And.intro hmany hnone))
  clear hmany hgd ht0 hnone
  go_wp2
  go_ret2
  exact ⟨HK2.out,HF2.out,0,80,rfl,.inr ⟨⟨HIN.out,HG.out⟩,.inr ⟨HT.out.1,.inr ⟨HT.out.2.1,.inl ⟨HT.out.2.2,rfl,rfl⟩⟩⟩⟩⟩
end Go.Proofs.YtbiaoohodjoojaaGreat
