/-
  Appends of one member that lies ready wherever.
  What laws share: a row copied by a string, a field made, a message that is refused.
  Rows of nodes' bytes that are one's own: appended to, one by one.
  Parts of rows of nodes' bytes.
  A copy of rows of nodes' bytes.
  Are two rows of nodes' bytes the same?
  At most so many rows, of so many bytes each.
  Rows of rows of bytes that are one's own: appended to, one by one (the inner rows lie anywhere that stays).
  A node, or its bytes, written into a row of one's own.
  Rows of symbols appended to rows of symbols; the parts of a row that is there.
-/
import Derived.Test.YtcclhhjcejmepaaGreatZKit
import Derived.Test.YtcclhhjcejmepaaGreatZNews
import Derived.Test.YtcclhhjcejmepaaGreatZPlains
import Derived.Laws.IdiomStrings
import Derived.Test.YtcclhhjcejmepaaGreatZSyG
import Derived.Laws.Slices
import Derived.Laws.OwnMore
/- Appends of one member that lies ready wherever. -/
namespace Go.Proofs.YtcclhhjcejmepaaGreat
open Go.RowKit Fld
set_option linter.unusedVariables false
set_option linter.unusedSimpArgs false

theorem wpSlimT_appE {P:Program} {w0:World} {keep:Nat→Prop} {Q:Act→World→Prop} {c:Bool} {a:Act} {w:World} {o:SOp} {rest:STr} (s x:Operand) (t:TypeId)
  (ho:o.op=.call { callee:=.builtin .append,args:=#[s,x],argTypes:=#[t,t] }) (hg:o.guard=none) (hc:c=true) {V X:Value} (hs:a.eval s=V) (hx:a.eval x=X) {R:Value→World→Prop}
  (hr:∃ v w3,(Builtin.append_ #[t,t] o.type #[V,X]).run P w=.ok v w3∧R v w3) (h:∀ v w3,R v w3→(∀ k,keep k→w3.heap[k]? = w0.heap[k]?)∧wpSlimT P w0 keep Q rest (a.put o.dst v) w3):wpSlimT P w0 keep Q (.step c o rest) a w:=by
 obtain ⟨v,w3,h1,h2⟩:=hr
 exact wpSlimT_append s x t ho hg hc hs hx h1 (h v w3 h2).1 (h v w3 h2).2
def AppB (W:World) (base:Nat) (V:Value) (l:List GF) (v1:Value) (w3:World):Prop :=
 OwnG w3 base v1 l∧Kp V.ownBlock.toList W w3∧Below base W w3∧(v1.ownBlock=V.ownBlock ∨ v1.ownBlock=some W.heap.size)
def AppI (W:World) (base:Nat) (V:Value) (l:List Int) (v1:Value) (w3:World):Prop :=
 OwnZ w3 base v1 l∧Kp V.ownBlock.toList W w3∧Below base W w3∧(v1.ownBlock=V.ownBlock ∨ v1.ownBlock=some W.heap.size)
theorem one_at {W:World} {ad:Nat} {v:Value} (h:W.cell? ⟨ad,0,none⟩=some v):∀ (j:Nat) (u:Value),[v][j]? = some u→W.cell? ((⟨ad,0,none⟩:Addr).add j)=some u:=fun j u hj=>by
 have hj0:j=0:=by
  have:=(List.getElem?_eq_some_iff.1 hj).1
  simpa using this
 subst hj0
 simp at hj
 subst hj
 exact h
theorem app_byte_at {W:World} {base:Nat} {V:Value} {l:List GF} (x:GF) (h:OwnG W base V l) (hl:l.length≤1000000) (hb:base≤W.heap.size) {n:Nat} (hn:x.n=n) {ad:Nat} (hc:W.cell? ⟨ad,0,none⟩=some (.int .u8 (n:Int))) :
  ∃ v1 w3,(Builtin.append_ #[22,22] 22 #[V,.slice (some ⟨ad,0,none⟩) 1 1]).run Tryz.prog W=.ok v1 w3∧AppB W base V (l ++ [x]) v1 w3:=by
 subst hn
 obtain ⟨i0,hi,hz0,hz1,hz2⟩:=info_parts u8_info
 obtain ⟨v1,w3,hap,hown1,hgrow1,-,hat1⟩:=run_append_own_at (P:=Tryz.prog) (w:=W) base 22 22 5 i0 (.int .u8 0) 1 1 Tryz.underlying22 hi hz0 hz1 hz2 rfl (by decide) V l.length _ h ⟨ad,0,none⟩ 1 1 [.int .u8 (x.n:Int)] rfl (one_at hc) (by simp [Value.oneCell']) (by unfold maxLen;omega) (by omega) hb
 refine ⟨v1,w3,hap,?_,?_,?_,hat1⟩
 ·unfold OwnG
  rw [gv_snoc,List.length_append]
  exact hown1
 ·exact (Kp.refl _ W).grown hgrow1 (fun b hb=>.inl (by rw [hb];simp))
 ·exact (Below.refl base W).grown hgrow1 hb (fun b hb=>(h.lt b hb).1)
theorem app_int_at {W:World} {base:Nat} {V:Value} {l:List Int} (x:Int) (h:OwnZ W base V l) (hl:l.length≤1000000) (hb:base≤W.heap.size) {n:Int} (hn:x=n) {ad:Nat} (hc:W.cell? ⟨ad,0,none⟩=some (.int .i64 n)) :
  ∃ v1 w3,(Builtin.append_ #[44,44] 44 #[V,.slice (some ⟨ad,0,none⟩) 1 1]).run Tryz.prog W=.ok v1 w3∧AppI W base V (l ++ [x]) v1 w3:=by
 subst hn
 obtain ⟨i0,hi,hz0,hz1,hz2⟩:=info_parts i64_info
 obtain ⟨v1,w3,hap,hown1,hgrow1,-,hat1⟩:=run_append_own_at (P:=Tryz.prog) (w:=W) base 44 44 3 i0 (.int .i64 0) 1 8 Tryz.underlying44 hi hz0 hz1 hz2 rfl (by decide) V l.length _ h ⟨ad,0,none⟩ 1 1 [.int .i64 x] rfl (one_at hc) (by simp [Value.oneCell']) (by unfold maxLen;omega) (by omega) hb
 refine ⟨v1,w3,hap,?_,?_,?_,hat1⟩
 ·unfold OwnZ
  rw [List.map_append,List.length_append]
  exact hown1
 ·exact (Kp.refl _ W).grown hgrow1 (fun b hb=>.inl (by rw [hb];simp))
 ·exact (Below.refl base W).grown hgrow1 hb (fun b hb=>(h.lt b hb).1)
end Go.Proofs.YtcclhhjcejmepaaGreat
/- What laws share: a row copied by a string, a field made, a message that is refused. -/
namespace Go.Proofs.YtcclhhjcejmepaaGreat
open Go.RowKit Fld
set_option linter.unusedVariables false
set_option linter.unusedSimpArgs false

theorem strOf_byte {l:List Nat} (hl:∀ x ∈ l,x < 256) {j:Nat} (hj:j < l.length) (cap:Nat):(bytesRow (strOf l) cap)[j]? = some (.int .u8 ((l.getD j 0:Nat):Int)):=by
 have hd:(strOf l).data=((l.map fun x:Nat=>(x:Int)).map fun n=>UInt8.ofNat n.toNat).toArray:=rfl
 unfold bytesRow
 rw [Array.getElem?_append_left (by rw [Array.size_map,hd];simpa using hj),Array.getElem?_map,hd]
 have hx:l[j] < 256:=hl _ (List.getElem_mem hj)
 simp [List.getElem?_eq_getElem hj]
 omega
theorem own_copy {v:Value} {l:List GF} (w:World) (h:GRd w v l):∃ (s:ByteArray) (cap:Nat) (w1:World),(convert 22 9 v).run Tryz.prog w=.ok (.string s) w ∧
  (convert 9 22 (.string s)).run Tryz.prog w=.ok (.slice (some ⟨w.heap.size,0,none⟩) l.length cap) w1∧l.length≤cap∧View w1 w.heap.size l.length (fun i=>l.getD i 0)∧Below w.heap.size w w1:=by
 have hlt:∀ x ∈ l.map GF.n,x < 256:=h.1
 have hsz:(strOf (l.map GF.n)).size=l.length:=by unfold strOf;rw [strOfNums_size];simp
 have hrun:=run_bytes_of_string (P:=Tryz.prog) w 9 22 5 (strOf (l.map GF.n)) Tryz.underlying9 Tryz.underlying22 Tryz.underlying5
 obtain ⟨cap,hcap⟩:∃ cap,cap=grownCap w (strOf (l.map GF.n)).size 0 5:=⟨_,rfl⟩
 rw [← hcap,hsz] at hrun
 have hc:l.length≤cap:=by
  rw [hcap,hsz]
  exact grownCap_ge _ _ _ _
 have hh:(w.drew.alloc (.cells (bytesRow (strOf (l.map GF.n)) cap) 5 ((bytesRow (strOf (l.map GF.n)) cap).size,(bytesRow (strOf (l.map GF.n)) cap).size+1))).heap[w.heap.size]? = some (.cells (bytesRow (strOf (l.map GF.n)) cap) 5 ((bytesRow (strOf (l.map GF.n)) cap).size,(bytesRow (strOf (l.map GF.n)) cap).size+1)):=by
  show (w.heap.push _)[w.heap.size]? = _
  simp
 refine ⟨_,cap,_,h.conv,hrun,hc,⟨lt_of_heap hh,fun j hj=>?_⟩,((Below.refl w.heap.size w).drew).alloc (by exact Nat.le_refl _) _⟩
 have hb:=strOf_byte hlt (j:=j) (by simpa using hj) cap
 have hjs:j < (bytesRow (strOf (l.map GF.n)) cap).size:=(Array.getElem?_eq_some_iff.1 hb).1
 refine ⟨?_,?_⟩
 ·rw [cell_of_row _ _ _ _ _ _ hh,hb]
  simp [List.getD_eq_getElem?_getD,List.getElem?_eq_getElem hj]
 ·simp only [World.frozen?,hh]
  simp
  omega
theorem fnew_g (w:World):Calls Tryz.prog 14 #[] w fun e w'=>∃ fb,e=.returned (.pointer (some ⟨fb,0,none⟩))∧w.heap.size≤fb∧FOk w' fb∧Below w.heap.size w w':=by
 refine (fnew_any w).mono ?_
 rintro e w' ⟨rfl,rfl⟩
 exact ⟨_,rfl,Nat.le_refl _,fok_new w,(Below.refl _ _).alloc (Nat.le_refl _) _⟩
theorem CodeAt.lt {w:World} {cb fb k:Nat} {v:Value} {xs:List GF} (h:CodeAt w cb fb k v xs):cb < w.heap.size:=lt_of_heap h.box
end Go.Proofs.YtcclhhjcejmepaaGreat
/- Rows of nodes' bytes that are one's own: appended to, one by one. -/
namespace Go.Proofs.YtcclhhjcejmepaaGreat
open Go.RowKit Fld
set_option linter.unusedVariables false
set_option linter.unusedSimpArgs false

theorem sy_info:(Tryz.prog.info? 59).map (fun i=>(i.zero,i.size,i.bytes))=some (some (.agg #[.int .i64 0,.slice none 0 0]),2,32):=by kernel_rfl
abbrev OwnS (w:World) (B:Nat) (v:Value) (l:List Sy):Prop:=w.ownsRow B 59 2 v l.length (flatS Sy.cells l)
theorem OwnS.nil (w:World) (B:Nat):OwnS w B (.slice none 0 0) []:=World.ownsRow_nil _ _ _ _
theorem OwnS.kp {S:List Nat} {w w':World} {B:Nat} {v:Value} {l:List Sy} (h:OwnS w B v l) (hk:Kp S w w') (hn:Apart v S):OwnS w' B v l:=by
 refine ⟨h.1,?_⟩
 rcases h.2 with h2 | ⟨g,cap,cur,h1,h2,h3,h4⟩
 ·exact .inl h2
 ·exact .inr ⟨g,cap,cur,h1,h2,hk.heap h3 (hn g (by rw [h1];rfl)),h4⟩
theorem OwnS.below {w w':World} {B:Nat} {v:Value} {l:List Sy} (h:OwnS w B v l) (hb:Below w.heap.size w w'):OwnS w' B v l:=h.kp (S:=[]) (Kp.of_below hb) (fun _ _=>by simp)
theorem OwnS.mono {w:World} {B B':Nat} {v:Value} {l:List Sy} (h:OwnS w B v l) (hb:B'≤B):OwnS w B' v l:=by
 refine ⟨h.1,?_⟩
 rcases h.2 with h2 | ⟨g,cap,cur,h1,h2,h3⟩
 ·exact .inl h2
 ·exact .inr ⟨g,cap,cur,h1,Nat.le_trans hb h2,h3⟩
theorem OwnS.rd {w:World} {B:Nat} {v:Value} {l:List Sy} (h:OwnS w B v l):SyRd w v l:=by
 rcases h.2 with ⟨rfl,h2⟩ | ⟨g,cap,cur,rfl,h2,h3,h4,h5⟩
 ·rw [List.eq_nil_of_length_eq_zero h2]
  exact SRd.nil w
 ·refine ⟨_,cap,rfl,h4,fun _=>⟨g,0,rfl,lt_of_heap h3,fun i c hi j u hj=>?_⟩⟩
  have:=h.cells (g:=g) rfl (i * 2+j) u (flatS_at Sy.cells_length l i c j u hi hj)
  have e:(⟨g,0,none⟩:Addr).add (i * 2+j)=⟨g,0+i * 2+j,none⟩:=by
   unfold Addr.add
   split <;> simp_all [Nat.add_assoc]
  rwa [e] at this
structure SyOwn (w:World) (B:Nat) (v:Value) (l:List Sy):Prop where
 row:OwnS w B v l
 each:∀ s ∈ l,s.rd w
 new:∀ s ∈ l,∀ a,s.a=some a→B≤a.block∧v.ownBlock ≠ some a.block∧a.block < w.heap.size
theorem SyOwn.nil (w:World) (B:Nat):SyOwn w B (.slice none 0 0) []:=⟨OwnS.nil _ _,by simp,by simp⟩
theorem SyOwn.all {w:World} {B:Nat} {v:Value} {l:List Sy} (h:SyOwn w B v l):SyAll w v l:=⟨h.row.rd,h.each⟩
theorem SyOwn.below {w w':World} {B:Nat} {v:Value} {l:List Sy} (h:SyOwn w B v l) (hb:Below w.heap.size w w'):SyOwn w' B v l :=
 ⟨h.row.below hb,fun s hs=>(h.each s hs).below hb,fun s hs a ha=>by
  have h1:=h.new s hs a ha
  have:=hb.size
  exact ⟨h1.1,h1.2.1,by omega⟩⟩
theorem SyOwn.mono {w:World} {B B':Nat} {v:Value} {l:List Sy} (h:SyOwn w B v l) (hb:B'≤B):SyOwn w B' v l :=
 ⟨h.row.mono hb,h.each,fun s hs a ha=>by have h1:=h.new s hs a ha;exact ⟨by omega,h1.2⟩⟩
theorem SyOwn.apart {w:World} {B:Nat} {v:Value} {l:List Sy} {S:List Nat} (h:SyOwn w B v l) (hS:∀ x ∈ S,x < B):SyApart v l S :=
 ⟨fun _ k hk hm=>by have:=(h.row.lt k hk).1;have:=hS k hm;omega,fun s hs _ k hk hm=>by
  cases e:s.a with
  | none=>rw [e] at hk;simp [Value.ownBlock] at hk
  | some a =>
   rw [e] at hk
   simp only [Value.ownBlock,Option.some.injEq] at hk
   have:=(h.new s hs a e).1
   have:=hS k hm
   omega⟩
theorem app_sy {W:World} {B:Nat} {V:Value} {l:List Sy} {s:Sy} (h:SyOwn W B V l) (hs:s.rd W) (hn:∀ a,s.a=some a→B≤a.block∧V.ownBlock ≠ some a.block∧a.block < W.heap.size) (hl:l.length≤1000000) (hb:B≤W.heap.size) {ad:Nat} (had:ad=W.heap.size) :
  ∃ v1 w3,(Builtin.append_ #[41,41] 41 #[V,.slice (some ⟨ad,0,none⟩) 1 1]).run Tryz.prog (W.alloc (.cells #[.int .i64 s.node,.slice s.a s.d.length s.cp] 59))=.ok v1 w3 ∧
   SyOwn w3 B v1 (l ++ [s])∧Kp V.ownBlock.toList W w3∧Below B W w3∧(v1.ownBlock=V.ownBlock ∨ v1.ownBlock=some (W.heap.size+1)):=by
 subst had
 obtain ⟨i0,hi,hz0,hz1,hz2⟩:=info_parts sy_info
 obtain ⟨v1,w3,hap,hown1,hgrow1,-,hat1⟩:=run_append_own_at (P:=Tryz.prog) (w:=W.alloc (.cells #[.int .i64 s.node,.slice s.a s.d.length s.cp] 59)) B 41 41 59 i0 (.agg #[.int .i64 0,.slice none 0 0]) 2 32 Tryz.underlying41 hi hz0 hz1 hz2 rfl (by decide) V l.length _ (h.row.below ((Below.refl _ _).alloc (Nat.le_refl _) _)) ⟨W.heap.size,0,none⟩ 1 1 s.cells (by rfl)
  (fun j u hj=>by
   have hh:=heap_newA W (.cells #[.int .i64 s.node,.slice s.a s.d.length s.cp] 59)
   have e:(⟨W.heap.size,0,none⟩:Addr).add j=⟨W.heap.size,j,none⟩:=by unfold Addr.add;split <;> simp_all
   rw [e]
   exact cell_of_heap (heap_newA _ _) (j:=j) (by simpa [Sy.cells] using hj))
  (by intro u hu;simp [Sy.cells] at hu;rcases hu with rfl | rfl <;> rfl) (by unfold maxLen;omega) (by omega) (by simp;omega)
 have hk:Kp V.ownBlock.toList W w3:=((Kp.refl _ W).alloc _).grown hgrow1 (fun b hb=>.inl (by rw [hb];simp))
 refine ⟨v1,w3,hap,⟨?_,?_,?_⟩,hk,((Below.refl B W).alloc hb _).grown hgrow1 (by simp;omega) (fun b hb=>(h.row.lt b hb).1),by simpa using hat1⟩
 ·unfold OwnS
  rw [flatS_append,List.length_append]
  simpa [flatS] using hown1
 ·have hap1:∀ t:Sy,t.rd W→(∀ a,t.a=some a→V.ownBlock ≠ some a.block)→t.rd w3:=fun t ht ha=>GRd.kp2 ht hk (fun _ k hkk hm=>by
   cases e:t.a with
   | none=>rw [e] at hkk;simp [Value.ownBlock] at hkk
   | some a =>
    rw [e] at hkk
    simp only [Value.ownBlock,Option.some.injEq] at hkk
    exact ha a e (by rw [hkk];simpa using hm))
  intro t ht
  rcases List.mem_append.1 ht with ht | ht
  ·exact hap1 t (h.each t ht) (fun a ha=>(h.new t ht a ha).2.1)
  ·simp only [List.mem_singleton] at ht
   subst ht
   exact hap1 t hs (fun a ha=>(hn a ha).2.1)
 ·have hsz:=hk.size
  have hnew:∀ t:Sy,(∀ a,t.a=some a→B≤a.block∧V.ownBlock ≠ some a.block∧a.block < W.heap.size)→∀ a,t.a=some a→B≤a.block∧v1.ownBlock ≠ some a.block∧a.block < w3.heap.size:=fun t ht a ha=>by
   have h1:=ht a ha
   refine ⟨h1.1,?_,by omega⟩
   rcases hat1 with h2 | h2
   ·rw [h2];exact h1.2.1
   ·rw [h2]
    intro e
    have:=Option.some.inj e
    simp at this
    omega
  intro t ht
  rcases List.mem_append.1 ht with ht | ht
  ·exact hnew t (h.new t ht)
  ·simp only [List.mem_singleton] at ht
   subst ht
   exact hnew t hn
end Go.Proofs.YtcclhhjcejmepaaGreat
/- Parts of rows of nodes' bytes. -/
namespace Go.Proofs.YtcclhhjcejmepaaGreat
open Go.RowKit Fld
set_option linter.unusedVariables false
set_option linter.unusedSimpArgs false

end Go.Proofs.YtcclhhjcejmepaaGreat
/- A copy of rows of nodes' bytes. -/
namespace Go.Proofs.YtcclhhjcejmepaaGreat
open Go.RowKit Fld
set_option linter.unusedVariables false
set_option linter.unusedSimpArgs false

end Go.Proofs.YtcclhhjcejmepaaGreat
/- Are two rows of nodes' bytes the same? -/
namespace Go.Proofs.YtcclhhjcejmepaaGreat
open Go.RowKit Fld
set_option linter.unusedVariables false
set_option linter.unusedSimpArgs false

end Go.Proofs.YtcclhhjcejmepaaGreat
/- At most so many rows, of so many bytes each. -/
namespace Go.Proofs.YtcclhhjcejmepaaGreat
open Go.RowKit Fld
set_option linter.unusedVariables false
set_option linter.unusedSimpArgs false

end Go.Proofs.YtcclhhjcejmepaaGreat
/- Rows of rows of bytes that are one's own: appended to, one by one (the inner rows lie anywhere that stays). -/
namespace Go.Proofs.YtcclhhjcejmepaaGreat
open Go.RowKit Fld
set_option linter.unusedVariables false
set_option linter.unusedSimpArgs false

theorem row_info:(Tryz.prog.info? 22).map (fun i=>(i.zero,i.size,i.bytes))=some (some (.slice none 0 0),1,24):=by kernel_rfl
structure Ro where
 a:Option Addr
 cp:Nat
 d:List GF
def Ro.v (s:Ro):Value:=.slice s.a s.d.length s.cp
abbrev OwnR (w:World) (B:Nat) (v:Value) (l:List Ro):Prop:=w.ownsRow B 22 1 v l.length (l.map Ro.v)
theorem OwnR.nil (w:World) (B:Nat):OwnR w B (.slice none 0 0) []:=World.ownsRow_nil _ _ _ _
theorem OwnR.kp {S:List Nat} {w w':World} {B:Nat} {v:Value} {l:List Ro} (h:OwnR w B v l) (hk:Kp S w w') (hn:Apart v S):OwnR w' B v l:=by
 refine ⟨h.1,?_⟩
 rcases h.2 with h2 | ⟨g,cap,cur,h1,h2,h3,h4⟩
 ·exact .inl h2
 ·exact .inr ⟨g,cap,cur,h1,h2,hk.heap h3 (hn g (by rw [h1];rfl)),h4⟩
theorem OwnR.below {w w':World} {B:Nat} {v:Value} {l:List Ro} (h:OwnR w B v l) (hb:Below w.heap.size w w'):OwnR w' B v l:=h.kp (S:=[]) (Kp.of_below hb) (fun _ _=>by simp)
theorem app_ro {W:World} {B:Nat} {V:Value} {l:List Ro} {s:Ro} (h:OwnR W B V l) (hl:l.length≤1000000) (hb:B≤W.heap.size) {ad:Nat} (had:ad=W.heap.size) :
  ∃ v1 w3,(Builtin.append_ #[33,33] 33 #[V,.slice (some ⟨ad,0,none⟩) 1 1]).run Tryz.prog (W.alloc (.cells #[.slice s.a s.d.length s.cp] 22))=.ok v1 w3 ∧
   OwnR w3 B v1 (l ++ [s])∧Kp V.ownBlock.toList W w3∧Below B W w3∧(v1.ownBlock=V.ownBlock ∨ v1.ownBlock=some (W.heap.size+1)):=by
 subst had
 obtain ⟨i0,hi,hz0,hz1,hz2⟩:=info_parts row_info
 obtain ⟨v1,w3,hap,hown1,hgrow1,-,hat1⟩:=run_append_own_at (P:=Tryz.prog) (w:=W.alloc (.cells #[.slice s.a s.d.length s.cp] 22)) B 33 33 22 i0 (.slice none 0 0) 1 24 Tryz.underlying33 hi hz0 hz1 hz2 rfl (by decide) V l.length _ (h.below ((Below.refl _ _).alloc (Nat.le_refl _) _)) ⟨W.heap.size,0,none⟩ 1 1 [s.v] (by rfl)
  (cell_one_new _ _ _) (by simp [Ro.v,Value.oneCell']) (by unfold maxLen;omega) (by omega) (by simp;omega)
 refine ⟨v1,w3,hap,?_,((Kp.refl _ W).alloc _).grown hgrow1 (fun b hb=>.inl (by rw [hb];simp)),((Below.refl B W).alloc hb _).grown hgrow1 (by simp;omega) (fun b hb=>(h.lt b hb).1),by simpa using hat1⟩
 unfold OwnR
 rw [List.map_append,List.length_append]
 exact hown1
end Go.Proofs.YtcclhhjcejmepaaGreat
/- A node, or its bytes, written into a row of one's own. -/
namespace Go.Proofs.YtcclhhjcejmepaaGreat
open Go.RowKit Fld
set_option linter.unusedVariables false
set_option linter.unusedSimpArgs false

theorem flatS_put {s s':Sy} {j:Nat} {u:Value} (hj:j < 2) (hc:Sy.cells s'=(Sy.cells s).set j u):∀ (l:List Sy) (i:Nat),l[i]? = some s→flatS Sy.cells (l.set i s')=(flatS Sy.cells l).set (i * 2+j) u
 | [],i,h=>by simp at h
 | t :: l,0,h=>by
  simp only [List.getElem?_cons_zero,Option.some.injEq] at h
  subst h
  unfold flatS
  rw [List.set_cons_zero,List.flatMap_cons,List.flatMap_cons,hc,Nat.zero_mul,Nat.zero_add,List.set_append_left _ _ (by rw [Sy.cells_length];exact hj)]
 | t :: l,i+1,h=>by
  have ih:=flatS_put hj hc l i (by simpa using h)
  unfold flatS at *
  rw [List.set_cons_succ,List.flatMap_cons,List.flatMap_cons,ih,List.set_append_right _ _ (by rw [Sy.cells_length];omega),Sy.cells_length,show (i+1) * 2+j - 2=i * 2+j by omega]
theorem SyOwn.put {w:World} {B g m cap:Nat} {l:List Sy} (h:SyOwn w B (.slice (some ⟨g,0,none⟩) m cap) l) {i j:Nat} {s s':Sy} {u:Value} (hs:l[i]? = some s) (hj:j < 2) (hc:Sy.cells s'=(Sy.cells s).set j u) (hr:s'.rd w) (hn:∀ a,s'.a=some a→B≤a.block∧g ≠ a.block∧a.block < w.heap.size) :
  SyOwn (w.setCell ⟨g,i * 2+j,none⟩ u) B (.slice (some ⟨g,0,none⟩) m cap) (l.set i s')∧Kp [g] w (w.setCell ⟨g,i * 2+j,none⟩ u)∧w.frozen? ⟨g,i * 2+j,none⟩=false:=by
 obtain ⟨hm,-⟩:=h.row.rd.cap_le
 subst hm
 have hk:Kp [g] w (w.setCell ⟨g,i * 2+j,none⟩ u):=(Kp.refl _ _).setCell (.inl (by simp)) _
 refine ⟨⟨?_,fun t ht=>?_,fun t ht a ha=>?_⟩,hk,World.ownsRow.frozenAt (xs:=flatS Sy.cells l) (n:=l.length) h.row _⟩
 ·have:=(World.ownsRow.stored (xs:=flatS Sy.cells l) (n:=l.length) h.row (i * 2+j) u).1
  unfold OwnS
  rw [List.length_set,flatS_put hj hc l i hs]
  exact this
 ·rcases List.mem_or_eq_of_mem_set ht with ht | rfl
  ·refine GRd.kp2 (h.each t ht) hk fun _ k hkk hmm=>?_
   cases e:t.a with
   | none=>rw [e] at hkk;simp [Value.ownBlock] at hkk
   | some a =>
    rw [e] at hkk
    simp only [Value.ownBlock,Option.some.injEq] at hkk
    simp only [List.mem_singleton] at hmm
    exact (h.new t ht a e).2.1 (by simp [Value.ownBlock,hkk,hmm])
  ·refine GRd.kp2 hr hk fun _ k hkk hmm=>?_
   cases e:t.a with
   | none=>rw [e] at hkk;simp [Value.ownBlock] at hkk
   | some a =>
    rw [e] at hkk
    simp only [Value.ownBlock,Option.some.injEq] at hkk
    simp only [List.mem_singleton] at hmm
    exact (hn a e).2.1 (by rw [hkk,hmm])
 ·have hsz:=hk.size
  rcases List.mem_or_eq_of_mem_set ht with ht | rfl
  ·have:=h.new t ht a ha
   exact ⟨this.1,this.2.1,by omega⟩
  ·have:=hn a ha
   exact ⟨this.1,by simp [Value.ownBlock];exact this.2.1,by omega⟩
theorem SyOwn.node {w:World} {B g m cap:Nat} {l:List Sy} (h:SyOwn w B (.slice (some ⟨g,0,none⟩) m cap) l) {i:Nat} {s:Sy} (hs:l[i]? = some s) (x:Int):SyOwn (w.setCell ⟨g,i * 2,none⟩ (.int .i64 x)) B (.slice (some ⟨g,0,none⟩) m cap) (l.set i ⟨x,s.a,s.cp,s.d⟩)∧Kp [g] w (w.setCell ⟨g,i * 2,none⟩ (.int .i64 x))∧w.frozen? ⟨g,i * 2,none⟩=false:=by
 have hm:=List.mem_of_getElem? hs
 have:=SyOwn.put (s':=⟨x,s.a,s.cp,s.d⟩) (j:=0) (u:=.int .i64 x) h hs (by omega) rfl (h.each s hm) (fun a ha=>by
  have:=h.new s hm a ha
  exact ⟨this.1,fun e=>this.2.1 (by simp [Value.ownBlock,e]),this.2.2⟩)
 simpa using this
theorem SyOwn.bytes {w:World} {B g m cap:Nat} {l:List Sy} (h:SyOwn w B (.slice (some ⟨g,0,none⟩) m cap) l) {i:Nat} {s:Sy} (hs:l[i]? = some s) {a:Option Addr} {n cp:Nat} {d:List GF} (hd:GRd w (.slice a n cp) d) (hn:∀ x,a=some x→B≤x.block∧g ≠ x.block∧x.block < w.heap.size):SyOwn (w.setCell ⟨g,i * 2+1,none⟩ (.slice a n cp)) B (.slice (some ⟨g,0,none⟩) m cap) (l.set i ⟨s.node,a,cp,d⟩)∧Kp [g] w (w.setCell ⟨g,i * 2+1,none⟩ (.slice a n cp))∧w.frozen? ⟨g,i * 2+1,none⟩=false:=by
 obtain ⟨a',cp',e,-⟩:=hd.form
 cases e
 exact SyOwn.put (s':=⟨s.node,a,cp,d⟩) (j:=1) h hs (by omega) rfl hd hn
end Go.Proofs.YtcclhhjcejmepaaGreat
/- Rows of symbols appended to rows of symbols; the parts of a row that is there. -/
namespace Go.Proofs.YtcclhhjcejmepaaGreat
open Go.RowKit Fld
set_option linter.unusedVariables false
set_option linter.unusedSimpArgs false

end Go.Proofs.YtcclhhjcejmepaaGreat
