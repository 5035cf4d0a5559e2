import Derived.Test.YtcclhhjcejmepaaGreatZSyG
set_option linter.all false
set_option maxRecDepth 100000
set_option maxHeartbeats 4000000
namespace Go.Proofs.YtcclhhjcejmepaaGreat
open Go.RowKit Fld
theorem zhf {P:Program} {w0:World} {keep:Nat→Prop} {Q:Act→World→Prop} {c:Bool} {a:Act} {w:World} {o:SOp} {rest:STr} (s x:Operand) (t:TypeId)
  (ho:o.op=.call { callee:=.builtin .append,args:=#[s,x],argTypes:=#[t,t] }) (hg:o.guard=none) (hc:c=true) {V X:Value} (hs:a.eval s=V) (hx:a.eval x=X) {R:Value→World→Prop}
  (hr:∃v w3,(Builtin.append_ #[t,t] o.type #[V,X]).run P w=.ok v w3∧R v w3) (h:∀v w3,R v w3→(∀k,keep k→w3.heap[k]? = w0.heap[k]?)∧zan P w0 keep Q rest (a.put o.dst v) w3):zan P w0 keep Q (.step c o rest) a w:=by
 obtain⟨v,w3,h1,h2⟩:=hr;exact zai s x t ho hg hc hs hx h1 (h v w3 h2).1 (h v w3 h2).2
def yf5 (W:World) (base:Nat) (V:Value) (l:List GF) (v1:Value) (w3:World):Prop :=
 zao w3 base v1 l∧Kp V.ownBlock.toList W w3∧Below base W w3∧(v1.ownBlock=V.ownBlock∨v1.ownBlock=some W.heap.size)
def yf4 (W:World) (base:Nat) (V:Value) (l:List Int) (v1:Value) (w3:World):Prop :=
 za4 w3 base v1 l∧Kp V.ownBlock.toList W w3∧Below base W w3∧(v1.ownBlock=V.ownBlock∨v1.ownBlock=some W.heap.size)
theorem yan {W:World} {ad:Nat} {v:Value} (h:W.cell? ⟨ad,0,none⟩=some v):∀(j:Nat) (u:Value),[v][j]? = some u→W.cell? ((⟨ad,0,none⟩:Addr).add j)=some u:=fun j u hj=>by
 have hj0:j=0:=by
  have:=(Zah.1 hj).1
  simpa using this
 subst hj0;simp at hj;subst hj;exact h
theorem zjp {W:World} {base:Nat} {V:Value} {l:List GF} (x:GF) (h:zao W base V l) (hl:l.length≤1000000) (hb:base≤W.heap.size) {n:Nat} (hn:x.n=n) {ad:Nat} (hc:W.cell? ⟨ad,0,none⟩=some (.int .u8 (n:Int))) :
  ∃v1 w3,(Builtin.append_ #[22,22] 22 #[V,.slice (some ⟨ad,0,none⟩) 1 1]).run Tryz.prog W=.ok v1 w3∧yf5 W base V (l++[x]) v1 w3:=by
 subst hn;obtain⟨i0,hi,hz0,hz1,hz2⟩:=info_parts zbi;obtain⟨v1,w3,hap,hown1,hgrow1,-,hat1⟩:=run_append_own_at (P:=Tryz.prog) (w:=W) base 22 22 5 i0 (.int .u8 0) 1 1 Tryz.underlying22 hi hz0 hz1 hz2 rfl (by decide) V l.length _ h ⟨ad,0,none⟩ 1 1 [.int .u8 (x.n:Int)] rfl (yan hc) (by simp[Value.oneCell']) (by unfold maxLen;omega) (by omega) hb;refine⟨v1,w3,hap,?_,?_,?_,hat1⟩
 ·unfold zao;rw[zpl,Zak];exact hown1
 ·exact (Kp.refl _ W).grown hgrow1 (fun b hb=>.inl (by rw[hb];simp))
 ·exact (Zaa base W).grown hgrow1 hb (fun b hb=>(h.lt b hb).1)
theorem ztk {W:World} {base:Nat} {V:Value} {l:List Int} (x:Int) (h:za4 W base V l) (hl:l.length≤1000000) (hb:base≤W.heap.size) {n:Int} (hn:x=n) {ad:Nat} (hc:W.cell? ⟨ad,0,none⟩=some (.int .i64 n)) :
  ∃v1 w3,(Builtin.append_ #[44,44] 44 #[V,.slice (some ⟨ad,0,none⟩) 1 1]).run Tryz.prog W=.ok v1 w3∧yf4 W base V (l++[x]) v1 w3:=by
 subst hn;obtain⟨i0,hi,hz0,hz1,hz2⟩:=info_parts zme;obtain⟨v1,w3,hap,hown1,hgrow1,-,hat1⟩:=run_append_own_at (P:=Tryz.prog) (w:=W) base 44 44 3 i0 (.int .i64 0) 1 8 Tryz.underlying44 hi hz0 hz1 hz2 rfl (by decide) V l.length _ h ⟨ad,0,none⟩ 1 1 [.int .i64 x] rfl (yan hc) (by simp[Value.oneCell']) (by unfold maxLen;omega) (by omega) hb;refine⟨v1,w3,hap,?_,?_,?_,hat1⟩
 ·unfold za4;rw[Zaw,Zak];exact hown1
 ·exact (Kp.refl _ W).grown hgrow1 (fun b hb=>.inl (by rw[hb];simp))
 ·exact (Zaa base W).grown hgrow1 hb (fun b hb=>(h.lt b hb).1)
theorem zrz {l:List Nat} (hl:∀x∈l,x<256) {j:Nat} (hj:j<l.length) (cap:Nat):(bytesRow (za1 l) cap)[j]? = some (.int .u8 ((l.getD j 0:Nat):Int)):=by have hd:(za1 l).data=((l.map fun x:Nat=>(x:Int)).map fun n=>UInt8.ofNat n.toNat).toArray:=rfl;unfold bytesRow;rw[Array.getElem?_append_left (by rw[Array.size_map,hd];simpa using hj),Array.getElem?_map,hd];have hx:l[j]<256:=hl _ (Zbx hj);simp[zE1 hj];omega
theorem zl2 {v:Value} {l:List GF} (w:World) (h:GRd w v l):∃(s:ByteArray) (cap:Nat) (w1:World),(convert 22 9 v).run Tryz.prog w=.ok (.string s) w ∧
  (convert 9 22 (.string s)).run Tryz.prog w=.ok (.slice (some ⟨w.heap.size,0,none⟩) l.length cap) w1∧l.length≤cap∧zag w1 w.heap.size l.length (fun i=>l.getD i 0)∧Below w.heap.size w w1:=by
 have hlt:∀x∈l.map GF.n,x<256:=h.1;have hsz:(za1 (l.map GF.n)).size=l.length:=by unfold za1;rw[strOfNums_size];simp
 have hrun:=run_bytes_of_string (P:=Tryz.prog) w 9 22 5 (za1 (l.map GF.n)) Tryz.underlying9 Tryz.underlying22 Tryz.underlying5;obtain⟨cap,hcap⟩:=zE5 (grownCap w (za1 (l.map GF.n)).size 0 5);rw[←hcap,hsz] at hrun;have hc:l.length≤cap:=by rw[hcap,hsz];exact grownCap_ge _ _ _ _
 have hh:(w.drew.alloc (.cells (bytesRow (za1 (l.map GF.n)) cap) 5 ((bytesRow (za1 (l.map GF.n)) cap).size,(bytesRow (za1 (l.map GF.n)) cap).size+1))).heap[w.heap.size]? = some (.cells (bytesRow (za1 (l.map GF.n)) cap) 5 ((bytesRow (za1 (l.map GF.n)) cap).size,(bytesRow (za1 (l.map GF.n)) cap).size+1)):=by show (w.heap.push _)[w.heap.size]? = _;simp
 refine⟨_,cap,_,h.conv,hrun,hc,⟨lOH hh,fun j hj=>?_⟩,((Zaa w.heap.size w).drew).alloc (by exact zE3 _) _⟩;have hb:=zrz hlt (j:=j) (by simpa using hj) cap;have hjs:j<(bytesRow (za1 (l.map GF.n)) cap).size:=(Array.getElem?_eq_some_iff.1 hb).1;refine⟨?_,?_⟩
 ·rw[cell_of_row _ _ _ _ _ _ hh,hb];simp[zE2,zE1 hj]
 ·simp only[World.frozen?,hh];simp;omega
theorem zjk (w:World):Calls Tryz.prog 14 #[] w fun e w'=>∃fb,e=.returned (.pointer (some ⟨fb,0,none⟩))∧w.heap.size≤fb∧FOk w' fb∧Below w.heap.size w w':=by refine (zze w).mono ?_;rintro e w' ⟨rfl,rfl⟩;exact⟨_,rfl,zE3 _,yck w,(Zaa _ _).alloc (zE3 _) _⟩
theorem zbw.lt {w:World} {cb fb k:Nat} {v:Value} {xs:List GF} (h:zbw w cb fb k v xs):cb<w.heap.size:=lOH h.box
theorem zue:(Tryz.prog.info? 59).map (fun i=>(i.zero,i.size,i.bytes))=some (some (.agg #[.int .i64 0,.slice none 0 0]),2,32):=by kernel_rfl
abbrev zlf (w:World) (B:Nat) (v:Value) (l:List Sy):Prop:=w.ownsRow B 59 2 v l.length (zb5 Sy.cells l)
theorem zlf.nil (w:World) (B:Nat):zlf w B (.slice none 0 0) []:=World.ownsRow_nil _ _ _ _
theorem zlf.kp {S:List Nat} {w w':World} {B:Nat} {v:Value} {l:List Sy} (h:zlf w B v l) (hk:Kp S w w') (hn:za0 v S):zlf w' B v l:=by
 refine⟨h.1,?_⟩;rcases h.2 with h2|⟨g,cap,cur,h1,h2,h3,h4⟩
 ·exact .inl h2
 ·exact .inr ⟨g,cap,cur,h1,h2,hk.heap h3 (hn g (by rw[h1];rfl)),h4⟩
theorem zlf.below {w w':World} {B:Nat} {v:Value} {l:List Sy} (h:zlf w B v l) (hb:Below w.heap.size w w'):zlf w' B v l:=h.kp (S:=[]) (Kp.of_below hb) (fun _ _=>by simp)
theorem zlf.mono {w:World} {B B':Nat} {v:Value} {l:List Sy} (h:zlf w B v l) (hb:B'≤B):zlf w B' v l:=by
 refine⟨h.1,?_⟩;rcases h.2 with h2|⟨g,cap,cur,h1,h2,h3⟩
 ·exact .inl h2
 ·exact .inr ⟨g,cap,cur,h1,Zat hb h2,h3⟩
theorem zlf.rd {w:World} {B:Nat} {v:Value} {l:List Sy} (h:zlf w B v l):yey w v l:=by
 rcases h.2 with ⟨rfl,h2⟩|⟨g,cap,cur,rfl,h2,h3,h4,h5⟩
 ·rw[Zbc h2];exact SRd.nil w
 ·refine⟨_,cap,rfl,h4,fun _=>⟨g,0,rfl,lOH h3,fun i c hi j u hj=>?_⟩⟩;have:=h.cells (g:=g) rfl (i*2+j) u (zh8 Sy.cells_length l i c j u hi hj);have e:(⟨g,0,none⟩:Addr).add (i*2+j)=⟨g,0+i*2+j,none⟩:=by unfold Addr.add;split<;>simp_all[Nat.add_assoc]
  rwa[e] at this
structure zbb (w:World) (B:Nat) (v:Value) (l:List Sy):Prop where
 row:zlf w B v l
 each:∀s∈l,s.rd w
 new:∀s∈l,∀a,s.a=some a→B≤a.block∧v.ownBlock≠some a.block∧a.block<w.heap.size
theorem zbb.nil (w:World) (B:Nat):zbb w B (.slice none 0 0) []:=⟨zlf.nil _ _,by simp,by simp⟩
theorem zbb.all {w:World} {B:Nat} {v:Value} {l:List Sy} (h:zbb w B v l):zby w v l:=⟨h.row.rd,h.each⟩
theorem zbb.below {w w':World} {B:Nat} {v:Value} {l:List Sy} (h:zbb w B v l) (hb:Below w.heap.size w w'):zbb w' B v l :=
 ⟨h.row.below hb,fun s hs=>(h.each s hs).below hb,fun s hs a ha=>by
  have h1:=h.new s hs a ha;have:=hb.size;exact⟨h1.1,h1.2.1,by omega⟩⟩
theorem zbb.mono {w:World} {B B':Nat} {v:Value} {l:List Sy} (h:zbb w B v l) (hb:B'≤B):zbb w B' v l :=
 ⟨h.row.mono hb,h.each,fun s hs a ha=>by have h1:=h.new s hs a ha;exact⟨by omega,h1.2⟩⟩
theorem zbb.apart {w:World} {B:Nat} {v:Value} {l:List Sy} {S:List Nat} (h:zbb w B v l) (hS:∀x∈S,x<B):zjq v l S :=
 ⟨fun _ k hk hm=>by have:=(h.row.lt k hk).1;have:=hS k hm;omega,fun s hs _ k hk hm=>by
  cases e:s.a with
  | none=>rw[e] at hk;simp[Value.ownBlock] at hk
  | some a =>
   rw[e] at hk;simp only[Value.ownBlock,Option.some.injEq] at hk;have:=(h.new s hs a e).1;have:=hS k hm;omega⟩
theorem zxf {W:World} {B:Nat} {V:Value} {l:List Sy} {s:Sy} (h:zbb W B V l) (hs:s.rd W) (hn:∀a,s.a=some a→B≤a.block∧V.ownBlock≠some a.block∧a.block<W.heap.size) (hl:l.length≤1000000) (hb:B≤W.heap.size) {ad:Nat} (had:ad=W.heap.size) :
  ∃v1 w3,(Builtin.append_ #[41,41] 41 #[V,.slice (some ⟨ad,0,none⟩) 1 1]).run Tryz.prog (W.alloc (.cells #[.int .i64 s.node,.slice s.a s.d.length s.cp] 59))=.ok v1 w3 ∧
   zbb w3 B v1 (l++[s])∧Kp V.ownBlock.toList W w3∧Below B W w3∧(v1.ownBlock=V.ownBlock∨v1.ownBlock=some (W.heap.size+1)):=by
 subst had;obtain⟨i0,hi,hz0,hz1,hz2⟩:=info_parts zue;obtain⟨v1,w3,hap,hown1,hgrow1,-,hat1⟩:=run_append_own_at (P:=Tryz.prog) (w:=W.alloc (.cells #[.int .i64 s.node,.slice s.a s.d.length s.cp] 59)) B 41 41 59 i0 (.agg #[.int .i64 0,.slice none 0 0]) 2 32 Tryz.underlying41 hi hz0 hz1 hz2 rfl (by decide) V l.length _ (h.row.below ((Zaa _ _).alloc (zE3 _) _)) ⟨W.heap.size,0,none⟩ 1 1 s.cells (by rfl)
  (fun j u hj=>by
   have hh:=nwA W (.cells #[.int .i64 s.node,.slice s.a s.d.length s.cp] 59);have e:(⟨W.heap.size,0,none⟩:Addr).add j=⟨W.heap.size,j,none⟩:=by unfold Addr.add;split<;>simp_all
   rw[e];exact cOH (nwA _ _) (j:=j) (by simpa[Sy.cells] using hj))
  (by intro u hu;simp[Sy.cells] at hu;rcases hu with rfl|rfl<;>rfl) (by unfold maxLen;omega) (by omega) (by simp;omega)
 have hk:Kp V.ownBlock.toList W w3:=((Kp.refl _ W).alloc _).grown hgrow1 (fun b hb=>.inl (by rw[hb];simp));refine⟨v1,w3,hap,⟨?_,?_,?_⟩,hk,((Zaa B W).alloc hb _).grown hgrow1 (by simp;omega) (fun b hb=>(h.row.lt b hb).1),by simpa using hat1⟩
 ·unfold zlf;rw[zhm,Zak];simpa[zb5] using hown1
 ·have hap1:∀t:Sy,t.rd W→(∀a,t.a=some a→V.ownBlock≠some a.block)→t.rd w3:=fun t ht ha=>GRd.kp2 ht hk (fun _ k hkk hm=>by
   cases e:t.a with
   | none=>rw[e] at hkk;simp[Value.ownBlock] at hkk
   | some a =>
    rw[e] at hkk;simp only[Value.ownBlock,Option.some.injEq] at hkk;exact ha a e (by rw[hkk];simpa using hm))
  intro t ht;rcases Zba.1 ht with ht|ht
  ·exact hap1 t (h.each t ht) (fun a ha=>(h.new t ht a ha).2.1)
  ·simp only[Zaq] at ht;subst ht;exact hap1 t hs (fun a ha=>(hn a ha).2.1)
 ·have hsz:=hk.size;have hnew:∀t:Sy,(∀a,t.a=some a→B≤a.block∧V.ownBlock≠some a.block∧a.block<W.heap.size)→∀a,t.a=some a→B≤a.block∧v1.ownBlock≠some a.block∧a.block<w3.heap.size:=fun t ht a ha=>by
   have h1:=ht a ha;refine⟨h1.1,?_,by omega⟩;rcases hat1 with h2|h2
   ·rw[h2];exact h1.2.1
   ·rw[h2];intro e;have:=Zcd e;simp at this;omega
  intro t ht;rcases Zba.1 ht with ht|ht
  ·exact hnew t (h.new t ht)
  ·simp only[Zaq] at ht;subst ht;exact hnew t hn
theorem zud (W:World):(sizeOf (Tryz.prog.elem 41)).run Tryz.prog W=.ok 2 W:=by
 obtain⟨i0,hi,hz0,hz1,hz2⟩:=info_parts zue;have e:Tryz.prog.elem 41=59:=by kernel_rfl
 rw[e];simp[sizeOf,typeInfo,hi,hz1]
theorem SRd.cutS {α:Type} {n:Nat} {cells:α→List Value} {w:World} {v:Value} {l:List α} (h:SRd n cells w v l) {a:Option Addr} {m cap:Nat} (hv:v=.slice a m cap) (i j c:Nat) (hc:c≤cap) (hij:i≤j) (hj:j≤c) (hl:j≤l.length):SRd n cells w (sliced a i j c n) ((l.take j).drop i):=by
 obtain⟨a',cap',h1,h2,h3⟩:=h;subst hv;cases h1;have hlen:((l.take j).drop i).length=j-i:=by rw[List.length_drop,Zan,Zbn hl]
 by_cases hci:c=i
 ·obtain rfl:j=i:=by omega
  have hn:(l.take j).drop j=[]:=Zbc (by rw[hlen];omega);unfold sliced;rw[if_pos hci,hn];exact⟨a,c-j,by simp,by simp,fun h=>absurd rfl h⟩
 ·unfold sliced;rw[if_neg hci];refine⟨_,_,by rw[hlen],by rw[hlen];omega,fun hne=>?_⟩;obtain⟨b,o,h4,h5,h6⟩:=h3 (fun e=>by rw[e] at hne;simp at hne);refine⟨b,o+i*n,by rw[h4];simp[Addr.add_lit],h5,fun k x hk q u hq=>?_⟩;rw[List.getElem?_drop,List.getElem?_take] at hk;split at hk
  ·have:=h6 (i+k) x hk q u hq
   rwa[show o+(i+k)*n+q=o+i*n+k*n+q by rw[Zcc];omega] at this
  ·cases hk
def zol (l:List Sy) (w:World) (e:Ending) (w':World):Prop:=∃v l',e=.returned v∧zbb w' w.heap.size v l'∧Below w.heap.size w w'∧Sy.nodes l'=Sy.nodes l∧l'.map Sy.d=l.map Sy.d
theorem zi7 (v:Value) (l:List Sy) (w:World) (h:zby w v l) (hl:l.length≤100000) :
  Calls Tryz.prog 22 #[v] w (zol l w):=by
 obtain⟨a,cap,rfl⟩:=h.rd.form;obtain⟨L,hL⟩:=zE4 l.length;have H:=Hd h;have HL:=Hd hL;rw[hL] at H hl ⊢;clear h hL;go_enter Tryz.func22,Tryz.ntmps22;go_wp2;go_loopg [3,4] L (fun gk p i wr=>∃(V:Value) (l':List Sy) (I:Nat),V=p∧I≤L∧gk=L-I∧i=.int .i64 I∧Hid (zbb wr w.heap.size V l')∧Hid (Below w.heap.size w wr)∧Hid (Sy.nodes l'=Sy.nodes (l.take I))∧Hid (l'.map Sy.d=(l.take I).map Sy.d))
 case atStart=>exact⟨_,[],0,rfl,by omega,rfl,rfl,Hd (zbb.nil _ _),Hd (Zaa _ _),Hd rfl,Hd rfl⟩
 case round =>
  obtain⟨V,l',I,rfl,hI,rfl,rfl,HO,HB,HN,HD⟩:=hrel;have hsr:=HB.out.size;by_cases hlt:I<L
  ·obtain⟨s,hs⟩:∃s,l[I]? = some s:=⟨_,zE1 (by rw[HL.out];exact hlt)⟩;obtain⟨-,hcap,b,o,e,hb,-⟩:=SRd.at H.out.rd hs;obtain⟨-,-,_,_,e2,-,hat⟩:=SRd.at (H.out.below HB.out).rd hs;cases e;cases e2;have c0:wr.cell? ⟨b,o+I*2,none⟩=some (.int .i64 s.node):=hat 0 _ rfl;have c1:wr.cell? ⟨b,o+I*2+1,none⟩=some (.slice s.a s.d.length s.cp):=hat 1 _ rfl;have hsrd:=(H.out.below HB.out).each s (Zad hs);obtain⟨st,capc,w1,hcv1,hcv2,hcc,hvw,hb1⟩:=zl2 wr.drew (GRd.below hsrd ((Zaa _ _).drew));have hb1':Below wr.heap.size wr w1:=((Zaa _ _).drew).trans hb1;have hbl1:Below w.heap.size wr w1:=hb1'.mono hsr;have hll:l'.length≤100000:=by
    have:=congrArg List.length HN.out
    simp[Sy.nodes] at this;omega
   have hs1:=hvw.1;obtain⟨v1,w6,hap,ho1,-,hb6,-⟩:=zxf (W:=w1) (s:=⟨s.node,some ⟨wr.heap.size,0,none⟩,capc,s.d⟩) (HO.out.below hb1') (zag.list hvw rfl hcc) (fun a ha=>by
    cases ha;exact⟨hsr,fun e=>by have:=(HO.out.row.lt _ e).2;simp at this,hs1⟩) (by omega) (by have:=hb1'.size;omega) (ad:=w1.heap.size) rfl
   have HO6:=Hd ho1;have HKE:Hid (Below w.heap.size wr w6):=Hd (hbl1.trans hb6);have HK1:=Hd hbl1;have HB6:Hid (Below w.heap.size w w6):=Hd (HB.out.trans HKE.out);have HN6:Hid (Sy.nodes (l'++[⟨s.node,some ⟨wr.heap.size,0,none⟩,capc,s.d⟩])=Sy.nodes (l.take (I+1))):=Hd (by
    rw[Zaz,hs];unfold Sy.nodes;rw[Zaw,Zaw,show l'.map Sy.node=(l.take I).map Sy.node from HN.out];rfl)
   have HD6:Hid ((l'++[(⟨s.node,some ⟨wr.heap.size,0,none⟩,capc,s.d⟩:Sy)]).map Sy.d=(l.take (I+1)).map Sy.d):=Hd (by
    rw[Zaz,hs,Zaw,Zaw,HD.out];rfl)
   obtain⟨m,hm⟩:=zE4 s.d.length;simp only[] at hap;rw[hm] at c1 hcv1 hcv2 hap;have hcv3:(convert 9 22 (.string st)).run Tryz.prog wr.drew=.ok (.slice (some ⟨wr.heap.size,0,none⟩) m capc) w1:=hcv2;clear hcv2;have hs11:=hb1'.size;obtain⟨kp,hkp⟩:∃kp:Nat→Bool,∀j,kp j=true↔j<w.heap.size:=⟨fun j=>decide (j<w.heap.size),by simp⟩;have k1:kp b=true:=(hkp _).2 hb;have HKP:=Hd hkp;have i1:(0:Int)≤(I:Int)∧(I:Int)<(L:Int):=by omega
   clear hat hs hsrd hvw hb1 hb1' hbl1 ho1 hb6 hm hkp hll hcap;go_upto_region 5 with fail
   have hgr:=hgK (fun j=>kp j=true);refine w_T (fun j=>kp j=true) [11,12,14,15] (.sq [0,1,2,3,4,5,6,7,8,9,10,11,12,13,14,15,16] .done) (by kernel_rfl) (by kernel_rfl) ?_;simp only[TQ,Oper.slim,Nat.reduceBEq,Nat.reduceAdd]
   repeat' first|((with_reducible refine w_I ?_);first|(with_reducible refine w_D ?_)|(refine zai _ _ _ rfl rfl rfl rfl rfl hap (fun kk hkk=>HKE.out.block kk ((HKP.out kk).1 hkk)) ?_)|((with_reducible refine w_S (fun K hK=>?_));go_simp;first|(refine hK _ _ ?_;clear hK K)|(refine⟨by (intro kk hkk;first|(simp (disch:=(simp;omega)) only[h_D,h_N,h_A,h_S];done)|(simp[h_D,h_N,h_I,hkk];done)|(have hkk2:=(HKP.out kk).1 hkk;first|exact HK1.out.block kk hkk2|exact (h_A _ _ _ (by omega)).trans (HK1.out.block kk hkk2))),hK _ _ ?_⟩;clear hK K)))|fail
   clear hgr;go_wp2;go_roundg (L-(I+1))
   case measure=>omega
   case rel=>exact⟨v1,_,I+1,rfl,by omega,rfl,by go_num,HO6,HB6,HN6,HD6⟩
  ·obtain rfl:I=L:=by omega
   have HP:Hid (zol l w (.returned V) wr):=Hd ⟨V,l',rfl,HO.out,HB.out,by rw[HN.out,←HL.out,Zbs],by rw[HD.out,←HL.out,Zbs]⟩;go_wp2;go_ret;exact HP.out
def zdu (l m:List Sy) (w:World) (e:Ending) (w':World):Prop:=∃b,e=.returned (.bool b)∧Below w.heap.size w w'∧(b=true↔Sy.nodes l=Sy.nodes m∧l.map Sy.d=m.map Sy.d)
theorem zo0 {l m:List Sy} {I:Nat} {s t:Sy} (hs:l[I]? = some s) (ht:m[I]? = some t) (h:Sy.nodes (l.take I)=Sy.nodes (m.take I)∧(l.take I).map Sy.d=(m.take I).map Sy.d) (h1:s.node=t.node) (h2:s.d=t.d) :
  Sy.nodes (l.take (I+1))=Sy.nodes (m.take (I+1))∧(l.take (I+1)).map Sy.d=(m.take (I+1)).map Sy.d:=by
 unfold Sy.nodes at *;rw[Zaz,Zaz,hs,ht,Zaw,Zaw,Zaw,Zaw,h.1,h.2];simp[h1,h2]
theorem znc {l m:List Sy} {I:Nat} {s t:Sy} (hs:l[I]? = some s) (ht:m[I]? = some t) (h:Sy.nodes l=Sy.nodes m∧l.map Sy.d=m.map Sy.d):s.node=t.node∧s.d=t.d:=by unfold Sy.nodes at *;have h1:=congrArg (fun x:List Int=>x[I]?) h.1;have h2:=congrArg (fun x:List (List GF)=>x[I]?) h.2;simp only[Zae,hs,ht,Zbv,Option.some.injEq] at h1 h2;exact⟨h1,h2⟩
theorem zhj (u v:Value) (l m:List Sy) (w:World) (h:zby w u l) (h':zby w v m) (hll:l.length≤1000000) :
  Calls Tryz.prog 26 #[u,v] w (zdu l m w):=by
 obtain⟨a,cap,rfl⟩:=h.rd.form;obtain⟨a',cap',rfl⟩:=h'.rd.form;obtain⟨L,hL⟩:=zE4 l.length;obtain⟨M,hM⟩:=zE4 m.length;have H:=Hd h;have H':=Hd h';have HL:=Hd hL;have HM:=Hd hM;rw[hL] at H hll ⊢;rw[hM] at H' ⊢;clear h h' hL hM;by_cases hne:L=M
 case neg =>
  have hne':¬(L:Int)=(M:Int):=by omega
  have HP:Hid (zdu l m w (.returned (.bool false)) w):=Hd ⟨false,rfl,Zaa _ _,(fun h=>by cases h),fun h=>by
   have:=congrArg List.length h.1
   simp[Sy.nodes] at this;rw[HL.out,HM.out] at this;exact absurd this hne⟩
  clear hne;go_enter Tryz.func26,Tryz.ntmps26;go_wp2;go_ret;exact HP.out
 subst hne;go_enter Tryz.func26,Tryz.ntmps26;go_wp2;go_loopg [5] L (fun gk i wr=>∃I:Nat,I≤L∧gk=L-I∧i=.int .i64 I∧Hid (Below w.heap.size w wr)∧Hid (Sy.nodes (l.take I)=Sy.nodes (m.take I)∧(l.take I).map Sy.d=(m.take I).map Sy.d))
 case atStart=>exact⟨0,by omega,rfl,rfl,Hd (Zaa _ _),Hd ⟨rfl,rfl⟩⟩
 case round =>
  obtain⟨I,hI,rfl,rfl,HB,HG⟩:=hrel;have hsr:=HB.out.size;by_cases hlt:I<L
  ·obtain⟨s,hs⟩:∃s,l[I]? = some s:=⟨_,zE1 (by rw[HL.out];exact hlt)⟩;obtain⟨t,ht⟩:∃t,m[I]? = some t:=⟨_,zE1 (by rw[HM.out];exact hlt)⟩;have hA:=H.out.below HB.out;have hA':=H'.out.below HB.out;obtain⟨-,-,b,o,rfl,hb,hat⟩:=SRd.at hA.rd hs;obtain⟨-,-,b',o',rfl,hb',hat'⟩:=SRd.at hA'.rd ht;have c0:wr.cell? ⟨b,o+I*2,none⟩=some (.int .i64 s.node):=hat 0 _ rfl;have c1:wr.cell? ⟨b,o+I*2+1,none⟩=some (.slice s.a s.d.length s.cp):=hat 1 _ rfl;have d0:wr.cell? ⟨b',o'+I*2,none⟩=some (.int .i64 t.node):=hat' 0 _ rfl;have d1:wr.cell? ⟨b',o'+I*2+1,none⟩=some (.slice t.a t.d.length t.cp):=hat' 1 _ rfl;have q1:=hA.each s (Zad hs);have q2:=hA'.each t (Zad ht);have v1:=zat.conv (GRd.below q1 (Zaa _ _).drew)
   have v2:=zat.conv (GRd.below q2 (Zaa _ _).drew)
   have hst:za1 (s.d.map GF.n)=za1 (t.d.map GF.n)↔s.d=t.d:=(zdk q1.1 q2.1).trans ⟨fun e=>zeu e,fun e=>by rw[e]⟩;obtain⟨st1,hst1⟩:∃st,za1 (s.d.map GF.n)=st:=⟨_,rfl⟩;obtain⟨st2,hst2⟩:∃st,za1 (t.d.map GF.n)=st:=⟨_,rfl⟩;rw[hst1] at v1 hst;rw[hst2] at v2 hst;have HLT:=Hd hlt;have HBD:Hid (Below w.heap.size w wr.drew):=Hd HB.out.drew;have HST:=Hd (Zao hs (Zao ht hst));obtain⟨x,hx⟩:=zE4 s.node;obtain⟨y,hy⟩:=zE4 t.node;rw[hx] at c0;rw[hy] at d0;have HXY:=Hd (Zao hx hy);obtain⟨kp,hkp⟩:∃kp:Nat→Bool,∀j,kp j=true↔j<wr.heap.size:=⟨fun j=>decide (j<wr.heap.size),by simp⟩;have k1:kp b=true:=(hkp _).2 hb;have k2:kp b'=true:=(hkp _).2 hb';have HKP:=Hd hkp;have i1:(0:Int)≤(I:Int)∧(I:Int)<(L:Int):=by omega
   clear hat hat' hs ht hA hA' q1 q2 hst hst1 hst2 hx hy hkp;by_cases hxy:x=y
   ·subst hxy;by_cases hss:st1=st2
    ·subst hss;have HG2:=Hd (zo0 HST.out.1 HST.out.2.1 HG.out (HXY.out.1.trans HXY.out.2.symm) (HST.out.2.2.1 rfl));go_upto_region 6 with fail
     have hgr:=hgK (fun j=>kp j=true);refine w_T (fun j=>kp j=true) [17,23] (.sq [0,1,2,3,4,5,6,7,8,9,10,11,12,13,14,15,16,18,19,20,21,22] (.fork 17 (.sq [23,24,25] .done) 23 (.sq [17,24,25] .done))) (by kernel_rfl) (by kernel_rfl) ?_;simp only[TQ,Oper.slim,Nat.reduceBEq,Nat.reduceAdd]
     repeat' first|((with_reducible refine w_I ?_);first|(with_reducible refine w_D ?_)|(with_reducible refine zaf ?_ ?_)|((with_reducible refine w_S (fun K hK=>?_));go_simp;first|(refine hK _ _ ?_;clear hK K)|(refine⟨by (intro kk hkk;first|(simp (disch:=(simp;omega)) only[h_D,h_N,h_A,h_S];done)|(simp[h_D,h_N,h_I,hkk];done)|fail),hK _ _ ?_⟩;clear hK K)))|fail
     all_goals clear hgr
     all_goals go_wp2
     all_goals go_roundg (L-(I+1))
     all_goals first
      | omega
      | exact Nat.sub_lt_sub_left HLT.out (Nat.lt_succ_self I)
      | exact⟨I+1,HLT.out,rfl,by go_num,HBD,HG2⟩
    ·have hsl:¬st1.data.toList=st2.data.toList:=fun e=>hss (by
      have e2:st1.data=st2.data:=Array.toList_inj.1 e;cases st1;cases st2;simp only at e2;rw[e2])
     have hb1:(st1.data.toList == st2.data.toList)=false:=by simpa using hsl
     have hb2:(st1.toList == st2.toList)=false:=by rw[ByteArray.toList_eq,ByteArray.toList_eq];exact hb1
     have HP:Hid (zdu l m w (.returned (.bool false)) wr.drew):=Hd ⟨false,rfl,HBD.out,(fun h=>by cases h),fun h=>absurd (HST.out.2.2.2 (znc HST.out.1 HST.out.2.1 h).2) hss⟩;go_upto_region 6 with fail
     have hgr:=hgK (fun j=>kp j=true);refine w_T (fun j=>kp j=true) [17,23] (.sq [0,1,2,3,4,5,6,7,8,9,10,11,12,13,14,15,16,18,19,20,21,22] (.fork 17 (.sq [23,24,25] .done) 23 (.sq [17,24,25] .done))) (by kernel_rfl) (by kernel_rfl) ?_;simp only[TQ,Oper.slim,Nat.reduceBEq,Nat.reduceAdd]
     repeat' first|((with_reducible refine w_I ?_);first|(with_reducible refine w_D ?_)|(with_reducible refine zaf ?_ ?_)|((with_reducible refine w_S (fun K hK=>?_));go_simp;first|(refine hK _ _ ?_;clear hK K)|(refine⟨by (intro kk hkk;first|(simp (disch:=(simp;omega)) only[h_D,h_N,h_A,h_S];done)|(simp[h_D,h_N,h_I,hkk];done)|fail),hK _ _ ?_⟩;clear hK K)))|fail
     all_goals clear hgr
     all_goals go_wp2
     all_goals go_ret
     all_goals exact HP.out
   ·have HP:Hid (zdu l m w (.returned (.bool false)) wr.drew):=Hd ⟨false,rfl,HBD.out,(fun h=>by cases h),fun h=>absurd (by rw[←HXY.out.1,←HXY.out.2];exact (znc HST.out.1 HST.out.2.1 h).1) hxy⟩;go_upto_region 6 with fail
    have hgr:=hgK (fun j=>kp j=true);refine w_T (fun j=>kp j=true) [17,23] (.sq [0,1,2,3,4,5,6,7,8,9,10,11,12,13,14,15,16,18,19,20,21,22] (.fork 17 (.sq [23,24,25] .done) 23 (.sq [17,24,25] .done))) (by kernel_rfl) (by kernel_rfl) ?_;simp only[TQ,Oper.slim,Nat.reduceBEq,Nat.reduceAdd]
    repeat' first|((with_reducible refine w_I ?_);first|(with_reducible refine w_D ?_)|(with_reducible refine zaf ?_ ?_)|((with_reducible refine w_S (fun K hK=>?_));go_simp;first|(refine hK _ _ ?_;clear hK K)|(refine⟨by (intro kk hkk;first|(simp (disch:=(simp;omega)) only[h_D,h_N,h_A,h_S];done)|(simp[h_D,h_N,h_I,hkk];done)|fail),hK _ _ ?_⟩;clear hK K)))|fail
    all_goals clear hgr
    all_goals go_wp2
    all_goals go_ret
    all_goals exact HP.out
  ·obtain rfl:I=L:=by omega
   have HP:Hid (zdu l m w (.returned (.bool true)) wr):=Hd ⟨true,rfl,HB.out,(fun _=>by have:=HG.out;rwa[←HL.out,Zbs,show l.length=m.length by rw[HL.out,HM.out],Zbs] at this),fun _=>rfl⟩;go_wp2;go_ret;exact HP.out
def zie (l:List Sy) (rows size:Nat) (w:World) (e:Ending) (w':World):Prop:=∃b,e=.returned (.bool b)∧w=w'∧(b=true↔l.length≤rows∧∀s∈l,s.d.length≤size)
theorem zq0 (v:Value) (l:List Sy) (rows size:Nat) (w:World) (h:zby w v l) (hr:rows≤1000000) (hs:size≤1000000) :
  Calls Tryz.prog 21 #[v,.int .i64 rows,.int .i64 size] w (zie l rows size w):=by
 obtain⟨a,cap,rfl⟩:=h.rd.form;obtain⟨L,hL⟩:=zE4 l.length;have H:=Hd h;have HL:=Hd hL;rw[hL] at H ⊢;clear h hL;by_cases hgt:rows<L
 ·have hgt':(rows:Int)<(L:Int):=by omega
  have HP:Hid (zie l rows size w (.returned (.bool false)) w):=Hd ⟨false,rfl,rfl,(fun h=>by cases h),fun h=>by have:=h.1;rw[HL.out] at this;omega⟩;clear hgt;go_enter Tryz.func21,Tryz.ntmps21;go_wp2;go_ret;exact HP.out
 have hgt':¬(rows:Int)<(L:Int):=by omega
 have HLE:Hid (L≤rows):=Hd (by omega);clear hgt;go_enter Tryz.func21,Tryz.ntmps21;go_wp2;go_loopg [7] L (fun gk i wr=>∃I:Nat,I≤L∧gk=L-I∧i=.int .i64 I∧w=wr∧Hid (∀s∈l.take I,s.d.length≤size))
 case atStart=>exact⟨0,by omega,rfl,rfl,rfl,Hd (by simp)⟩
 case round =>
  obtain⟨I,hI,rfl,rfl,rfl,HG⟩:=hrel;by_cases hlt:I<L
  ·obtain⟨s,hs0⟩:∃s,l[I]? = some s:=⟨_,zE1 (by rw[HL.out];exact hlt)⟩;obtain⟨-,hcap,b,o,rfl,hb,hat⟩:=SRd.at H.out.rd hs0;have c1:w.cell? ⟨b,o+I*2+1,none⟩=some (.slice s.a s.d.length s.cp):=hat 1 _ rfl;obtain⟨m,hm⟩:=zE4 s.d.length;rw[hm] at c1;have HS:=Hd (Zao hs0 hm);have i1:(0:Int)≤(I:Int)∧(I:Int)<(L:Int):=by omega
   clear hat hs0 hm;by_cases hm:size<m
   ·have hm':(size:Int)<(m:Int):=by omega
    have HP:Hid (zie l rows size w (.returned (.bool false)) w):=Hd ⟨false,rfl,rfl,(fun h=>by cases h),fun h=>by have:=h.2 s (Zad HS.out.1);rw[HS.out.2] at this;omega⟩;clear hm;go_wp2;go_ret;exact HP.out
   ·have hm':¬(size:Int)<(m:Int):=by omega
    have HG2:Hid (∀s∈l.take (I+1),s.d.length≤size):=Hd (fun t ht=>by
     rw[Zaz,HS.out.1] at ht;rcases Zba.1 ht with ht|ht
     ·exact HG.out t ht
     ·simp only[Option.toList_some,Zaq] at ht;rw[ht,HS.out.2];omega)
    clear hm;go_wp2;go_roundg (L-(I+1))
    case measure=>omega
    case rel=>exact⟨I+1,by omega,rfl,by go_num,rfl,HG2⟩
  ·obtain rfl:I=L:=by omega
   have HP:Hid (zie l rows size w (.returned (.bool true)) w):=Hd ⟨true,rfl,rfl,fun _=>⟨by rw[HL.out];exact HLE.out,by have:=HG.out;rwa[←HL.out,Zbs] at this⟩,fun _=>rfl⟩;go_wp2;go_ret;exact HP.out
theorem zlw:(Tryz.prog.info? 22).map (fun i=>(i.zero,i.size,i.bytes))=some (some (.slice none 0 0),1,24):=by kernel_rfl
structure Ro where
 a:Option Addr
 cp:Nat
 d:List GF
def Ro.v (s:Ro):Value:=.slice s.a s.d.length s.cp
abbrev zgq (w:World) (B:Nat) (v:Value) (l:List Ro):Prop:=w.ownsRow B 22 1 v l.length (l.map Ro.v)
theorem zgq.nil (w:World) (B:Nat):zgq w B (.slice none 0 0) []:=World.ownsRow_nil _ _ _ _
theorem zgq.kp {S:List Nat} {w w':World} {B:Nat} {v:Value} {l:List Ro} (h:zgq w B v l) (hk:Kp S w w') (hn:za0 v S):zgq w' B v l:=by
 refine⟨h.1,?_⟩;rcases h.2 with h2|⟨g,cap,cur,h1,h2,h3,h4⟩
 ·exact .inl h2
 ·exact .inr ⟨g,cap,cur,h1,h2,hk.heap h3 (hn g (by rw[h1];rfl)),h4⟩
theorem zgq.below {w w':World} {B:Nat} {v:Value} {l:List Ro} (h:zgq w B v l) (hb:Below w.heap.size w w'):zgq w' B v l:=h.kp (S:=[]) (Kp.of_below hb) (fun _ _=>by simp)
theorem yay {W:World} {B:Nat} {V:Value} {l:List Ro} {s:Ro} (h:zgq W B V l) (hl:l.length≤1000000) (hb:B≤W.heap.size) {ad:Nat} (had:ad=W.heap.size) :
  ∃v1 w3,(Builtin.append_ #[33,33] 33 #[V,.slice (some ⟨ad,0,none⟩) 1 1]).run Tryz.prog (W.alloc (.cells #[.slice s.a s.d.length s.cp] 22))=.ok v1 w3 ∧
   zgq w3 B v1 (l++[s])∧Kp V.ownBlock.toList W w3∧Below B W w3∧(v1.ownBlock=V.ownBlock∨v1.ownBlock=some (W.heap.size+1)):=by
 subst had;obtain⟨i0,hi,hz0,hz1,hz2⟩:=info_parts zlw;obtain⟨v1,w3,hap,hown1,hgrow1,-,hat1⟩:=run_append_own_at (P:=Tryz.prog) (w:=W.alloc (.cells #[.slice s.a s.d.length s.cp] 22)) B 33 33 22 i0 (.slice none 0 0) 1 24 Tryz.underlying33 hi hz0 hz1 hz2 rfl (by decide) V l.length _ (h.below ((Zaa _ _).alloc (zE3 _) _)) ⟨W.heap.size,0,none⟩ 1 1 [s.v] (by rfl)
  (cell_one_new _ _ _) (by simp[Ro.v,Value.oneCell']) (by unfold maxLen;omega) (by omega) (by simp;omega)
 refine⟨v1,w3,hap,?_,((Kp.refl _ W).alloc _).grown hgrow1 (fun b hb=>.inl (by rw[hb];simp)),((Zaa B W).alloc hb _).grown hgrow1 (by simp;omega) (fun b hb=>(h.lt b hb).1),by simpa using hat1⟩;unfold zgq;rw[Zaw,Zak];exact hown1
theorem zn2 {s s':Sy} {j:Nat} {u:Value} (hj:j<2) (hc:Sy.cells s'=(Sy.cells s).set j u):∀(l:List Sy) (i:Nat),l[i]? = some s→zb5 Sy.cells (l.set i s')=(zb5 Sy.cells l).set (i*2+j) u
 | [],i,h=>by simp at h
 | t :: l,0,h=>by
  simp only[Zbj,Option.some.injEq] at h;subst h;unfold zb5;rw[List.set_cons_zero,Zbr,Zbr,hc,Nat.zero_mul,Zbe,List.set_append_left _ _ (by rw[Sy.cells_length];exact hj)]
 | t :: l,i+1,h=>by have ih:=zn2 hj hc l i (by simpa using h);unfold zb5 at *;rw[List.set_cons_succ,Zbr,Zbr,ih,List.set_append_right _ _ (by rw[Sy.cells_length];omega),Sy.cells_length,show (i+1)*2+j-2=i*2+j by omega]
theorem zbb.put {w:World} {B g m cap:Nat} {l:List Sy} (h:zbb w B (.slice (some ⟨g,0,none⟩) m cap) l) {i j:Nat} {s s':Sy} {u:Value} (hs:l[i]? = some s) (hj:j<2) (hc:Sy.cells s'=(Sy.cells s).set j u) (hr:s'.rd w) (hn:∀a,s'.a=some a→B≤a.block∧g≠a.block∧a.block<w.heap.size) :
  zbb (w.setCell ⟨g,i*2+j,none⟩ u) B (.slice (some ⟨g,0,none⟩) m cap) (l.set i s')∧Kp [g] w (w.setCell ⟨g,i*2+j,none⟩ u)∧w.frozen? ⟨g,i*2+j,none⟩=false:=by
 obtain⟨hm,-⟩:=h.row.rd.cap_le;subst hm;have hk:Kp [g] w (w.setCell ⟨g,i*2+j,none⟩ u):=(Kp.refl _ _).setCell (.inl (by simp)) _;refine⟨⟨?_,fun t ht=>?_,fun t ht a ha=>?_⟩,hk,World.ownsRow.frozenAt (xs:=zb5 Sy.cells l) (n:=l.length) h.row _⟩
 ·have:=(World.ownsRow.stored (xs:=zb5 Sy.cells l) (n:=l.length) h.row (i*2+j) u).1
  unfold zlf;rw[List.length_set,zn2 hj hc l i hs];exact this
 ·rcases List.mem_or_eq_of_mem_set ht with ht|rfl
  ·refine GRd.kp2 (h.each t ht) hk fun _ k hkk hmm=>?_;cases e:t.a with
   | none=>rw[e] at hkk;simp[Value.ownBlock] at hkk
   | some a =>
    rw[e] at hkk;simp only[Value.ownBlock,Option.some.injEq] at hkk;simp only[Zaq] at hmm;exact (h.new t ht a e).2.1 (by simp[Value.ownBlock,hkk,hmm])
  ·refine GRd.kp2 hr hk fun _ k hkk hmm=>?_;cases e:t.a with
   | none=>rw[e] at hkk;simp[Value.ownBlock] at hkk
   | some a =>
    rw[e] at hkk;simp only[Value.ownBlock,Option.some.injEq] at hkk;simp only[Zaq] at hmm;exact (hn a e).2.1 (by rw[hkk,hmm])
 ·have hsz:=hk.size;rcases List.mem_or_eq_of_mem_set ht with ht|rfl
  ·have:=h.new t ht a ha
   exact⟨this.1,this.2.1,by omega⟩
  ·have:=hn a ha
   exact⟨this.1,by simp[Value.ownBlock];exact this.2.1,by omega⟩
theorem zbb.form0 {w:World} {B m cap:Nat} {a:Option Addr} {l:List Sy} (h:zbb w B (.slice a m cap) l) (hm:0<m):∃g,a=some ⟨g,0,none⟩∧B≤g∧g<w.heap.size∧m≤cap:=by
 rcases h.row.2 with ⟨e,h2⟩|⟨g,cap',cur,e,h2,h3,h4,-⟩
 ·cases e;omega
 ·cases e;exact⟨g,rfl,h2,lOH h3,h4⟩
theorem zbb.at0 {w:World} {B g m cap:Nat} {l:List Sy} (h:zbb w B (.slice (some ⟨g,0,none⟩) m cap) l) {i:Nat} {s:Sy} (hs:l[i]? = some s):w.cell? ⟨g,i*2,none⟩=some (.int .i64 s.node)∧w.cell? ⟨g,i*2+1,none⟩=some (.slice s.a s.d.length s.cp):=by obtain⟨-,-,b,o,e,-,hat⟩:=SRd.at h.row.rd hs;cases e;have h0:=hat 0 _ rfl;have h1:=hat 1 _ rfl;simp only[Zbe,Nat.add_zero] at h0 h1;exact⟨h0,h1⟩
theorem zbb.node {w:World} {B g m cap:Nat} {l:List Sy} (h:zbb w B (.slice (some ⟨g,0,none⟩) m cap) l) {i:Nat} {s:Sy} (hs:l[i]? = some s) (x:Int):zbb (w.setCell ⟨g,i*2,none⟩ (.int .i64 x)) B (.slice (some ⟨g,0,none⟩) m cap) (l.set i ⟨x,s.a,s.cp,s.d⟩)∧Kp [g] w (w.setCell ⟨g,i*2,none⟩ (.int .i64 x))∧w.frozen? ⟨g,i*2,none⟩=false:=by
 have hm:=Zad hs;have:=zbb.put (s':=⟨x,s.a,s.cp,s.d⟩) (j:=0) (u:=.int .i64 x) h hs (by omega) rfl (h.each s hm) (fun a ha=>by
  have:=h.new s hm a ha
  exact⟨this.1,fun e=>this.2.1 (by simp[Value.ownBlock,e]),this.2.2⟩)
 simpa using this
theorem zbb.bytes {w:World} {B g m cap:Nat} {l:List Sy} (h:zbb w B (.slice (some ⟨g,0,none⟩) m cap) l) {i:Nat} {s:Sy} (hs:l[i]? = some s) {a:Option Addr} {n cp:Nat} {d:List GF} (hd:GRd w (.slice a n cp) d) (hn:∀x,a=some x→B≤x.block∧g≠x.block∧x.block<w.heap.size):zbb (w.setCell ⟨g,i*2+1,none⟩ (.slice a n cp)) B (.slice (some ⟨g,0,none⟩) m cap) (l.set i ⟨s.node,a,cp,d⟩)∧Kp [g] w (w.setCell ⟨g,i*2+1,none⟩ (.slice a n cp))∧w.frozen? ⟨g,i*2+1,none⟩=false:=by obtain⟨a',cp',e,-⟩:=hd.form;cases e;exact zbb.put (s':=⟨s.node,a,cp,d⟩) (j:=1) h hs (by omega) rfl hd hn
theorem zox {w:World} {A:Addr} {L cap:Nat} {l:List Sy} (h:zby w (.slice (some A) L cap) l) {i n:Nat} {I:Int} (hI:I=(i:Int)) (hi:i≤l.length) (hn:l.length-i=n) :
  ∃A' c',(∀W:World,(Instr.slice 41 (.slice (some A) L cap) (some (.int .i64 I)) none none).run Tryz.prog W=.ok (.slice (some A') n c') W)∧zby w (.slice (some A') n c') (l.drop i):=by
 subst hn hI;obtain⟨hL,hcap⟩:=h.rd.cap_le;subst hL;have hr:=SRd.cutS h.rd rfl i l.length cap (zE3 _) hi (by omega) (zE3 _);rw[Zbs] at hr;have he:(if cap=i then some A else (some A).map (fun x:Addr=>x.add (i*2)))=some (if cap=i then A else A.add (i*2)):=by split<;>rfl
 have h0:∀W:World,(Instr.slice 41 (.slice (some A) l.length cap) (some (.int .i64 (i:Int))) none none).run Tryz.prog W=.ok (.slice (if cap=i then some A else (some A).map (fun x:Addr=>x.add (i*2))) (l.length-i) (cap-i)) W:=fun W=>by rw[run_slice_l (P:=Tryz.prog) (w:=W) 41 (some A) l.length cap (by kernel_rfl) .i64 (i:Int) (by omega) (by omega),zud];rfl
 have hs:sliced (some A) i l.length cap 2=.slice (if cap=i then some A else (some A).map (fun x:Addr=>x.add (i*2))) (l.length-i) (cap-i):=rfl;rw[hs] at hr;rw[he] at h0 hr;exact⟨_,_,h0,hr,fun s hs=>h.each s (List.mem_of_mem_drop hs)⟩
