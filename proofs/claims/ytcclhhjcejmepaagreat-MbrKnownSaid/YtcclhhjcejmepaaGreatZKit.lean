import Derived.Test.YtcclhhjcejmepaaGreatZNews
import Derived.Sort.Walk7a
import Derived.Test.YtcclhhjcejmepaaGreatZSol
set_option linter.all false
set_option maxRecDepth 100000
set_option maxHeartbeats 2000000
namespace Go.Proofs.YtcclhhjcejmepaaGreat
open Go.RowKit
theorem zr5 (u v:Value) (l m:List Nat) (w:World) (hu:zat w u l) (hv:zat w v m) :
  Calls Tryz.prog 20 #[u,v] w fun e w'=>e=.returned (.bool (decide (l=m)))∧w=w':=by
 have cu:=hu.conv
 have cv:=hv.conv
 have hd:decide (l=m)=decide (za1 l=za1 m):=by rw[decide_eq_decide];exact (zdk hu.1 hv.1).symm
 rw[hd];clear hd hu hv;go_enter Tryz.func20,Tryz.ntmps20;go_wp2;go_ret;refine⟨?_,rfl⟩;rw[ByteArray.toList_eq,ByteArray.toList_eq];by_cases h:za1 l=za1 m
 ·rw[decide_eq_true h,h];simp
 ·rw[decide_eq_false h];have:(za1 l).data.toList≠(za1 m).data.toList:=fun e=>h (by
   have e2:(za1 l).data=(za1 m).data:=Array.toList_inj.1 e;cases h1:za1 l;cases h2:za1 m;rw[h1,h2] at e2;simp only at e2;rw[e2])
  rw[beq_false_of_ne this];rfl
open Fld
def gl (l:List Nat):List GF:=l.map fun x=>⟨x % 256,Zck _ (by omega)⟩
theorem GRd.lit {W:World} {b:Nat} {t:TypeId} (l:List GF) (h:W.heap[b]? = some (.cells (gv l).toArray t (0,0))) {n:Nat} (hn:l.length=n):GRd W (.slice (some ⟨b,0,none⟩) n n) l:=by
 subst hn;refine⟨fun x hx=>?_,some ⟨b,0,none⟩,l.length,by simp,by simp,fun hne=>⟨b,0,rfl,lOH h,fun i hi=>?_⟩⟩
 ·obtain⟨y,_,rfl⟩:=Zau.1 hx;exact y.lt
 ·simp at hi;rw[cell_of_row _ _ _ _ _ (0,0) h];simp[gv,hi]
theorem IRd.lit {W:World} {b:Nat} {t:TypeId} (l:List Int) (h:W.heap[b]? = some (.cells (l.map (Value.int .i64)).toArray t (0,0))) {n:Nat} (hn:l.length=n):IRd W (.slice (some ⟨b,0,none⟩) n n) l:=by subst hn;refine IRd.mk (zE3 _) (lOH h) fun i x hx=>?_;rw[cell_of_row _ _ _ _ _ (0,0) h];simp[hx]
theorem zus (u v:Value) (l m:List GF) (w:World) (hu:GRd w u l) (hv:GRd w v m) :
  Calls Tryz.prog 20 #[u,v] w fun e w'=>e=.returned (.bool (decide (l=m)))∧w=w':=by
 have:=zr5 u v _ _ w hu hv
 rwa[decide_eq_decide.2 (⟨zeu,fun h=>by rw[h]⟩:l.map GF.n=m.map GF.n↔l=m)] at this
def za9 (n:Nat):List GF:=(List.range n).map (GF.pown GF.two)
theorem zbd (n:Nat):(za9 n).length=n:=by simp[za9]
theorem zay {n:Nat} (hn:n≤255):(za9 n).Nodup:=by refine Zbz.2 (List.nodup_range.imp_of_mem fun {a b} ha hb hne e=>hne ?_);have:=Zaj.1 ha;have:=Zaj.1 hb;exact GF.log_inj (by omega) (by omega) e
theorem zpl (l:List GF) (x:GF):gv (l++[x])=gv l++[.int .u8 (x.n:Nat)]:=by simp[gv]
theorem zy7 {w w':World} {row:Option Nat} (h:w.grownBy w' row):Kp row.toList w w':=(Kp.refl _ w).grown h (fun b hb=>.inl (by rw[hb];simp))
theorem zme:(Tryz.prog.info? 3).map (fun i=>(i.zero,i.size,i.bytes))=some (some (.int .i64 0),1,8):=by kernel_rfl
abbrev za4 (w:World) (B:Nat) (v:Value) (l:List Int):Prop:=w.ownsRow B 3 1 v l.length (l.map (Value.int .i64))
theorem za4.rd {w:World} {B:Nat} {v:Value} {l:List Int} (h:za4 w B v l):IRd w v l:=IRd.of_owns h
theorem za4.nil (w:World) (B:Nat):za4 w B (.slice none 0 0) []:=World.ownsRow_nil _ _ _ _
theorem za4.kp {S:List Nat} {w w':World} {B:Nat} {v:Value} {l:List Int} (h:za4 w B v l) (hk:Kp S w w') (hn:za0 v S):za4 w' B v l:=by
 rcases h.2 with ⟨rfl,h2⟩|⟨g,cap,cur,rfl,h2,h3,h4⟩
 ·exact⟨h.1,.inl ⟨rfl,h2⟩⟩
 ·exact⟨h.1,.inr ⟨g,cap,cur,rfl,h2,hk.heap h3 (hn g rfl),h4⟩⟩
theorem za4.below {w w':World} {B:Nat} {v:Value} {l:List Int} (h:za4 w B v l) (hb:Below w.heap.size w w'):za4 w' B v l:=h.kp (S:=[]) (Kp.of_below hb) (fun _ _=>by simp)
theorem za4.mono {w:World} {B B':Nat} {v:Value} {l:List Int} (h:za4 w B v l) (hb:B'≤B):za4 w B' v l:=by
 rcases h.2 with ⟨rfl,h2⟩|⟨g,cap,cur,rfl,h2,h3⟩
 ·exact⟨h.1,.inl ⟨rfl,h2⟩⟩
 ·exact⟨h.1,.inr ⟨g,cap,cur,rfl,Zat hb h2,h3⟩⟩
theorem ya4 (m k:Nat) (hm:m<18446744073709551616):(bits .and .u64 ((m:Int) / 2 ^ k) 1 == 1)=m.testBit k:=by
 have h:((m:Int) / 2 ^ k)=((m / 2 ^ k:Nat):Int):=by simp
 have h2:m / 2 ^ k<18446744073709551616:=Nat.lt_of_le_of_lt (Nat.div_le_self _ _) hm;have h3:=bits_and_u64_nat (m / 2 ^ k) 1 h2 (by omega);rw[h];rw[show ((1:Nat):Int)=1 from rfl] at h3;rw[h3,Nat.and_one_is_mod,Nat.testBit_eq_decide_div_mod_eq];by_cases hh:m / 2 ^ k % 2=1
 ·simp[hh]
 ·simp only[hh,decide_false,beq_eq_false_iff_ne];omega
def zho (n:Nat) (l:List Nat):Prop:=l.Pairwise (· < ·)∧∀x∈l,x<n
theorem zho.mono {n m:Nat} {l:List Nat} (h:zho n l) (hm:n≤m):zho m l:=⟨h.1,fun x hx=>Zaf (h.2 x hx) hm⟩
theorem zho.nodup {n:Nat} {l:List Nat} (h:zho n l):l.Nodup:=h.1.imp fun h e=>by omega
theorem zho.len {n:Nat} {l:List Nat} (h:zho n l):l.length≤n:=by
 have:=(List.nodup_range (n:=n)).length_le_of_subset (l₂:=l)
 exact Nat.le_of_not_lt fun hlt=>by have h2:=h.nodup.length_le_of_subset (l₂:=List.range n) (fun x hx=>Zaj.2 (h.2 x hx));rw[Zbg] at h2;omega
def za6 (l:List Nat):List Int:=l.map fun (x:Nat)=>(x:Int)
theorem zbv (l:List Nat):(za6 l).length=l.length:=by simp[za6]
def zj9 (C:Nat) (r:Nat→GF):List Value:=(List.range C).map fun k=>.int .u8 (((r k).n:Nat):Int)
theorem zas (C:Nat) (r:Nat→GF):(zj9 C r).length=C:=by simp[zj9]
theorem zlx (C:Nat) (r:Nat→GF) {k:Nat} (hk:k<C):(zj9 C r)[k]? = some (.int .u8 (((r k).n:Nat):Int)):=by simp[zj9,hk]
theorem zqe (C:Nat) (r:Nat→GF):∀v∈zj9 C r,v.oneCell'=true:=by intro v hv;obtain⟨k,_,rfl⟩:=Zau.1 hv;rfl
theorem zfj {S:List Nat} (b:Nat) (hb:b∈S):∀(vs:List Value) (o:Nat) (w:World),Kp S w (w.setCells b o vs)
 | [],_,w=>Kp.refl _ _
 | v :: r,o,w=>((Kp.refl S w).setCell (p:=⟨b,o,none⟩) (.inl hb) v).trans (zfj b hb r (o+1) _)
theorem zri (b o j:Nat):(⟨b,o,none⟩:Addr).add j=⟨b,o+j,none⟩:=by unfold Addr.add;split<;>simp_all
theorem zls {P:Program} {W:World} {gb N:Nat} {g:Nat→GF} (h:zag W gb N g) {o C:Nat} (ho:o+C≤N) {sb so c1 c2:Nat} (r:Nat→GF) (hs:∀k,k<C→W.cell? ⟨sb,so+k,none⟩=some (.int .u8 (((r k).n:Nat):Int)))
  (dT sT ty elem:TypeId) (hu:P.underlying dT=some (.slice elem)) (hz:(P.info? elem).map (·.size)=some 1) :
  (Builtin.copy_ #[dT,sT] ty #[.slice (some ⟨gb,o,none⟩) C c1,.slice (some ⟨sb,so,none⟩) C c2]).run P W=.ok (.int .i64 (C:Nat)) (W.setCells gb o (zj9 C r)) ∧
   zag (W.setCells gb o (zj9 C r)) gb N (fun j=>if o≤j∧j<o+C then r (j-o) else g j)∧Kp [gb] W (W.setCells gb o (zj9 C r)):=by
 have hk:Kp [gb] W (W.setCells gb o (zj9 C r)):=zfj gb (by simp) _ _ _;refine⟨?_,⟨Zaf h.1 hk.size,fun j hj=>⟨?_,?_⟩⟩,hk⟩
 ·have:=run_copy_cells (P:=P) W dT sT ty elem gb o C c1 ⟨sb,so,none⟩ C c2 (zj9 C r) hu hz (by rw[zas];simp) (fun j v hj=>by
   have hjC:j<C:=by have:=(Zah.1 hj).1;rwa[zas] at this
   rw[zlx C r hjC] at hj;cases hj;rw[zri];exact hs j hjC) (fun j hj=>by
   rw[zas] at hj;rw[(h.2 (o+j) (by omega)).1];rfl) (fun j hj=>by
   rw[zas] at hj;exact (h.2 (o+j) (by omega)).2) (zqe C r)
  rw[this,zas];rfl
 ·by_cases e:o≤j∧j<o+C
  ·dsimp only;rw[if_pos e];obtain⟨k,rfl⟩:∃k,j=o+k:=⟨j-o,by omega⟩;have hkC:k<C:=by omega
   have:=World.cell?_setCells_in gb (zj9 C r) o W (fun i hi=>by
    rw[zas] at hi;rw[(h.2 (o+i) (by omega)).1];rfl) k (by rw[zas];exact hkC)
   rw[this,show o+k-o=k from by omega];have h2:=zlx C r hkC;rw[zE1 (by rw[zas];exact hkC)] at h2;exact h2
  ·dsimp only;rw[if_neg e,World.cell?_setCells_out gb (zj9 C r) o W ⟨gb,j,none⟩ (fun _ _=>by rw[zas];show j<o∨o+C≤j;omega)];exact (h.2 j hj).1
 ·rw[World.frozen?_setCells];exact (h.2 j hj).2
noncomputable def znz (b:List GF) (n:Nat):List GF:=(List.range n).map fun i=>b.getD i 0
theorem zny (b:List GF) (n:Nat):(znz b n).length=n:=by simp[znz]
theorem zj8 {P:Program} {W:World} {gb N:Nat} {g:Nat→GF} (h:zag W gb N g) {C sb so sL c1 c2:Nat} (hC:C=Nat.min sL N) (r:Nat→GF) (hs:∀k,k<C→W.cell? ⟨sb,so+k,none⟩=some (.int .u8 (((r k).n:Nat):Int)))
  (dT sT ty elem:TypeId) (hu:P.underlying dT=some (.slice elem)) (hz:(P.info? elem).map (·.size)=some 1) :
  (Builtin.copy_ #[dT,sT] ty #[.slice (some ⟨gb,0,none⟩) N c1,.slice (some ⟨sb,so,none⟩) sL c2]).run P W=.ok (.int .i64 (C:Nat)) (W.setCells gb 0 (zj9 C r)) ∧
   zag (W.setCells gb 0 (zj9 C r)) gb N (fun j=>if j<C then r j else g j)∧Kp [gb] W (W.setCells gb 0 (zj9 C r)):=by
 have hk:Kp [gb] W (W.setCells gb 0 (zj9 C r)):=zfj gb (by simp) _ _ _;have hCN:C≤N:=by rw[hC];exact Nat.min_le_right _ _
 refine⟨?_,⟨Zaf h.1 hk.size,fun j hj=>⟨?_,?_⟩⟩,hk⟩
 ·have:=run_copy_cells (P:=P) W dT sT ty elem gb 0 N c1 ⟨sb,so,none⟩ sL c2 (zj9 C r) hu hz (by rw[zas];exact hC) (fun j v hj=>by
   have hjC:j<C:=by have:=(Zah.1 hj).1;rwa[zas] at this
   rw[zlx C r hjC] at hj;cases hj;rw[zri];exact hs j hjC) (fun j hj=>by
   rw[zas] at hj;rw[(h.2 (0+j) (by omega)).1];rfl) (fun j hj=>by
   rw[zas] at hj;exact (h.2 (0+j) (by omega)).2) (zqe C r)
  rw[this,zas];rfl
 ·by_cases e:j<C
  ·dsimp only;rw[if_pos e];have:=World.cell?_setCells_in gb (zj9 C r) 0 W (fun i hi=>by
    rw[zas] at hi;rw[(h.2 (0+i) (by omega)).1];rfl) j (by rw[zas];exact e)
   rw[Zbe] at this;rw[this];have h2:=zlx C r e;rw[zE1 (by rw[zas];exact e)] at h2;exact h2
  ·dsimp only;rw[if_neg e,World.cell?_setCells_out gb (zj9 C r) 0 W ⟨gb,j,none⟩ (fun _ _=>by rw[zas];show j<0∨0+C≤j;omega)];exact (h.2 j hj).1
 ·rw[World.frozen?_setCells];exact (h.2 j hj).2
theorem zag.full {w:World} {g n:Nat} {b:List GF} (h:zag w g n (fun i=>b.getD i 0)):GRd w (.slice (some ⟨g,0,none⟩) n n) (znz b n):=by
 have:=h.rd (o:=0) (m:=n) (by omega) (zE3 n)
 unfold znz;simpa using this
def zon (b:List GF) (n:Nat) (w:World) (e:Ending) (w':World):Prop :=
 ∃g,e=.returned (.slice (some ⟨g,0,none⟩) n n)∧w.heap.size≤g∧zag w' g n (fun i=>b.getD i 0)∧GRd w' (.slice (some ⟨g,0,none⟩) n n) (znz b n)∧Below w.heap.size w w'
theorem znt (v:Value) (b:List GF) (n:Nat) (w:World) (h:GRd w v b) (hn:n≤1000000) :
  Calls Tryz.prog 29 #[v,.int .i64 n] w (zon b n w):=by
 obtain⟨a,cap,rfl,hcap⟩:=h.form;obtain⟨i0,hi,hz0,hz1,hz2⟩:=info_parts zbi;have hmk:∀W,(Instr.makeSlice 22 (.int .i64 n) (.int .i64 n)).run Tryz.prog W=.ok (.slice (some ⟨W.heap.size,0,none⟩) n n) (W.alloc (.cells (Array.replicate n (.int .u8 0)) 5)):=fun W =>
  zb4 W 22 5 i0 (.int .u8 0) Tryz.underlying22 hi hz0 hz1 rfl n (by rw[hz2];omega) (by unfold maxLen;omega)
 have hh:(w.alloc (.cells (Array.replicate n (.int .u8 0)) 5)).heap[w.heap.size]? = some (.cells (Array.replicate n (.int .u8 0)) 5 (0,0)):=nwA _ _;have hv0:zag (w.alloc (.cells (Array.replicate n (.int .u8 0)) 5)) w.heap.size n (fun _=>0):=⟨lOH hh,fun j hj=>⟨by
  rw[cell_of_row _ _ _ _ _ (0,0) hh];simp[hj];rfl,fOH hh j⟩⟩
 have hz:(Tryz.prog.info? 5).map (·.size)=some 1:=by kernel_rfl
 have hb1:Below w.heap.size w (w.alloc (.cells (Array.replicate n (.int .u8 0)) 5)):=(Zaa _ _).alloc (zE3 _) _;have h1:=h.below hb1;have hfin:∀W',zag W' w.heap.size n (fun i=>b.getD i 0)→Below w.heap.size w W'→zon b n w (.returned (.slice (some ⟨w.heap.size,0,none⟩) n n)) W':=fun W' hv hbb=>by refine⟨_,rfl,zE3 _,hv,?_,hbb⟩;have:=hv.rd (o:=0) (m:=n) (by omega) (zE3 n);unfold znz;simpa using this
 have HFIN:=Hd hfin;have HV0:=Hd hv0;have HB1:=Hd hb1;by_cases hm:Nat.min b.length n=0
 ·have hcp:=fun a' cap' c1=>run_copy_none (P:=Tryz.prog) (w.alloc (.cells (Array.replicate n (.int .u8 0)) 5)) 22 22 3 5 (some ⟨w.heap.size,0,none⟩) a' n c1 b.length cap' Tryz.underlying22 hz hm;have hlast:zag (w.alloc (.cells (Array.replicate n (.int .u8 0)) 5)) w.heap.size n (fun i=>b.getD i 0):=hv0.congr fun j hj=>by
   have:b=[]:=Zbc (by
    rcases Nat.eq_zero_or_pos b.length with h|h
    ·exact h
    ·have:=Nat.min_eq_zero_iff.1 hm
     omega)
   rw[this];rfl
  have HL:=Hd hlast;clear h h1 hi hz0 hz1 hz2 hh hv0 hz hfin hlast hm;go_enter Tryz.func29,Tryz.ntmps29;go_wp2;go_ret;exact HFIN.out _ HL.out HB1.out
 ·obtain⟨b',o',rfl,hbw,hc⟩:∃b' o',a=some ⟨b',o',none⟩∧b'<w.heap.size∧True:=by
   obtain⟨x,hx⟩:∃x,b[0]? = some x:=⟨_,zE1 (Nat.pos_of_ne_zero fun e=>hm (by rw[e];exact Nat.zero_min _))⟩;obtain⟨b',o',e,hb',_⟩:=h.at hx;exact⟨b',o',e,hb',trivial⟩
  obtain⟨hr,hv2,hk2⟩:=zj8 (P:=Tryz.prog) hv0 (C:=Nat.min b.length n) (sb:=b') (so:=o') (sL:=b.length) (c1:=n) (c2:=cap) rfl (fun i=>b.getD i 0) (fun k hk=>by
   have hkb:k<b.length:=Zaf hk (Nat.min_le_left _ _);obtain⟨b2,o2,e2,_,hcc⟩:=h1.at (zE1 hkb);cases e2;rw[hcc,zE2,zE1 hkb];rfl) 22 22 3 5 Tryz.underlying22 hz
  have hlast:=hv2.congr (g':=fun i=>b.getD i 0) fun j hj=>by
   by_cases e:j<Nat.min b.length n
   ·simp only[if_pos e]
   ·simp only[if_neg e];rw[zE2,Zbm (by
     rcases Zcf j b.length with h|h
     ·exact absurd (Nat.lt_min.2 ⟨h,hj⟩) e
     ·exact h)]
    rfl
  have HL:=Hd hlast;have HK2:=Hd hk2;clear h h1 hi hz0 hz1 hz2 hh hv0 hz hfin hlast hm hv2 hk2;go_enter Tryz.func29,Tryz.ntmps29;go_wp2;go_ret;exact HFIN.out _ HL.out (HB1.out.trans (HK2.out.below (by simp) (by simp)))
section
variable {P:Program}
theorem zai {w0:World} {keep:Nat→Prop} {Q:Act→World→Prop} {c:Bool} {a:Act} {w:World} {o:SOp} {rest:STr} (s x:Operand) (t:TypeId)
  (ho:o.op=.call { callee:=.builtin .append,args:=#[s,x],argTypes:=#[t,t] }) (hg:o.guard=none) (hc:c=true) {V X v:Value} {w3:World} (hs:a.eval s=V) (hx:a.eval x=X)
  (hr:(Builtin.append_ #[t,t] o.type #[V,X]).run P w=.ok v w3) (hcls:∀k,keep k→w3.heap[k]? = w0.heap[k]?) (h:zan P w0 keep Q rest (a.put o.dst v) w3):zan P w0 keep Q (.step c o rest) a w:=by
 refine w_S (fun K hK=>?_);subst hc;have hwt:o.wanted a=true:=by unfold SOp.wanted;rw[hg]
 rw[if_pos hwt,if_pos rfl];unfold zbz execOp;simp only[SOp.oper,ho,resolve,invoke,builtin,Sem.run_bind,Sem.run_pure,Result.andThen_ok,List.map_toArray,List.map_cons,List.map_nil,hs,hx,hr];exact⟨hcls,hK _ _ h⟩
theorem zae {ops:Array Oper} {rest:List Oper} {o:Oper} {a:Act} {w:World} {Q:Exit→Act→World→Prop} (hgd:o.guard=none) (s x:Operand) (t:TypeId)
  (ho:o.op=.call { callee:=.builtin .append,args:=#[s,x],argTypes:=#[t,t] }) {V X v:Value} {w3:World} (hs:a.eval s=V) (hx:a.eval x=X)
  (hr:(Builtin.append_ #[t,t] o.type #[V,X]).run P w=.ok v w3) (h:wpList P ops Q rest (a.put o.dst v) w3):wpList P ops Q (o :: rest) a w:=by
 refine wpList_plain hgd fun _ hK=>?_;unfold Oper.wp execOp;simp only[ho,resolve,invoke,builtin,Sem.run_bind,Sem.run_pure,Result.andThen_ok,List.map_toArray,List.map_cons,List.map_nil,hs,hx,hr];exact hK _ _ h
end
theorem zcb {W:World} {base:Nat} {V:Value} {l:List GF} (x:GF) (h:zao W base V l) (hl:l.length≤1000000) (hb:base≤W.heap.size) {n:Nat} (hn:x.n=n) {ad:Nat} (had:ad=W.heap.size) :
  ∃v1 w3,(Builtin.append_ #[22,22] 22 #[V,.slice (some ⟨ad,0,none⟩) 1 1]).run Tryz.prog (W.alloc (.cells #[.int .u8 (n:Int)] 5))=.ok v1 w3 ∧
   zao w3 base v1 (l++[x])∧Kp V.ownBlock.toList W w3∧Below base W w3∧(v1.ownBlock=V.ownBlock∨v1.ownBlock=some (W.heap.size+1)):=by
 subst hn;subst had;obtain⟨i0,hi,hz0,hz1,hz2⟩:=info_parts zbi;obtain⟨v1,w3,hap,hown1,hgrow1,-,hat1⟩:=run_append_own_at (P:=Tryz.prog) (w:=W.alloc (.cells #[.int .u8 (x.n:Int)] 5)) base 22 22 5 i0 (.int .u8 0) 1 1 Tryz.underlying22 hi hz0 hz1 hz2 rfl (by decide) V l.length _ (World.ownsRow.alloc h _) ⟨W.heap.size,0,none⟩ 1 1 [.int .u8 (x.n:Int)] rfl (cell_one_new _ _ _) (by simp[Value.oneCell']) (by unfold maxLen;omega) (by omega) (by simp;omega);refine⟨v1,w3,hap,?_,?_,?_,by simpa using hat1⟩
 ·unfold zao;rw[zpl,Zak];exact hown1
 ·exact ((Kp.refl _ W).alloc _).grown hgrow1 (fun b hb=>.inl (by rw[hb];simp))
 ·exact ((Zaa base W).alloc hb _).grown hgrow1 (by simp;omega) (fun b hb=>(h.lt b hb).1)
theorem zdf {W:World} {base:Nat} {V:Value} {l:List Int} (x:Int) (h:za4 W base V l) (hl:l.length≤1000000) (hb:base≤W.heap.size) {ad:Nat} (had:ad=W.heap.size) :
  ∃v1 w3,(Builtin.append_ #[44,44] 44 #[V,.slice (some ⟨ad,0,none⟩) 1 1]).run Tryz.prog (W.alloc (.cells #[.int .i64 x] 3))=.ok v1 w3 ∧
   za4 w3 base v1 (l++[x])∧Kp V.ownBlock.toList W w3∧Below base W w3∧(v1.ownBlock=V.ownBlock∨v1.ownBlock=some (W.heap.size+1)):=by
 subst had;obtain⟨i0,hi,hz0,hz1,hz2⟩:=info_parts zme;obtain⟨v1,w3,hap,hown1,hgrow1,-,hat1⟩:=run_append_own_at (P:=Tryz.prog) (w:=W.alloc (.cells #[.int .i64 x] 3)) base 44 44 3 i0 (.int .i64 0) 1 8 Tryz.underlying44 hi hz0 hz1 hz2 rfl (by decide) V l.length _ (World.ownsRow.alloc h _) ⟨W.heap.size,0,none⟩ 1 1 [.int .i64 x] rfl (cell_one_new _ _ _) (by simp[Value.oneCell']) (by unfold maxLen;omega) (by omega) (by simp;omega);refine⟨v1,w3,hap,?_,?_,?_,by simpa using hat1⟩
 ·unfold za4;rw[Zaw,Zak];exact hown1
 ·exact ((Kp.refl _ W).alloc _).grown hgrow1 (fun b hb=>.inl (by rw[hb];simp))
 ·exact ((Zaa base W).alloc hb _).grown hgrow1 (by simp;omega) (fun b hb=>(h.lt b hb).1)
