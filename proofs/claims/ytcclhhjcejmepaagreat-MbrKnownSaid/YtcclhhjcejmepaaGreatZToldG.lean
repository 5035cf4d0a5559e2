import Derived.Test.YtcclhhjcejmepaaGreatZOwnSyG
import Derived.Test.YtcclhhjcejmepaaGreatZRefsA
set_option linter.all false
set_option maxRecDepth 100000
set_option maxHeartbeats 8000000
namespace Go.Proofs.YtcclhhjcejmepaaGreat
open Go.RowKit Fld
def smL (bs n:Nat):List Nat:=(List.range n).filter fun i=>decide (i<64) && bs.testBit i
theorem zlo (bs n:Nat):smL bs (n+1)=if (decide (n<64) && bs.testBit n)=true then smL bs n++[n] else smL bs n:=by
 unfold smL;rw[Zbh,Zcj];by_cases h:(decide (n<64) && bs.testBit n)=true
 ·rw[if_pos h];simp only[Zby,List.filter_nil];rw[if_pos h]
 ·rw[if_neg h];simp only[Zby,List.filter_nil];rw[if_neg h,Zal]
theorem zp6 {bs m:Nat} (h:64≤m):∀k,smL bs (m+k)=smL bs m
 | 0=>rfl
 | k+1=>by rw[←Nat.add_assoc,zlo,if_neg (by simp;intro h2;omega),zp6 h k]
theorem zh0 (bs n:Nat):zho n (smL bs n):=by refine⟨?_,fun x hx=>Zaj.1 (Zbk.1 hx).1⟩;exact List.Pairwise.filter _ List.pairwise_lt_range
theorem ybg (bs n:Nat):(smL bs n).length≤n:=(zh0 bs n).len
def tlL (tu:Bool) (l:List Nat):List Nat:=if tu then l.reverse else l
theorem zll (tu:Bool) (l:List Nat):(tlL tu l).length=l.length:=by cases tu<;>simp[tlL]
theorem zt6 (tu:Bool) (l:List Nat) (x:Nat):x∈tlL tu l↔x∈l:=by cases tu<;>simp[tlL]
theorem zt5 (tu:Bool) {l:List Nat} (h:l.Nodup):(tlL tu l).Nodup:=by
 cases tu
 ·exact h
 ·exact List.pairwise_reverse.2 (h.imp fun h e=>h e.symm)
def bad (D:List (List GF)) (s:Sy):Bool:=decide (s.d≠D.getD s.node.toNat [])
def zhu (D:List (List GF)) (l:List Sy) (j:Nat):List Int:=(l.filter fun s=>decide (s.node=(j:Int)) && bad D s).map fun _=>(j:Int)
def oth (D:List (List GF)) (l:List Sy):Nat→List Int
 | 0=>[]
 | n+1=>oth D l n++zhu D l n
theorem zqq (D:List (List GF)) (j:Nat) (l:List Sy):zhu D (l.take 0) j=[]:=rfl
theorem znk {D:List (List GF)} {l:List Sy} {I j:Nat} {s:Sy} (hs:l[I]? = some s):zhu D (l.take (I+1)) j=if (decide (s.node=(j:Int)) && bad D s)=true then zhu D (l.take I) j++[(j:Int)] else zhu D (l.take I) j:=by
 unfold zhu;rw[Zaz,hs,Zcj,Zaw];by_cases h:(decide (s.node=(j:Int)) && bad D s)=true
 ·rw[if_pos h];simp only[Option.toList_some,Zby,List.filter_nil];rw[if_pos h];rfl
 ·rw[if_neg h];simp only[Option.toList_some,Zby,List.filter_nil];rw[if_neg h];simp
theorem zqr (D:List (List GF)) (l:List Sy) (j:Nat):(zhu D l j).length≤l.length:=by unfold zhu;rw[Zag];exact Zce _ _
theorem zk4 {α:Type} (p q r:α→Bool) (h:∀x,r x=(p x || q x)) (hn:∀x,(p x && q x)=false):∀l:List α,(l.filter r).length=(l.filter p).length+(l.filter q).length
 | []=>rfl
 | x :: l=>by have ih:=zk4 p q r h hn l;have h1:=h x;have h2:=hn x;cases hp:p x<;>cases hq:q x<;>rw[hp,hq] at h1 h2<;>simp at h1 h2<;>simp[Zby,hp,hq,h1,ih]<;>omega
theorem zve (D:List (List GF)) (l:List Sy):∀n,(oth D l n).length=(l.filter fun s=>decide (0≤s.node∧s.node<(n:Int)) && bad D s).length
 | 0=>by
  rw[show oth D l 0=[] from rfl];have:(l.filter fun s=>decide (0≤s.node∧s.node<((0:Nat):Int)) && bad D s)=[]:=List.filter_eq_nil_iff.2 fun s _=>by
   have:¬(0≤s.node∧s.node<((0:Nat):Int)):=by omega
   rw[decide_eq_false this,Bool.false_and];simp
  rw[this];rfl
 | n+1=>by
  rw[show oth D l (n+1)=oth D l n++zhu D l n from rfl,Zak,zve D l n];unfold zhu;rw[Zag];refine (zk4 _ _ _ (fun s=>?_) (fun s=>?_) l).symm
  ·have:(0≤s.node∧s.node<((n+1:Nat):Int))↔(0≤s.node∧s.node<(n:Int))∨s.node=(n:Int):=by omega
   rw[decide_eq_decide.2 this,Bool.decide_or];cases decide (0≤s.node∧s.node<(n:Int))<;>cases decide (s.node=(n:Int))<;>cases bad D s<;>rfl
  ·by_cases h:s.node=(n:Int)
   ·have:¬(0≤s.node∧s.node<(n:Int)):=by omega
    simp only[decide_eq_false this];simp
   ·simp only[decide_eq_false h];simp
theorem zfc {α:Type} {p q:α→Bool} (h:∀x,p x=true→q x=true):∀l:List α,(l.filter p).length≤(l.filter q).length
 | []=>zE3 _
 | x :: l=>by
  have ih:=zfc h l;cases hp:p x
  ·cases hq:q x<;>simp[Zby,hp,hq]<;>omega
  ·simp[Zby,hp,h x hp];exact ih
theorem zo8 (D:List (List GF)) (l:List Sy) (n:Nat):(oth D l n).length≤(l.filter (bad D)).length:=by rw[zve];exact zfc (fun s h=>by simp only[Zay] at h;exact h.2) l
theorem zl4 {D:List (List GF)} {l:List Sy} {x:Int}:∀{n:Nat},x∈oth D l n↔∃s∈l,s.node=x∧(0≤x∧x<(n:Int))∧bad D s=true
 | 0=>by
  constructor
  ·intro h;cases h
  ·rintro ⟨s,_,_,h,_⟩;omega
 | n+1=>by
  rw[show oth D l (n+1)=oth D l n++zhu D l n from rfl,Zba,zl4];unfold zhu;rw[Zau];constructor
  ·rintro (⟨s,h1,h2,h3,h4⟩|⟨s,h1,rfl⟩)
   ·exact⟨s,h1,h2,by omega,h4⟩
   ·rw[Zbk,Zay,decide_eq_true_eq] at h1;exact⟨s,h1.1,h1.2.1,by omega,h1.2.2⟩
  ·rintro ⟨s,h1,h2,h3,h4⟩;by_cases h:x<(n:Int)
   ·exact .inl ⟨s,h1,h2,by omega,h4⟩
   ·exact .inr ⟨s,by rw[Zbk,Zay,decide_eq_true_eq];exact⟨h1,by omega,h4⟩,by omega⟩
theorem zyp {D:List (List GF)} {l:List Sy} (h:(Sy.nodes l).Nodup) (j:Nat):(zhu D l j).length≤1:=by
 unfold zhu;rw[Zag]
 induction l with
 | nil=>simp
 | cons s l ih =>
  unfold Sy.nodes at h;rw[List.map_cons,List.nodup_cons] at h;by_cases hp:(decide (s.node=(j:Int)) && bad D s)=true
  ·have hz:(l.filter fun s=>decide (s.node=(j:Int)) && bad D s)=[]:=List.filter_eq_nil_iff.2 fun t ht hb=>by
    simp only[Zay,decide_eq_true_eq] at hb hp;exact h.1 (Zau.2 ⟨t,ht,by rw[hb.1,hp.1]⟩)
   rw[List.filter_cons_of_pos (p:=fun s=>decide (s.node=(j:Int)) && bad D s) hp,hz];simp
  ·rw[List.filter_cons_of_neg (p:=fun s=>decide (s.node=(j:Int)) && bad D s) hp];exact ih h.2
theorem zl3 {D:List (List GF)} {l:List Sy} (h:(Sy.nodes l).Nodup):∀n,(oth D l n).Pairwise (· < ·)
 | 0=>List.Pairwise.nil
 | n+1=>by
  rw[show oth D l (n+1)=oth D l n++zhu D l n from rfl,List.pairwise_append];refine⟨zl3 h n,?_,fun a ha b hb=>?_⟩
  ·have h1:=zyp (D:=D) h n
   match e:zhu D l n with
   | []=>exact List.Pairwise.nil
   | [x]=>exact List.pairwise_singleton _ _
   | x :: y :: r=>rw[e] at h1;simp at h1
  ·obtain⟨s,_,_,h3,_⟩:=zl4.1 ha;unfold zhu at hb;obtain⟨t,_,rfl⟩:=Zau.1 hb;omega
theorem zd4 {α:Type} (p:α→Bool) (x:α):∀(l:List α) (r:Nat),((l.set r x).filter p).length≤(l.filter p).length+1
 | [],r=>by simp
 | y :: l,0=>by
  rw[List.set_cons_zero];cases hx:p x<;>cases hy:p y<;>simp[Zby,hx,hy]<;>omega
 | y :: l,r+1=>by have ih:=zd4 p x l r;rw[List.set_cons_succ];cases hy:p y<;>simp[Zby,hy]<;>omega
structure zel (D:List (List GF)) (t:Nat) (l:List Sy) (zs:List Int):Prop where
 good:zbc D.length (Sy.nodes l)
 len:∀s∈l,s.d.length=(D.getD s.node.toNat []).length
 rise:zs.Pairwise (· < ·)
 mem:∀x,x∈zs↔∃s∈l,s.node=x∧s.d≠D.getD s.node.toNat []
 few:zs.length≤t
theorem zel.of {D:List (List GF)} {t:Nat} {l:List Sy} (h1:zbc D.length (Sy.nodes l)) (h2:∀s∈l,s.d.length=(D.getD s.node.toNat []).length) (h3:(l.filter (bad D)).length≤t):zel D t l (oth D l D.length):=by
 refine⟨h1,h2,zl3 h1.2 _,fun x=>?_,Zat (zo8 _ _ _) h3⟩;rw[zl4];constructor
 ·rintro ⟨s,hs,h4,h5,h6⟩;unfold bad at h6;exact⟨s,hs,h4,of_decide_eq_true h6⟩
 ·rintro ⟨s,hs,h4,h5⟩;have:=h1.1 _ (Zau.2 ⟨s,hs,h4⟩);exact⟨s,hs,h4,this,decide_eq_true h5⟩
def ze3 (bs n:Nat) (w:World) (e:Ending) (w':World):Prop :=
 ∃v,e=.returned v∧za4 w' w.heap.size v (za6 (smL bs n))∧Below w.heap.size w w'
theorem zs5 (bs n:Nat) (w:World) (hbs:bs<18446744073709551616) (hn:n≤1000000) :
  Calls Tryz.prog 68 #[.int .u64 bs,.int .i64 n,.int .i64 n] w (ze3 bs n w):=by
 obtain⟨i0,hi,hz0,hz1,hz2⟩:=info_parts zme;have HBIT:=Hd (fun I=>ya4 bs I hbs);clear hbs;go_enter Tryz.func68,Tryz.ntmps68;go_wp2;go_loopg [7,8] n (fun gk l i wr=>∃(V:Value) (I L:Nat),V=l∧I≤n∧gk=n-I∧i=.int .i64 I∧(smL bs I).length=L∧L≤I∧Hid (za4 wr w.heap.size V (za6 (smL bs I)))∧Hid (Below w.heap.size w wr))
 case atStart=>exact⟨_,0,0,rfl,by omega,rfl,rfl,rfl,by omega,Hd (za4.nil _ _),Hd (Zaa _ _)⟩
 case round =>
  obtain⟨V,I,L,rfl,hI,rfl,rfl,hL,hLm,HO,HB⟩:=hrel;have HL:=Hd hL;have hof:=HO.out.rd.form;rw[zbv,hL] at hof;obtain⟨va,vc,rfl⟩:=hof;clear hL;by_cases hlt:I<n
  ·by_cases h64:I<64
   ·have hlm:L<n:=by omega
    have hbit:=HBIT.out I;have hown:wr.ownsRow w.heap.size 3 1 (.slice va L vc) L ((za6 (smL bs I)).map (Value.int .i64)):=by have:=HO.out;unfold za4 at this;rwa[zbv,HL.out] at this
    have hs:=HB.out.size;cases ht:bs.testBit I
    ·rw[ht] at hbit;have hsm:smL bs (I+1)=smL bs I:=by rw[zlo,ht];simp
     have HO3:Hid (za4 wr w.heap.size (.slice va L vc) (za6 (smL bs (I+1)))):=Hd (by rw[hsm];exact HO.out);have HL3:Hid ((smL bs (I+1)).length=L):=Hd (by rw[hsm];exact HL.out);clear ht hown hsm;go_wp2;go_roundg (n-(I+1))
     case measure=>omega
     case rel=>exact⟨_,I+1,L,rfl,by omega,rfl,by go_num,HL3.out,by omega,HO3,HB⟩
    ·rw[ht] at hbit;have hsm:smL bs (I+1)=smL bs I++[I]:=by rw[zlo,ht,decide_eq_true h64];simp
     have HSM:=Hd hsm;clear ht hsm;go_wp2_with (at_builtin;refine wpList_append_own _ rfl _ _ 44 rfl w.heap.size 3 i0 (.int .i64 0) 1 8 Tryz.underlying44 hi hz0 hz1 hz2 rfl (by decide) _ _ _ rfl (hown.alloc _) ⟨wr.heap.size,0,none⟩ 1 1 [.int .i64 (I:Nat)] rfl rfl (cell_one_new _ _ _) (by simp[Value.oneCell']) (by unfold maxLen;omega) (by omega) (by simp;omega) ?_;intro v1 w3 hown1 hgrow1 _);have HO3:Hid (za4 w3 w.heap.size v1 (za6 (smL bs (I+1)))):=Hd (by
      unfold za4;rw[zbv,HSM.out,Zak,HL.out];simpa[za6] using hown1)
     have HB3:Hid (Below w.heap.size w w3):=Hd ((HB.out.alloc hs _).grown hgrow1 (by simp;omega) (fun b hb=>(hown.lt b hb).1));have HL3:Hid ((smL bs (I+1)).length=L+1):=Hd (by rw[HSM.out,Zak,HL.out];rfl);clear hown hown1 hgrow1;go_roundg (n-(I+1))
     case measure=>omega
     case rel=>exact⟨_,I+1,L+1,rfl,by omega,rfl,by go_num,HL3.out,by omega,HO3,HB3⟩
   ·have h64':¬(I:Int)<64:=by omega
    have HFIN:Hid (ze3 bs n w (.returned (.slice va L vc)) wr):=Hd ⟨_,rfl,by
     obtain⟨k,rfl⟩:∃k,n=I+k:=⟨n-I,by omega⟩;rw[zp6 (by omega)];exact HO.out,HB.out⟩
    go_wp2;go_ret;exact HFIN.out
  ·obtain rfl:I=n:=by omega
   have hlt':¬(I:Int)<(I:Int):=by omega
   have HFIN:Hid (ze3 bs I w (.returned (.slice va L vc)) wr):=Hd ⟨_,rfl,HO.out,HB.out⟩;go_wp2;go_ret;exact HFIN.out
def Ro.cells (s:Ro):List Value:=[s.v]
theorem Ro.cells_length (s:Ro):s.cells.length=1:=rfl
structure zdv (w:World) (v:Value) (l:List Ro):Prop where
 rd:SRd 1 Ro.cells w v l
 each:∀s∈l,GRd w s.v s.d
theorem zdv.below {w w':World} {v:Value} {l:List Ro} (h:zdv w v l) (hb:Below w.heap.size w w'):zdv w' v l:=⟨h.rd.below hb,fun s hs=>(h.each s hs).below hb⟩
theorem zgq.all {w:World} {B:Nat} {v:Value} {l:List Ro} (h:zgq w B v l) (he:∀s∈l,GRd w s.v s.d):zdv w v l :=
 ⟨SRd.of_owns Ro.cells_length (by omega) (by
  have:zb5 Ro.cells l=l.map Ro.v:=by
   unfold zb5
   induction l with
   | nil=>rfl
   | cons s l ih=>rw[Zbr,List.map_cons];exact congrArg (s.v :: ·) (List.flatMap_singleton' (l.map Ro.v) ▸ by rw[List.flatMap_map];rfl)
  rw[this];exact h),he⟩
structure zgj (w:World) (B:Nat) (V:Value) (l:List Sy):Prop where
 own:zbb w B V l
 view:∀s∈l,∃b,s.a=some ⟨b,0,none⟩∧s.d.length≤s.cp∧zag w b s.d.length (fun i=>s.d.getD i 0)
 dist:(l.map Sy.a).Nodup
theorem zgj.nil (w:World) (B:Nat):zgj w B (.slice none 0 0) []:=⟨zbb.nil _ _,by simp,by simp⟩
theorem zgj.below {w w':World} {B:Nat} {V:Value} {l:List Sy} (h:zgj w B V l) (hb:Below w.heap.size w w'):zgj w' B V l :=
 ⟨h.own.below hb,fun s hs=>by obtain⟨b,h1,h2,h3⟩:=h.view s hs;exact⟨b,h1,h2,h3.below hb⟩,h.dist⟩
theorem zgj.app {W w3:World} {B:Nat} {V v1:Value} {l:List Sy} {s:Sy} (h:zgj W B V l) (ho:zbb w3 B v1 (l++[s])) (hk:Kp V.ownBlock.toList W w3) {b:Nat} (hb:s.a=some ⟨b,0,none⟩) (hc:s.d.length≤s.cp) (hv:zag W b s.d.length (fun i=>s.d.getD i 0)) (hV:V.ownBlock≠some b) (hn:∀t∈l,t.a≠s.a):zgj w3 B v1 (l++[s]):=by
 refine⟨ho,fun t ht=>?_,?_⟩
 ·rcases Zba.1 ht with ht|ht
  ·obtain⟨c,h1,h2,h3⟩:=h.view t ht;refine⟨c,h1,h2,h3.kp hk fun hm=>?_⟩;have:=(h.own.new t ht _ h1).2.1;cases e:V.ownBlock with
   | none=>rw[e] at hm;simp at hm
   | some x=>rw[e] at hm this;simp at hm;exact this (by rw[hm])
  ·simp only[Zaq] at ht;subst ht;refine⟨b,hb,hc,hv.kp hk fun hm=>?_⟩;cases e:V.ownBlock with
   | none=>rw[e] at hm;simp at hm
   | some x=>rw[e] at hm hV;simp at hm;exact hV (by rw[hm])
 ·rw[Zaw,List.nodup_append];refine⟨h.dist,by simp,fun a ha c hc' e=>?_⟩;obtain⟨t,ht,rfl⟩:=Zau.1 ha;simp only[List.map_cons,List.map_nil,Zaq] at hc';exact hn t ht (e.trans hc')
theorem zyv {α β:Type} {f:α→β} {l:List α} (h:(l.map f).Nodup) {i j:Nat} {s t:α} (hi:l[i]? = some s) (hj:l[j]? = some t) (hij:i≠j):f s≠f t:=fun e=>by
 have h1:(l.map f)[i]? = some (f s):=by rw[Zae,hi];rfl
 have h2:(l.map f)[j]? = some (f t):=by rw[Zae,hj];rfl
 obtain⟨a1,b1⟩:=Zah.1 h1;obtain⟨a2,b2⟩:=Zah.1 h2;have hp:=Zbq.1 h;rcases Nat.lt_or_gt_of_ne hij with hlt|hlt
 ·exact hp i j a1 a2 hlt (b1.trans (e.trans b2.symm))
 ·exact hp j i a2 a1 hlt (b2.trans (e.symm.trans b1.symm))
theorem zwu {l:List Sy} {r:Nat} {s s':Sy} (hs:l[r]? = some s) (hc:Sy.cells s'=Sy.cells s):zb5 Sy.cells (l.set r s')=zb5 Sy.cells l:=by
 unfold zb5;rw[List.flatMap_def,List.flatMap_def,List.map_set,hc];congr 1;refine List.ext_getElem? fun i=>?_;rw[List.getElem?_set];split
 ·rename_i e;subst e;rw[Zae,hs];have:=(Zah.1 hs).1;simp[this]
 ·rfl
theorem zgj.wr {w w':World} {B:Nat} {V:Value} {l:List Sy} (h:zgj w B V l) {r b:Nat} {s:Sy} (hs:l[r]? = some s) (hb:s.a=some ⟨b,0,none⟩) (hk:Kp [b] w w') {d:List GF} (hd:d.length=s.d.length) (hv:zag w' b s.d.length (fun i=>d.getD i 0)):zgj w' B V (l.set r ⟨s.node,s.a,s.cp,d⟩):=by
 have hm:=Zad hs;have hnew:=h.own.new s hm _ hb;obtain⟨b',hb',hcp,-⟩:=h.view s hm;have hcell:Sy.cells ⟨s.node,s.a,s.cp,d⟩=Sy.cells s:=by unfold Sy.cells;simp only[];rw[hd]
 have hrl:=(Zah.1 hs).1;have hrow:∀t∈l.set r ⟨s.node,s.a,s.cp,d⟩,t=⟨s.node,s.a,s.cp,d⟩∨t∈l∧t.a≠s.a:=fun t ht=>by
  obtain⟨i,hi⟩:=List.mem_iff_getElem?.1 ht;rw[List.getElem?_set] at hi;by_cases e:r=i
  ·subst e;rw[if_pos rfl,if_pos hrl] at hi;exact .inl (Zcd hi).symm
  ·rw[if_neg e] at hi;exact .inr ⟨Zad hi,zyv h.dist hi hs (fun e2=>e e2.symm)⟩
 have hview:∀t∈l.set r ⟨s.node,s.a,s.cp,d⟩,∃c,t.a=some ⟨c,0,none⟩∧t.d.length≤t.cp∧zag w' c t.d.length (fun i=>t.d.getD i 0):=fun t ht=>by
  rcases hrow t ht with rfl|⟨ht,hne⟩
  ·refine⟨b,hb,by rw[hd];exact hcp,?_⟩;simp only[];rw[hd];exact hv
  ·obtain⟨c,h1,h2,h3⟩:=h.view t ht;refine⟨c,h1,h2,h3.kp hk fun hx=>?_⟩;simp only[Zaq] at hx;rw[h1,hb,hx] at hne;exact hne rfl
 refine⟨⟨?_,fun t ht=>?_,fun t ht a ha=>?_⟩,hview,?_⟩
 ·unfold zlf;rw[List.length_set,zwu hs hcell];exact zlf.kp h.own.row hk fun k hk2 hm2=>by
   simp only[Zaq] at hm2;subst hm2;exact hnew.2.1 hk2
 ·obtain⟨c,h1,h2,h3⟩:=hview t ht;unfold Sy.rd;rw[h1];exact zag.list h3 rfl h2
 ·have hsz:=hk.size;rcases hrow t ht with rfl|⟨ht,-⟩
  ·have:=h.own.new s hm a ha
   exact⟨this.1,this.2.1,by omega⟩
  ·have:=h.own.new t ht a ha
   exact⟨this.1,this.2.1,by omega⟩
 ·have:(l.set r ⟨s.node,s.a,s.cp,d⟩).map Sy.a=l.map Sy.a:=by
   rw[List.map_set];refine List.ext_getElem? fun i=>?_;rw[List.getElem?_set];split
   ·rename_i e;subst e;rw[Zae,hs,Zag,if_pos hrl];rfl
   ·rfl
  rw[this];exact h.dist
def zrj (tu:Bool) (bs t:Nat) (S:List Ro) (w:World) (e:Ending) (w':World):Prop :=
 ∃v1 v2 l zs,e=.returned (.tuple #[v1,v2])∧zbb w' w.heap.size v1 l∧za4 w' w.heap.size v2 zs∧Below w.heap.size w w'∧Sy.nodes l=za6 (tlL tu (smL bs S.length))∧zel (S.map Ro.d) t l zs
def zoi (tu:Bool) (bs t:Nat) (S:List Ro) (w:World) (e:Ending) (w':World):Prop :=
 ∃v1 v2 l zs,e=.returned (.tuple #[v1,v2])∧zgj w' w.heap.size v1 l∧za4 w' w.heap.size v2 zs∧Below w.heap.size w w'∧Sy.nodes l=za6 (tlL tu (smL bs S.length))∧zel (S.map Ro.d) t l zs
theorem zgj.mono {w:World} {B B':Nat} {V:Value} {l:List Sy} (h:zgj w B V l) (hb:B'≤B):zgj w B' V l:=⟨h.own.mono hb,h.view,h.dist⟩
theorem dAt {S:List Ro} {x:Nat} {s:Ro} (h:S[x]? = some s):(S.map Ro.d).getD x []=s.d:=by rw[zE2,Zae,h];rfl
theorem ycw {S:List Ro} {n:Nat} (h:∀s∈S,s.d.length≤n) (x:Nat):((S.map Ro.d).getD x []).length≤n:=by
 cases e:S[x]? with
 | none =>
  rw[zE2,Zae,e];exact Zbp _
 | some s =>
  rw[dAt e];exact h s (Zad e)
theorem ya5 (tu:Bool) (bs n:Nat):zbc n (za6 (tlL tu (smL bs n))):=by
 refine⟨fun x hx=>?_,?_⟩
 ·obtain⟨y,hy,rfl⟩:=Zau.1 hx;have:=(zh0 bs n).2 y ((zt6 tu _ y).1 hy);omega
 ·refine Zbz.2 ((zt5 tu (zh0 bs n).nodup).imp fun {a b} hab=>?_);intro e;exact hab (by omega)
theorem zm4 (sv:Value) (S:List Ro) (bs t:Nat) (tu:Bool) (ta tb:Value) (As Bs:List GF) (w:World) (h:zdv w sv S) (hl:S.length≤1000) (hdl:∀s∈S,s.d.length≤1000000) (hbs:bs<18446744073709551616) (ha:GRd w ta As) (hb:GRd w tb Bs) (ht:t≤1000000) :
  Calls Tryz.prog 31 #[sv,.int .u64 bs,.bool tu,ta,tb,.int .i64 t] w (zoi tu bs t S w):=by
 obtain⟨ash,csh,rfl⟩:=h.rd.form;obtain⟨aa,ca,rfl,hca⟩:=ha.form;obtain⟨ab,cb,rfl,hcb⟩:=hb.form;obtain⟨N,hN⟩:=zE4 S.length;obtain⟨LA,hLA⟩:=zE4 As.length;obtain⟨LB,hLB⟩:=zE4 Bs.length;have HS:=Hd h;have HN:=Hd hN;have HA:=Hd ha;have HBB:=Hd hb;have HLA:=Hd hLA;have HLB:=Hd hLB;have HDL:=Hd hdl;unfold zoi;rw[hN] at HS hl ⊢;rw[hLA] at HA ⊢;rw[hLB] at HBB ⊢;have HSM:=Hd (zs5 bs N w hbs (by omega));clear h ha hb hN hLA hLB hca hcb hbs hdl;have hnl:=ybg bs N;have hrise:=zh0 bs N;unfold ze3 at HSM;obtain⟨ls,hls⟩:=zE4 (smL bs N);have hgood:=ya5 tu bs N;rw[hls] at HSM hnl hrise hgood ⊢;obtain⟨NN,hNN⟩:=zE4 ls.length;have HNN:=Hd hNN;have HRI:=Hd hrise;have HGO:=Hd hgood;rw[hNN] at hnl;clear hls hNN hrise hgood;go_enter Tryz.func31,Tryz.ntmps31;go_wp2_with fail;refine HSM.out.mono ?_;rintro e w1 ⟨lv,rfl,hlv,hb1⟩;have hlf:=hlv.rd.form;rw[zbv,HNN.out] at hlf;obtain⟨av,cv,rfl⟩:=hlf;have HLV:=Hd hlv.rd;have HB1:=Hd hb1;have hs1:=hb1.size;clear hlv hb1 HSM;go_wp2;go_loopg [15,16] NN (fun gk p i wr=>∃(V:Value) (l:List Sy) (I:Nat),V=p∧I≤NN∧gk=NN-I∧i=.int .i64 I∧Hid (zgj wr w1.heap.size V l)∧Hid (Below w1.heap.size w1 wr)∧Hid (Sy.nodes l=za6 ((tlL tu ls).take I))∧Hid (∀s∈l,s.d=(S.map Ro.d).getD s.node.toNat []))
 case atStart=>exact⟨_,[],0,rfl,by omega,rfl,rfl,Hd (zgj.nil _ _),Hd (Zaa _ _),Hd rfl,Hd (by simp)⟩
 case round =>
  obtain⟨V,l,I,rfl,hI,rfl,rfl,HT,HB,HND,HDD⟩:=hrel;have hsr:=HB.out.size;by_cases hlt:I<NN
  ·obtain⟨x,hx⟩:∃x,(tlL tu ls)[I]? = some x:=⟨_,zE1 (by rw[zll,HNN.out];exact hlt)⟩;have hxn:x<N:=HRI.out.2 x ((zt6 tu ls x).1 (Zad hx));obtain⟨y,hy⟩:∃y,ls[I]? = some y:=⟨_,zE1 (by rw[HNN.out];exact hlt)⟩;have hyi:(za6 ls)[I]? = some (y:Int):=by rw[za6,Zae,hy];rfl
   obtain⟨-,-,bl,ol,rfl,hbl,-⟩:=IRd.cell HLV.out hyi;have cy:=IRd.cells (HLV.out.below HB.out) I y hyi;obtain⟨R,hR⟩:=zE4 (NN-1-I);obtain⟨N1,hN1⟩:=zE4 (NN-1);have e1:(NN:Int)-1=(N1:Int):=by omega
   have e2:=zE6 (N1:Int) (by omega);have e3:(N1:Int)-(I:Int)=(R:Int):=by omega
   have e4:=zE6 (R:Int) (by omega);obtain⟨s,hs⟩:∃s,S[x]? = some s:=⟨_,zE1 (by rw[HN.out];exact hxn)⟩;have hbw:Below w.heap.size w wr:=HB1.out.trans (HB.out.mono HB1.out.size);obtain⟨-,-,bsh,osh,rfl,hbsh,hat⟩:=SRd.at (HS.out.below hbw).rd hs;have cs:wr.cell? ⟨bsh,osh+x,none⟩=some (.slice s.a s.d.length s.cp):=by simpa[Ro.v] using hat 0 _ rfl
   have hsrd:GRd wr (.slice s.a s.d.length s.cp) s.d:=(HS.out.below hbw).each s (Zad hs);obtain⟨st,capc,w3,hcv1,hcv2,hcc,hvw,hb3⟩:=zl2 wr hsrd;have hll:l.length≤1000:=by
    have:=congrArg List.length HND.out
    rw[zbv,Zan] at this;simp[Sy.nodes] at this;omega
   have hlo:w1.heap.size≤wr.heap.size:=hsr;have hT3:=HT.out.below hb3;have hnewa:∀t∈l,t.a≠some ⟨wr.heap.size,0,none⟩:=fun t ht e=>by
    have:=(HT.out.own.new t ht _ e).2.2
    simp at this
   have hVne:V.ownBlock≠some wr.heap.size:=fun e=>by have:=(HT.out.own.row.lt _ e).2;simp at this
   obtain⟨v1,w6,hap,ho1,hk1,hb6,-⟩:=zxf (W:=w3) (s:=⟨x,some ⟨wr.heap.size,0,none⟩,capc,s.d⟩) hT3.own (zag.list hvw rfl hcc) (fun a ha=>by
    cases ha;exact⟨hlo,hVne,hvw.1⟩) (by omega) (by have:=hb3.size;omega) (ad:=w3.heap.size) rfl
   have HT6:Hid (zgj w6 w1.heap.size v1 (l++[⟨x,some ⟨wr.heap.size,0,none⟩,capc,s.d⟩])):=Hd (hT3.app ho1 hk1 (b:=wr.heap.size) rfl hcc hvw hVne hnewa);have HB6:Hid (Below w1.heap.size w1 w6):=Hd (HB.out.trans ((hb3.mono hsr).trans hb6));have HND6:Hid (Sy.nodes (l++[⟨x,some ⟨wr.heap.size,0,none⟩,capc,s.d⟩])=za6 ((tlL tu ls).take (I+1))):=Hd (by
    rw[Sy.nodes,Zaw,Zaz,hx,show l.map Sy.node=_ from HND.out];simp[za6])
   have HDD6:Hid (∀q∈l++[(⟨x,some ⟨wr.heap.size,0,none⟩,capc,s.d⟩:Sy)],q.d=(S.map Ro.d).getD q.node.toNat []):=Hd (fun q hq=>by
    rcases Zba.1 hq with hq|hq
    ·exact HDD.out q hq
    ·simp only[Zaq] at hq;rw[hq];exact (dAt hs).symm)
   obtain⟨m,hm⟩:=zE4 s.d.length;simp only[] at hap;rw[hm] at cs hcv1 hcv2 hap;have i1:(0:Int)≤(I:Int)∧(I:Int)<(NN:Int):=by omega
   have i2:(0:Int)≤(R:Int)∧(R:Int)<(NN:Int):=by omega
   have i3:(0:Int)≤(x:Int)∧(x:Int)<(N:Int):=by omega
   cases tu
   ·obtain rfl:x=y:=by
     have:=hx.symm.trans hy
     exact Zcd this
    clear hx hy hyi hat hs hsrd hbw hb3 hvw ho1 hk1 hb6 hm hR hN1 hT3 hnewa hVne hll;go_wp2_with (at_builtin;refine zae rfl _ _ _ rfl rfl rfl hap ?_);go_roundg (NN-(I+1))
    case measure=>omega
    case rel=>exact⟨_,_,I+1,rfl,by omega,rfl,by go_num,HT6,HB6,HND6,HDD6⟩
   ·have hxr:ls[R]? = some x:=by
     have:ls.reverse[I]? = some x:=hx
     rw[List.getElem?_reverse (by rw[HNN.out];exact hlt),HNN.out,hR] at this;exact this
    have hxi:(za6 ls)[R]? = some (x:Int):=by rw[za6,Zae,hxr];rfl
    have cx:=IRd.cells (HLV.out.below HB.out) R x hxi;clear hx hy hyi hxr hxi hat hs hsrd hbw hb3 hvw ho1 hk1 hb6 hm hR hN1 hT3 hnewa hVne hll;go_wp2_with (at_builtin;refine zae rfl _ _ _ rfl rfl rfl hap ?_);go_roundg (NN-(I+1))
    case measure=>omega
    case rel=>exact⟨_,_,I+1,rfl,by omega,rfl,by go_num,HT6,HB6,HND6,HDD6⟩
  ·obtain rfl:I=NN:=by omega
   obtain⟨w2,rfl⟩:=zE5 (wr:World);have hll:l.length=I:=by
    have:=congrArg List.length HND.out
    rw[zbv,Zan,zll,HNN.out] at this;simpa[Sy.nodes] using this
   have HLL:=Hd hll;have hvf:=HT.out.own.row.rd.form;rw[hll] at hvf;obtain⟨a0,c0,rfl⟩:=hvf;have HT2:=HT;have hnd:Sy.nodes l=za6 (tlL tu ls):=by
    have:=HND.out
    rwa[Zca (by rw[zll,HNN.out];exact zE3 _)] at this
   have HND2:=Hd hnd;have hbd:(l.filter (bad (S.map Ro.d))).length≤0:=by rw[List.filter_eq_nil_iff.2 fun s hs=>by rw[bad,HDD.out s hs];simp];exact zE3 _
   have HLN:Hid (∀s∈l,s.d.length=((S.map Ro.d).getD s.node.toNat []).length):=Hd fun s hs=>by rw[←HDD.out s hs]
   have HBD:=Hd hbd;have HB2:=HB;clear hbd hnd hll HT HND HDD HB hlt hI;go_wp2;go_loopg [18] t (fun gk i wr=>∃(J:Nat) (l:List Sy),J≤t∧gk=t-J∧i=.int .i64 J∧Hid (zgj wr w1.heap.size (.slice a0 I c0) l)∧Hid (Below w1.heap.size w1 wr)∧Hid (Sy.nodes l=za6 (tlL tu ls))∧Hid (∀s∈l,s.d.length=((S.map Ro.d).getD s.node.toNat []).length)∧Hid ((l.filter (bad (S.map Ro.d))).length≤J)∧Hid (l.length=I))
   case atStart=>exact⟨0,l,by omega,rfl,rfl,HT2,HB2,HND2,HLN,HBD,HLL⟩
   case round =>
    clear HT2 HB2 HND2 HLN HBD HLL;obtain⟨J,l,hJ,rfl,rfl,HT,HB,HND,HLN,HBD,HLL⟩:=hrel;have hsr2:=HB.out.size;by_cases hall:J<LA∧J<LB∧J<t∧0<I
    ·obtain⟨q1,q2,q3,q4⟩:=hall;have q1':(J:Int)<(LA:Int):=by omega
     have q2':(J:Int)<(LB:Int):=by omega
     have q3':(J:Int)<(t:Int):=by omega
     have q4':(0:Int)<(I:Int):=by omega
     have hbw:Below w.heap.size w wr:=HB1.out.trans (HB.out.mono HB1.out.size);obtain⟨c,hc,-⟩:=zbt (l:=As) (i:=J) (by rw[HLA.out];exact q1);obtain⟨d,hd,-⟩:=zbt (l:=Bs) (i:=J) (by rw[HLB.out];exact q2);obtain⟨bA,oA,rfl,hbA,-⟩:=HA.out.at hc;obtain⟨bB,oB,rfl,hbB,-⟩:=HBB.out.at hd;obtain⟨_,_,e,-,k1⟩:=(HA.out.below hbw).at hc;cases e;obtain⟨_,_,e,-,k2⟩:=(HBB.out.below hbw).at hd;cases e;have hcl:=c.lt;have hdl:=d.lt;obtain⟨x,hx⟩:∃t,c.n=t:=⟨_,rfl⟩;obtain⟨y,hy⟩:∃t,d.n=t:=⟨_,rfl⟩;rw[hx] at k1 hcl;rw[hy] at k2 hdl;obtain⟨r,hr⟩:=zE4 (x % I);have hrJ:r<I:=by rw[←hr];exact Zck _ (by omega)
     have z1:(x:Int) % (I:Int)=(r:Int):=by rw[←hr];rfl
     have z2:Int.tmod (x:Int) (I:Int)=(r:Int):=by rw[Int.tmod_eq_emod_of_nonneg (by omega),z1]
     have z3:=zE6 (r:Int) (by omega);have z4:¬(I:Int)=0:=by omega
     have z5:¬I=0:=by omega
     have z6:((I:Int) == 0)=false:=by simp;omega
     have z7:(I:Int)≠0:=by omega
     have hcv:=zE6 (x:Int) (by omega);obtain⟨s,hs⟩:∃s,l[r]? = some s:=⟨_,zE1 (by rw[HLL.out];exact hrJ)⟩;obtain⟨b,hb,hcap,hv⟩:=HT.out.view s (Zad hs);obtain⟨-,-,bv,ov,rfl,hbv,hat⟩:=SRd.at HT.out.own.row.rd hs;have cv1:wr.cell? ⟨bv,ov+r*2+1,none⟩=some (.slice s.a s.d.length s.cp):=hat 1 _ rfl;rw[hb] at cv1;obtain⟨M,hM⟩:=zE4 s.d.length;have hM1:M≤1000000:=by rw[←hM,HLN.out s (Zad hs)];exact ycw HDL.out _
     rw[hM] at cv1 hv hcap;have hbn:=HT.out.own.new s (Zad hs) _ hb;have i1:(0:Int)≤(J:Int)∧(J:Int)<(LA:Int):=by omega
     have i2:(0:Int)≤(J:Int)∧(J:Int)<(LB:Int):=by omega
     have i3:(0:Int)≤(r:Int)∧(r:Int)<(I:Int):=by omega
     obtain⟨w4,hw4⟩:=zE5 (wr:World);have HV:=Hd hv;have HSR:=Hd (Zao hs (Zao hb hM));have HDY:=Hd (Zao hd hy);obtain⟨f,hf⟩:∃f:Nat→GF,f=fun i=>s.d.getD i 0:=⟨_,rfl⟩;rw[←hf] at HV;have HF:=Hd hf;have hbl1:w1.heap.size≤b:=hbn.1;have hbl2:b<wr.heap.size:=hbn.2.2;have HBW:=Hd hbw;clear hc hd hx hy hr hs hb hv hat hM hbn hbw hf hcap;go_wp2;clear k1;subst hw4;go_loopg [20] M (fun gk i wr=>∃(E:Nat),E≤M∧gk=M-E∧i=.int .i64 E∧Hid (zag wr b M (fun i=>if i<E then f i+d else f i))∧Hid (Kp [b] w4 wr))
     case atStart=>exact⟨0,by omega,rfl,rfl,Hd (HV.out.congr fun j hj=>by rw[if_neg (by omega)]),Hd (Kp.refl _ _)⟩
     case round =>
      obtain⟨E,hE,rfl,rfl,HVR,HKR⟩:=hrel;have hsr3:=HKR.out.size;by_cases hltE:E<M
      ·have cE:=(HVR.out.2 E hltE).1;simp only[Nat.lt_irrefl,if_false] at cE;have kB:=(HKR.out.cell (p:=⟨bB,oB+J,none⟩) (by have:=HBW.out.size;simp only[];omega) (by simp;omega)).trans k2;have hxor:=GF.u8_xor (f E) d;obtain⟨fn,hfn⟩:=zE4 ((f E).n);obtain⟨zn,hzn⟩:=zE4 ((f E+d).n);rw[hfn,HDY.out.2,hzn] at hxor;rw[hfn] at cE;have hvs:=HVR.out.set hltE (f E+d);rw[hzn] at hvs;have HVN:Hid (zag (wr.setCell ⟨b,E,none⟩ (.int .u8 (zn:Nat))) b M (fun i=>if i<E+1 then f i+d else f i)):=Hd (hvs.congr fun j hj=>by
        by_cases h1:j=E
        ·subst h1;rw[if_pos rfl,if_pos (by omega)]
        ·by_cases h2:j<E
         ·rw[if_neg h1,if_pos h2,if_pos (by omega)]
         ·rw[if_neg h1,if_neg h2,if_neg (by omega)])
       have HKN:Hid (Kp [b] w4 (wr.setCell ⟨b,E,none⟩ (.int .u8 (zn:Nat)))):=Hd (HKR.out.setCell (.inl (by simp)) _);have hbr:=HVR.out.1;have fE:=(HVR.out.2 E hltE).2;obtain⟨kp,hkp⟩:∃kp:Nat→Bool,∀j,kp j=true↔j<w1.heap.size:=⟨fun j=>decide (j<w1.heap.size),by simp⟩;have hk2:kp bB=true:=(hkp _).2 (by omega);have HKP:=Hd hkp;have j1:(0:Int)≤(E:Int)∧(E:Int)<(M:Int):=by omega
       clear hkp hfn hzn hvs k2;go_upto_region 17 with fail
       have hgr:=hgK (fun j=>kp j=true);refine w_T (fun j=>kp j=true) [5,12] (.sq [0,1,2,3,4,6,7,8,9,5,10,11,12] .done) (by kernel_rfl) (by kernel_rfl) ?_;simp only[TQ,Oper.slim,Nat.reduceBEq,Nat.reduceAdd]
       repeat' first|((with_reducible refine w_I ?_);first|(with_reducible refine w_D ?_)|((with_reducible refine w_S (fun K hK=>?_));go_simp;first|(refine hK _ _ ?_;clear hK K)|(refine⟨by (intro kk hkk;first|(simp (disch:=(simp;omega)) only[h_D,h_N,h_A,h_S];done)|(simp[h_D,h_N,h_I,hkk];done)|(have hkk2:=(HKP.out kk).1 hkk;simp (disch:=(first|omega|(simp;omega))) only[h_D,h_N,h_A,h_S];done)),hK _ _ ?_⟩;clear hK K)))|fail
       clear hgr;go_wp2;go_roundg (M-(E+1))
       case measure=>omega
       case rel=>exact⟨E+1,by omega,rfl,by go_num,by first|exact HVN|exact Hd HVN.out.drew,by first|exact HKN|exact Hd HKN.out.drew⟩
      ·obtain rfl:E=M:=by omega
       obtain⟨w5,rfl⟩:=zE5 (wr:World);obtain⟨hs,hb,hM⟩:=HSR.out;have hvn:zag w5 b s.d.length (fun i=>(s.d.map (·+d)).getD i 0):=by rw[hM];refine HVR.out.congr fun j hj=>?_;rw[if_pos hj,HF.out];show s.d.getD j 0+d=_;rw[zE2,zE2,Zae,zE1 (by omega)];rfl
       have HT5:Hid (zgj w5 w1.heap.size (.slice (some ⟨bv,ov,none⟩) I c0) (l.set r ⟨s.node,s.a,s.cp,s.d.map (·+d)⟩)):=Hd (HT.out.wr hs hb HKR.out (by simp) hvn);have HB5:Hid (Below w1.heap.size w1 w5):=Hd (HB.out.trans (HKR.out.below (by omega) (by simp;omega)));have HND5:Hid (Sy.nodes (l.set r ⟨s.node,s.a,s.cp,s.d.map (·+d)⟩)=za6 (tlL tu ls)):=Hd (by
        rw[←HND.out];unfold Sy.nodes;rw[List.map_set];refine List.ext_getElem? fun i=>?_;rw[List.getElem?_set];split
        ·rename_i e;subst e;rw[Zae,hs,Zag,if_pos (Zah.1 hs).1];rfl
        ·rfl)
       have HLN5:Hid (∀q∈l.set r ⟨s.node,s.a,s.cp,s.d.map (·+d)⟩,q.d.length=((S.map Ro.d).getD q.node.toNat []).length):=Hd (fun q hq=>by
        rcases List.mem_or_eq_of_mem_set hq with hq|rfl
        ·exact HLN.out q hq
        ·simp only[Zag];exact HLN.out s (Zad hs))
       have HBD5:Hid (((l.set r ⟨s.node,s.a,s.cp,s.d.map (·+d)⟩).filter (bad (S.map Ro.d))).length≤J+1):=Hd (Zat (zd4 _ _ _ _) (by have:=HBD.out;omega));have HLL5:Hid ((l.set r ⟨s.node,s.a,s.cp,s.d.map (·+d)⟩).length=I):=Hd (by rw[List.length_set];exact HLL.out);clear hs hb hM hvn HT HB HND HLN HBD HLL HVR HKR;go_wp2;go_roundg (t-(J+1))
       case measure=>omega
       case rel=>exact⟨J+1,_,by omega,rfl,by go_num,HT5,HB5,HND5,HLN5,HBD5,HLL5⟩
    ·obtain⟨p1,hp1⟩:∃p,decide (J<LA)=p:=⟨_,rfl⟩;obtain⟨p2,hp2⟩:∃p,decide (J<LB)=p:=⟨_,rfl⟩;obtain⟨p3,hp3⟩:∃p,decide (J<t)=p:=⟨_,rfl⟩;obtain⟨p4,hp4⟩:∃p,decide (0<I)=p:=⟨_,rfl⟩;have hpq:(((p1 && p2) && p3) && p4)=false:=by
      rw[←hp1,←hp2,←hp3,←hp4,←Bool.decide_and,←Bool.decide_and,←Bool.decide_and];exact decide_eq_false (fun h=>hall ⟨h.1.1.1,h.1.1.2,h.1.2,h.2⟩)
     obtain⟨w5,rfl⟩:=zE5 (wr:World);have hfew:(l.filter (bad (S.map Ro.d))).length≤t:=Zat HBD.out hJ;have HTI:Hid (zel (S.map Ro.d) t l (oth (S.map Ro.d) l N)):=Hd (by
      have:=zel.of (D:=S.map Ro.d) (t:=t) (l:=l) (by rw[Zag,HN.out,HND.out];exact HGO.out) HLN.out hfew
      rwa[Zag,HN.out] at this)
     have HB05:Hid (Below w.heap.size w w5):=Hd (HB1.out.trans (HB.out.mono HB1.out.size));have hs5:=HB05.out.size;clear hall hfew HBD HLN;go_upto_region 11 with fail
     refine zbk (.step 0 (.step 1 (.step 2 (.step 3 (.step 4 (.unit 4 true (.step 5 (.step 6 (.step 7 (.step 8 .done)))) 9 8 (.step 10 (.unit 10 true (.step 11 (.step 12 (.step 13 .done))) 14 13 (.step 15 (.unit 15 true (.step 16 (.step 17 (.step 18 .done))) 19 18 .done)))))))))) (by kernel_rfl) (by kernel_rfl) ?_;simp only[zkc,zgg,ztv,Oper.slim,List.contains_cons,List.contains_nil,Option.map_none,Zbv,List.getElem?_toArray,Zbj,List.getElem?_cons_succ,Option.bind_some,beq_self_eq_true,Bool.or_false,Nat.reduceBEq,Nat.reduceAdd,Zbe,Option.getD_some,Option.isSome_some,Option.isSome_none,Bool.false_and,Bool.true_and,Bool.false_eq_true,if_false,if_true,Option.some_beq_some,Option.some_beq_none,Option.none_beq_some,reduceCtorEq,ite_true,ite_false]
     repeat ((with_reducible refine zac (fun K hK=>?_));go_simp;first|(refine hK _ _ ?_;clear hK K)|(refine⟨by (intro kk hkk;first|exact hkk.elim|(simp (disch:=(simp;omega)) only[h_D,h_N,h_A,h_S];done)|(simp[h_D,h_N,h_I,hkk];done)|(have hkk2:=(HKP.out kk).1 hkk;simp (disch:=(first|omega|(simp;omega))) only[h_D,h_N,h_A,h_S];done)),hK _ _ ?_⟩;clear hK K))
     iterate 3
      refine zax (x:=?_) (by rfl) ?_ ?_;rotate_left
      ·intro hgd
       repeat ((with_reducible refine zac (fun K hK=>?_));go_simp;first|(refine hK _ _ ?_;clear hK K)|(refine⟨by (intro kk hkk;first|exact hkk.elim|(simp (disch:=(simp;omega)) only[h_D,h_N,h_A,h_S];done)|(simp[h_D,h_N,h_I,hkk];done)|(have hkk2:=(HKP.out kk).1 hkk;simp (disch:=(first|omega|(simp;omega))) only[h_D,h_N,h_A,h_S];done)),hK _ _ ?_⟩;clear hK K))
       exact zah ⟨by rfl,rfl⟩
      intro js;simp only[UT.dsts,zct,SOp.dst,Option.toList_some,Option.toList_none,Zas,Zav,Zal,cond_true,cond_false]
      repeat ((with_reducible refine zac (fun K hK=>?_));go_simp;first|(refine hK _ _ ?_;clear hK K)|(refine⟨by (intro kk hkk;first|exact hkk.elim|(simp (disch:=(simp;omega)) only[h_D,h_N,h_A,h_S];done)|(simp[h_D,h_N,h_I,hkk];done)|(have hkk2:=(HKP.out kk).1 hkk;simp (disch:=(first|omega|(simp;omega))) only[h_D,h_N,h_A,h_S];done)),hK _ _ ?_⟩;clear hK K))
     try go_simp
     refine zah ?_
     try go_simp
     go_wp2;clear hp1 hp2 hp3 hp4 hpq;go_loopg [21,22] N (fun gk p i wr=>∃(V:Value) (j:Nat),V=p∧j≤N∧gk=N-j∧i=.int .i64 j∧Hid (za4 wr w5.heap.size V (oth (S.map Ro.d) l j))∧Hid (Below w5.heap.size w5 wr))
     case atStart=>exact⟨_,0,rfl,by omega,rfl,rfl,Hd (za4.nil _ _),Hd (Zaa _ _)⟩
     case round =>
      obtain⟨V,j,rfl,hj,rfl,rfl,HO,HB6⟩:=hrel;have hsr6:=HB6.out.size;by_cases hltj:j<N
      ·have HLEN:Hid ((oth (S.map Ro.d) l j).length≤1000):=Hd (Zat (zo8 _ _ _) (Zat (Zce _ _) (by rw[HLL.out];omega)));go_wp2;go_loopg [21,23] I (fun gk p i wr=>∃(V:Value) (E:Nat),V=p∧E≤I∧gk=I-E∧i=.int .i64 E∧Hid (za4 wr w5.heap.size V (oth (S.map Ro.d) l j++zhu (S.map Ro.d) (l.take E) j))∧Hid (Below w5.heap.size w5 wr))
       case atStart=>exact⟨_,0,rfl,by omega,rfl,rfl,by rw[zqq,Zal];exact HO,HB6⟩
       case round =>
        clear HO HB6 hsr6;obtain⟨V,E,rfl,hE,rfl,rfl,HO,HB6⟩:=hrel;have hsr6:=HB6.out.size;by_cases hltE:E<I
        ·obtain⟨s,hs⟩:∃s,l[E]? = some s:=⟨_,zE1 (by rw[HLL.out];exact hltE)⟩;obtain⟨q,hq⟩:∃q,S[j]? = some q:=⟨_,zE1 (by rw[HN.out];exact hltj)⟩;have hbw:Below w.heap.size w wr:=HB05.out.trans (HB6.out.mono HB05.out.size);have hTR:=HT.out.below HB6.out;obtain⟨-,-,bv,ov,rfl,hbv,hat⟩:=SRd.at hTR.own.row.rd hs;have d0:wr.cell? ⟨bv,ov+E*2,none⟩=some (.int .i64 s.node):=hat 0 _ rfl;have d1:wr.cell? ⟨bv,ov+E*2+1,none⟩=some (.slice s.a s.d.length s.cp):=hat 1 _ rfl;obtain⟨-,-,bq,oq,rfl,hbq,hatq⟩:=SRd.at (HS.out.below hbw).rd hq;have d2:wr.cell? ⟨bq,oq+j,none⟩=some (.slice q.a q.d.length q.cp):=by simpa[Ro.v] using hatq 0 _ rfl
         have r1:GRd wr (.slice s.a s.d.length s.cp) s.d:=hTR.own.each s (Zad hs);have r2:GRd wr (.slice q.a q.d.length q.cp) q.d:=(HS.out.below hbw).each q (Zad hq);have v1:=zat.conv (GRd.below r1 (Zaa _ _).drew)
         have v2:=zat.conv (GRd.below r2 (Zaa _ _).drew)
         have hst:za1 (s.d.map GF.n)=za1 (q.d.map GF.n)↔s.d=q.d:=(zdk r1.1 r2.1).trans ⟨fun e=>zeu e,fun e=>by rw[e]⟩;obtain⟨st1,hst1⟩:∃st,za1 (s.d.map GF.n)=st:=⟨_,rfl⟩;obtain⟨st2,hst2⟩:∃st,za1 (q.d.map GF.n)=st:=⟨_,rfl⟩;rw[hst1] at v1 hst;rw[hst2] at v2 hst;have hot:=znk (D:=S.map Ro.d) (j:=j) hs;have HBD:Hid (Below w5.heap.size w5 wr.drew):=Hd HB6.out.drew;obtain⟨x,hx⟩:=zE4 s.node;rw[hx] at d0;obtain⟨kp,hkp⟩:∃kp:Nat→Bool,∀j,kp j=true↔j<wr.heap.size:=⟨fun j=>decide (j<wr.heap.size),by simp⟩;have k1:kp bv=true:=(hkp _).2 hbv;have k2:kp bq=true:=(hkp _).2 hbq;have HKP:=Hd hkp;have i1:(0:Int)≤(E:Int)∧(E:Int)<(I:Int):=by omega
         have i2:(0:Int)≤(j:Int)∧(j:Int)<(N:Int):=by omega
         have hbq2:bad (S.map Ro.d) s=decide (s.d≠(S.map Ro.d).getD s.node.toNat []):=rfl;have HLT:=Hd hltE;by_cases hxj:x=(j:Int)
         ·have hdj:(S.map Ro.d).getD s.node.toNat []=q.d:=by rw[hx,hxj,Zam];exact dAt hq
          rw[hdj] at hbq2;rw[hx] at hot;subst hxj;by_cases hss:st1=st2
          ·subst hss;have hbf:bad (S.map Ro.d) s=false:=by rw[hbq2,decide_eq_false (not_not_intro (hst.1 rfl))]
           have HO2:Hid (za4 wr.drew w5.heap.size V (oth (S.map Ro.d) l j++zhu (S.map Ro.d) (l.take (E+1)) j)):=Hd (by
            rw[hot,hbf,if_neg (by simp)];exact HO.out)
           clear hkp hx hs hq hTR hat hatq r1 r2 hst hst1 hst2 hot hbq2 hdj hbf hbw;go_upto_region 25 with fail
           have hgr:=hgK (fun j=>kp j=true);refine w_T (fun j=>kp j=true) [13,18] (.sq [0,1,2,3,4,5,6,7,8,9,10,11,12,14,15,16,17] (.fork 13 (.sq [18,19,20] .done) 18 (.sq [13,19,20] .done))) (by kernel_rfl) (by kernel_rfl) ?_;simp only[TQ,Oper.slim,Nat.reduceBEq,Nat.reduceAdd]
           repeat' first|((with_reducible refine w_I ?_);first|(with_reducible refine w_D ?_)|(with_reducible refine zaf ?_ ?_)|((with_reducible refine w_S (fun K hK=>?_));go_simp;first|(refine hK _ _ ?_;clear hK K)|(refine⟨by (intro kk hkk;first|(simp (disch:=(simp;omega)) only[h_D,h_N,h_A,h_S];done)|(simp[h_D,h_N,h_I,hkk];done)|(have hkk2:=(HKP.out kk).1 hkk;simp (disch:=(first|omega|(simp;omega))) only[h_D,h_N,h_A,h_S];done)),hK _ _ ?_⟩;clear hK K)))|fail
           all_goals clear hgr
           all_goals go_wp2
           all_goals go_roundg (I-(E+1))
           all_goals first
            | omega
            | exact Nat.sub_lt_sub_left HLT.out (Nat.lt_succ_self E)
            | exact⟨_,E+1,rfl,HLT.out,rfl,by go_num,HO2,HBD⟩
          ·have hsl:¬st1.data.toList=st2.data.toList:=fun e=>hss (by
            have e2:st1.data=st2.data:=Array.toList_inj.1 e;cases st1;cases st2;simp only at e2;rw[e2])
           have hb1:(st1.data.toList == st2.data.toList)=false:=by simpa using hsl
           have hb2:(st1.toList == st2.toList)=false:=by rw[ByteArray.toList_eq,ByteArray.toList_eq];exact hb1
           have hbf:bad (S.map Ro.d) s=true:=hbq2.trans (decide_eq_true (show s.d≠q.d from fun e=>hss (hst.2 e)));obtain⟨v1',w6,hap,ho1,-,hb6,-⟩:=zdf (W:=wr.drew) (j:Int) HO.out (by
            have:=HLEN.out
            have:=zqr (S.map Ro.d) (l.take E) j
            rw[Zan] at this;rw[Zak];omega) (by simpa using HB6.out.size) (ad:=wr.heap.size) rfl
           have HO6:Hid (za4 w6 w5.heap.size v1' (oth (S.map Ro.d) l j++zhu (S.map Ro.d) (l.take (E+1)) j)):=Hd (by
            rw[hot,hbf,if_pos (by simp),←List.append_assoc];exact ho1)
           have HB7:Hid (Below w5.heap.size w5 w6):=Hd (HBD.out.trans hb6);clear hkp hx hs hq hTR hat hatq r1 r2 hst hst1 hst2 hot hbq2 hdj hbf hss ho1 hb6 hbw;go_upto_region 25 with fail
           have hgr:=hgK (fun j=>kp j=true);refine w_T (fun j=>kp j=true) [13,18] (.sq [0,1,2,3,4,5,6,7,8,9,10,11,12,14,15,16,17] (.fork 13 (.sq [18,19,20] .done) 18 (.sq [13,19,20] .done))) (by kernel_rfl) (by kernel_rfl) ?_;simp only[TQ,Oper.slim,Nat.reduceBEq,Nat.reduceAdd]
           repeat' first|((with_reducible refine w_I ?_);first|(with_reducible refine w_D ?_)|(with_reducible refine zaf ?_ ?_)|((with_reducible refine w_S (fun K hK=>?_));go_simp;first|(refine hK _ _ ?_;clear hK K)|(refine⟨by (intro kk hkk;first|(simp (disch:=(simp;omega)) only[h_D,h_N,h_A,h_S];done)|(simp[h_D,h_N,h_I,hkk];done)|(have hkk2:=(HKP.out kk).1 hkk;simp (disch:=(first|omega|(simp;omega))) only[h_D,h_N,h_A,h_S];done)),hK _ _ ?_⟩;clear hK K)))|fail
           all_goals clear hgr
           all_goals go_wp2_with (at_builtin;refine zae rfl _ _ _ rfl rfl rfl hap ?_)
           all_goals go_roundg (I-(E+1))
           all_goals first
            | omega
            | exact Nat.sub_lt_sub_left HLT.out (Nat.lt_succ_self E)
            | exact⟨_,E+1,rfl,HLT.out,rfl,by go_num,HO6,HB7⟩
         ·have HO2:Hid (za4 wr.drew w5.heap.size V (oth (S.map Ro.d) l j++zhu (S.map Ro.d) (l.take (E+1)) j)):=Hd (by
           rw[hot,hx,decide_eq_false hxj,Bool.false_and,if_neg (by simp)];exact HO.out)
          clear hkp hx hs hq hTR hat hatq r1 r2 hst hst1 hst2 hot hbq2 hbw;go_upto_region 25 with fail
          have hgr:=hgK (fun j=>kp j=true);refine w_T (fun j=>kp j=true) [13,18] (.sq [0,1,2,3,4,5,6,7,8,9,10,11,12,14,15,16,17] (.fork 13 (.sq [18,19,20] .done) 18 (.sq [13,19,20] .done))) (by kernel_rfl) (by kernel_rfl) ?_;simp only[TQ,Oper.slim,Nat.reduceBEq,Nat.reduceAdd]
          repeat' first|((with_reducible refine w_I ?_);first|(with_reducible refine w_D ?_)|(with_reducible refine zaf ?_ ?_)|((with_reducible refine w_S (fun K hK=>?_));go_simp;first|(refine hK _ _ ?_;clear hK K)|(refine⟨by (intro kk hkk;first|(simp (disch:=(simp;omega)) only[h_D,h_N,h_A,h_S];done)|(simp[h_D,h_N,h_I,hkk];done)|(have hkk2:=(HKP.out kk).1 hkk;simp (disch:=(first|omega|(simp;omega))) only[h_D,h_N,h_A,h_S];done)),hK _ _ ?_⟩;clear hK K)))|fail
          all_goals clear hgr
          all_goals go_wp2
          all_goals go_roundg (I-(E+1))
          all_goals first
           | omega
           | exact Nat.sub_lt_sub_left HLT.out (Nat.lt_succ_self E)
           | exact⟨_,E+1,rfl,HLT.out,rfl,by go_num,HO2,HBD⟩
        ·obtain rfl:E=I:=by omega
         have HO2:Hid (za4 wr w5.heap.size V (oth (S.map Ro.d) l (j+1))):=Hd (by
          have:=HO.out
          rwa[Zca (by rw[HLL.out];exact zE3 _)] at this)
         go_wp2;go_roundg (N-(j+1))
         case measure=>omega
         case rel=>exact⟨_,j+1,rfl,by omega,rfl,by go_num,HO2,HB6⟩
      ·obtain rfl:j=N:=by omega
       have HP:Hid (zgj wr w.heap.size (.slice a0 I c0) l∧za4 wr w.heap.size V (oth (S.map Ro.d) l j)∧Below w.heap.size w wr):=Hd ⟨(HT.out.below HB6.out).mono HB1.out.size,HO.out.mono (by omega),HB05.out.trans (HB6.out.mono HB05.out.size)⟩;go_wp2;go_ret2;exact⟨_,_,l,_,rfl,HP.out.1,HP.out.2.1,HP.out.2.2,HND.out,HTI.out⟩
theorem zx2 (sv:Value) (S:List Ro) (bs t:Nat) (tu:Bool) (ta tb:Value) (As Bs:List GF) (w:World) (h:zdv w sv S) (hl:S.length≤1000) (hdl:∀s∈S,s.d.length≤1000000) (hbs:bs<18446744073709551616) (ha:GRd w ta As) (hb:GRd w tb Bs) (ht:t≤1000000) :
  Calls Tryz.prog 31 #[sv,.int .u64 bs,.bool tu,ta,tb,.int .i64 t] w (zrj tu bs t S w) :=
 (zm4 sv S bs t tu ta tb As Bs w h hl hdl hbs ha hb ht).mono fun e w' ⟨v1,v2,l,zs,h1,h2,h3⟩=>⟨v1,v2,l,zs,h1,h2.own,h3⟩
noncomputable def ysL (l:List Sy):List GF:=l.map fun s=>s.d.getD 0 0
theorem zlh (l:List Sy):(ysL l).length=l.length:=by simp[ysL]
theorem zc9 {l:List Sy} {i:Nat} {s:Sy} (h:l[i]? = some s):(Sy.nodes l).getD i 0=s.node:=by rw[Sy.nodes,zE2,Zae,h];rfl
theorem zp0 {l:List Sy} {i:Nat} {s:Sy} (h:l[i]? = some s):(ysL l).getD i 0=s.d.getD 0 0:=by rw[ysL,zE2,Zae,h];rfl
theorem yam {d:List GF} (h:d.length=1):d=[d.getD 0 0]:=by
 match d,h with
 | [x],_=>rfl
theorem ya1 {xs P:List GF} {D:List (List GF)} {l:List Sy} {zs:List Int} {t:Nat} (hDl:D.length=xs.length) (hD:∀i,i<xs.length→D.getD i []=[ev P (xs.getD i 0)]) (h:zel D t l zs):wrS xs (Sy.nodes l) (ysL l) P=zs:=by
 have hg:=h.good;have h1:∀(i:Nat) (s:Sy),l[i]? = some s→s.d=[s.d.getD 0 0]∧D.getD s.node.toNat []=[ev P (xs.getD s.node.toNat 0)]:=fun i s hs=>by have hm:=Zad hs;have hn:=hg.1 s.node (Zau.2 ⟨s,hm,rfl⟩);have e:=hD s.node.toNat (by omega);have hl:=h.len s hm;rw[e] at hl;exact⟨yam hl,e⟩
 refine zd9 (zlz (zmw _ _ hg.2)) h.rise fun x=>?_;rw[wrS,zi2,h.mem];unfold wrP wrI;rw[Zau];constructor
 ·rintro ⟨i,hi,rfl⟩;rw[Zbk,Zaj,zci,decide_eq_true_eq] at hi;have hil:i<l.length:=by simpa[Sy.nodes] using hi.1
  obtain⟨s,hs⟩:∃s,l[i]? = some s:=⟨_,zE1 hil⟩;obtain⟨e1,e2⟩:=h1 i s hs;have h2:=hi.2;rw[zfg _ hi.1,zc9 hs,zp0 hs] at h2;refine⟨s,Zad hs,(zc9 hs).symm,fun e=>h2 ?_⟩;rw[e1,e2] at e;exact ((List.cons.inj e).1).symm
 ·rintro ⟨s,hm,rfl,hne⟩;obtain⟨i,hs⟩:=List.mem_iff_getElem?.1 hm;obtain⟨e1,e2⟩:=h1 i s hs;have hil:=(Zah.1 hs).1;refine⟨i,?_,zc9 hs⟩;have hip:i<(Sy.nodes l).length:=by simpa[Sy.nodes] using hil
  rw[Zbk,Zaj,zci,decide_eq_true_eq];refine⟨hip,?_⟩;rw[zfg _ hip,zc9 hs,zp0 hs];intro e;exact hne (by rw[e1,e2,e])
theorem zm3 {D:List (List GF)} {l:List Sy} {zs:List Int} {t N sz:Nat} {not:Int} (hDl:D.length=N) (hD:∀i,i<N→(D.getD i []).length=sz) (h:zel D t l zs) (hnot:not∉Sy.nodes l):zar N not sz l:=by have hg:=h.good;rw[hDl] at hg;refine⟨hg,fun s hs=>⟨fun e=>hnot (Zau.2 ⟨s,hs,e⟩),?_⟩⟩;have hn:=hg.1 s.node (Zau.2 ⟨s,hs,rfl⟩);rw[h.len s hs,hD _ (by omega)]
