import Derived.Test.YtcclhhjcejmepaaGreatRows
import Derived.WalkSpells
import Derived.Lib.Hide
import Derived.Handy
import Derived.Deep.Draws
import Derived.Deep.Fields
set_option linter.all false
namespace Go.Proofs.YtcclhhjcejmepaaGreat
open Go.RowKit Go.ChangeShapes Go.WideShapes Go.ChangeAt
def zat (w:World) (v:Value) (l:List Nat):Prop :=
 (∀x∈l,x<256)∧∃a cap,v=.slice a l.length cap∧l.length≤cap ∧
  (l≠[]→∃b o,a=some ⟨b,o,none⟩∧b<w.heap.size∧∀i,i<l.length→w.cell? ⟨b,o+i,none⟩=some (.int .u8 ((l.getD i 0:Nat):Int)))
theorem zat.below {w w':World} {v:Value} {l:List Nat} (h:zat w v l) (hb:Below w.heap.size w w'):zat w' v l:=by obtain⟨h0,a,cap,h1,h2,h3⟩:=h;refine⟨h0,a,cap,h1,h2,fun hne=>?_⟩;obtain⟨b,o,h4,h5,h6⟩:=h3 hne;exact⟨b,o,h4,Nat.lt_of_lt_of_le h5 hb.size,fun i hi=>(hb.cell (p:=⟨b,o+i,none⟩) h5).trans (h6 i hi)⟩
theorem zat.alloc {w:World} {v:Value} {l:List Nat} (h:zat w v l) (o:Obj):zat (w.alloc o) v l:=h.below ((Below.refl _ w).alloc (Nat.le_refl _) o)
theorem zat.nil (w:World):zat w (.slice none 0 0) []:=⟨by simp,none,0,rfl,Nat.le_refl _,fun h=>absurd rfl h⟩
theorem zat.of_owns {w:World} {base t:Nat} {v:Value} {n:Nat} {l:List Nat} (h:w.ownsRow base t 1 v n (l.map fun x=>.int .u8 ((x:Nat):Int))) (hl:∀x∈l,x<256):zat w v l:=by
 have hn:l.length=n:=by have:=h.1;simpa using this
 have hlt:=h.lt;refine⟨hl,?_⟩;rcases h.2 with ⟨rfl,h2⟩|⟨g,cap,cur,rfl,h2,h3,h4,h5,h6,h7⟩
 ·obtain rfl:=List.eq_nil_of_length_eq_zero (hn.trans h2);exact⟨none,0,rfl,Nat.le_refl _,fun h=>absurd rfl h⟩
 ·refine⟨_,cap,by rw[hn],by omega,fun _=>⟨g,0,rfl,(hlt g rfl).2,fun i hi=>?_⟩⟩;have:=h.cells (g:=g) rfl i (.int .u8 ((l.getD i 0:Nat):Int)) (by simp[List.getElem?_eq_getElem hi,List.getD]);have e:(⟨g,0,none⟩:Addr).add i=⟨g,0+i,none⟩:=by unfold Addr.add;split<;>simp_all
  rwa[e] at this
def za1 (l:List Nat):ByteArray:=strOfNums (l.map fun x:Nat=>(x:Int))
theorem zdk {l m:List Nat} (hl:∀x∈l,x<256) (hm:∀x∈m,x<256):za1 l=za1 m↔l=m:=by
 constructor
 ·intro h;have h1:(za1 l).data.toList=(za1 m).data.toList:=by rw[h]
  unfold za1 at h1;rw[strOfNums_data,strOfNums_data,List.map_map,List.map_map] at h1;have key:∀(l m:List Nat),(∀x∈l,x<256)→(∀x∈m,x<256)→l.map ((fun n:Int=>UInt8.ofNat n.toNat) ∘ fun x:Nat=>(x:Int))=m.map ((fun n:Int=>UInt8.ofNat n.toNat) ∘ fun x:Nat=>(x:Int))→l=m:=by
   intro l
   induction l with
   | nil=>intro m _ _ h;cases m with
    | nil=>rfl
    | cons a m=>simp at h
   | cons a l ih =>
    intro m hl hm h;cases m with
    | nil=>simp at h
    | cons b m =>
     simp only[List.map_cons,List.cons.injEq,Function.comp,Int.toNat_natCast] at h;have ha:a<256:=hl a (by simp);have hb:b<256:=hm b (by simp);have:(UInt8.ofNat a).toNat=(UInt8.ofNat b).toNat:=by rw[h.1]
     rw[UInt8.toNat_ofNat',UInt8.toNat_ofNat',Nat.mod_eq_of_lt (by simpa using ha),Nat.mod_eq_of_lt (by simpa using hb)] at this;rw[this,ih m (fun x hx=>hl x (by simp[hx])) (fun x hx=>hm x (by simp[hx])) (by simpa[Function.comp] using h.2)]
  exact key l m hl hm h1
 ·rintro rfl;rfl
theorem zat.conv {w:World} {v:Value} {l:List Nat} (h:zat w v l) :
  (convert 22 9 v).run Tryz.prog w=.ok (.string (za1 l)) w:=by
 obtain⟨h0,a,cap,rfl,h2,h3⟩:=h;by_cases hne:l=[]
 ·subst hne;cases a with
  | none=>exact run_convert_bytes_nil (P:=Tryz.prog) w 22 5 Tryz.underlying22 Tryz.underlying5 _ _ _ Tryz.underlying9
  | some a =>
   rw[run_convert_bytes_string w _ _ _ _ _ cap Tryz.underlying22 Tryz.underlying5 Tryz.underlying9];rw[run_bytesToString w a _ cap [] (by
    have:=run_loadCells_list (P:=Tryz.prog) w a [] (fun j v hj=>by simp at hj)
    simpa using this)]
   rfl
 ·obtain⟨b,o,rfl,h4,h5⟩:=h3 hne;refine run_convert_bytes_arg (P:=Tryz.prog) w 22 5 Tryz.underlying22 Tryz.underlying5 b o _ cap (l.map fun x:Nat=>(x:Int)) (by simp) (fun i hi=>?_) _ Tryz.underlying9;rw[h5 i hi];simp[List.getD,List.getElem?_eq_getElem hi]
end Go.Proofs.YtcclhhjcejmepaaGreat
namespace Go.Proofs.YtcclhhjcejmepaaGreat
open Go.RowKit
def zck (w:World) (g:Nat) (o:Obj):World:={ w with heap:=w.heap.setIfInBounds g o }
theorem zoz (w:World) (g:Nat) (o:Obj):(zck w g o).heap.size=w.heap.size:=by simp[zck]
theorem zjh {w:World} {g:Nat} (o:Obj) (h:g<w.heap.size):(zck w g o).heap[g]? = some o:=by simp[zck,h]
theorem zfa {w:World} {g k:Nat} (o:Obj) (h:k≠g):(zck w g o).heap[k]? = w.heap[k]?:=by simp only[zck];rw[Array.getElem?_setIfInBounds,if_neg (fun e=>h e.symm)]
theorem zpu {w:World} {g:Nat} (cs:Array Value) (t:TypeId) (fr:Nat×Nat) (i:Nat) (h:g<w.heap.size):(zck w g (.cells cs t fr)).cell? ⟨g,i,none⟩=cs[i]?:=by unfold World.cell?;simp only[zjh _ h];rfl
theorem zke {w:World} {g k:Nat} (o:Obj) (i:Nat) (s:Option Nat) (h:k≠g):(zck w g o).cell? ⟨k,i,s⟩=w.cell? ⟨k,i,s⟩:=by unfold World.cell?;simp only[zfa o h]
theorem zmh {w:World} {g:Nat} (cs:Array Value) (t:TypeId) (i:Nat) (h:g<w.heap.size):(zck w g (.cells cs t (0,0))).frozen? ⟨g,i,none⟩=false:=by unfold World.frozen?;simp[zjh _ h]
theorem zhv {w:World} {g k:Nat} (o:Obj) (i:Nat) (s:Option Nat) (h:k≠g):(zck w g o).frozen? ⟨k,i,s⟩=w.frozen? ⟨k,i,s⟩:=by unfold World.frozen?;simp only[zfa o h]
theorem zj5 (w:World) (g:Nat) (cs:Array Value) (t:TypeId) (fr:Nat×Nat) (i:Nat) (v:Value) :
  (zck w g (.cells cs t fr)).setCell ⟨g,i,none⟩ v=zck w g (.cells (cs.setIfInBounds i v) t fr):=by
 unfold zck World.setCell;congr 1;apply Array.ext_getElem?;intro k;simp only[Array.getElem?_modify,Array.getElem?_setIfInBounds];by_cases hk:g=k
 ·subst hk;simp only[if_true];by_cases hl:g<w.heap.size<;>simp[hl]
 ·simp[hk]
attribute [go_sem] zoz zpu zke zmh zhv zj5
theorem zgu (w:World) (g k:Nat) (o:Obj) (i:Nat) (s:Option Nat) (v:Value) (h:k≠g):(zck w g o).setCell ⟨k,i,s⟩ v=zck (w.setCell ⟨k,i,s⟩ v) g o:=by
 unfold zck World.setCell;congr 1;apply Array.ext_getElem?;intro j;simp only[Array.getElem?_modify,Array.getElem?_setIfInBounds,Array.size_modify];by_cases hk:k=j
 ·subst hk;simp only[if_true];rw[if_neg (fun e=>h e.symm),if_neg (fun e=>h e.symm)]
 ·simp only[if_neg hk]
theorem zad {W w':World} (hb:Below W.heap.size W w') {g:Nat} {o:Obj} (h:W.heap[g]? = some o):w'.heap[g]? = some o :=
 (hb.block g (Array.getElem?_eq_some_iff.1 h).1).trans h
theorem lOH {W:World} {g:Nat} {o:Obj} (h:W.heap[g]? = some o):g<W.heap.size:=(Array.getElem?_eq_some_iff.1 h).1
theorem zaw {W:World} {g:Nat} {o:Obj} (h:W.heap[g]? = some o) (x:Obj):(W.alloc x).heap[g]? = some o:=by show (W.heap.push x)[g]? = _;rw[Array.getElem?_push,if_neg (by have:=lOH h;omega)];exact h
theorem nwA (w:World) (o:Obj):(w.alloc o).heap[w.heap.size]? = some o:=by show (w.heap.push o)[w.heap.size]? = _;rw[Array.getElem?_push,if_pos rfl]
theorem hSS {W:World} {g:Nat} {cs:Array Value} {ty:TypeId} {fr:Nat×Nat} (h:W.heap[g]? = some (.cells cs ty fr)) (i:Nat) (v:Value) :
  (W.setCell ⟨g,i,none⟩ v).heap[g]? = some (.cells (cs.setIfInBounds i v) ty fr):=by
 unfold World.setCell;simp[Array.getElem?_modify,h]
attribute [go_sem] zgu
open Go.ChangeShapes Go.WideShapes Go.ChangeAt Go.Deep
def SRd {α:Type} (n:Nat) (cells:α→List Value) (w:World) (v:Value) (l:List α):Prop :=
 ∃a cap,v=.slice a l.length cap∧l.length≤cap∧(l≠[]→∃b o,a=some ⟨b,o,none⟩∧b<w.heap.size∧∀(i:Nat) (c:α),l[i]? = some c→∀(j:Nat) (u:Value),(cells c)[j]? = some u→w.cell? ⟨b,o+i*n+j,none⟩=some u)
section
variable {α:Type} {n:Nat} {cells:α→List Value}
theorem SRd.below {w w':World} {v:Value} {l:List α} (h:SRd n cells w v l) (hb:Below w.heap.size w w'):SRd n cells w' v l:=by obtain⟨a,cap,h1,h2,h3⟩:=h;refine⟨a,cap,h1,h2,fun hne=>?_⟩;obtain⟨b,o,h4,h5,h6⟩:=h3 hne;exact⟨b,o,h4,Nat.lt_of_lt_of_le h5 hb.size,fun i c hi j u hj=>(hb.cell (p:=⟨b,o+i*n+j,none⟩) h5).trans (h6 i c hi j u hj)⟩
theorem SRd.nil (w:World):SRd n cells w (.slice none 0 0) []:=⟨none,0,rfl,Nat.le_refl _,fun h=>absurd rfl h⟩
theorem SRd.form {w:World} {v:Value} {l:List α} (h:SRd n cells w v l):∃a cap,v=.slice a l.length cap:=by obtain⟨a,cap,h1,_⟩:=h;exact⟨a,cap,h1⟩
theorem SRd.cap_le {w:World} {a:Option Addr} {m cap:Nat} {l:List α} (h:SRd n cells w (.slice a m cap) l):m=l.length∧l.length≤cap:=by obtain⟨a',cap',h1,h2,_⟩:=h;cases h1;exact⟨rfl,h2⟩
theorem SRd.at {w:World} {a:Option Addr} {m cap:Nat} {l:List α} (h:SRd n cells w (.slice a m cap) l) {i:Nat} {c:α} (hi:l[i]? = some c):m=l.length∧l.length≤cap∧∃b o,a=some ⟨b,o,none⟩∧b<w.heap.size ∧
  ∀(j:Nat) (u:Value),(cells c)[j]? = some u→w.cell? ⟨b,o+i*n+j,none⟩=some u:=by
 obtain⟨a',cap',h1,h2,h3⟩:=h;cases h1;obtain⟨b,o,h4,h5,h6⟩:=h3 (fun e=>by rw[e] at hi;simp at hi);exact⟨rfl,h2,b,o,h4,h5,h6 i c hi⟩
def zb5 (cells:α→List Value) (l:List α):List Value:=l.flatMap cells
theorem zhm (l m:List α):zb5 cells (l++m)=zb5 cells l++zb5 cells m:=by simp[zb5]
theorem zeh (hn:∀c,(cells c).length=n) (l:List α):(zb5 cells l).length=l.length*n:=by
 induction l with
 | nil=>simp[zb5]
 | cons c l ih =>
  unfold zb5 at *;rw[List.flatMap_cons,List.length_append,hn,ih,List.length_cons,Nat.add_mul,Nat.one_mul,Nat.add_comm]
theorem zh8 (hn:∀c,(cells c).length=n):∀(l:List α) (i:Nat) (c:α) (j:Nat) (u:Value),l[i]? = some c→(cells c)[j]? = some u→(zb5 cells l)[i*n+j]? = some u
 | [],i,c,j,u,h,_=>by simp at h
 | d :: l,0,c,j,u,h,hj=>by
  simp only[List.getElem?_cons_zero,Option.some.injEq] at h;subst h;have hl:=(List.getElem?_eq_some_iff.1 hj).1;unfold zb5;rw[List.flatMap_cons,Nat.zero_mul,Nat.zero_add,List.getElem?_append_left hl];exact hj
 | d :: l,i+1,c,j,u,h,hj=>by
  have ih:=zh8 hn l i c j u (by simpa using h) hj;unfold zb5 at *;have h1:(i+1)*n+j=n+(i*n+j):=by rw[Nat.add_mul,Nat.one_mul];omega
  rw[List.flatMap_cons,List.getElem?_append_right (by rw[hn];omega),hn,h1,Nat.add_sub_cancel_left];exact ih
theorem SRd.of_owns {w:World} {base t:Nat} {v:Value} {m:Nat} {l:List α} (hn:∀c,(cells c).length=n) (hn0:0<n) (h:w.ownsRow base t n v m (zb5 cells l)):SRd n cells w v l:=by
 have hm:l.length=m:=by
  have:=h.1
  rw[zeh hn] at this;exact Nat.eq_of_mul_eq_mul_right hn0 this
 have hlt:=h.lt;rcases h.2 with ⟨rfl,h2⟩|⟨g,cap,cur,rfl,h2,h3,h4,h5,h6,h7⟩
 ·obtain rfl:=List.eq_nil_of_length_eq_zero (hm.trans h2);exact SRd.nil w
 ·refine⟨_,cap,by rw[hm],by omega,fun _=>⟨g,0,rfl,(hlt g rfl).2,fun i c hi j u hj=>?_⟩⟩;have:=h.cells (g:=g) rfl (i*n+j) u (zh8 hn l i c j u hi hj);have e:(⟨g,0,none⟩:Addr).add (i*n+j)=⟨g,0+i*n+j,none⟩:=by
   unfold Addr.add;split
   ·simp_all
   ·simp only[Addr.mk.injEq,true_and,and_true];omega
  rwa[e] at this
end
end Go.Proofs.YtcclhhjcejmepaaGreat
namespace Go.Proofs.YtcclhhjcejmepaaGreat
open Go.RowKit
def yed (x:Int):List Value:=[.int .i64 x]
theorem zpi (x:Int):(yed x).length=1:=rfl
abbrev IRd (w:World) (v:Value) (l:List Int):Prop:=SRd 1 yed w v l
theorem zwt (l:List Int):zb5 yed l=l.map (Value.int .i64):=by
 induction l with
 | nil=>rfl
 | cons a l ih=>unfold zb5 at *;rw[List.flatMap_cons,ih];rfl
theorem IRd.cell {w:World} {a:Option Addr} {m cap:Nat} {l:List Int} (h:IRd w (.slice a m cap) l) {i:Nat} {x:Int} (hi:l[i]? = some x):m=l.length∧l.length≤cap∧∃b o,a=some ⟨b,o,none⟩∧b<w.heap.size∧w.cell? ⟨b,o+i,none⟩=some (.int .i64 x):=by obtain⟨h1,h2,b,o,h3,h4,h5⟩:=h.at hi;refine⟨h1,h2,b,o,h3,h4,?_⟩;have:=h5 0 _ rfl;simpa using this
theorem IRd.cells {w:World} {b o m cap:Nat} {l:List Int} (h:IRd w (.slice (some ⟨b,o,none⟩) m cap) l):∀i x,l[i]? = some x→w.cell? ⟨b,o+i,none⟩=some (.int .i64 x):=by intro i x hi;obtain⟨_,_,b',o',h3,_,h5⟩:=h.cell hi;cases h3;exact h5
theorem IRd.mk {w:World} {b o cap:Nat} {l:List Int} (hc:l.length≤cap) (hb:b<w.heap.size) (h:∀i x,l[i]? = some x→w.cell? ⟨b,o+i,none⟩=some (.int .i64 x)):IRd w (.slice (some ⟨b,o,none⟩) l.length cap) l:=by
 refine⟨_,cap,rfl,hc,fun _=>⟨b,o,rfl,hb,fun i c hi j u hj=>?_⟩⟩;have hj0:j=0:=by
  have:=(List.getElem?_eq_some_iff.1 hj).1
  simp[yed] at this;exact this
 subst hj0;simp[yed] at hj;subst hj;have:=h i c hi;simpa using this
theorem IRd.of_owns {w:World} {base t:Nat} {v:Value} {m:Nat} {l:List Int} (h:w.ownsRow base t 1 v m (l.map (Value.int .i64))):IRd w v l :=
 SRd.of_owns zpi (by omega) (by rw[zwt];exact h)
theorem zy5 (z:Value) (hz:z.cells=#[z]) (n:Nat):madeCells z.cells n=Array.replicate n z:=by
 apply Array.ext
 ·simp[size_madeCells]
 ·intro i h1 h2;simp[madeCells,hz,Nat.mod_one]
theorem zb4 (w:World) (t e:TypeId) (i:TypeInfo) (z:Value) (ht:Tryz.prog.underlying t=some (.slice e)) (hi:Tryz.prog.info? e=some i) (hz:i.zero=some z) (hs:i.size=1) (hc:z.cells=#[z]) (n:Nat) (hb:i.bytes*n≤281474976710656) (h63:n≤maxLen) :
  (Instr.makeSlice t (.int .i64 n) (.int .i64 n)).run Tryz.prog w=.ok (.slice (some ⟨w.heap.size,0,none⟩) n n) (w.alloc (.cells (Array.replicate n z) e)):=by
 have h63':(n:Int)≤9223372036854775807:=by have h:=h63;simp[maxLen] at h;omega
 have hb':(i.bytes:Int)*(n:Int)≤281474976710656:=by
  have h:((i.bytes*n:Nat):Int)≤281474976710656:=by omega
  rwa[Int.natCast_mul] at h
 have hr:=run_make (P:=Tryz.prog) w t e i z ht hi hz .i64 .i64 n n (by omega) (Int.le_refl _) hb' h63';rw[hs,Nat.mul_one,zy5 z hc] at hr;simpa using hr
def mulA (a b:Nat):Nat→Nat
 | 0=>0
 | k+1=>if b.testBit k then mulA a b k ^^^ (a*2 ^ k) else mulA a b k
def zkp (m:Nat):Nat→Nat
 | 0=>m
 | j+1=>if (zkp m j).testBit (14-j) then zkp m j ^^^ (285*2 ^ (6-j)) else zkp m j
def zb9 (a b:Nat):Nat:=zkp (mulA a b 8) 7 % 256
theorem zvq {a b:Nat} (ha:a<256):∀k,mulA a b k<2 ^ (8+k)
 | 0=>by simp[mulA]
 | k+1=>by
  have h:=zvq (b:=b) ha k;have h1:(2:Nat) ^ (8+k)<2 ^ (8+(k+1)):=Nat.pow_lt_pow_right (by omega) (by omega);have h2:a*2 ^ k<2 ^ (8+(k+1)):=by
   have:a*2 ^ k<256*2 ^ k:=Nat.mul_lt_mul_of_pos_right ha (Nat.two_pow_pos k)
   have h3:(2:Nat) ^ (8+k)=256*2 ^ k:=by rw[Nat.pow_add]
   omega
  simp only[mulA];split
  ·exact Nat.xor_lt_two_pow (by omega) h2
  ·omega
theorem zu5 {m:Nat} (hm:m<65536):∀j,j≤7→zkp m j<65536
 | 0,_=>hm
 | j+1,h=>by
  have h1:=zu5 hm j (by omega);simp only[zkp];split
  ·refine Nat.xor_lt_two_pow (n:=16) (by omega) ?_;have:(2:Nat) ^ (6-j)≤2 ^ 6:=Nat.pow_le_pow_right (by omega) (by omega);omega
  ·exact h1
theorem yci (a b:Nat):zb9 a b<256:=Nat.mod_lt _ (by omega)
theorem zf6 (a:Nat) (ha:a<9223372036854775808):(BitVec.ofInt 64 (a:Int)).toNat=a:=by rw[BitVec.ofInt_natCast,BitVec.toNat_ofNat];exact Nat.mod_eq_of_lt (by omega)
theorem zpk (a b:Nat) (ha:a<9223372036854775808) (hb:b<9223372036854775808):bits .and .i64 (a:Int) (b:Int)=((a &&& b:Nat):Int):=by have hx:a &&& b<2 ^ 63:=Nat.and_lt_two_pow _ (by omega);show IntKind.i64.wrap ((BitVec.ofInt 64 (a:Int) &&& BitVec.ofInt 64 (b:Int)).toNat:Int)=_;rw[BitVec.toNat_and,zf6 a ha,zf6 b hb,IntKind.wrap_i64];omega
theorem zfl (a b:Nat) (ha:a<9223372036854775808) (hb:b<9223372036854775808):bits .xor .i64 (a:Int) (b:Int)=((a ^^^ b:Nat):Int):=by have hx:a ^^^ b<2 ^ 63:=Nat.xor_lt_two_pow (by omega) (by omega);show IntKind.i64.wrap ((BitVec.ofInt 64 (a:Int) ^^^ BitVec.ofInt 64 (b:Int)).toNat:Int)=_;rw[BitVec.toNat_xor,zf6 a ha,zf6 b hb,IntKind.wrap_i64];omega
theorem zrt:∀n:Fin 256,(bits .and .u8 (n.val:Int) 1 == 1)=decide (n.val % 2=1):=by decide +kernel
theorem ydh (b k:Nat) (hb:b<256):(bits .and .u8 ((b:Int) / 2 ^ k) 1 == 1)=b.testBit k:=by
 have h:((b:Int) / 2 ^ k)=((b / 2 ^ k:Nat):Int):=by simp
 have h2:b / 2 ^ k<256:=Nat.lt_of_le_of_lt (Nat.div_le_self _ _) hb;rw[h,zrt ⟨b / 2 ^ k,h2⟩,Nat.testBit_eq_decide_div_mod_eq]
theorem ycg (m k:Nat) (hm:m<65536):(bits .and .i64 ((m:Int) / 2 ^ k) 1 == 1)=m.testBit k:=by
 have h:((m:Int) / 2 ^ k)=((m / 2 ^ k:Nat):Int):=by simp
 have h2:m / 2 ^ k<65536:=Nat.lt_of_le_of_lt (Nat.div_le_self _ _) hm;have h3:=zpk (m / 2 ^ k) 1 (by omega) (by omega);rw[h];rw[show ((1:Nat):Int)=1 from rfl] at h3;rw[h3,Nat.and_one_is_mod,Nat.testBit_eq_decide_div_mod_eq];by_cases hh:m / 2 ^ k % 2=1
 ·simp[hh]
 ·have:m / 2 ^ k % 2=0:=by omega
  simp[this]
end Go.Proofs.YtcclhhjcejmepaaGreat
namespace Go.Proofs.YtcclhhjcejmepaaGreat
class Fld (F:Type) where
 add:F→F→F
 mul:F→F→F
 zero:F
 one:F
 inv:F→F
 add_assoc:∀a b c,add (add a b) c=add a (add b c)
 add_comm:∀a b,add a b=add b a
 zero_add:∀a,add zero a=a
 add_self:∀a,add a a=zero
 mul_assoc:∀a b c,mul (mul a b) c=mul a (mul b c)
 mul_comm:∀a b,mul a b=mul b a
 one_mul:∀a,mul one a=a
 mul_add:∀a b c,mul a (add b c)=add (mul a b) (mul a c)
 inv_mul:∀a,a≠zero→mul (inv a) a=one
 one_ne:one≠zero
 dec:DecidableEq F
namespace Fld
variable {F:Type} [Fld F]
instance:Add F:=⟨add⟩
instance:Mul F:=⟨mul⟩
instance:Zero F:=⟨zero⟩
instance:One F:=⟨one⟩
instance:DecidableEq F:=dec
instance:Inhabited F:=⟨0⟩
theorem addA (a b c:F):a+b+c=a+(b+c):=add_assoc a b c
theorem ztw (a b:F):a+b=b+a:=add_comm a b
theorem yex (a b c:F):a+(b+c)=b+(a+c):=by rw[←addA,ztw a b,addA]
theorem zadd (a:F):0+a=a:=zero_add a
theorem addz (a:F):a+0=a:=by rw[ztw,zadd]
theorem zmv (a:F):a+a=0:=add_self a
theorem yc1 (a b:F):a+(a+b)=b:=by rw[←addA,zmv,zadd]
theorem mulA (a b c:F):a*b*c=a*(b*c):=mul_assoc a b c
theorem mulC (a b:F):a*b=b*a:=mul_comm a b
theorem ydx (a b c:F):a*(b*c)=b*(a*c):=by rw[←mulA,mulC a b,mulA]
theorem ztt (a:F):1*a=a:=one_mul a
theorem mone (a:F):a*1=a:=by rw[mulC,ztt]
theorem mad (a b c:F):a*(b+c)=a*b+a*c:=mul_add a b c
theorem dam (a b c:F):(a+b)*c=a*c+b*c:=by rw[mulC,mad,mulC c a,mulC c b]
theorem mzero (a:F):a*0=0:=by
 have h:a*0=a*0+a*0:=by rw[←mad,zmv]
 rw[h,zmv]
theorem zmul (a:F):0*a=0:=by rw[mulC,mzero]
theorem zed:(1:F)≠0:=one_ne
theorem zy9 (a:F) (h:a≠0):inv a*a=1:=inv_mul a h
theorem zsz (a:F) (h:a≠0):a*inv a=1:=by rw[mulC,zy9 a h]
theorem zi8 {a b:F} (h:a*b=0):a=0∨b=0:=by
 by_cases ha:a=0
 ·exact .inl ha
 ·right;have:inv a*(a*b)=0:=by rw[h,mzero]
  rwa[←mulA,zy9 a ha,ztt] at this
theorem ycd {a:F} (h:a≠0):inv a≠0:=fun e=>zed (by rw[←zy9 a h,e,zmul])
theorem zg8 {a b:F} (h:a+b=0):a=b:=by
 have:=congrArg (·+b) h
 simpa[addA,zmv,addz,zadd] using this
theorem zz3 {a b:F}:a+b=0↔a=b:=⟨zg8,fun h=>by rw[h,zmv]⟩
theorem zk7 {a b c:F} (h:a+b=a+c):b=c:=by rw[←yc1 a b,h,yc1]
theorem zku {a b c:F} (ha:a≠0) (h:a*b=a*c):b=c:=by
 have:=congrArg (inv a * ·) h
 simpa[←mulA,zy9 a ha,ztt] using this
def pw (x:F):Nat→F
 | 0=>1
 | n+1=>pw x n*x
theorem yaj (x:F) (a b:Nat):pw x (a+b)=pw x a*pw x b:=by
 induction b with
 | zero=>simp[pw,mone]
 | succ b ih=>rw[←Nat.add_assoc,pw,ih,pw,mulA]
theorem ye4 (x:F) (a b:Nat):pw (pw x a) b=pw x (a*b):=by
 induction b with
 | zero=>rfl
 | succ b ih=>rw[pw,ih,Nat.mul_succ,yaj]
def sm:Nat→(Nat→F)→F
 | 0,_=>0
 | n+1,f=>sm n f+f n
theorem ziv (f:Nat→F):sm 0 f=0:=rfl
theorem zb3 (n:Nat) (f:Nat→F):sm (n+1) f=sm n f+f n:=rfl
theorem zaj {n:Nat} {f g:Nat→F} (h:∀i,i<n→f i=g i):sm n f=sm n g:=by
 induction n with
 | zero=>rfl
 | succ n ih=>rw[zb3,zb3,ih (fun i hi=>h i (by omega)),h n (by omega)]
theorem zow {n:Nat} {f:Nat→F} (h:∀i,i<n→f i=0):sm n f=0:=by
 induction n with
 | zero=>rfl
 | succ n ih=>rw[zb3,ih (fun i hi=>h i (by omega)),h n (by omega),addz]
theorem zfv (n:Nat) (f g:Nat→F):sm n (fun i=>f i+g i)=sm n f+sm n g:=by
 induction n with
 | zero=>simp[ziv,addz]
 | succ n ih=>rw[zb3,zb3,zb3,ih];simp only[addA,ztw,yex]
theorem zfu (n:Nat) (a:F) (f:Nat→F):sm n (fun i=>a*f i)=a*sm n f:=by
 induction n with
 | zero=>simp[ziv,mzero]
 | succ n ih=>rw[zb3,zb3,ih,mad]
theorem zln (n:Nat) (a:F) (f:Nat→F):sm n (fun i=>f i*a)=sm n f*a:=by rw[mulC,←zfu];exact zaj fun i _=>mulC _ _
theorem zhh {n:Nat} {f:Nat→F} (j:Nat) (hj:j<n) (h:∀i,i<n→i≠j→f i=0):sm n f=f j:=by
 induction n with
 | zero=>omega
 | succ n ih =>
  rw[zb3];by_cases e:j=n
  ·subst e;rw[zow fun i hi=>h i (by omega) (by omega),zadd]
  ·rw[ih (by omega) fun i hi hne=>h i (by omega) hne,h n (by omega) (by omega),addz]
theorem zui (m n:Nat) (f:Nat→Nat→F):sm m (fun i=>sm n (f i))=sm n (fun j=>sm m (fun i=>f i j)):=by
 induction m with
 | zero=>simp only[ziv];exact (zow fun i _=>rfl).symm
 | succ m ih =>
  rw[zb3,ih,←zfv];rfl
theorem zc6 (m n:Nat) (f:Nat→F):sm (m+n) f=sm m f+sm n (fun i=>f (m+i)):=by
 induction n with
 | zero=>simp[ziv,addz]
 | succ n ih=>rw[←Nat.add_assoc,zb3,ih,zb3,addA]
theorem ybf (n:Nat) (f:Nat→F):sm (n+1) f=f 0+sm n (fun i=>f (i+1)):=by rw[Nat.add_comm,zc6];simp only[zb3,ziv,zadd];congr 1;exact zaj fun i _=>by rw[Nat.add_comm]
def ev:List F→F→F
 | [],_=>0
 | c :: p,x=>c+x*ev p x
theorem zei (x:F):ev [] x=0:=rfl
theorem zbe (c:F) (p:List F) (x:F):ev (c :: p) x=c+x*ev p x:=rfl
theorem zej (p q:List F) (x:F):ev (p++q) x=ev p x+pw x p.length*ev q x:=by
 induction p with
 | nil=>simp[ev,pw,zadd,ztt]
 | cons c p ih=>rw[List.cons_append,zbe,ih,zbe,List.length_cons,pw,mad,addA,mulC (pw x p.length) x,mulA]
theorem zez {p:List F} (h:∀c∈p,c=0) (x:F):ev p x=0:=by
 induction p with
 | nil=>rfl
 | cons c p ih=>rw[zbe,h c (by simp),ih (fun d hd=>h d (by simp[hd])),mzero,addz]
theorem zg4 (p:List F) (x:F):ev p x=sm p.length (fun i=>p.getD i 0*pw x i):=by
 induction p with
 | nil=>rfl
 | cons c p ih =>
  rw[zbe,List.length_cons,ybf,ih,←zfu];simp only[List.getD_cons_zero,List.getD_cons_succ,pw,mone];congr 1;exact zaj fun i _=>by simp only[ydx,mulC,mulA]
def zni:List F→List F→List F
 | [],q=>q
 | p,[]=>p
 | a :: p,b :: q=>(a+b) :: zni p q
theorem zpp (p q:List F) (x:F):ev (zni p q) x=ev p x+ev q x:=by
 induction p generalizing q with
 | nil=>simp[zni,zei,zadd]
 | cons a p ih =>
  cases q with
  | nil=>simp[zni,zei,addz]
  | cons b q =>
   rw[zni,zbe,zbe,zbe,ih,mad];simp only[addA,yex]
theorem zd2 (p q:List F):(zni p q).length=max p.length q.length:=by
 induction p generalizing q with
 | nil=>simp[zni]
 | cons a p ih =>
  cases q with
  | nil=>simp[zni]
  | cons b q=>simp only[zni,ih,List.length_cons];omega
theorem znw (p q:List F) (i:Nat):(zni p q).getD i 0=p.getD i 0+q.getD i 0:=by
 induction p generalizing q i with
 | nil=>simp[zni,zadd]
 | cons a p ih =>
  cases q with
  | nil=>simp[zni,addz]
  | cons b q =>
   cases i with
   | zero=>rfl
   | succ i=>simpa[zni] using ih q i
def psc (a:F) (p:List F):List F:=p.map (a * ·)
theorem yat (a:F) (p:List F) (x:F):ev (psc a p) x=a*ev p x:=by
 induction p with
 | nil=>simp[psc,ev,mzero]
 | cons c p ih =>
  have ih':ev (p.map (a * ·)) x=a*ev p x:=ih;rw[psc,List.map_cons,zbe,ih',zbe,mad,ydx]
theorem zg3 (a:F) (p:List F):(psc a p).length=p.length:=by simp[psc]
def sdv (a:F):List F→List F
 | []=>[]
 | [_]=>[]
 | _ :: d :: p=>ev (d :: p) a :: sdv a (d :: p)
theorem zkz (a:F) (p:List F):(sdv a p).length=p.length-1:=by
 match p with
 | []=>rfl
 | [_]=>rfl
 | _ :: d :: p =>
  rw[sdv,List.length_cons,zkz a (d :: p)];simp
theorem yas (a x:F) (p:List F):ev p x=ev p a+(x+a)*ev (sdv a p) x:=by
 match p with
 | []=>simp[ev,sdv,mzero,addz]
 | [c]=>simp[ev,sdv,mzero,addz]
 | c :: d :: p =>
  have ih:=yas a x (d :: p);rw[sdv,zbe c,zbe c,zbe (ev (d :: p) a)];obtain⟨u,hu⟩:∃u,u=ev (d :: p) a:=⟨_,rfl⟩;obtain⟨v,hv⟩:∃v,v=ev (sdv a (d :: p)) x:=⟨_,rfl⟩;rw[←hu,←hv] at ih ⊢;rw[ih];simp only[mad,dam,addA];congr 1;rw[yex (a*u) (x*u),yc1];congr 1;simp only[ydx,mulC,mulA]
theorem zp9 {a:F} {p:List F} (h:∀c∈sdv a p,c=0) (h0:ev p a=0):∀c∈p,c=0:=by
 match p with
 | []=>intro c hc;cases hc
 | [c] =>
  intro c' hc;simp only[List.mem_singleton] at hc;rw[hc];simpa[ev,mzero,addz] using h0
 | c :: d :: p =>
  rw[sdv] at h;have h1:ev (d :: p) a=0:=h _ (by simp);have h2:=zp9 (p:=d :: p) (fun e he=>h e (by simp[he])) h1;intro e he;rw[zbe,h1,mzero,addz] at h0;rcases List.mem_cons.1 he with rfl|he
  ·exact h0
  ·exact h2 e he
theorem zi0 {xs:List F} (hn:xs.Nodup):∀{p:List F},p.length≤xs.length→(∀x∈xs,ev p x=0)→∀c∈p,c=0:=by
 induction xs with
 | nil =>
  intro p hl _ c hc;have:p=[]:=List.eq_nil_of_length_eq_zero (by simpa using hl);rw[this] at hc;cases hc
 | cons a xs ih =>
  intro p hl h;have h0:=h a (by simp);have hnn:=List.nodup_cons.1 hn;refine zp9 (ih hnn.2 (by rw[zkz];simp at hl;omega) fun x hx=>?_) h0;have e:=yas a x p;rw[h x (by simp[hx]),h0,zadd] at e;rcases zi8 e.symm with h1|h1
  ·exact absurd (zg8 h1) (fun e=>hnn.1 (e ▸ hx))
  ·exact h1
theorem zn5 {xs:List F} (hn:xs.Nodup) {p q:List F} (hpq:p.length=q.length) (hl:p.length≤xs.length) (h:∀x∈xs,ev p x=ev q x):p=q:=by
 have hz:=zi0 hn (p:=zni p q) (by rw[zd2];omega) fun x hx=>by rw[zpp,h x hx,zmv]
 refine List.ext_getElem hpq fun i h1 h2=>?_;have e:=znw p q i;have hi:i<(zni p q).length:=by rw[zd2];omega
 rw[List.getD_eq_getElem?_getD,List.getElem?_eq_getElem hi,Option.getD_some,hz _ (List.getElem_mem hi)] at e;rw[List.getD_eq_getElem?_getD,List.getElem?_eq_getElem h1,List.getD_eq_getElem?_getD,List.getElem?_eq_getElem h2] at e;exact zg8 e.symm
def rts:List F→List F
 | []=>[1]
 | x :: xs=>zni (0 :: rts xs) (psc x (rts xs))
theorem yeg (xs:List F) (y:F):ev (rts xs) y=xs.foldr (fun x p=>(y+x)*p) 1:=by
 induction xs with
 | nil=>simp[rts,ev,mzero,addz]
 | cons x xs ih=>rw[rts,zpp,zbe,yat,zadd,ih,List.foldr_cons,dam]
theorem zex (xs:List F):(rts xs).length=xs.length+1:=by
 induction xs with
 | nil=>rfl
 | cons x xs ih=>rw[rts,zd2,List.length_cons,zg3,ih,List.length_cons];omega
theorem zpo {xs:List F} {y:F}:ev (rts xs) y=0↔y∈xs:=by
 rw[yeg]
 induction xs with
 | nil=>simp[zed]
 | cons x xs ih =>
  rw[List.foldr_cons,List.mem_cons,←ih];constructor
  ·intro h;rcases zi8 h with h|h
   ·exact .inl (zg8 h)
   ·exact .inr h
  ·rintro (rfl|h)
   ·rw[zmv,zmul]
   ·rw[h,mzero]
end Fld
open Go.RowKit Fld
theorem ybh (a b k:Nat):(a ^^^ b)*2 ^ k=a*2 ^ k ^^^ b*2 ^ k:=by have h:∀x:Nat,x*2 ^ k=x <<< k:=fun x=>(Nat.shiftLeft_eq x k).symm;rw[h,h,h,Nat.shiftLeft_xor_distrib]
theorem ye0 (a b c d:Nat):(a ^^^ b) ^^^ (c ^^^ d)=(a ^^^ c) ^^^ (b ^^^ d):=by rw[Nat.xor_assoc,Nat.xor_assoc,←Nat.xor_assoc b c d,Nat.xor_comm b c,Nat.xor_assoc c b d]
theorem zi9 (a a' b:Nat):∀k,mulA (a ^^^ a') b k=mulA a b k ^^^ mulA a' b k
 | 0=>by simp[mulA]
 | k+1=>by
  simp only[mulA];split
  ·rw[zi9 a a' b k,ybh,ye0]
  ·exact zi9 a a' b k
theorem znm (a b b':Nat):∀k,mulA a (b ^^^ b') k=mulA a b k ^^^ mulA a b' k
 | 0=>by simp[mulA]
 | k+1=>by
  simp only[mulA,Nat.testBit_xor,znm a b b' k];cases b.testBit k<;>cases b'.testBit k<;>simp only[Bool.xor_false,Bool.xor_true,Bool.not_false,Bool.not_true,if_true,if_false,Bool.false_eq_true]
  ·rw[Nat.xor_assoc]
  ·rw[Nat.xor_assoc,Nat.xor_comm (mulA a b' k),←Nat.xor_assoc]
  ·rw[ye0,Nat.xor_self,Nat.xor_zero]
theorem zl1 (m n:Nat):∀j,zkp (m ^^^ n) j=zkp m j ^^^ zkp n j
 | 0=>rfl
 | j+1=>by
  simp only[zkp,zl1 m n j,Nat.testBit_xor];cases (zkp m j).testBit (14-j)<;>cases (zkp n j).testBit (14-j)<;>simp only[Bool.xor_false,Bool.xor_true,Bool.not_false,Bool.not_true,if_true,if_false,Bool.false_eq_true]
  ·rw[Nat.xor_assoc]
  ·rw[Nat.xor_assoc,Nat.xor_comm (zkp n j),←Nat.xor_assoc]
  ·rw[ye0,Nat.xor_self,Nat.xor_zero]
theorem zvz (a b:Nat):(a ^^^ b) % 256=a % 256 ^^^ b % 256:=by
 have:=@Nat.xor_mod_two_pow a b 8
 simpa using this
theorem zdr (a a' b:Nat):zb9 (a ^^^ a') b=zb9 a b ^^^ zb9 a' b:=by rw[zb9,zb9,zb9,zi9,zl1,zvz]
theorem zcg (a b b':Nat):zb9 a (b ^^^ b')=zb9 a b ^^^ zb9 a b':=by rw[zb9,zb9,zb9,znm,zl1,zvz]
theorem zfo {F G:Nat→Nat} (hF:∀x y,F (x ^^^ y)=F x ^^^ F y) (hG:∀x y,G (x ^^^ y)=G x ^^^ G y) :
  ∀n,(∀i,i<n→F (2 ^ i)=G (2 ^ i))→∀x,x<2 ^ n→F x=G x
 | 0,_,x,hx=>by
  have:x=0:=by simpa using hx
  subst this;have h1:∀H:Nat→Nat,(∀x y,H (x ^^^ y)=H x ^^^ H y)→H 0=0:=fun H hH=>by
   have:=hH 0 0
   simpa using this
  rw[h1 F hF,h1 G hG]
 | n+1,h,x,hx=>by
  have hm:x % 2 ^ n<2 ^ n:=Nat.mod_lt _ (Nat.two_pow_pos n);have ih:=zfo hF hG n (fun i hi=>h i (by omega)) (x % 2 ^ n) hm;by_cases hb:x.testBit n=true
  ·have e:x=2 ^ n ^^^ x % 2 ^ n:=by
    apply Nat.eq_of_testBit_eq;intro i;rw[Nat.testBit_xor,Nat.testBit_two_pow,Nat.testBit_mod_two_pow];rcases Nat.lt_trichotomy i n with h1|h1|h1
    ·have:decide (n=i)=false:=by simp;omega
     simp[h1,this]
    ·subst h1;simp[hb]
    ·have:x.testBit i=false:=Nat.testBit_lt_two_pow (Nat.lt_of_lt_of_le hx (Nat.pow_le_pow_right (by omega) (by omega)))
     have h3:decide (n=i)=false:=by simp;omega
     simp[this,h3]
   rw[e,hF,hG,ih,h n (by omega)]
  ·have e:x=x % 2 ^ n:=by
    apply Nat.eq_of_testBit_eq;intro i;rw[Nat.testBit_mod_two_pow];rcases Nat.lt_trichotomy i n with h1|h1|h1
    ·simp[h1]
    ·subst h1;simpa using hb
    ·have:x.testBit i=false:=Nat.testBit_lt_two_pow (Nat.lt_of_lt_of_le hx (Nat.pow_le_pow_right (by omega) (by omega)))
     rw[this];simp
   rw[e];exact ih
theorem lt8 {x:Nat} (h:x<256):x<2 ^ 8:=h
theorem zwr {a b:Nat} (ha:a<256) (hb:b<256):zb9 a b=zb9 b a:=by refine zfo (F:=fun x=>zb9 x b) (G:=fun x=>zb9 b x) (fun x y=>zdr x y b) (fun x y=>zcg b x y) 8 (fun i hi=>?_) a (lt8 ha);refine zfo (F:=fun x=>zb9 (2 ^ i) x) (G:=fun x=>zb9 x (2 ^ i)) (fun x y=>zcg _ x y) (fun x y=>zdr x y _) 8 (fun j hj=>?_) b (lt8 hb);exact (by decide +kernel:∀i:Fin 8,∀j:Fin 8,zb9 (2 ^ i.val) (2 ^ j.val)=zb9 (2 ^ j.val) (2 ^ i.val)) ⟨i,hi⟩ ⟨j,hj⟩
theorem zs7 {a b c:Nat} (ha:a<256) (hb:b<256) (hc:c<256):zb9 (zb9 a b) c=zb9 a (zb9 b c):=by refine zfo (F:=fun x=>zb9 (zb9 x b) c) (G:=fun x=>zb9 x (zb9 b c)) (fun x y=>by simp only[zdr]) (fun x y=>zdr x y _) 8 (fun i hi=>?_) a (lt8 ha);refine zfo (F:=fun x=>zb9 (zb9 (2 ^ i) x) c) (G:=fun x=>zb9 (2 ^ i) (zb9 x c)) (fun x y=>by simp only[zdr,zcg]) (fun x y=>by simp only[zdr,zcg]) 8 (fun j hj=>?_) b (lt8 hb);refine zfo (F:=fun x=>zb9 (zb9 (2 ^ i) (2 ^ j)) x) (G:=fun x=>zb9 (2 ^ i) (zb9 (2 ^ j) x)) (fun x y=>zcg _ x y) (fun x y=>by simp only[zcg]) 8 (fun k hk=>?_) c (lt8 hc);exact (by decide +kernel:∀i:Fin 8,∀j:Fin 8,∀k:Fin 8,zb9 (zb9 (2 ^ i.val) (2 ^ j.val)) (2 ^ k.val)=zb9 (2 ^ i.val) (zb9 (2 ^ j.val) (2 ^ k.val))) ⟨i,hi⟩ ⟨j,hj⟩ ⟨k,hk⟩
theorem zzd {a:Nat} (ha:a<256):zb9 1 a=a :=
 zfo (F:=fun x=>zb9 1 x) (G:=fun x=>x) (fun x y=>zcg _ x y) (fun x y=>rfl) 8 (fun i hi=>(by decide +kernel:∀i:Fin 8,zb9 1 (2 ^ i.val)=2 ^ i.val) ⟨i,hi⟩) a (lt8 ha)
def zx4:List Nat:=[1,2,4,8,16,32,64,128,29,58,116,232,205,135,19,38,76,152,45,90,180,117,234,201,143,3,6,12,24,48,96,192,157,39,78,156,37,74,148,53,106,212,181,119,238,193,159,35,70,140,5,10,20,40,80,160,93,186,105,210,185,111,222,161,95,190,97,194,153,47,94,188,101,202,137,15,30,60,120,240,253,231,211,187,107,214,177,127,254,225,223,163,91,182,113,226,217,175,67,134,17,34,68,136,13,26,52,104,208,189,103,206,129,31,62,124,248,237,199,147,59,118,236,197,151,51,102,204,133,23,46,92,184,109,218,169,79,158,33,66,132,21,42,84,168,77,154,41,82,164,85,170,73,146,57,114,228,213,183,115,230,209,191,99,198,145,63,126,252,229,215,179,123,246,241,255,227,219,171,75,150,49,98,196,149,55,110,220,165,87,174,65,130,25,50,100,200,141,7,14,28,56,112,224,221,167,83,166,81,162,89,178,121,242,249,239,195,155,43,86,172,69,138,9,18,36,72,144,61,122,244,245,247,243,251,235,203,139,11,22,44,88,176,125,250,233,207,131,27,54,108,216,173,71,142]
theorem ya7:((List.range 256).all fun a=>a == 0 || zx4.contains a)=true:=by decide +kernel
theorem ya6:zx4.length=255:=by decide +kernel
theorem zx3:((List.range 255).all fun i=>zx4[(i+1) % 255]? == (zx4[i]?).map fun x=>zb9 x 2)=true:=by decide +kernel
def zvh:List Nat→Bool
 | []=>true
 | x :: l=>!l.contains x && zvh l
theorem zqt:∀{l:List Nat},zvh l=true→l.Nodup
 | [],_=>List.nodup_nil
 | x :: l,h=>by simp only[zvh,Bool.and_eq_true,Bool.not_eq_true'] at h;exact List.nodup_cons.2 ⟨by simpa using h.1,zqt h.2⟩
theorem zt8:zx4.Nodup:=zqt (by decide +kernel)
theorem zry:∀x:Fin 256,(if x.val*2>255 then (x.val*2) ^^^ 285 else x.val*2)=zb9 x.val 2:=by decide +kernel
structure GF where
 n:Nat
 lt:n<256
deriving DecidableEq
namespace GF
theorem ext' {a b:GF} (h:a.n=b.n):a=b:=by cases a;cases b;simp_all
def add (a b:GF):GF:=⟨a.n ^^^ b.n,Nat.xor_lt_two_pow (n:=8) a.lt b.lt⟩
def mul (a b:GF):GF:=⟨zb9 a.n b.n,yci _ _⟩
def pown (a:GF):Nat→GF
 | 0=>⟨1,by omega⟩
 | n+1=>mul (pown a n) a
def two:GF:=⟨2,by omega⟩
def ye5:GF:=⟨1,by omega⟩
theorem ydz (a b c:GF):mul (mul a b) c=mul a (mul b c):=ext' (zs7 a.lt b.lt c.lt)
theorem ybu (a b:GF):mul a b=mul b a:=ext' (zwr a.lt b.lt)
theorem zl5 (a:GF):mul ye5 a=a:=ext' (zzd a.lt)
theorem zh4 (a:GF) (i j:Nat):pown a (i+j)=mul (pown a i) (pown a j):=by
 induction j with
 | zero=>rw[pown,Nat.add_zero,ybu];exact (zl5 _).symm
 | succ j ih=>rw[←Nat.add_assoc,pown,ih,pown,ydz]
theorem zio:∀i,zx4[i % 255]? = some (pown two i).n
 | 0=>by decide +kernel
 | i+1=>by have ih:=zio i;have h:=List.all_eq_true.1 zx3 (i % 255) (by simp;omega);rw[ih,Option.map_some,beq_iff_eq] at h;rw[show (i+1) % 255=(i % 255+1) % 255 by omega,h];rfl
theorem yal:pown two 255=ye5:=ext' (by
 have:=zio 255
 exact (Option.some.inj ((by decide +kernel:zx4[255 % 255]? = some 1).symm.trans this)).symm)
theorem pow_per (i:Nat):pown two (i+255)=pown two i:=by rw[zh4,yal,ybu,zl5]
theorem pow_mod (i:Nat):pown two (i % 255)=pown two i:=by
 have h:∀q r,pown two (255*q+r)=pown two r:=fun q r=>by
  induction q with
  | zero=>simp
  | succ q ih=>rw[show 255*(q+1)+r=(255*q+r)+255 by omega,pow_per,ih]
 conv=>rhs;rw[←Nat.div_add_mod i 255]
 rw[h]
theorem zwf (a:GF) (h:a.n≠0):∃i,i<255∧pown two i=a:=by
 have h1:=List.all_eq_true.1 ya7 a.n (by simp[a.lt]);simp only[Bool.or_eq_true,beq_iff_eq,h,false_or] at h1;have h2:a.n∈zx4:=by simpa using h1
 obtain⟨i,hi⟩:=List.mem_iff_getElem?.1 h2;have hl:i<255:=by
  have:=(List.getElem?_eq_some_iff.1 hi).1
  rwa[ya6] at this
 have:=zio i
 rw[Nat.mod_eq_of_lt hl,hi] at this;exact⟨i,hl,ext' (Option.some.inj this).symm⟩
theorem log_inj {i j:Nat} (hi:i<255) (hj:j<255) (h:pown two i=pown two j):i=j:=by have e1:=zio i;have e2:=zio j;rw[Nat.mod_eq_of_lt hi] at e1;rw[Nat.mod_eq_of_lt hj] at e2;rw[h] at e1;have hl:i<zx4.length:=(List.getElem?_eq_some_iff.1 e1).1;exact (List.getElem?_inj hl zt8).1 (e1.trans e2.symm)
noncomputable def log (a:GF):Nat:=if h:a.n≠0 then (zwf a h).choose else 0
theorem log_lt (a:GF) (h:a.n≠0):a.log<255:=by rw[log,dif_pos h];exact (zwf a h).choose_spec.1
theorem log_pow (a:GF) (h:a.n≠0):pown two a.log=a:=by rw[log,dif_pos h];exact (zwf a h).choose_spec.2
noncomputable def inv' (a:GF):GF:=if a.n≠0 then pown two (255-a.log) else ⟨0,by omega⟩
noncomputable instance fld:Fld GF where
 add:=add
 mul:=mul
 zero:=⟨0,by omega⟩
 one:=ye5
 inv:=inv'
 add_assoc a b c:=ext' (Nat.xor_assoc _ _ _)
 add_comm a b:=ext' (Nat.xor_comm _ _)
 zero_add a:=ext' (Nat.zero_xor _)
 add_self a:=ext' (Nat.xor_self _)
 mul_assoc:=ydz
 mul_comm:=ybu
 one_mul:=zl5
 mul_add a b c:=ext' (zcg _ _ _)
 inv_mul a h:=by have h0:a.n≠0:=fun e=>h (ext' e);have hl:=log_lt a h0;obtain⟨k,hk⟩:∃k,k=a.log:=⟨_,rfl⟩;rw[inv',if_pos h0,←hk];rw[←hk] at hl;rw[show a=pown two k by rw[hk];exact (log_pow a h0).symm,←zh4,show 255-k+k=255 by omega,yal]
 one_ne h:=absurd (congrArg GF.n h) (by decide)
 dec:=inferInstance
theorem ye6 (a b:GF):(a+b).n=a.n ^^^ b.n:=rfl
theorem n_zero:(0:GF).n=0:=rfl
theorem n_one:(1:GF).n=1:=rfl
theorem ne0 {a:GF}:a≠0↔a.n≠0:=⟨fun h e=>h (ext' e),fun h e=>h (by rw[e];rfl)⟩
theorem eq0 {a:GF}:a=0↔a.n=0:=⟨fun h=>by rw[h];rfl,fun h=>ext' h⟩
theorem pown_pw (a:GF) (n:Nat):pown a n=pw a n:=by
 induction n with
 | zero=>rfl
 | succ n ih=>rw[pown,pw,ih];rfl
theorem mul_exp {a b:GF} (ha:a≠0) (hb:b≠0):a*b=pown two (a.log+b.log):=by rw[zh4,log_pow a (ne0.1 ha),log_pow b (ne0.1 hb)];rfl
theorem div_exp {a b:GF} (ha:a≠0) (hb:b≠0):a*Fld.inv b=pown two (a.log+255-b.log):=by have hl:=log_lt b (ne0.1 hb);have h1:a*Fld.inv b=mul a (inv' b):=rfl;obtain⟨k,hk⟩:∃k,k=b.log:=⟨_,rfl⟩;obtain⟨j,hj⟩:∃j,j=a.log:=⟨_,rfl⟩;rw[h1,inv',if_pos (ne0.1 hb),←hk,←hj];rw[←hk] at hl;rw[show a=pown two j by rw[hj];exact (log_pow a (ne0.1 ha)).symm,←zh4];congr 1;omega
theorem pw_exp {a:GF} (ha:a≠0) (n:Nat):pw a n=pown two (a.log*n):=by obtain⟨j,hj⟩:∃j,j=a.log:=⟨_,rfl⟩;rw[←hj,show a=pown two j by rw[hj];exact (log_pow a (ne0.1 ha)).symm,pown_pw,ye4,pown_pw]
theorem u8_xor (a b:GF):bits .xor .u8 (a.n:Int) (b.n:Int)=(((a+b).n:Nat):Int):=by
 have hx:=(a+b).lt;show IntKind.u8.wrap ((BitVec.ofInt 8 (a.n:Int) ^^^ BitVec.ofInt 8 (b.n:Int)).toNat:Int)=_;have h:∀c:GF,(BitVec.ofInt 8 (c.n:Int)).toNat=c.n:=fun c=>by rw[BitVec.ofInt_natCast,BitVec.toNat_ofNat];exact Nat.mod_eq_of_lt c.lt
 rw[BitVec.toNat_xor,h,h,←ye6,IntKind.wrap_u8];omega
theorem pw_mod {a:GF} (ha:a≠0) (n:Nat):pw a (n % 255)=pw a n:=by rw[pw_exp ha,pw_exp ha,←pow_mod,←pow_mod (a.log*n),Nat.mul_mod_mod]
end GF
end Go.Proofs.YtcclhhjcejmepaaGreat
namespace Go.Proofs.YtcclhhjcejmepaaGreat
open Go.RowKit
structure Kp (S:List Nat) (w w':World):Prop where
 os:w'.os=w.os
 tape:w'.tape=w.tape
 output:w'.output=w.output
 size:w.heap.size≤w'.heap.size
 block:∀k,k<w.heap.size→k∉S→w'.heap[k]? = w.heap[k]?
namespace Kp
theorem refl (S:List Nat) (w:World):Kp S w w:=⟨rfl,rfl,rfl,Nat.le_refl _,fun _ _ _=>rfl⟩
theorem step {S T:List Nat} {a b c:World} (h:Kp S a b) (k:Kp T b c) (hT:∀x∈T,x∈S∨a.heap.size≤x):Kp S a c :=
 ⟨k.os.trans h.os,k.tape.trans h.tape,k.output.trans h.output,Nat.le_trans h.size k.size,fun i hi hn =>
  (k.block i (Nat.lt_of_lt_of_le hi h.size) (fun hm=>(hT i hm).elim hn (fun h2=>by omega))).trans (h.block i hi hn)⟩
theorem trans {S:List Nat} {a b c:World} (h:Kp S a b) (k:Kp S b c):Kp S a c:=h.step k fun x hx=>.inl hx
theorem mono {S T:List Nat} {a b:World} (h:Kp S a b) (hT:∀x∈S,x∈T):Kp T a b:=⟨h.os,h.tape,h.output,h.size,fun i hi hn=>h.block i hi fun hm=>hn (hT i hm)⟩
theorem below_step {S:List Nat} {a b c:World} (h:Kp S a b) (k:Below b.heap.size b c):Kp S a c :=
 h.step (T:=[]) ⟨k.os,k.tape,k.output,k.size,fun i hi _=>k.block i hi⟩ fun x hx=>by cases hx
theorem of_below {S:List Nat} {a b:World} (k:Below a.heap.size a b):Kp S a b:=(refl S a).below_step k
theorem alloc {S:List Nat} {a b:World} (h:Kp S a b) (o:Obj):Kp S a (b.alloc o):=h.below_step ((Below.refl _ b).alloc (Nat.le_refl _) o)
theorem drew {S:List Nat} {a b:World} (h:Kp S a b):Kp S a b.drew:=⟨h.os,h.tape,h.output,h.size,h.block⟩
theorem drewN {S:List Nat} {a b:World} (h:Kp S a b) (n:Nat):Kp S a (b.drewN n):=⟨h.os,h.tape,h.output,h.size,h.block⟩
theorem setCell {S:List Nat} {a b:World} (h:Kp S a b) {p:Addr} (hp:p.block∈S∨a.heap.size≤p.block) (v:Value):Kp S a (b.setCell p v) :=
 h.step (T:=[p.block]) ⟨rfl,rfl,rfl,by simp[World.setCell],fun k hk hn=>Below.heap_setCell _ _ _ _ (by simpa using hn)⟩ fun x hx=>by rw[List.mem_singleton] at hx;rw[hx];exact hp
theorem grown {S:List Nat} {a b c:World} {row:Option Nat} (h:Kp S a b) (hg:b.grownBy c row) (hr:∀k,row=some k→k∈S∨a.heap.size≤k):Kp S a c :=
 h.step (T:=row.toList) ⟨hg.os,hg.tape,hg.output,hg.size,fun k hk hn=>hg.block k hk fun e=>hn (by rw[←e];simp)⟩ fun x hx=>hr x (by simpa using hx)
theorem below {S:List Nat} {a b:World} (h:Kp S a b) {B:Nat} (hB:B≤a.heap.size) (hS:∀x∈S,B≤x):Below B a b :=
 ⟨h.os,h.tape,h.output,h.size,fun k hk=>h.block k (by omega) fun hm=>by have:=hS k hm;omega⟩
theorem cell {S:List Nat} {a b:World} (h:Kp S a b) {p:Addr} (hp:p.block<a.heap.size) (hn:p.block∉S):b.cell? p=a.cell? p:=World.cell?_of_block (w:=a) (h.block p.block hp hn)
theorem frozen {S:List Nat} {a b:World} (h:Kp S a b) {p:Addr} (hp:p.block<a.heap.size) (hn:p.block∉S):b.frozen? p=a.frozen? p:=World.frozen?_of_block (w:=a) (h.block p.block hp hn)
theorem heap {S:List Nat} {a b:World} (h:Kp S a b) {g:Nat} {o:Obj} (hg:a.heap[g]? = some o) (hn:g∉S):b.heap[g]? = some o:=(h.block g (lOH hg) hn).trans hg
end Kp
def za0 (v:Value) (S:List Nat):Prop:=∀k,v.ownBlock=some k→k∉S
theorem za0.nil (S:List Nat) (n m:Nat):za0 (.slice none n m) S:=fun k hk=>by simp[Value.ownBlock] at hk
theorem zat.kp {S:List Nat} {w w':World} {v:Value} {l:List Nat} (h:zat w v l) (hk:Kp S w w') (hn:za0 v S):zat w' v l:=by obtain⟨h0,a,cap,h1,h2,h3⟩:=h;refine⟨h0,a,cap,h1,h2,fun hne=>?_⟩;obtain⟨b,o,h4,h5,h6⟩:=h3 hne;refine⟨b,o,h4,Nat.lt_of_lt_of_le h5 hk.size,fun i hi=>?_⟩;exact (hk.cell (p:=⟨b,o+i,none⟩) h5 (hn b (by rw[h1,h4];rfl))).trans (h6 i hi)
theorem zat.form {w:World} {v:Value} {l:List Nat} (h:zat w v l):∃a cap,v=.slice a l.length cap∧l.length≤cap:=by obtain⟨_,a,cap,h1,h2,_⟩:=h;exact⟨a,cap,h1,h2⟩
theorem zat.at {w:World} {a:Option Addr} {n cap:Nat} {l:List Nat} (h:zat w (.slice a n cap) l) {i:Nat} {x:Nat} (hi:l[i]? = some x) :
  ∃b o,a=some ⟨b,o,none⟩∧b<w.heap.size∧w.cell? ⟨b,o+i,none⟩=some (.int .u8 (x:Int)):=by
 obtain⟨_,a',cap',h1,h2,h3⟩:=h;obtain⟨rfl,rfl,rfl⟩:=(Value.slice.injEq ..).mp h1;obtain⟨b,o,h4,h5,h6⟩:=h3 (fun e=>by rw[e] at hi;cases hi);refine⟨b,o,h4,h5,?_⟩;have hl:=(List.getElem?_eq_some_iff.1 hi).1;have e:=h6 i hl;rw[List.getD_eq_getElem?_getD,hi,Option.getD_some] at e;exact e
def GRd (w:World) (v:Value) (l:List GF):Prop:=zat w v (l.map GF.n)
theorem GRd.kp {S:List Nat} {w w':World} {v:Value} {l:List GF} (h:GRd w v l) (hk:Kp S w w') (hn:za0 v S):GRd w' v l:=zat.kp h hk hn
theorem GRd.below {w w':World} {v:Value} {l:List GF} (h:GRd w v l) (hb:Below w.heap.size w w'):GRd w' v l:=zat.below h hb
theorem GRd.form {w:World} {v:Value} {l:List GF} (h:GRd w v l):∃a cap,v=.slice a l.length cap∧l.length≤cap:=by have:=zat.form h;rwa[List.length_map] at this
theorem GRd.at {w:World} {a:Option Addr} {n cap:Nat} {l:List GF} (h:GRd w (.slice a n cap) l) {i:Nat} {x:GF} (hi:l[i]? = some x) :
  ∃b o,a=some ⟨b,o,none⟩∧b<w.heap.size∧w.cell? ⟨b,o+i,none⟩=some (.int .u8 (x.n:Int)):=zat.at h (by simp[hi])
theorem zeu {l m:List GF} (h:l.map GF.n=m.map GF.n):l=m:=by
 have:Function.Injective GF.n:=fun a b e=>GF.ext' e
 exact (List.map_inj_right (fun a b e=>GF.ext' e)).1 h
end Go.Proofs.YtcclhhjcejmepaaGreat
