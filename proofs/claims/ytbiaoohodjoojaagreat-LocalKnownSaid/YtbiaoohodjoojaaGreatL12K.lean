/-
  What no code answers.
  A node, or its bytes, written into a row of one's own.
  The law LocalKnown.
-/
import Derived.Test.YtbiaoohodjoojaaGreatLocDG
import Derived.WalkMore
import Derived.Test.YtbiaoohodjoojaaGreatOwnSyG
import Derived.Laws.OwnMore
import Derived.Test.YtbiaoohodjoojaaGreatL12N
import Derived.Test.YtbiaoohodjoojaaGreatL12New
import Derived.Test.YtbiaoohodjoojaaGreatL12Told
import Derived.Test.YtbiaoohodjoojaaGreatL12Tells
import Derived.Test.YtbiaoohodjoojaaGreatWeExG
import Derived.Deep.DeepCutAuto
import Derived.Deep.LoopGhost
import Derived.Deep.CutBlock
/- What no code answers. -/
namespace Go.Proofs.YtbiaoohodjoojaaGreat
open Go.RowKit Fld
set_option linter.unusedVariables false
set_option linter.unusedSimpArgs false

theorem lenc_nil (w:World):Calls Tryz.prog 18 #[.pointer none,.slice none 0 0] w fun e w'=>e=.returned (.tuple #[.slice none 0 0,.int .i64 1])∧w=w':=by
 go_enter Tryz.func18,Tryz.ntmps18
 go_wp2
 go_ret2
 exact ⟨rfl,rfl⟩
theorem lnear_nil (w:World):Calls Tryz.prog 22 #[.pointer none,.int .i64 0,.slice none 0 0] w fun e w'=>e=.returned (.tuple #[.int .u8 0,.int .i64 1])∧w=w':=by
 go_enter Tryz.func22,Tryz.ntmps22
 go_wp2
 go_ret2
 exact ⟨rfl,rfl⟩
theorem ldec_nil (w:World):Calls Tryz.prog 27 #[.pointer none,.slice none 0 0,.int .i64 0] w fun e w'=>e=.returned (.tuple #[.slice none 0 0,.slice none 0 0,.int .i64 1])∧Below w.heap.size w w':=by
 refine calls_of_marks Tryz.func27 rfl ?_
 simp only [Tryz.ntmps27,List.size_toArray,List.length_cons,List.length_nil,Nat.reduceAdd,Nat.reduceSub,Array.replicate_succ,Array.replicate_zero,List.push_toArray,List.append_toArray,List.nil_append,List.cons_append]
 have HR0:Hid (∀ c:Int,Res3 ((((w.alloc (.cells #[.pointer none] 22)).alloc (.cells #[.slice none 0 0] 36)).alloc (.cells #[.slice none 0 0] 32)).alloc (.cells #[.int .i64 c] 23)) w.heap.size (.slice none 0 0) (.slice none 0 0) (.int .i64 c)):=Lib.hid fun c =>
  ⟨keepA (keepA (heap_newE _ _ _ (by simp)) _) _,keepA (heap_newE _ _ _ (by simp)) _,heap_newE _ _ _ (by simp)⟩
 go_wp2
 have hb2:Below w.heap.size w ((((w.alloc (.cells #[.pointer none] 22)).alloc (.cells #[.slice none 0 0] 36)).alloc (.cells #[.slice none 0 0] 32)).alloc (.cells #[.int .i64 1] 23)):=by (repeat' (first | (with_reducible exact RowKit.Below.refl _ _) | (with_reducible assumption) | (with_reducible refine RowKit.Below.drew ?_) | (with_reducible refine RowKit.Below.alloc ?_ ?_ _) | omega | (simp;done) | (simp;omega)))
 refine leaves_marks (B:=w.heap.size) [] _ (Marks.nil _ _) fun w' hk=>⟨.tuple #[.slice none 0 0,.slice none 0 0,.int .i64 1],?_,?_⟩
 ·have hr:=((HR0.out 1).kp hk (by simp)).at
  simp [results,Tryz.results27,go_sem,hr.1.1,hr.2.1.1,hr.2.2.1.1]
 ·exact ⟨rfl,hb2.trans (hk.below (by have:=hb2.size;omega) (by simp))⟩
theorem lrep_nil (w:World):Calls Tryz.prog 29 #[.pointer none,.int .i64 0,.slice none 0 0,.int .i64 0] w fun e w'=>e=.returned (.tuple #[.int .u8 0,.int .i64 1])∧w=w':=by
 go_enter Tryz.func29,Tryz.ntmps29
 go_wp2
 go_ret2
 exact ⟨rfl,rfl⟩
theorem ltells_nil (w:World):Calls Tryz.prog 15 #[.pointer none] w fun e w'=>e=.returned (.int .i64 0)∧w=w':=by
 go_enter Tryz.func15,Tryz.ntmps15
 go_wp2
 go_ret
 exact ⟨rfl,rfl⟩
theorem lgroup_nil (w:World):Calls Tryz.prog 14 #[.pointer none,.int .i64 0] w fun e w'=>e=.returned (.slice none 0 0)∧w=w':=by
 go_enter Tryz.func14,Tryz.ntmps14
 go_wp2
 go_ret
 exact ⟨rfl,rfl⟩
end Go.Proofs.YtbiaoohodjoojaaGreat
/- A node, or its bytes, written into a row of one's own. -/
namespace Go.Proofs.YtbiaoohodjoojaaGreat
open Go.RowKit Fld
set_option linter.unusedVariables false
set_option linter.unusedSimpArgs false

theorem flatS_put {s s':Sy} {j:Nat} {u:Value} (hj:j < 2) (hc:Sy.cells s'=(Sy.cells s).set j u):∀ (l:List Sy) (i:Nat),l[i]? = some s→flatS Sy.cells (l.set i s')=(flatS Sy.cells l).set (i * 2+j) u
 | [],i,h=>by simp at h
 | t :: l,0,h=>by
  simp only [List.getElem?_cons_zero,Option.some.injEq] at h
  subst h
  unfold flatS
  rw [List.set_cons_zero,List.flatMap_cons,List.flatMap_cons,hc,Nat.zero_mul,Nat.zero_add,List.set_append_left _ _ (by rw [Sy.cells_length];exact hj)]
 | t :: l,i+1,h=>by
  have ih:=flatS_put hj hc l i (by simpa using h)
  unfold flatS at *
  rw [List.set_cons_succ,List.flatMap_cons,List.flatMap_cons,ih,List.set_append_right _ _ (by rw [Sy.cells_length];omega),Sy.cells_length,show (i+1) * 2+j - 2=i * 2+j by omega]
theorem SyOwn.put {w:World} {B g m cap:Nat} {l:List Sy} (h:SyOwn w B (.slice (some ⟨g,0,none⟩) m cap) l) {i j:Nat} {s s':Sy} {u:Value} (hs:l[i]? = some s) (hj:j < 2) (hc:Sy.cells s'=(Sy.cells s).set j u) (hr:s'.rd w) (hn:∀ a,s'.a=some a→B≤a.block∧g ≠ a.block∧a.block < w.heap.size) :
  SyOwn (w.setCell ⟨g,i * 2+j,none⟩ u) B (.slice (some ⟨g,0,none⟩) m cap) (l.set i s')∧Kp [g] w (w.setCell ⟨g,i * 2+j,none⟩ u)∧w.frozen? ⟨g,i * 2+j,none⟩=false:=by
 obtain ⟨hm,-⟩:=h.row.rd.cap_le
 subst hm
 have hk:Kp [g] w (w.setCell ⟨g,i * 2+j,none⟩ u):=(Kp.refl _ _).setCell (.inl (by simp)) _
 refine ⟨⟨?_,fun t ht=>?_,fun t ht a ha=>?_⟩,hk,World.ownsRow.frozenAt (xs:=flatS Sy.cells l) (n:=l.length) h.row _⟩
 ·have:=(World.ownsRow.stored (xs:=flatS Sy.cells l) (n:=l.length) h.row (i * 2+j) u).1
  unfold OwnS
  rw [List.length_set,flatS_put hj hc l i hs]
  exact this
 ·rcases List.mem_or_eq_of_mem_set ht with ht | rfl
  ·refine GRd.kp2 (h.each t ht) hk fun _ k hkk hmm=>?_
   cases e:t.a with
   | none=>rw [e] at hkk;simp [Value.ownBlock] at hkk
   | some a =>
    rw [e] at hkk
    simp only [Value.ownBlock,Option.some.injEq] at hkk
    simp only [List.mem_singleton] at hmm
    exact (h.new t ht a e).2.1 (by simp [Value.ownBlock,hkk,hmm])
  ·refine GRd.kp2 hr hk fun _ k hkk hmm=>?_
   cases e:t.a with
   | none=>rw [e] at hkk;simp [Value.ownBlock] at hkk
   | some a =>
    rw [e] at hkk
    simp only [Value.ownBlock,Option.some.injEq] at hkk
    simp only [List.mem_singleton] at hmm
    exact (hn a e).2.1 (by rw [hkk,hmm])
 ·have hsz:=hk.size
  rcases List.mem_or_eq_of_mem_set ht with ht | rfl
  ·have:=h.new t ht a ha
   exact ⟨this.1,this.2.1,by omega⟩
  ·have:=hn a ha
   exact ⟨this.1,by simp [Value.ownBlock];exact this.2.1,by omega⟩
theorem SyOwn.form0 {w:World} {B m cap:Nat} {a:Option Addr} {l:List Sy} (h:SyOwn w B (.slice a m cap) l) (hm:0 < m):∃ g,a=some ⟨g,0,none⟩∧B≤g∧g < w.heap.size∧m≤cap:=by
 rcases h.row.2 with ⟨e,h2⟩ | ⟨g,cap',cur,e,h2,h3,h4,-⟩
 ·cases e
  omega
 ·cases e
  exact ⟨g,rfl,h2,lt_of_heap h3,h4⟩
theorem SyOwn.at0 {w:World} {B g m cap:Nat} {l:List Sy} (h:SyOwn w B (.slice (some ⟨g,0,none⟩) m cap) l) {i:Nat} {s:Sy} (hs:l[i]? = some s):w.cell? ⟨g,i * 2,none⟩=some (.int .i64 s.node)∧w.cell? ⟨g,i * 2+1,none⟩=some (.slice s.a s.d.length s.cp):=by
 obtain ⟨-,-,b,o,e,-,hat⟩:=SRd.at h.row.rd hs
 cases e
 have h0:=hat 0 _ rfl
 have h1:=hat 1 _ rfl
 simp only [Nat.zero_add,Nat.add_zero] at h0 h1
 exact ⟨h0,h1⟩
theorem SyOwn.node {w:World} {B g m cap:Nat} {l:List Sy} (h:SyOwn w B (.slice (some ⟨g,0,none⟩) m cap) l) {i:Nat} {s:Sy} (hs:l[i]? = some s) (x:Int):SyOwn (w.setCell ⟨g,i * 2,none⟩ (.int .i64 x)) B (.slice (some ⟨g,0,none⟩) m cap) (l.set i ⟨x,s.a,s.cp,s.d⟩)∧Kp [g] w (w.setCell ⟨g,i * 2,none⟩ (.int .i64 x))∧w.frozen? ⟨g,i * 2,none⟩=false:=by
 have hm:=List.mem_of_getElem? hs
 have:=SyOwn.put (s':=⟨x,s.a,s.cp,s.d⟩) (j:=0) (u:=.int .i64 x) h hs (by omega) rfl (h.each s hm) (fun a ha=>by
  have:=h.new s hm a ha
  exact ⟨this.1,fun e=>this.2.1 (by simp [Value.ownBlock,e]),this.2.2⟩)
 simpa using this
theorem SyOwn.bytes {w:World} {B g m cap:Nat} {l:List Sy} (h:SyOwn w B (.slice (some ⟨g,0,none⟩) m cap) l) {i:Nat} {s:Sy} (hs:l[i]? = some s) {a:Option Addr} {n cp:Nat} {d:List GF} (hd:GRd w (.slice a n cp) d) (hn:∀ x,a=some x→B≤x.block∧g ≠ x.block∧x.block < w.heap.size):SyOwn (w.setCell ⟨g,i * 2+1,none⟩ (.slice a n cp)) B (.slice (some ⟨g,0,none⟩) m cap) (l.set i ⟨s.node,a,cp,d⟩)∧Kp [g] w (w.setCell ⟨g,i * 2+1,none⟩ (.slice a n cp))∧w.frozen? ⟨g,i * 2+1,none⟩=false:=by
 obtain ⟨a',cp',e,-⟩:=hd.form
 cases e
 exact SyOwn.put (s':=⟨s.node,a,cp,d⟩) (j:=1) h hs (by omega) rfl hd hn
end Go.Proofs.YtbiaoohodjoojaaGreat
/- The law LocalKnown. -/
namespace Go.Proofs.YtbiaoohodjoojaaGreat
open Go.RowKit Fld
set_option linter.unusedVariables false
set_option linter.unusedSimpArgs false

theorem u8_wrap (x:Int):∃ b:Nat,IntKind.u8.wrap x=(b:Int)∧b < 256:=by
 have h:IntKind.u8.wrap x=x % 256:=rfl
 exact ⟨(x % 256).toNat,by rw [h];omega,by omega⟩
def kMsg:List GF:=gl [5,6,200,0,77,1,9,255,3]
theorem k9_ok:LOkN 9 4 2:=⟨by decide,by decide,by decide,by decide,by decide,by decide,by decide⟩
theorem tmod_small {x q:Int} {m:Int} (hm:0 < m) (h:Int.tmod x m=q):-m < q∧q < m:=by
 rw [← h]
 exact ⟨Int.lt_tmod_of_pos _ hm,Int.tmod_lt_of_pos _ hm⟩
theorem GRd.frontK {w:World} {a:Option Addr} {n cap k:Nat} {l:List GF} (h:GRd w (.slice a n cap) l) (hk:k≤n):GRd w (.slice a k cap) (l.take k):=by
 obtain ⟨h0,a',cap',h1,h2,h3⟩:=h
 cases h1
 rw [List.length_map] at h2 hk
 refine ⟨fun x hx=>h0 x (by rw [List.map_take] at hx;exact List.mem_of_mem_take hx),a,cap,by rw [List.length_map,List.length_take,Nat.min_eq_left hk],by rw [List.length_map,List.length_take];omega,fun hne=>?_⟩
 obtain ⟨b,o,h4,h5,h6⟩:=h3 (fun e=>hne (by rw [List.map_eq_nil_iff] at e ⊢;rw [e,List.take_nil]))
 refine ⟨b,o,h4,h5,fun i hi=>?_⟩
 rw [List.length_map,List.length_take,Nat.min_eq_left hk] at hi
 rw [h6 i (by rw [List.length_map];omega)]
 congr 2
 rw [List.map_take,List.getD_eq_getElem?_getD,List.getD_eq_getElem?_getD,List.getElem?_take,if_pos hi]
theorem sm_two:∀ c,c < 12→2≤(smL (511 - c) 9).length:=by decide
def kXs:List Int:=[-9223372036854775808,-1,0,1,254,255,256,9223372036854775807]
theorem kXs_in:∀ x ∈ kXs,I64 x:=by
 intro x hx
 simp only [kXs,List.mem_cons,List.not_mem_nil,or_false] at hx
 unfold I64
 omega
set_option maxRecDepth 100000 in
set_option maxHeartbeats 8000000 in
theorem lknown12_any (w:World):Calls Tryz.prog 9 #[] w fun e w'=>e=.returned (.bool true)∧Below w.heap.size w w':=by
 have HW:=Lib.hid (fun W=>works12_any W)
 go_enter Tryz.func9,Tryz.ntmps9
 go_wp2_with fail
 refine (lenc_nil w).mono ?_
 rintro e w' ⟨rfl,rfl⟩
 go_wp2_with fail
 refine (lnear_nil w).mono ?_
 rintro e w' ⟨rfl,rfl⟩
 go_wp2_with fail
 refine (ldec_nil w).mono ?_
 rintro e w1 ⟨rfl,hb1⟩
 have HB1:=Lib.hid hb1
 clear hb1
 go_wp2_with fail
 refine (lrep_nil w1).mono ?_
 rintro e w' ⟨rfl,rfl⟩
 go_wp2_with fail
 refine (ltells_nil w1).mono ?_
 rintro e w' ⟨rfl,rfl⟩
 go_wp2_with fail
 refine (lgroup_nil w1).mono ?_
 rintro e w' ⟨rfl,rfl⟩
 have HM2:Hid (GRd (w1.alloc (.cells (gv kMsg).toArray 5)) (.slice (some ⟨w1.heap.size,0,none⟩) 9 9) kMsg):=Lib.hid (GRd.lit kMsg (heap_newA _ _) rfl)
 have HB2:Hid (Below w.heap.size w (w1.alloc (.cells (gv kMsg).toArray 5))):=Lib.hid (HB1.out.trans (((Below.refl _ _).alloc (Nat.le_refl _) _).mono HB1.out.size))
 obtain ⟨w2,hw2⟩:∃ w2,w2=w1.alloc (.cells (gv kMsg).toArray 5):=⟨_,rfl⟩
 have hw2':w2=w1.alloc (.cells #[.int .u8 5,.int .u8 6,.int .u8 200,.int .u8 0,.int .u8 77,.int .u8 1,.int .u8 9,.int .u8 255,.int .u8 3] 5):=hw2
 rw [← hw2] at HM2 HB2
 obtain ⟨mb,hmb⟩:∃ mb,w1.heap.size=mb:=⟨_,rfl⟩
 have HMX:Hid (w2.heap[mb]? = some (.cells (gv kMsg).toArray 5 (0,0))):=Lib.hid (by rw [hw2,← hmb];exact heap_newA _ _)
 rw [hmb] at HM2
 go_wp2
 rw [← hw2']
 have hs2:=HB2.out.size
 clear hw2 hw2' HB1 hmb
 go_loopg [12] 17 (fun gk p wr=>∃ (I:Nat) (z:Int),I≤17∧gk=17 - I∧p=.int .i64 z∧z+1=(I:Int)∧Hid (Below w2.heap.size w2 wr))
 case atStart=>exact ⟨0,-1,by omega,rfl,rfl,by omega,Lib.hid (Below.refl _ _)⟩
 case round =>
  obtain ⟨I,zn,hI,rfl,rfl,hzn,HBR⟩:=hrel
  by_cases hlt:zn < 16
  ·go_wp2
   go_loopg [13] 7 (fun gk p wr=>∃ (I:Nat) (z:Int),I≤7∧gk=7 - I∧p=.int .i64 z∧z+1=(I:Int)∧Hid (Below w2.heap.size w2 wr))
   case atStart=>exact ⟨0,-1,by omega,rfl,rfl,by omega,HBR⟩
   case round =>
    clear HBR
    obtain ⟨I2,zk,hI2,rfl,rfl,hzk,HBR⟩:=hrel
    by_cases hltk:zk < 6
    ·go_wp2
     go_loopg [14] 7 (fun gk p wr=>∃ (I:Nat) (z:Int),I≤7∧gk=7 - I∧p=.int .i64 z∧z+1=(I:Int)∧Hid (Below w2.heap.size w2 wr))
     case atStart=>exact ⟨0,-1,by omega,rfl,rfl,by omega,HBR⟩
     case round =>
      clear HBR
      obtain ⟨I3,zr,hI3,rfl,rfl,hzr,HBR⟩:=hrel
      have hsr:=HBR.out.size
      by_cases hltr:zr < 6
      ·obtain ⟨zm,hzm⟩:∃ zm,zn - 1=zm:=⟨_,rfl⟩
       have e1:IntKind.i64.wrap zm=zm:=IntWalk.i64_in _ (by omega)
       obtain ⟨kb,hkb,hkb2⟩:=u8_wrap zk
       have hnb:I64 zn∧I64 zk∧I64 zr:=⟨⟨by omega,by omega⟩,⟨by omega,by omega⟩,⟨by omega,by omega⟩⟩
       have HNBB:=Lib.hid hnb
       obtain ⟨s1,hs1⟩:∃ s1,zn+zk=s1:=⟨_,rfl⟩
       obtain ⟨s2,hs2'⟩:∃ s2,s1+zr=s2:=⟨_,rfl⟩
       have e2:IntKind.i64.wrap s1=s1:=IntWalk.i64_in _ (by omega)
       have e3:IntKind.i64.wrap s2=s2:=IntWalk.i64_in _ (by omega)
       obtain ⟨q,hq⟩:∃ q,Int.tmod s2 3=q:=⟨_,rfl⟩
       have hqb:=tmod_small (by omega) hq
       have e4:IntKind.i64.wrap q=q:=IntWalk.i64_in _ (by omega)
       have HM:=Lib.hid (HM2.out.below HBR.out)
       have HCA:=Lib.hid (lnew12_any zn zk zr zm wr hnb ⟨by omega,by omega⟩)
       clear hnb
       go_wp2_with fail
       refine HCA.out.mono ?_
       rintro e w3 ⟨rfl,hb3⟩
       have HB3:Hid (Below w2.heap.size w2 w3):=Lib.hid (HBR.out.trans (hb3.mono hsr))
       have HM3:=Lib.hid (HM.out.below hb3)
       clear hb3 HCA HM
       go_wp2_with fail
       refine (lnew12_any zn zk zr zn w3 HNBB.out HNBB.out.1).mono ?_
       rintro e w4 ⟨rfl,hb4⟩
       have HB4:Hid (Below w2.heap.size w2 w4):=Lib.hid (HB3.out.trans (hb4.mono HB3.out.size))
       have HM4:=Lib.hid (HM3.out.below hb4)
       clear hb4 HM3 HB3
       go_wp2_with fail
       refine (lnear12_any zn zk zr _ kMsg kb 7 w4 HNBB.out HM4.out hkb2 (by omega)).mono ?_
       rintro e w5 ⟨rfl,hb5⟩
       have HB5:Hid (Below w2.heap.size w2 w5):=Lib.hid (HB4.out.trans (hb5.mono HB4.out.size))
       have HM5:=Lib.hid (HM4.out.below hb5)
       clear hb5 HM4 HB4
       by_cases hq0:q=0
       ·subst hq0
        obtain ⟨nb,hnb,hnb2⟩:=u8_wrap zn
        obtain ⟨v,hv⟩:∃ v,bits .and .i64 zr 1=v:=⟨_,rfl⟩
        obtain ⟨rb,hrb,hrb2⟩:=u8_wrap v
        obtain ⟨m2,hm2⟩:∃ m2,Int.tmod zk 2=m2:=⟨_,rfl⟩
        have hm2b:=tmod_small (by omega) hm2
        have e5:IntKind.i64.wrap m2=m2:=IntWalk.i64_in _ (by omega)
        go_wp2_with fail
        refine (ltells12_any zn zk zr _ _ _ kMsg [(⟨nb,hnb2⟩:GF)] (gl [9]) 32767 rb _ _ HNBB.out (HM5.out.below (((Below.refl _ _).alloc (Nat.le_refl _) _).alloc (by simp) _)) (GRd.lit [(⟨nb,hnb2⟩:GF)] (keepA (heap_newA _ _) _) rfl) (GRd.lit (gl [9]) (heap_newE _ _ _ (by simp)) rfl) (by omega) hrb2).mono ?_
        rintro e w6 ⟨rfl,hb6⟩
        have HB6:Hid (Below w2.heap.size w2 w6):=Lib.hid (HB5.out.trans (Below.mono ((((Below.refl _ _).alloc (Nat.le_refl _) _).alloc (by simp) _).trans (hb6.mono (by simp;omega))) HB5.out.size))
        clear hb6
        go_wp2
        go_roundg (7 - (I3+1))
        case measure=>omega
        case rel=>exact ⟨I3+1,zr+1,by omega,rfl,by go_num,by omega,HB6⟩
       ·go_wp2
        go_roundg (7 - (I3+1))
        case measure=>omega
        case rel=>exact ⟨I3+1,zr+1,by omega,rfl,by go_num,by omega,HB5⟩
      ·go_wp2
       go_roundg (7 - (I2+1))
       case measure=>omega
       case rel=>exact ⟨I2+1,zk+1,by omega,rfl,by go_num,by omega,HBR⟩
    ·go_wp2
     go_roundg (17 - (I+1))
     case measure=>omega
     case rel=>exact ⟨I+1,zn+1,by omega,rfl,by go_num,by omega,HBR⟩
  ·obtain ⟨w3,rfl⟩:∃ w3:World,w3=wr:=⟨_,rfl⟩
   have HM3:=Lib.hid (HM2.out.below HBR.out)
   have HB3:Hid (Below w.heap.size w w3):=Lib.hid (HB2.out.trans (HBR.out.mono HB2.out.size))
   have hs3:=HBR.out.size
   have hmb3:mb < w3.heap.size:=by
    have:=lt_of_heap HMX.out
    omega
   clear HBR hzn hI
   have hsl:=slice_front mb 4 9 (by omega) (by omega)
   go_wp2_with fail
   refine (renc12_any 9 4 2 _ (kMsg.take 4) w3 k9_ok (HM3.out.frontK (by omega)) (by decide)).mono ?_
   rintro e w4 ⟨hb4,⟨-,v,rfl,ho⟩ | ⟨hne,-⟩⟩
   case inr=>exact absurd (by decide) hne
   have HB4:Hid (Below w.heap.size w w4):=Lib.hid (HB3.out.trans (hb4.mono HB3.out.size))
   have HM4:=Lib.hid (HM3.out.below hb4)
   obtain ⟨W9,hW9⟩:∃ W9,rowF (fun i=>ev (polyL 2 (4 / 2) (kMsg.take 4)) ((cosL 2 (9 / (2+1))).getD i 0)) 9=W9:=⟨_,rfl⟩
   have hwl:W9.length=9:=by rw [← hW9,rowF_len]
   rw [hW9] at ho
   have HO4:=Lib.hid ho.rd
   have HWL:=Lib.hid hwl
   have hs4:=hb4.size
   clear hb4 ho hW9 hwl HM3 hsl
   go_wp2
   go_loopg [17] 12 (fun gk p wr=>∃ C:Nat,C≤12∧gk=12 - C∧p=.int .i64 C∧Hid (Below w4.heap.size w4 wr))
   case atStart=>exact ⟨0,by omega,rfl,rfl,Lib.hid (Below.refl _ _)⟩
   case round =>
    obtain ⟨C,hC,rfl,rfl,HBR⟩:=hrel
    have hsr:=HBR.out.size
    by_cases hlt:C < 12
    ·have HM5:=Lib.hid (HM4.out.below HBR.out)
     have HB5:Hid (Below w.heap.size w wr):=Lib.hid (HB4.out.trans (HBR.out.mono HB4.out.size))
     go_wp2_with fail
     refine (rows12_any v W9 wr (HO4.out.below HBR.out) (by rw [HWL.out];omega)).mono ?_
     rintro e w5 ⟨rv,rl,rfl,hor,hb5,hrd,hre⟩
     have HRA:Hid (RoAll w5 rv rl):=Lib.hid (hor.all hre)
     have hrl:rl.length=9:=by
      have:=congrArg List.length hrd
      simpa [HWL.out] using this
     have HRL:=Lib.hid hrl
     have HDL:Hid (∀ s ∈ rl,s.d.length≤1000000):=Lib.hid fun s hs=>by
      have:s.d ∈ rl.map Ro.d:=List.mem_map.2 ⟨s,hs,rfl⟩
      rw [hrd] at this
      obtain ⟨x,-,hx⟩:=List.mem_map.1 this
      rw [← hx]
      simp
     have HM6:=Lib.hid (HM5.out.below hb5)
     have HB6:Hid (Below w4.heap.size w4 w5):=Lib.hid (HBR.out.trans (hb5.mono hsr))
     clear hor hb5 hrd hre hrl HM5 HB5
     have hCb:C < 256:=by omega
     obtain ⟨B,hB⟩:∃ B,511 - C=B:=⟨_,rfl⟩
     have b1:(511:Int) - (C:Int)=(B:Int):=by omega
     have b2:IntKind.i64.wrap (B:Int)=(B:Int):=IntWalk.i64_in _ (by omega)
     have b3:IntKind.u64.wrap (B:Int)=(B:Int):=by
      have:IntKind.u64.wrap (B:Int)=(B:Int) % 18446744073709551616:=rfl
      rw [this]
      omega
     have b4:IntKind.u8.wrap (C:Int)=(C:Int):=by
      have:IntKind.u8.wrap (C:Int)=(C:Int) % 256:=rfl
      rw [this]
      omega
     obtain ⟨D,hD⟩:∃ D,C % 3=D:=⟨_,rfl⟩
     have hD3:D < 256:=by rw [← hD];have:=Nat.mod_lt C (show 0 < 3 by omega);omega
     have b5:(C:Int) % 3=(D:Int):=by omega
     have b6:IntKind.u8.wrap (D:Int)=(D:Int):=by
      have:IntKind.u8.wrap (D:Int)=(D:Int) % 256:=rfl
      rw [this]
      omega
     have h2:2≤(smL B 9).length:=by rw [← hB];exact sm_two C hlt
     have H2:=Lib.hid h2
     clear hB hD h2
     go_wp2_with fail
     refine (told_any rv rl B 1 _ _ _ [(⟨C,hCb⟩:GF)] [(⟨D,hD3⟩:GF)] _ (HRA.out.below (((Below.refl _ _).alloc (Nat.le_refl _) _).alloc (by simp) _)) (by rw [HRL.out];omega) HDL.out (by omega) (GRd.lit [(⟨C,hCb⟩:GF)] (keepA (heap_newA _ _) _) rfl) (GRd.lit [(⟨D,hD3⟩:GF)] (heap_newE _ _ _ (by simp)) rfl) (by omega)).mono ?_
     rintro e w6 ⟨tv,ov,l,zs,rfl,hso,-,hb6,hnd,-⟩
     have hso2:SyOwn w6 w5.heap.size tv l:=hso.mono (by simp;omega)
     have HB7:Hid (Below w4.heap.size w4 w6):=Lib.hid (HB6.out.trans (Below.mono ((((Below.refl _ _).alloc (Nat.le_refl _) _).alloc (by simp) _).trans (hb6.mono (by simp;omega))) HB6.out.size))
     have HM7:=Lib.hid ((HM6.out.below (((Below.refl _ _).alloc (Nat.le_refl _) _).alloc (by simp) _)).below hb6)
     obtain ⟨NN,hNN⟩:∃ NN,l.length=NN:=⟨_,rfl⟩
     have hnn:2≤NN:=by
      have:=congrArg List.length hnd
      rw [intsOf_len,tlL_len,HRL.out] at this
      have h2:=H2.out
      simp only [Sy.nodes,List.length_map] at this
      omega
     obtain ⟨av,vc,rfl⟩:=hso2.all.rd.form
     rw [hNN] at hso2 ⊢
     obtain ⟨g,rfl,hg5,hg6,hvc⟩:=hso2.form0 (by omega)
     have HSO:=Lib.hid hso2
     obtain ⟨s0,hs0⟩:∃ s0,l[0]? = some s0:=⟨_,List.getElem?_eq_getElem (by omega)⟩
     obtain ⟨s1,hs1⟩:∃ s1,l[1]? = some s1:=⟨_,List.getElem?_eq_getElem (by omega)⟩
     have HS0:=Lib.hid hs0
     obtain ⟨d0,d1⟩:=hso2.at0 hs0
     obtain ⟨d2,-⟩:=hso2.at0 hs1
     simp only [Nat.zero_mul,Nat.one_mul,Nat.zero_add] at d0 d1 d2
     have hw6:w5.heap.size≤w6.heap.size:=by have:=hb6.size;simp at this;omega
     have hs45:=HB6.out.size
     have i0:(0:Int)≤0∧(0:Int) < (NN:Int):=by omega
     have i1:(0:Int)≤1∧(1:Int) < (NN:Int):=by omega
     have hNN2:1 < NN:=by omega
     have hNN0:0 < NN:=by omega
     obtain ⟨x0,hx0⟩:∃ x0,s0.node=x0:=⟨_,rfl⟩
     obtain ⟨x1,hx1⟩:∃ x1,s1.node=x1:=⟨_,rfl⟩
     rw [hx0] at d0
     rw [hx1] at d2
     obtain ⟨C11,hC11⟩:∃ C11,C % 11=C11:=⟨_,rfl⟩
     obtain ⟨C4,hC4⟩:∃ C4,C % 4=C4:=⟨_,rfl⟩
     obtain ⟨C6,hC6⟩:∃ C6,C % 6=C6:=⟨_,rfl⟩
     have c1:(C:Int) % 11=(C11:Int):=by omega
     have c2:(C:Int) % 4=(C4:Int):=by omega
     have c3:(C:Int) % 6=(C6:Int):=by omega
     have c4:C6 < 6:=by rw [← hC6];exact Nat.mod_lt _ (by omega)
     obtain ⟨za,hza⟩:∃ za,(C11:Int) - 1=za:=⟨_,rfl⟩
     obtain ⟨zb,hzb⟩:∃ zb,(C4:Int) - 1=zb:=⟨_,rfl⟩
     have c5:IntKind.i64.wrap za=za:=IntWalk.i64_in _ (by omega)
     have c6:IntKind.i64.wrap zb=zb:=IntWalk.i64_in _ (by omega)
     have hzbI:I64 zb:=⟨by omega,by omega⟩
     have hsl:=slice_front mb C6 9 (by omega) (by omega)
     have HCALLS:Hid (∀ (W:World) (l':List Sy),SyAll W (.slice (some ⟨g,0,none⟩) NN vc) l'→∀ z t:Int,I64 t→Calls Tryz.prog 7 #[.int .i64 9,.int .i64 4,.int .i64 2,.int .i64 z,.slice (some ⟨g,0,none⟩) NN vc,.int .i64 t] W fun e w'=>e=.returned (.bool true)∧Below W.heap.size W w'):=Lib.hid fun W l' hl z t ht =>
      ltold12_any 9 4 2 z t _ l' W ⟨⟨by omega,by omega⟩,⟨by omega,by omega⟩,⟨by omega,by omega⟩⟩ ht hl
     clear hso hb6 hnd hNN hso2 hs0 hs1 hx0 hx1 hC11 hC4 hC6 HRA HRL HDL H2 HM6
     go_upto_block 8 with fail
     go_cut [] (fun wx=>∃ l':List Sy,Hid (SyAll wx (.slice (some ⟨g,0,none⟩) NN vc) l'∧GRd wx (.slice (some ⟨mb,0,none⟩) 9 9) kMsg∧Below w4.heap.size w4 wx))
     case first =>
      by_cases h3:C=3
      ·have f3:decide ((C:Int)=3)=true:=decide_eq_true (by omega)
       have m3:decide (C=3)=true:=decide_eq_true (by omega)
       have l3:((C:Int) == 3)=true:=by simp;omega
       clear h3
       have hput:=HSO.out.node HS0.out 9
       rw [Nat.zero_mul] at hput
       have hkx:=hput.2.1
       have HALL:Hid (SyAll (w6.setCell ⟨g,0,none⟩ (.int .i64 9)) (.slice (some ⟨g,0,none⟩) NN vc) (l.set 0 ⟨9,s0.a,s0.cp,s0.d⟩)∧GRd (w6.setCell ⟨g,0,none⟩ (.int .i64 9)) (.slice (some ⟨mb,0,none⟩) 9 9) kMsg∧Below w4.heap.size w4 (w6.setCell ⟨g,0,none⟩ (.int .i64 9))):=Lib.hid ⟨hput.1.all,HM7.out.kp hkx (fun k hk hm=>by simp [Value.ownBlock] at hk hm;omega),HB7.out.trans (hkx.below (by omega) (by simp;omega))⟩
       have hfx:=hput.2.2
       clear hput hkx
       go_wp2
       go_meet
       exact ⟨_,HALL⟩
      have f3:¬ (C:Int)=3:=by omega
      by_cases h4:C=4
      ·have f4:decide ((C:Int)=4)=true:=decide_eq_true (by omega)
       have m4:decide (C=4)=true:=decide_eq_true (by omega)
       have l4:((C:Int) == 4)=true:=by simp;omega
       clear h4
       have hput:=HSO.out.node HS0.out (-1)
       rw [Nat.zero_mul] at hput
       have hkx:=hput.2.1
       have HALL:Hid (SyAll (w6.setCell ⟨g,0,none⟩ (.int .i64 (-1))) (.slice (some ⟨g,0,none⟩) NN vc) (l.set 0 ⟨-1,s0.a,s0.cp,s0.d⟩)∧GRd (w6.setCell ⟨g,0,none⟩ (.int .i64 (-1))) (.slice (some ⟨mb,0,none⟩) 9 9) kMsg∧Below w4.heap.size w4 (w6.setCell ⟨g,0,none⟩ (.int .i64 (-1)))):=Lib.hid ⟨hput.1.all,HM7.out.kp hkx (fun k hk hm=>by simp [Value.ownBlock] at hk hm;omega),HB7.out.trans (hkx.below (by omega) (by simp;omega))⟩
       have hfx:=hput.2.2
       clear hput hkx
       go_wp2
       go_meet
       exact ⟨_,HALL⟩
      have f4:¬ (C:Int)=4:=by omega
      by_cases h5:C=5
      ·have f5:decide ((C:Int)=5)=true:=decide_eq_true (by omega)
       have m5:decide (C=5)=true:=decide_eq_true (by omega)
       have l5:((C:Int) == 5)=true:=by simp;omega
       clear h5
       have hput:=HSO.out.node HS0.out x1
       rw [Nat.zero_mul] at hput
       have hkx:=hput.2.1
       have HALL:Hid (SyAll (w6.setCell ⟨g,0,none⟩ (.int .i64 x1)) (.slice (some ⟨g,0,none⟩) NN vc) (l.set 0 ⟨x1,s0.a,s0.cp,s0.d⟩)∧GRd (w6.setCell ⟨g,0,none⟩ (.int .i64 x1)) (.slice (some ⟨mb,0,none⟩) 9 9) kMsg∧Below w4.heap.size w4 (w6.setCell ⟨g,0,none⟩ (.int .i64 x1))):=Lib.hid ⟨hput.1.all,HM7.out.kp hkx (fun k hk hm=>by simp [Value.ownBlock] at hk hm;omega),HB7.out.trans (hkx.below (by omega) (by simp;omega))⟩
       have hfx:=hput.2.2
       clear hput hkx
       go_wp2
       go_meet
       exact ⟨_,HALL⟩
      have f5:¬ (C:Int)=5:=by omega
      by_cases h6:C=6
      ·have f6:decide ((C:Int)=6)=true:=decide_eq_true (by omega)
       have m6:decide (C=6)=true:=decide_eq_true (by omega)
       have l6:((C:Int) == 6)=true:=by simp;omega
       clear h6
       have hput:=HSO.out.bytes HS0.out (d:=[]) (a:=none) (n:=0) (cp:=0) (GRd.nil0 _) (fun x hx=>by cases hx)
       rw [Nat.zero_mul,Nat.zero_add] at hput
       have hkx:=hput.2.1
       have HALL:Hid (SyAll (w6.setCell ⟨g,1,none⟩ (.slice none 0 0)) (.slice (some ⟨g,0,none⟩) NN vc) (l.set 0 ⟨s0.node,none,0,[]⟩)∧GRd (w6.setCell ⟨g,1,none⟩ (.slice none 0 0)) (.slice (some ⟨mb,0,none⟩) 9 9) kMsg∧Below w4.heap.size w4 (w6.setCell ⟨g,1,none⟩ (.slice none 0 0))):=Lib.hid ⟨hput.1.all,HM7.out.kp hkx (fun k hk hm=>by simp [Value.ownBlock] at hk hm;omega),HB7.out.trans (hkx.below (by omega) (by simp;omega))⟩
       have hfx:=hput.2.2
       clear hput hkx
       go_wp2
       go_meet
       exact ⟨_,HALL⟩
      have f6:¬ (C:Int)=6:=by omega
      have hput:SyOwn w6 w5.heap.size (.slice (some ⟨g,0,none⟩) NN vc) l∧Kp [g] w6 w6∧True:=⟨HSO.out,Kp.refl _ _,trivial⟩
      have hkx:=hput.2.1
      have HALL:Hid (SyAll w6 (.slice (some ⟨g,0,none⟩) NN vc) (l)∧GRd w6 (.slice (some ⟨mb,0,none⟩) 9 9) kMsg∧Below w4.heap.size w4 w6):=Lib.hid ⟨hput.1.all,HM7.out.kp hkx (fun k hk hm=>by simp [Value.ownBlock] at hk hm;omega),HB7.out.trans (hkx.below (by omega) (by simp;omega))⟩
      have hfx:=hput.2.2
      clear hput hkx
      go_wp2
      go_meet
      exact ⟨_,HALL⟩
     case rest =>
      obtain ⟨l2,HCUT⟩:=hcut
      clear HB7 HM7 HSO HS0 d0 d1 d2
      have HSY:=Lib.hid HCUT.out.1
      have HBX:=Lib.hid HCUT.out.2.2
      have HMX2:=Lib.hid HCUT.out.2.1
      go_wp2_with fail
      refine (HCALLS.out _ (l2) HSY.out _ _ hzbI).mono ?_
      rintro e w7 ⟨rfl,hb7⟩
      have HB8:Hid (Below w4.heap.size w4 w7):=Lib.hid (HBX.out.trans (hb7.mono HBX.out.size))
      have HSY7:=Lib.hid (HSY.out.below hb7)
      have HM8:=Lib.hid (HMX2.out.below hb7)
      clear hb7 HSY HBX HMX2
      go_wp2_with fail
      refine (HCALLS.out _ (l2) HSY7.out _ _ ⟨by omega,by omega⟩).mono ?_
      rintro e w8 ⟨rfl,hb8⟩
      have HB9:Hid (Below w4.heap.size w4 w8):=Lib.hid (HB8.out.trans (hb8.mono HB8.out.size))
      have HM9:=Lib.hid (HM8.out.below hb8)
      clear hb8 HSY7 HB8 HM8
      go_wp2_with fail
      refine (lenc12_any 9 4 2 _ (kMsg.take C6) w8 ⟨⟨by omega,by omega⟩,⟨by omega,by omega⟩,⟨by omega,by omega⟩⟩ (HM9.out.frontK (by omega))).mono ?_
      rintro e w9 ⟨rfl,hb9⟩
      have HB10:Hid (Below w4.heap.size w4 w9):=Lib.hid (HB9.out.trans (hb9.mono HB9.out.size))
      clear hb9 HM9 HB9
      go_wp2
      go_roundg (12 - (C+1))
      case measure=>omega
      case rel=>exact ⟨C+1,by omega,rfl,by go_num,HB10⟩
    ·obtain ⟨w5,rfl⟩:∃ w5:World,w5=wr:=⟨_,rfl⟩
     have HB5:Hid (Below w.heap.size w w5):=Lib.hid (HB4.out.trans (HBR.out.mono HB4.out.size))
     have HR5:Hid (IRd (w5.alloc (.cells (kXs.map (Value.int .i64)).toArray 3)) (.slice (some ⟨w5.heap.size,0,none⟩) 8 8) kXs):=Lib.hid (IRd.lit kXs (heap_newA _ _) rfl)
     have hb6:Below w5.heap.size w5 (w5.alloc (.cells (kXs.map (Value.int .i64)).toArray 3)):=(Below.refl _ _).alloc (Nat.le_refl _) _
     obtain ⟨w6,hw6⟩:∃ w6,w6=w5.alloc (.cells (kXs.map (Value.int .i64)).toArray 3):=⟨_,rfl⟩
     have hw6':w6=w5.alloc (.cells #[.int .i64 (-9223372036854775808),.int .i64 (-1),.int .i64 0,.int .i64 1,.int .i64 254,.int .i64 255,.int .i64 256,.int .i64 9223372036854775807] 3):=hw6
     rw [← hw6] at HR5 hb6
     have HB6:Hid (Below w.heap.size w w6):=Lib.hid (HB5.out.trans (hb6.mono HB5.out.size))
     obtain ⟨xb,hxb⟩:∃ xb,w5.heap.size=xb:=⟨_,rfl⟩
     rw [hxb] at HR5
     clear hC HBR hb6
     go_wp2
     rw [← hw6']
     have hs6:=HB6.out.size
     clear hw6 hw6' hxb
     go_loopg [212] 8 (fun gk p wr=>∃ I:Nat,I≤8∧gk=8 - I∧p=.int .i64 I∧Hid (Below w6.heap.size w6 wr))
     case atStart=>exact ⟨0,by omega,rfl,rfl,Lib.hid (Below.refl _ _)⟩
     case round =>
      obtain ⟨I,hI,rfl,rfl,HBR⟩:=hrel
      have hsr6:=HBR.out.size
      by_cases hlt:I < 8
      ·obtain ⟨x,hx⟩:∃ x,kXs[I]? = some x:=⟨_,List.getElem?_eq_getElem hlt⟩
       have cx:=IRd.cells (HR5.out.below HBR.out) I x hx
       rw [Nat.zero_add] at cx
       have HX:=Lib.hid (kXs_in x (List.mem_of_getElem? hx))
       have i1:(0:Int)≤(I:Int)∧(I:Int) < 8:=by omega
       have hk2:∀ k:Int,0≤k→k≤1000→I64 k:=fun k h1 h2=>⟨by omega,by omega⟩
       have HK:=Lib.hid hk2
       clear hx hk2
       have HL1:=Lib.hid (lnew12_any 255 2 x 0 wr ⟨HK.out _ (by omega) (by omega),HK.out _ (by omega) (by omega),HX.out⟩ (HK.out _ (by omega) (by omega)))
       go_wp2_with fail
       refine HL1.out.mono ?_
       rintro e v1 ⟨rfl,hv1⟩
       have HV1:Hid (Below w6.heap.size w6 v1):=Lib.hid (HBR.out.trans (hv1.mono hsr6))
       clear hv1 HL1
       go_wp2_with fail
       refine (lnew12_any x 2 2 1 v1 ⟨HX.out,HK.out _ (by omega) (by omega),HK.out _ (by omega) (by omega)⟩ (HK.out _ (by omega) (by omega))).mono ?_
       rintro e v2 ⟨rfl,hv2⟩
       have HV2:Hid (Below w6.heap.size w6 v2):=Lib.hid (HV1.out.trans (hv2.mono HV1.out.size))
       clear hv2 HV1
       go_wp2_with fail
       refine (lnew12_any 255 x 2 254 v2 ⟨HK.out _ (by omega) (by omega),HX.out,HK.out _ (by omega) (by omega)⟩ (HK.out _ (by omega) (by omega))).mono ?_
       rintro e v3 ⟨rfl,hv3⟩
       have HV3:Hid (Below w6.heap.size w6 v3):=Lib.hid (HV2.out.trans (hv3.mono HV2.out.size))
       clear hv3 HV2
       go_wp2_with fail
       refine (lnew12_any x x x x v3 ⟨HX.out,HX.out,HX.out⟩ HX.out).mono ?_
       rintro e v4 ⟨rfl,hv4⟩
       have HV4:Hid (Below w6.heap.size w6 v4):=Lib.hid (HV3.out.trans (hv4.mono HV3.out.size))
       clear hv4 HV3
       go_wp2_with fail
       refine (lnew12_any 255 254 254 x v4 ⟨HK.out _ (by omega) (by omega),HK.out _ (by omega) (by omega),HK.out _ (by omega) (by omega)⟩ HX.out).mono ?_
       rintro e v5 ⟨rfl,hv5⟩
       have HV5:Hid (Below w6.heap.size w6 v5):=Lib.hid (HV4.out.trans (hv5.mono HV4.out.size))
       clear hv5 HV4
       go_wp2_with fail
       refine (lnew12_any 255 1 x 9 v5 ⟨HK.out _ (by omega) (by omega),HK.out _ (by omega) (by omega),HX.out⟩ (HK.out _ (by omega) (by omega))).mono ?_
       rintro e v6 ⟨rfl,hv6⟩
       have HV6:Hid (Below w6.heap.size w6 v6):=Lib.hid (HV5.out.trans (hv6.mono HV5.out.size))
       clear hv6 HV5
       go_wp2
       go_roundg (8 - (I+1))
       case measure=>omega
       case rel=>exact ⟨I+1,by omega,rfl,by go_num,HV6⟩
      ·obtain rfl:I=8:=by omega
       have HBW:Hid (Below w.heap.size w wr):=Lib.hid (HB6.out.trans (HBR.out.mono HB6.out.size))
       go_wp2_with fail
       refine (HW.out _).mono ?_
       rintro e w20 ⟨rfl,hb20⟩
       have HB20:Hid (Below w.heap.size w w20):=Lib.hid (HBW.out.trans (hb20.mono HBW.out.size))
       clear hb20
       go_wp2
       go_ret
       exact ⟨rfl,HB20.out⟩
end Go.Proofs.YtbiaoohodjoojaaGreat
