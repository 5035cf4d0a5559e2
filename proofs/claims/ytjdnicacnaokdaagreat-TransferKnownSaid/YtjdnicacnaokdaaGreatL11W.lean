/-
  The examples of the chapter on codes of edges: plain laws.
  The examples of the chapter on codes of edges.
-/
import Derived.Test.YtjdnicacnaokdaaGreatTrRepG
import Derived.Test.YtjdnicacnaokdaaGreatTrDec2
import Derived.Test.YtjdnicacnaokdaaGreatTrHelp
import Derived.Test.YtjdnicacnaokdaaGreatKit
import Derived.Test.YtjdnicacnaokdaaGreatTrEnc
import Derived.Test.YtjdnicacnaokdaaGreatOwnSyG
/- The examples of the chapter on codes of edges: plain laws. -/
namespace Go.Proofs.YtjdnicacnaokdaaGreat
open Go.RowKit Fld
set_option linter.unusedVariables false
set_option linter.unusedSimpArgs false

theorem k11_B:trB 3 2=3:=rfl
theorem k11_E:eN 3=3:=rfl
theorem k11_a:(List.range 3).map (trSh 3 (pows (eN 3)) (gl [1,0,0]))=[gl [1,1],gl [1,1],gl [1,1]]:=by kernel_rfl
theorem k11_b:(List.range 3).map (trSh 3 (pows (eN 3)) (gl [0,1,0]))=[gl [1,2],gl [1,4],gl [2,4]]:=by kernel_rfl
theorem k11_b1:trSh 3 (pows (eN 3)) (gl [0,1,0]) 1=gl [1,4]:=by kernel_rfl
theorem k11_b2:trSh 3 (pows (eN 3)) (gl [0,1,0]) 2=gl [2,4]:=by kernel_rfl
theorem SyAll.lit' {W:World} {b:Nat} {t:TypeId} (l:List Sy) (h:W.heap[b]? = some (.cells (flatS Sy.cells l).toArray t (0,0))) {n:Nat} (hn:l.length=n) (hs:∀ s ∈ l,s.rd W):SyAll W (.slice (some ⟨b,0,none⟩) n n) l:=by
 subst hn
 refine ⟨⟨_,_,rfl,Nat.le_refl _,fun hne=>⟨b,0,rfl,lt_of_heap h,fun i c hi j u hj=>?_⟩⟩,hs⟩
 rw [cell_of_row _ _ _ _ _ (0,0) h]
 have:=flatS_at Sy.cells_length l i c j u hi hj
 simp only [Nat.zero_add]
 rw [List.getElem?_toArray,this]
theorem ro3_form {S:List Ro} {d0 d1 d2:List GF} (h:S.map Ro.d=[d0,d1,d2]):∃ a0 c0 a1 c1 a2 c2,S=[⟨a0,c0,d0⟩,⟨a1,c1,d1⟩,⟨a2,c2,d2⟩]:=by
 obtain ⟨s0,l0,rfl,h0,h⟩:=List.map_eq_cons_iff.1 h
 obtain ⟨s1,l1,rfl,h1,h⟩:=List.map_eq_cons_iff.1 h
 obtain ⟨s2,l2,rfl,h2,h⟩:=List.map_eq_cons_iff.1 h
 obtain rfl:=List.map_eq_nil_iff.1 h
 subst h0 h1 h2
 exact ⟨_,_,_,_,_,_,rfl⟩
theorem k11_new {fb:Nat} {w w':World} {e:Ending} (h:TrNewPost fb 3 2 w e w'):Kp [fb] w w'∧FOk w' fb∧∃ lb cb mb cv,e=.returned (.tuple #[.pointer (some ⟨lb,0,none⟩),.int .i64 0])∧w.heap.size≤lb∧TrC w' lb cb fb mb 3 2 cv:=by
 obtain ⟨h1,h2,⟨N,K,e1,e2,-,lb,cb,mb,cv,h4⟩ | ⟨h3,-⟩⟩:=h
 ·obtain rfl:N=3:=by omega
  obtain rfl:K=2:=by omega
  exact ⟨h1,h2,lb,cb,mb,cv,h4⟩
 ·exact absurd ⟨by omega,by omega,by omega⟩ h3
theorem k11_bad {fb:Nat} {w w':World} {e:Ending} (h:TrNewPost fb 24 2 w e w'):Kp [fb] w w'∧FOk w' fb∧e=.returned (.tuple #[.pointer none,.int .i64 2]):=by
 obtain ⟨h1,h2,⟨N,K,e1,e2,h3,-⟩ | ⟨-,h3⟩⟩:=h
 ·omega
 ·exact ⟨h1,h2,h3⟩
theorem k11_help {w w':World} {e:Ending} (h:TrHelpPost 3 2 0 (gl [2,4]) w e w'):e=.returned (.tuple #[.int .u8 2,.int .i64 0])∧Below w.heap.size w w':=by
 obtain ⟨b,c,rfl,h1,h2⟩:=h
 rcases h1 with ⟨h1,-⟩ | ⟨-,rfl,rfl⟩
 ·exact absurd ⟨by decide,by decide,by decide,rfl⟩ h1
 ·exact ⟨rfl,h2⟩
theorem k11_rep {w w':World} {e:Ending} {a0 a1:Option Addr} {c0 c1:Nat} (h:TrRepPost 3 0 [⟨2,a0,c0,gl [2]⟩,⟨1,a1,c1,gl [1]⟩] w e w'):∃ a c,e=.returned (.tuple #[.slice a 2 c,.int .i64 0])∧OwnG w' w.heap.size (.slice a 2 c) (gl [1,2])∧Below w.heap.size w w':=by
 obtain ⟨v,o,c,rfl,h1,h2,h3⟩:=h
 rcases h1 with ⟨h1,-⟩ | ⟨-,⟨h1,-⟩ | ⟨-,rfl,h5,h6⟩⟩
 ·refine absurd ⟨by decide,⟨fun x hx=>?_,by simp [Sy.nodes]⟩,fun s hs=>?_⟩ h1
  ·simp [Sy.nodes] at hx
   omega
  ·simp at hs
   rcases hs with rfl | rfl <;> exact ⟨by simp,rfl⟩
 ·simp at h1
 ·have e:o=gl [1,2]:=by
   obtain ⟨x,y,rfl⟩:∃ x y,o=[x,y]:=by
    match o,h5 with
    | [x,y],_=>exact ⟨x,y,rfl⟩
   obtain ⟨s,hs,e1,e2⟩:=h6 0 (by omega)
   obtain ⟨t,ht,e3,e4⟩:=h6 1 (by omega)
   have o1:othN (0:Int).toNat 0=1:=rfl
   have o2:othN (0:Int).toNat 1=2:=rfl
   rw [o1] at e1
   rw [o2] at e3
   have f1:x=gfn 1:=by
    simp at hs
    rcases hs with rfl | rfl
    ·simp at e1
    ·exact e2
   have f2:y=gfn 2:=by
    simp at ht
    rcases ht with rfl | rfl
    ·exact e4
    ·simp at e3
   rw [f1,f2]
   rfl
  subst e
  obtain ⟨a,cc,rfl,-⟩:=h2.form
  exact ⟨a,cc,rfl,h2,h3⟩
theorem k11_good {a0 a1:Option Addr} {c0 c1:Nat} {d0 d1:List GF} (h0:d0.length=2) (h1:d1.length=2):SyGood 3 (-1) (3 - 1) [⟨1,a0,c0,d0⟩,⟨2,a1,c1,d1⟩]:=by
 refine ⟨⟨fun x hx=>?_,by simp [Sy.nodes]⟩,fun s hs=>?_⟩
 ·simp [Sy.nodes] at hx
  omega
 ·simp at hs
  rcases hs with rfl | rfl
  ·exact ⟨by simp,h0⟩
  ·exact ⟨by simp,h1⟩
theorem k11_dec {B:Nat} {w':World} {e:Ending} {a0 a1:Option Addr} {c0 c1:Nat} (h:TrDecAns B (pows (eN 3)) 3 2 [⟨1,a0,c0,gl [1,4]⟩,⟨2,a1,c1,gl [2,4]⟩] e w'):∃ v,e=.returned (.tuple #[v,.int .i64 0])∧GRd w' v (gl [0,1,0])∧∀ b,v.ownBlock=some b→B≤b:=by
 have ht:TrTell 3 (trB 3 2) (pows (eN 3)) [⟨1,a0,c0,gl [1,4]⟩,⟨2,a1,c1,gl [2,4]⟩] (some (gl [0,1,0])):=⟨rfl,fun s hs=>by
  simp at hs
  rcases hs with rfl | rfl
  ·exact k11_b1.symm
  ·exact k11_b2.symm⟩
 have hg:SyGood 3 (-1) (3 - 1) [⟨1,a0,c0,gl [1,4]⟩,⟨2,a1,c1,gl [2,4]⟩]:=k11_good rfl rfl
 rcases h with ⟨h1,-⟩ | ⟨-,⟨h1,-⟩ | ⟨h2,⟨m,v,rfl,h3,h4⟩ | ⟨rfl,h3⟩⟩⟩
 ·exact absurd hg h1
 ·simp at h1
 ·have:=TrTell.one (pows_nodup (by decide)) (pows_len _) hg.1 (Nat.le_refl 2) h3 ht
  cases this
  exact ⟨v,rfl,h4⟩
 ·have:=TrTell.one (pows_nodup (by decide)) (pows_len _) hg.1 (Nat.le_refl 2) h3 ht
  cases this
theorem k11_lost {B:Nat} {w':World} {e:Ending} {a0 a1:Option Addr} {c0 c1:Nat} (h:TrDecAns B (pows (eN 3)) 3 2 [⟨1,a0,c0,gl [1,4]⟩,⟨2,a1,c1,gl [2,5]⟩] e w'):e=.returned (.tuple #[.slice none 0 0,.int .i64 80]):=by
 have hg:SyGood 3 (-1) (3 - 1) [⟨1,a0,c0,gl [1,4]⟩,⟨2,a1,c1,gl [2,5]⟩]:=k11_good rfl rfl
 rcases h with ⟨h1,-⟩ | ⟨-,⟨h1,-⟩ | ⟨h2,⟨m,v,rfl,h3,h4⟩ | ⟨rfl,h3⟩⟩⟩
 ·exact absurd hg h1
 ·simp at h1
 ·exfalso
  have e1:=h3.2 ⟨1,a0,c0,gl [1,4]⟩ (by simp)
  have e2:=h3.2 ⟨2,a1,c1,gl [2,5]⟩ (by simp)
  have g1:=congrArg (·.getD 1 0) e1
  have g2:=congrArg (·.getD 1 0) e2
  simp only [trSh] at g1 g2
  rw [rowF_get _ (by decide)] at g1 g2
  have o1:eE 3 (1:Int).toNat (othN (1:Int).toNat 1)=2:=rfl
  have o2:eE 3 (2:Int).toNat (othN (2:Int).toNat 1)=2:=rfl
  rw [o1] at g1
  rw [o2] at g2
  have:=g1.trans g2.symm
  exact absurd this (by decide)
 ·rfl
end Go.Proofs.YtjdnicacnaokdaaGreat
/- The examples of the chapter on codes of edges. -/
namespace Go.Proofs.YtjdnicacnaokdaaGreat
open Go.RowKit Fld
set_option linter.unusedVariables false
set_option linter.unusedSimpArgs false

theorem ShAll.kp {w w':World} {B:Nat} {v:Value} {D:List (List GF)} {S:List Ro} (h:ShAll w B v D S) {T:List Nat} (hk:Kp T w w') (hT:∀ x ∈ T,x < B):ShAll w' B v D S:=by
 refine ⟨⟨SRd.kp h.all.rd hk fun _ b hb hm=>by have:=hT _ hm;have:=h.own b hb;omega,fun s hs=>(h.all.each s hs).kp hk fun b hb hm=>?_⟩,h.eq,h.new,h.own⟩
 cases e:s.a with
 | none=>rw [Ro.v,e] at hb;simp [Value.ownBlock] at hb
 | some A =>
  rw [Ro.v,e] at hb
  simp [Value.ownBlock] at hb
  subst hb
  have:=hT _ hm
  have:=h.new s hs A e
  omega
theorem ShAll.below {w w':World} {B:Nat} {v:Value} {D:List (List GF)} {S:List Ro} (h:ShAll w B v D S) (hb:Below w.heap.size w w'):ShAll w' B v D S:=⟨h.all.below hb,h.eq,h.new,h.own⟩
theorem same_t (u v:Value) (l:List GF) (w:World) (hu:GRd w u l) (hv:GRd w v l):Calls Tryz.prog 22 #[u,v] w fun e w'=>e=.returned (.bool true)∧w=w' :=
 (same_g u v l l w hu hv).mono fun e w' h=>⟨by rw [h.1,decide_eq_true rfl],h.2⟩
theorem two_sy {W:World} {b a0 a1:Nat} {n0 n1:Int} {d0 d1:List GF} {l0 l1:Nat} (h:W.heap[b]? = some (.cells #[.int .i64 n0,.slice (some ⟨a0,0,none⟩) l0 l0,.int .i64 n1,.slice (some ⟨a1,0,none⟩) l1 l1] 57 (0,0)))
  (h0:GRd W (.slice (some ⟨a0,0,none⟩) l0 l0) d0) (h1:GRd W (.slice (some ⟨a1,0,none⟩) l1 l1) d1) (hl0:d0.length=l0) (hl1:d1.length=l1) :
  SyAll W (.slice (some ⟨b,0,none⟩) 2 2) [⟨n0,some ⟨a0,0,none⟩,l0,d0⟩,⟨n1,some ⟨a1,0,none⟩,l1,d1⟩]:=by
 subst hl0 hl1
 refine SyAll.lit' _ h rfl fun s hs=>?_
 simp at hs
 rcases hs with rfl | rfl
 ·exact h0
 ·exact h1
set_option maxRecDepth 100000 in
set_option maxHeartbeats 40000000 in
theorem works11_any (w:World):Calls Tryz.prog 12 #[] w fun e w'=>e=.returned (.bool true)∧Below w.heap.size w w':=by
 have HFN:=Lib.hid (fun W=>fnew_g W)
 go_enter Tryz.func12,Tryz.ntmps12
 go_wp2_with fail
 refine (HFN.out _).mono ?_
 rintro e w1 ⟨fb,rfl,hfb0,hf1,hb1⟩
 have HFO:=Lib.hid hf1
 have HB0:=Lib.hid hb1
 have HFB:=Lib.hid hfb0
 have hs1:=hf1.lt
 clear hf1 hb1 hfb0
 go_wp2_with fail
 refine (trnew_any fb 3 2 w1 HFO.out (by omega) (by omega)).mono ?_
 rintro e w2 hp
 obtain ⟨hk2,hf2,lb,cb,mb,cv,rfl,hlb,hc2⟩:=k11_new hp
 have HC2:=Lib.hid hc2
 have HK2:=Lib.hid hk2
 have hs2:=hk2.size
 clear hp hk2 hf2 hlb hc2 HFO
 go_wp2_with fail
 refine (trenc_any _ lb cb fb mb 3 2 cv _ (gl [1,0,0]) (HC2.out.below ((Below.refl _ _).alloc (Nat.le_refl _) _)) (by omega) (by omega) (by omega) (GRd.lit (gl [1,0,0]) (heap_newA _ _) rfl) (.inr (by intro x hx hm;simp [Value.ownBlock] at hx hm;omega))).mono ?_
 rintro e w3 (⟨hbad,-⟩ | ⟨-,hk3,hf3,va,S,rfl,hsa⟩)
 ·exact absurd rfl hbad
 rw [k11_a] at hsa
 obtain ⟨p0,q0,p1,q1,p2,q2,rfl⟩:=ro3_form hsa.eq
 have hk23:Kp [fb] w2 w3:=(Kp.of_below ((Below.refl _ _).alloc (Nat.le_refl _) _)).trans hk3
 obtain ⟨aa,ca,rfl⟩:=hsa.all.rd.form
 have HC3:=Lib.hid (HC2.out.step hk23 hf3)
 have HK3:=Lib.hid (HK2.out.trans hk23)
 have HA3:=Lib.hid hsa
 have hs3:=hk23.size
 clear hk3 hf3 hsa hk23 HC2 HK2
 go_wp2_with fail
 refine (trenc_any _ lb cb fb mb 3 2 cv _ (gl [0,1,0]) (HC3.out.below ((Below.refl _ _).alloc (Nat.le_refl _) _)) (by omega) (by omega) (by omega) (GRd.lit (gl [0,1,0]) (heap_newA _ _) rfl) (.inr (by intro x hx hm;simp [Value.ownBlock] at hx hm;omega))).mono ?_
 rintro e w4 (⟨hbad,-⟩ | ⟨-,hk4,hf4,vb,S,rfl,hsb⟩)
 ·exact absurd rfl hbad
 rw [k11_b] at hsb
 obtain ⟨x0,y0,x1,y1,x2,y2,rfl⟩:=ro3_form hsb.eq
 have hk34:Kp [fb] w3 w4:=(Kp.of_below ((Below.refl _ _).alloc (Nat.le_refl _) _)).trans hk4
 obtain ⟨ab,cbb,rfl⟩:=hsb.all.rd.form
 have HC4:=Lib.hid (HC3.out.step hk34 hf4)
 have HK4:=Lib.hid (HK3.out.trans hk34)
 have hlt4:∀ x ∈ [fb],x < w2.heap.size+1:=fun x hx=>by simp at hx;omega
 have HA4:=Lib.hid (HA3.out.kp hk34 (fun x hx=>by simp at hx;simp;omega))
 have HB4:=Lib.hid hsb
 have hs4:=hk34.size
 clear hk4 hf4 hsb hk34 hlt4 HC3 HK3 HA3
 go_wp2_with fail
 refine (trhelp_any _ lb cb fb mb 3 2 cv _ 2 0 (gl [2,4]) (HC4.out.below ((Below.refl _ _).alloc (Nat.le_refl _) _)) (by omega) (GRd.lit (gl [2,4]) (heap_newA _ _) rfl) (by decide)).mono ?_
 rintro e w5 hp
 obtain ⟨rfl,hb5⟩:=k11_help hp
 have hb45:Below w4.heap.size w4 w5:=((Below.refl _ _).alloc (Nat.le_refl _) _).trans (hb5.mono (by simp))
 have HC5:=Lib.hid (HC4.out.below hb45)
 have HK5:=Lib.hid (HK4.out.below_step hb45)
 have HA5:=Lib.hid (HA4.out.below hb45)
 have HB5:=Lib.hid (HB4.out.below hb45)
 have hs5:=hb45.size
 clear hp hb5 hb45 HC4 HK4 HA4 HB4
 obtain ⟨w6,hw6⟩:∃ w6,w6=((w5.alloc (.cells #[.int .u8 2] 5)).alloc (.cells #[.int .u8 1] 5)).alloc (.cells #[.int .i64 2,.slice (some ⟨w5.heap.size,0,none⟩) 1 1,.int .i64 1,.slice (some ⟨w5.heap.size+1,0,none⟩) 1 1] 57):=⟨_,rfl⟩
 have hb6:Below w5.heap.size w5 w6:=by rw [hw6];exact (((Below.refl _ _).alloc (Nat.le_refl _) _).alloc (by simp) _).alloc (by simp;omega) _
 have g0:w6.heap[w5.heap.size]? = some (.cells #[.int .u8 2] 5 (0,0)):=by rw [hw6];exact keepA (keepA (heap_newA _ _) _) _
 have g1:w6.heap[w5.heap.size+1]? = some (.cells #[.int .u8 1] 5 (0,0)):=by rw [hw6];exact keepA (heap_newE _ _ _ (by simp)) _
 have g2:w6.heap[w5.heap.size+1+1]? = some (.cells #[.int .i64 2,.slice (some ⟨w5.heap.size,0,none⟩) 1 1,.int .i64 1,.slice (some ⟨w5.heap.size+1,0,none⟩) 1 1] 57 (0,0)):=by rw [hw6];exact heap_newE _ _ _ (by simp)
 have HSY:=Lib.hid (two_sy g2 (GRd.lit (gl [2]) g0 rfl) (GRd.lit (gl [1]) g1 rfl) rfl rfl)
 have HC6:=Lib.hid (HC5.out.below hb6)
 have HK6:=Lib.hid (HK5.out.below_step hb6)
 have HA6:=Lib.hid (HA5.out.below hb6)
 have HB6:=Lib.hid (HB5.out.below hb6)
 have hs6:=hb6.size
 clear hb6 g0 g1 g2 HC5 HK5 HA5 HB5
 go_wp2_with fail
 rw [← hw6]
 clear hw6
 refine (trrep_any w6 lb cb fb mb 3 2 cv _ 0 _ HC6.out (by omega) HSY.out (by simp)).mono ?_
 rintro e w7 hp
 obtain ⟨ar,cr,rfl,ho7,hb7⟩:=k11_rep hp
 have HC7:=Lib.hid (HC6.out.below hb7)
 have HK7:=Lib.hid (HK6.out.below_step hb7)
 have HA7:=Lib.hid (HA6.out.below hb7)
 have HB7:=Lib.hid (HB6.out.below hb7)
 have HO7:=Lib.hid ho7
 have hs7:=hb7.size
 clear hp hb7 ho7 HC6 HK6 HA6 HB6 HSY
 obtain ⟨w8,hw8⟩:∃ w8,w8=((w7.alloc (.cells #[.int .u8 1,.int .u8 4] 5)).alloc (.cells #[.int .u8 2,.int .u8 4] 5)).alloc (.cells #[.int .i64 1,.slice (some ⟨w7.heap.size,0,none⟩) 2 2,.int .i64 2,.slice (some ⟨w7.heap.size+1,0,none⟩) 2 2] 57):=⟨_,rfl⟩
 have hb8:Below w7.heap.size w7 w8:=by rw [hw8];exact (((Below.refl _ _).alloc (Nat.le_refl _) _).alloc (by simp) _).alloc (by simp;omega) _
 have g0:w8.heap[w7.heap.size]? = some (.cells #[.int .u8 1,.int .u8 4] 5 (0,0)):=by rw [hw8];exact keepA (keepA (heap_newA _ _) _) _
 have g1:w8.heap[w7.heap.size+1]? = some (.cells #[.int .u8 2,.int .u8 4] 5 (0,0)):=by rw [hw8];exact keepA (heap_newE _ _ _ (by simp)) _
 have g2:w8.heap[w7.heap.size+1+1]? = some (.cells #[.int .i64 1,.slice (some ⟨w7.heap.size,0,none⟩) 2 2,.int .i64 2,.slice (some ⟨w7.heap.size+1,0,none⟩) 2 2] 57 (0,0)):=by rw [hw8];exact heap_newE _ _ _ (by simp)
 have HSY:=Lib.hid (two_sy g2 (GRd.lit (gl [1,4]) g0 rfl) (GRd.lit (gl [2,4]) g1 rfl) rfl rfl)
 have HC8:=Lib.hid (HC7.out.below hb8)
 have HK8:=Lib.hid (HK7.out.below_step hb8)
 have HA8:=Lib.hid (HA7.out.below hb8)
 have HB8:=Lib.hid (HB7.out.below hb8)
 have HO8:=Lib.hid (HO7.out.below hb8)
 have hs8:=hb8.size
 clear hb8 g0 g1 g2 HC7 HK7 HA7 HB7 HO7
 go_wp2_with fail
 rw [← hw8]
 clear hw8
 have HDC:=Lib.hid (trdec_any w8 lb cb fb mb 3 2 cv _ _ HC8.out (by omega) (by omega) (by omega) HSY.out ⟨fun _ b hb hm=>by simp [Value.ownBlock] at hb hm;omega,fun s hs _ b hb hm=>by simp at hs;rcases hs with rfl | rfl <;> (simp [Value.ownBlock] at hb hm;omega)⟩ (by simp))
 refine HDC.out.mono ?_
 rintro e w9 ⟨hk9,hf9,hp⟩
 obtain ⟨v9,rfl,hg9,hv9⟩:=k11_dec hp
 obtain ⟨a9,c9,rfl,-⟩:=hg9.form
 have hk89:Kp [fb] w8 w9:=hk9
 have HC9:=Lib.hid (HC8.out.step hk9 hf9)
 have HK9:=Lib.hid (HK8.out.trans hk9)
 have HA9:=Lib.hid (HA8.out.kp hk9 (fun x hx=>by simp at hx;simp;omega))
 have HB9:=Lib.hid (HB8.out.kp hk9 (fun x hx=>by simp at hx;simp;omega))
 have HO9:=Lib.hid (HO8.out.kp hk9 (fun b hb hm=>by have:=(HO8.out.lt b hb).1;simp at hm;omega))
 have HM9:=Lib.hid hg9
 have HV9:Hid (∀ b,(Value.slice a9 3 c9).ownBlock=some b→fb < b):=Lib.hid fun b hb=>by have:=hv9 b hb;omega
 have hs9:=hk9.size
 clear hk9 hf9 hp hg9 hv9 hk89 HDC HC8 HK8 HA8 HB8 HO8 HSY
 obtain ⟨w10,hw10⟩:∃ w10,w10=((w9.alloc (.cells #[.int .u8 1,.int .u8 4] 5)).alloc (.cells #[.int .u8 2,.int .u8 5] 5)).alloc (.cells #[.int .i64 1,.slice (some ⟨w9.heap.size,0,none⟩) 2 2,.int .i64 2,.slice (some ⟨w9.heap.size+1,0,none⟩) 2 2] 57):=⟨_,rfl⟩
 have hb10:Below w9.heap.size w9 w10:=by rw [hw10];exact (((Below.refl _ _).alloc (Nat.le_refl _) _).alloc (by simp) _).alloc (by simp;omega) _
 have g0:w10.heap[w9.heap.size]? = some (.cells #[.int .u8 1,.int .u8 4] 5 (0,0)):=by rw [hw10];exact keepA (keepA (heap_newA _ _) _) _
 have g1:w10.heap[w9.heap.size+1]? = some (.cells #[.int .u8 2,.int .u8 5] 5 (0,0)):=by rw [hw10];exact keepA (heap_newE _ _ _ (by simp)) _
 have g2:w10.heap[w9.heap.size+1+1]? = some (.cells #[.int .i64 1,.slice (some ⟨w9.heap.size,0,none⟩) 2 2,.int .i64 2,.slice (some ⟨w9.heap.size+1,0,none⟩) 2 2] 57 (0,0)):=by rw [hw10];exact heap_newE _ _ _ (by simp)
 have HSY:=Lib.hid (two_sy g2 (GRd.lit (gl [1,4]) g0 rfl) (GRd.lit (gl [2,5]) g1 rfl) rfl rfl)
 have HC10:=Lib.hid (HC9.out.below hb10)
 have HK10:=Lib.hid (HK9.out.below_step hb10)
 have HA10:=Lib.hid (HA9.out.below hb10)
 have HB10:=Lib.hid (HB9.out.below hb10)
 have HO10:=Lib.hid (HO9.out.below hb10)
 have HM10:=Lib.hid (HM9.out.below hb10)
 have hs10:=hb10.size
 clear hb10 g0 g1 g2 HC9 HK9 HA9 HB9 HO9 HM9
 go_wp2_with fail
 rw [← hw10]
 clear hw10
 have HDC:=Lib.hid (trdec_any w10 lb cb fb mb 3 2 cv _ _ HC10.out (by omega) (by omega) (by omega) HSY.out ⟨fun _ b hb hm=>by simp [Value.ownBlock] at hb hm;omega,fun s hs _ b hb hm=>by simp at hs;rcases hs with rfl | rfl <;> (simp [Value.ownBlock] at hb hm;omega)⟩ (by simp))
 refine HDC.out.mono ?_
 rintro e w11 ⟨hk11,hf11,hp⟩
 obtain rfl:=k11_lost hp
 have hma:Apart (.slice a9 3 c9) [fb]:=fun b hb hm=>by have:=HV9.out b hb;simp at hm;omega
 have HC11:=Lib.hid (HC10.out.step hk11 hf11)
 have HK11:=Lib.hid (HK10.out.trans hk11)
 have HA11:=Lib.hid (HA10.out.kp hk11 (fun x hx=>by simp at hx;simp;omega))
 have HB11:=Lib.hid (HB10.out.kp hk11 (fun x hx=>by simp at hx;simp;omega))
 have HO11:=Lib.hid (HO10.out.kp hk11 (fun b hb hm=>by have:=(HO10.out.lt b hb).1;simp at hm;omega))
 have HM11:=Lib.hid (HM10.out.kp hk11 hma)
 have HF11:=Lib.hid hf11
 have hs11:=hk11.size
 clear hk11 hf11 hp HDC HC10 HK10 HA10 HB10 HO10 HM10 HSY
 go_wp2_with fail
 refine (trnew_any fb 24 2 w11 HF11.out (by omega) (by omega)).mono ?_
 rintro e w12 hp
 obtain ⟨hk12,hf12,rfl⟩:=k11_bad hp
 have HC12:=Lib.hid (HC11.out.step hk12 hf12)
 have HK12:=Lib.hid (HK11.out.trans hk12)
 have HA12:=Lib.hid (HA11.out.kp hk12 (fun x hx=>by simp at hx;simp;omega))
 have HB12:=Lib.hid (HB11.out.kp hk12 (fun x hx=>by simp at hx;simp;omega))
 have HO12:=Lib.hid (HO11.out.kp hk12 (fun b hb hm=>by have:=(HO11.out.lt b hb).1;simp at hm;omega))
 have HM12:=Lib.hid (HM11.out.kp hk12 hma)
 have hs12:=hk12.size
 clear hk12 hf12 hp HC11 HK11 HA11 HB11 HO11 HM11 HF11 hma
 go_wp2_with fail
 refine (tra_any w12 lb 3 (cell_of_heap HC12.out.box (j:=0) rfl) (by omega)).mono ?_
 rintro e wx ⟨rfl,hwx⟩
 subst hwx
 go_wp2_with fail
 refine (trb_any w12 lb 3 2 (cell_of_heap HC12.out.box (j:=0) rfl) (cell_of_heap HC12.out.box (j:=1) rfl) (lt_of_heap HC12.out.box) (by omega) (by omega)).mono ?_
 rintro e w13 ⟨rfl,hb13⟩
 rw [k11_B]
 have HK13:=Lib.hid (HK12.out.below_step hb13)
 have HA13:=Lib.hid (HA12.out.below hb13)
 have HB13:=Lib.hid (HB12.out.below hb13)
 have HO13:=Lib.hid (HO12.out.below hb13)
 have HM13:=Lib.hid (HM12.out.below hb13)
 clear hb13 HC12 HK12 HA12 HB12 HO12 HM12
 obtain ⟨-,-,ga,oa,rfl,hga,hat1⟩:=SRd.at HA13.out.all.rd (i:=1) (c:=⟨p1,q1,gl [1,1]⟩) rfl
 have a1:w13.cell? ⟨ga,oa+1,none⟩=some (.slice p1 2 q1):=hat1 0 _ rfl
 obtain ⟨-,-,gb,ob,rfl,hgb,hb0⟩:=SRd.at HB13.out.all.rd (i:=0) (c:=⟨x0,y0,gl [1,2]⟩) rfl
 obtain ⟨-,-,gb',ob',e1,-,hb1⟩:=SRd.at HB13.out.all.rd (i:=1) (c:=⟨x1,y1,gl [1,4]⟩) rfl
 cases e1
 obtain ⟨-,-,gb',ob',e1,-,hb2⟩:=SRd.at HB13.out.all.rd (i:=2) (c:=⟨x2,y2,gl [2,4]⟩) rfl
 cases e1
 have b0:w13.cell? ⟨gb,ob,none⟩=some (.slice x0 2 y0):=hb0 0 _ rfl
 have b1:w13.cell? ⟨gb,ob+1,none⟩=some (.slice x1 2 y1):=hb1 0 _ rfl
 have b2:w13.cell? ⟨gb,ob+2,none⟩=some (.slice x2 2 y2):=hb2 0 _ rfl
 have rA1:GRd w13 (.slice p1 2 q1) (gl [1,1]):=HA13.out.all.each ⟨p1,q1,gl [1,1]⟩ (by simp)
 have rB0:GRd w13 (.slice x0 2 y0) (gl [1,2]):=HB13.out.all.each ⟨x0,y0,gl [1,2]⟩ (by simp)
 have rB1:GRd w13 (.slice x1 2 y1) (gl [1,4]):=HB13.out.all.each ⟨x1,y1,gl [1,4]⟩ (by simp)
 have rB2:GRd w13 (.slice x2 2 y2) (gl [2,4]):=HB13.out.all.each ⟨x2,y2,gl [2,4]⟩ (by simp)
 have RR13:=Lib.hid (And.intro rA1 (And.intro rB0 (And.intro rB1 rB2)))
 clear hat1 hb0 hb1 hb2 rA1 rB0 rB1 rB2
 go_wp2_with fail
 refine (same_t _ _ (gl [1,1]) _ ?h1 ?h2).mono ?_
 case h1=>exact (RR13.out.1).below ((Below.refl _ _).alloc (Nat.le_refl _) _)
 case h2=>exact GRd.lit (gl [1,1]) (heap_newA _ _) rfl
 rintro e w14 ⟨rfl,hwx⟩
 have hbx:Below w13.heap.size w13 w14:=by rw [← hwx];exact (Below.refl _ _).alloc (Nat.le_refl _) _
 have RR14:=Lib.hid (And.intro (RR13.out.1.below hbx) (And.intro (RR13.out.2.1.below hbx) (And.intro (RR13.out.2.2.1.below hbx) (RR13.out.2.2.2.below hbx))))
 have HO14:=Lib.hid (HO13.out.below hbx)
 have HM14:=Lib.hid (HM13.out.below hbx)
 have HK14:=Lib.hid (HK13.out.below_step hbx)
 replace b0:=(hbx.cell (p:=⟨gb,ob,none⟩) hgb).trans b0
 replace b1:=(hbx.cell (p:=⟨gb,ob+1,none⟩) hgb).trans b1
 replace b2:=(hbx.cell (p:=⟨gb,ob+2,none⟩) hgb).trans b2
 replace hgb:=Nat.lt_of_lt_of_le hgb hbx.size
 clear hwx hbx RR13 HO13 HM13 HK13
 clear a1 hga
 go_wp2_with fail
 refine (same_t _ _ (gl [1,2]) _ ?h1 ?h2).mono ?_
 case h1=>exact (RR14.out.2.1).below ((Below.refl _ _).alloc (Nat.le_refl _) _)
 case h2=>exact GRd.lit (gl [1,2]) (heap_newA _ _) rfl
 rintro e w15 ⟨rfl,hwx⟩
 have hbx:Below w14.heap.size w14 w15:=by rw [← hwx];exact (Below.refl _ _).alloc (Nat.le_refl _) _
 have RR15:=Lib.hid (And.intro (RR14.out.1.below hbx) (And.intro (RR14.out.2.1.below hbx) (And.intro (RR14.out.2.2.1.below hbx) (RR14.out.2.2.2.below hbx))))
 have HO15:=Lib.hid (HO14.out.below hbx)
 have HM15:=Lib.hid (HM14.out.below hbx)
 have HK15:=Lib.hid (HK14.out.below_step hbx)
 replace b0:=(hbx.cell (p:=⟨gb,ob,none⟩) hgb).trans b0
 replace b1:=(hbx.cell (p:=⟨gb,ob+1,none⟩) hgb).trans b1
 replace b2:=(hbx.cell (p:=⟨gb,ob+2,none⟩) hgb).trans b2
 replace hgb:=Nat.lt_of_lt_of_le hgb hbx.size
 clear hwx hbx RR14 HO14 HM14 HK14
 go_wp2_with fail
 refine (same_t _ _ (gl [1,4]) _ ?h1 ?h2).mono ?_
 case h1=>exact (RR15.out.2.2.1).below ((Below.refl _ _).alloc (Nat.le_refl _) _)
 case h2=>exact GRd.lit (gl [1,4]) (heap_newA _ _) rfl
 rintro e w16 ⟨rfl,hwx⟩
 have hbx:Below w15.heap.size w15 w16:=by rw [← hwx];exact (Below.refl _ _).alloc (Nat.le_refl _) _
 have RR16:=Lib.hid (And.intro (RR15.out.1.below hbx) (And.intro (RR15.out.2.1.below hbx) (And.intro (RR15.out.2.2.1.below hbx) (RR15.out.2.2.2.below hbx))))
 have HO16:=Lib.hid (HO15.out.below hbx)
 have HM16:=Lib.hid (HM15.out.below hbx)
 have HK16:=Lib.hid (HK15.out.below_step hbx)
 replace b0:=(hbx.cell (p:=⟨gb,ob,none⟩) hgb).trans b0
 replace b1:=(hbx.cell (p:=⟨gb,ob+1,none⟩) hgb).trans b1
 replace b2:=(hbx.cell (p:=⟨gb,ob+2,none⟩) hgb).trans b2
 replace hgb:=Nat.lt_of_lt_of_le hgb hbx.size
 clear hwx hbx RR15 HO15 HM15 HK15
 go_wp2_with fail
 refine (same_t _ _ (gl [2,4]) _ ?h1 ?h2).mono ?_
 case h1=>exact (RR16.out.2.2.2).below ((Below.refl _ _).alloc (Nat.le_refl _) _)
 case h2=>exact GRd.lit (gl [2,4]) (heap_newA _ _) rfl
 rintro e w17 ⟨rfl,hwx⟩
 have hbx:Below w16.heap.size w16 w17:=by rw [← hwx];exact (Below.refl _ _).alloc (Nat.le_refl _) _
 have RR17:=Lib.hid (And.intro (RR16.out.1.below hbx) (And.intro (RR16.out.2.1.below hbx) (And.intro (RR16.out.2.2.1.below hbx) (RR16.out.2.2.2.below hbx))))
 have HO17:=Lib.hid (HO16.out.below hbx)
 have HM17:=Lib.hid (HM16.out.below hbx)
 have HK17:=Lib.hid (HK16.out.below_step hbx)
 replace b0:=(hbx.cell (p:=⟨gb,ob,none⟩) hgb).trans b0
 replace b1:=(hbx.cell (p:=⟨gb,ob+1,none⟩) hgb).trans b1
 replace b2:=(hbx.cell (p:=⟨gb,ob+2,none⟩) hgb).trans b2
 replace hgb:=Nat.lt_of_lt_of_le hgb hbx.size
 clear hwx hbx RR16 HO16 HM16 HK16
 go_wp2_with fail
 refine (same_t _ _ (gl [1,2]) _ ?h1 ?h2).mono ?_
 case h1=>exact (HO17.out.rd).below ((Below.refl _ _).alloc (Nat.le_refl _) _)
 case h2=>exact GRd.lit (gl [1,2]) (heap_newA _ _) rfl
 rintro e w18 ⟨rfl,hwx⟩
 have hbx:Below w17.heap.size w17 w18:=by rw [← hwx];exact (Below.refl _ _).alloc (Nat.le_refl _) _
 have RR18:=Lib.hid (And.intro (RR17.out.1.below hbx) (And.intro (RR17.out.2.1.below hbx) (And.intro (RR17.out.2.2.1.below hbx) (RR17.out.2.2.2.below hbx))))
 have HO18:=Lib.hid (HO17.out.below hbx)
 have HM18:=Lib.hid (HM17.out.below hbx)
 have HK18:=Lib.hid (HK17.out.below_step hbx)
 replace b0:=(hbx.cell (p:=⟨gb,ob,none⟩) hgb).trans b0
 replace b1:=(hbx.cell (p:=⟨gb,ob+1,none⟩) hgb).trans b1
 replace b2:=(hbx.cell (p:=⟨gb,ob+2,none⟩) hgb).trans b2
 replace hgb:=Nat.lt_of_lt_of_le hgb hbx.size
 clear hwx hbx RR17 HO17 HM17 HK17
 go_wp2_with fail
 refine (same_t _ _ (gl [0,1,0]) _ ?h1 ?h2).mono ?_
 case h1=>exact (HM18.out).below ((Below.refl _ _).alloc (Nat.le_refl _) _)
 case h2=>exact GRd.lit (gl [0,1,0]) (heap_newA _ _) rfl
 rintro e w19 ⟨rfl,hwx⟩
 have hbx:Below w18.heap.size w18 w19:=by rw [← hwx];exact (Below.refl _ _).alloc (Nat.le_refl _) _
 have RR19:=Lib.hid (And.intro (RR18.out.1.below hbx) (And.intro (RR18.out.2.1.below hbx) (And.intro (RR18.out.2.2.1.below hbx) (RR18.out.2.2.2.below hbx))))
 have HO19:=Lib.hid (HO18.out.below hbx)
 have HM19:=Lib.hid (HM18.out.below hbx)
 have HK19:=Lib.hid (HK18.out.below_step hbx)
 replace b0:=(hbx.cell (p:=⟨gb,ob,none⟩) hgb).trans b0
 replace b1:=(hbx.cell (p:=⟨gb,ob+1,none⟩) hgb).trans b1
 replace b2:=(hbx.cell (p:=⟨gb,ob+2,none⟩) hgb).trans b2
 replace hgb:=Nat.lt_of_lt_of_le hgb hbx.size
 clear hwx hbx RR18 HO18 HM18 HK18
 go_wp2
 go_ret
 exact ⟨rfl,HB0.out.trans (HK19.out.below (by have:=HB0.out.size;omega) (fun x hx=>by have:=HFB.out;simp at hx;omega))⟩
end Go.Proofs.YtjdnicacnaokdaaGreat
