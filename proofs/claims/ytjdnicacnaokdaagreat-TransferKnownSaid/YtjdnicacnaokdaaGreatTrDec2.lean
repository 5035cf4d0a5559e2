/-
  The message of shares: the program's Decode, whole.
-/
import Derived.Test.YtjdnicacnaokdaaGreatTrDecG
namespace Go.Proofs.YtjdnicacnaokdaaGreat
open Go.RowKit Fld
set_option linter.unusedVariables false
set_option linter.unusedSimpArgs false

theorem TI.short {P:Nat→GF→Prop} {S:List (Nat × GF) × Bool} {N:Nat} (h:TI P S) (hP:∀ e b,P e b→e < N):S.1.length≤N:=by
 have:=h.nd.length_le_of_subset (l₂:=List.range N) fun e he=>by
  obtain ⟨p,hp,rfl⟩:=List.mem_map.1 he
  exact List.mem_range.2 (hP _ _ (h.sub p hp))
 simpa using this
theorem says_lt {n:Nat} {s:Sy} {m e:Nat} {b:GF} (hm:m≤n) (hs:0≤s.node∧s.node < (n:Int)) (h:saysT n s m e b):e < eN n:=by
 obtain ⟨o,ho,hne,rfl,_⟩:=h
 exact eE_lt (Ne.symm hne) (by omega) (by omega)
theorem told_lt {n:Nat} {l:List Sy} {e:Nat} {b:GF} (hg:GoodP n (Sy.nodes l)) (h:toldT n l e b):e < eN n:=by
 obtain ⟨s,hs,h⟩:=h
 exact says_lt (Nat.le_refl _) (hg.1 s.node (List.mem_map.2 ⟨s,hs,rfl⟩)) h
theorem good_take {n:Nat} {l:List Sy} (hg:GoodP n (Sy.nodes l)) (i:Nat):GoodP n (Sy.nodes (l.take i)) :=
 ⟨fun x hx=>hg.1 x ((List.Sublist.map _ (List.take_sublist i l)).mem hx),hg.2.sublist (List.Sublist.map _ (List.take_sublist i l))⟩
theorem rowT_short {n:Nat} {l:List Sy} (hg:GoodP n (Sy.nodes l)) {i o:Nat} {s:Sy} (hs:l[i]? = some s) (ho:o≤n):(rowT n s (allT n l i) o).1.length≤eN n:=by
 have hi:=(List.getElem?_eq_some_iff.1 hs).1
 refine ((allT_inv n l (Nat.le_of_lt hi)).row n s o).short fun e b h=>?_
 rcases h with h | h
 ·exact told_lt (good_take hg i) h
 ·exact says_lt ho (hg.1 s.node (List.mem_map.2 ⟨s,List.mem_of_getElem? hs,rfl⟩)) h
theorem allT_succ {n:Nat} {l:List Sy} {i:Nat} {s:Sy} (hs:l[i]? = some s):allT n l (i+1)=rowT n s (allT n l i) n:=by
 rw [allT,List.getD_eq_getElem?_getD,hs];rfl
theorem tell_of {n k:Nat} {xs:List GF} {l:List Sy} {q:Bool} {o:Option (List GF)} (hg:GoodP n (Sy.nodes l)) (hl:∀ s ∈ l,s.d.length=n - 1) (hq:(allT n l l.length).2=q)
  (ho:∀ m,o=some m→Fits xs (trB n k) ((allT n l l.length).1.map fun p=>(p.1:Int)) ((allT n l l.length).1.map Prod.snd) m) (hn:o=none→∀ m,¬ Fits xs (trB n k) ((allT n l l.length).1.map fun p=>(p.1:Int)) ((allT n l l.length).1.map Prod.snd) m) :
  TrTell n (trB n k) xs l (if q then none else o):=by
 have hi:=allT_inv n l (Nat.le_refl _)
 rw [List.take_length] at hi
 have key:∀ m:List GF,m.length=trB n k→((∀ s ∈ l,s.d=trSh n xs m s.node.toNat)↔q=false∧Fits xs (trB n k) ((allT n l l.length).1.map fun p=>(p.1:Int)) ((allT n l l.length).1.map Prod.snd) m):=fun m hm=>by
  rw [← told_iff hg hl,← hi.fits (fun e=>ev m (xs.getD e 0)),hq,fits_iff]
  exact and_congr_right fun _=>⟨fun h=>⟨hm,h⟩,fun h=>h.2⟩
 cases q with
 | true =>
  rw [if_pos rfl]
  intro m hm h
  have:=(key m hm).1 h
  cases this.1
 | false =>
  rw [if_neg (by simp)]
  cases o with
  | none=>exact fun m hm h=>hn rfl m ((key m hm).1 h).2
  | some m =>
   have:=ho m rfl
   exact ⟨this.1,(key m this.1).2 ⟨rfl,this⟩⟩
theorem DecB.alloc {W0:World} {tb pb yb ab mb:Nat} {S:List (Nat × GF) × Bool} {W:World} (h:DecB W0 pb yb ab mb S W) (o:Obj):DecB W0 pb yb ab mb S (W.alloc o):=by
 have hb:Below W.heap.size W (W.alloc o):=(Below.refl _ _).alloc (Nat.le_refl _) _
 have hk:Kp [] W (W.alloc o):=Kp.of_below hb
 obtain ⟨V1,V2,h1,h2,h3,h4,h5⟩:=h.py
 exact ⟨h.kp.below_step hb,h.map.kp hk (List.not_mem_nil),⟨V1,V2,hk.heap h1 (List.not_mem_nil),hk.heap h2 (List.not_mem_nil),h3.below hb,h4.below hb,h5⟩,hk.heap h.a (List.not_mem_nil)⟩
def DecF (fb:Nat) (xs:List GF) (k:Nat) (ps:List Int) (ys:List GF) (w:World) (e:Ending) (w':World):Prop :=
 ∃ (da:Option Addr) (dn dc:Nat) (ec:Int),e=.returned (.tuple #[.slice da dn dc,.int .i64 ec])∧Kp [fb] w w'∧FOk w' fb∧((ec=0∧∃ m,(GRd w' (.slice da dn dc) m∧∀ b,(Value.slice da dn dc).ownBlock=some b→w.heap.size≤b)∧Fits xs k ps ys m) ∨ (ec != 0)=true∧∀ m,¬ Fits xs k ps ys m)
theorem decF_of {fb:Nat} {xs:List GF} {k:Nat} {ps:List Int} {ys:List GF} {w:World} {e:Ending} {w':World} (h:DecPost fb xs k ps ys w e w') (hg:GoodP xs.length ps) (hl:ps.length=ys.length) (hk:k≤ps.length):DecF fb xs k ps ys w e w':=by
 obtain ⟨h1,h2,⟨h3,_⟩ | ⟨_,⟨h3,_⟩ | ⟨_,⟨g,m,rfl,h3,h4,h5⟩ | ⟨rfl,h3⟩⟩⟩⟩:=h
 ·exact absurd hg (h3 hl)
 ·omega
 ·refine ⟨_,_,_,_,rfl,h1,h2,.inl ⟨rfl,m,⟨?_,fun b hb=>by simp [Value.ownBlock] at hb;omega⟩,h5⟩⟩
  have:=h4.rd (o:=0) (m:=k) (by omega) (cap:=k) (Nat.le_refl _)
  have e:((List.range k).map fun j=>m.getD (0+j) 0)=m:=by
   refine List.ext_getElem (by simp [h5.1]) fun i h1 h2=>?_
   simp [List.getD_eq_getElem?_getD,List.getElem?_eq_getElem h2]
  rwa [e] at this
 ·exact ⟨_,_,_,_,rfl,h1,h2,.inr ⟨rfl,h3⟩⟩
def TrDecAns (B:Nat) (xs:List GF) (n k:Nat) (l:List Sy) (e:Ending) (w':World):Prop :=
 ¬ SyGood n (-1) (n - 1) l∧e=.returned (.tuple #[.slice none 0 0,.int .i64 2]) ∨
 SyGood n (-1) (n - 1) l∧(l.length < k∧e=.returned (.tuple #[.slice none 0 0,.int .i64 70]) ∨
  k≤l.length∧((∃ m v,e=.returned (.tuple #[v,.int .i64 0])∧TrTell n (trB n k) xs l (some m)∧GRd w' v m∧∀ b,v.ownBlock=some b→B≤b) ∨ e=.returned (.tuple #[.slice none 0 0,.int .i64 80])∧TrTell n (trB n k) xs l none))
def TrDecPost (fb:Nat) (xs:List GF) (n k:Nat) (l:List Sy) (w:World) (e:Ending) (w':World):Prop:=Kp [fb] w w'∧FOk w' fb∧TrDecAns w.heap.size xs n k l e w'
set_option maxRecDepth 100000 in
set_option maxHeartbeats 4000000 in
theorem trdec_any (w:World) (lb cb fb mb n k:Nat) (cv hv:Value) (l:List Sy) (h:TrC w lb cb fb mb n k cv) (hk1:1≤k) (hkn:k < n) (hn:n≤23) (hl:SyAll w hv l) (hla:SyApart hv l [fb]) (hll:l.length≤100) :
  Calls Tryz.prog 27 #[.pointer (some ⟨lb,0,none⟩),hv] w (TrDecPost fb (pows (eN n)) n k l w):=by
 obtain ⟨ah,ch,rfl⟩:=hl.rd.form
 obtain ⟨L,hL⟩:∃ L,l.length=L:=⟨_,rfl⟩
 obtain ⟨n1,hn1⟩:∃ n1,n - 1=n1:=⟨_,rfl⟩
 have x1:(n:Int) - 1=(n1:Int):=by omega
 have x2:IntKind.i64.wrap (n1:Int)=(n1:Int):=IntWalk.i64_in _ (by omega)
 have hlb:=lt_of_heap h.box
 have hmb:=h.tab.lt
 have hfb:=h.code.ok.lt
 have y0:=cell_of_heap h.box (j:=0) rfl
 have y1:=cell_of_heap h.box (j:=1) rfl
 have HFIT:=Lib.hid (trfit_any w lb n n1 _ l y0 hlb hl (by omega) (by omega))
 rw [hL] at HFIT
 have H:=Lib.hid h
 have HS:=Lib.hid hl
 have HSA:=Lib.hid hla
 have HL:=Lib.hid hL
 have HN1:=Lib.hid hn1
 rw [hL] at HS HSA hll ⊢
 clear h hl hla hL hn1
 go_enter Tryz.func27,Tryz.ntmps27
 go_wp2_with fail
 refine HFIT.out.mono ?_
 rintro e w2 ⟨b,rfl,hb2,hbi⟩
 have HB2:=Lib.hid hb2
 have HBI:=Lib.hid hbi
 clear hb2 hbi HFIT
 have HF2:=Lib.hid (H.out.code.ok.below HB2.out)
 cases b
 ·have HNG:Hid (¬ SyGood n (-1) n1 l):=Lib.hid fun h=>by have:=HBI.out.2 h;cases this
  clear HBI
  go_wp2
  go_ret2
  exact ⟨Kp.of_below HB2.out,HF2.out,.inl ⟨by rw [HN1.out];exact HNG.out,rfl⟩⟩
 have HG:=Lib.hid (HBI.out.1 (by trivial))
 clear HBI
 have y1':=(HB2.out.cell (p:=⟨lb,1,none⟩) hlb).trans y1
 by_cases hfew:L < k
 ·go_wp2
  go_ret2
  exact ⟨Kp.of_below HB2.out,HF2.out,.inr ⟨by rw [HN1.out];exact HG.out,.inl ⟨by rw [HL.out];exact hfew,rfl⟩⟩⟩
 have hmany:k≤L:=by omega
 have hmm:=@run_makeMap Tryz.prog
 obtain ⟨W0,hW0⟩:∃ W0,W0=((((w2.alloc (.map #[] 0)).alloc (.cells #[.map (some w2.heap.size)] 98)).alloc (.cells #[.slice none 0 0] 53)).alloc (.cells #[.slice none 0 0] 34)).alloc (.cells #[.bool false] 4):=⟨_,rfl⟩
 have hb0:Below w2.heap.size w2 W0:=by rw [hW0];exact ((((Below.refl _ _).alloc (Nat.le_refl _) _).alloc (by simp) _).alloc (by simp <;> omega) _).alloc (by simp <;> omega) _ |>.alloc (by simp <;> omega) _
 have hs0:W0.heap.size=w2.heap.size+1+1+1+1+1:=by rw [hW0];simp
 have HDW:Hid (DecW W0 (w2.heap.size+1) (w2.heap.size+1+1) (w2.heap.size+1+1+1) (w2.heap.size+1+1+1+1) w2.heap.size):=Lib.hid
  ⟨by rw [hW0];exact cell_of_heap (keepA (keepA (keepA (heap_newE _ _ _ (by simp)) _) _) _) (j:=0) rfl,by omega,by omega⟩
 have HD0:Hid (DecB W0 (w2.heap.size+1+1) (w2.heap.size+1+1+1) (w2.heap.size+1+1+1+1) w2.heap.size (allT n l 0) W0):=Lib.hid (by
  refine ⟨Kp.refl _ _,?_,⟨.slice none 0 0,.slice none 0 0,?_,?_,OwnZ.nil _ _,OwnG.nil _ _,fun b hb=>by simp [Value.ownBlock] at hb⟩,?_⟩
  ·refine (ToldM.made w2).kp (S:=[]) (Kp.of_below ?_) (List.not_mem_nil)
   rw [hW0]
   exact ((((Below.refl _ _).alloc (Nat.le_refl _) _).alloc (by simp) _).alloc (by simp <;> omega) _).alloc (by simp <;> omega) _
  ·rw [hW0];exact keepA (keepA (heap_newE _ _ _ (by simp)) _) _
  ·rw [hW0];exact keepA (heap_newE _ _ _ (by simp)) _
  ·rw [hW0];exact heap_newE _ _ _ (by simp))
 have HBW:Hid (Below w.heap.size w W0):=Lib.hid (HB2.out.trans (hb0.mono HB2.out.size))
 have hsw:=HB2.out.size
 clear hb0
 go_wp2
 rw [← hW0]
 clear hW0 hmm y0 y1 y1'
 go_loopg [38] L (fun gk i wr=>∃ J:Nat,J≤L∧gk=L - J∧i=.int .i64 J∧Hid (DecB W0 (w2.heap.size+1+1) (w2.heap.size+1+1+1) (w2.heap.size+1+1+1+1) w2.heap.size (allT n l J) wr))
 case atStart=>exact ⟨0,by omega,rfl,rfl,HD0⟩
 case round =>
  clear HD0
  obtain ⟨J,hJ,rfl,rfl,HI⟩:=hrel
  have hsr:=HI.out.kp.size
  by_cases hlt:J < L
  ·obtain ⟨s,hs⟩:∃ s,l[J]? = some s:=⟨_,List.getElem?_eq_getElem (by rw [HL.out];exact hlt)⟩
   have hmem:=List.mem_of_getElem? hs
   obtain ⟨hnode,-,hsl⟩:=HG.out.at hs
   have hS0:=HS.out.below HBW.out
   obtain ⟨-,hcap,b,o,rfl,hb,hat⟩:=SRd.at hS0.rd hs
   have hbl:b < w.heap.size:=by
    obtain ⟨-,-,b',o',e9,h9,-⟩:=SRd.at HS.out.rd hs
    cases e9
    exact h9
   have hbn:b ∉ [w2.heap.size,w2.heap.size+1+1,w2.heap.size+1+1+1,w2.heap.size+1+1+1+1]:=by simp;omega
   have c0:wr.cell? ⟨b,o+J * 2,none⟩=some (.int .i64 s.node):=(HI.out.kp.cell (p:=⟨b,o+J * 2,none⟩) hb hbn).trans (hat 0 _ rfl)
   have c1:wr.cell? ⟨b,o+J * 2+1,none⟩=some (.slice s.a s.d.length s.cp):=(HI.out.kp.cell (p:=⟨b,o+J * 2+1,none⟩) hb hbn).trans (hat 1 _ rfl)
   obtain ⟨X,hX⟩:∃ X:Nat,s.node=(X:Int):=⟨s.node.toNat,by omega⟩
   have hXn:X < n:=by omega
   have hXt:s.node.toNat=X:=by omega
   obtain ⟨sv,hsv⟩:∃ sv,sv=(Value.slice s.a s.d.length s.cp):=⟨_,rfl⟩
   have hbr:b < wr.heap.size:=by omega
   have i1:(0:Int)≤(J:Int)∧(J:Int) < (L:Int):=by omega
   obtain ⟨w9,hw9⟩:∃ w9,w9=wr.alloc (.cells #[.int .i64 X,.slice s.a s.d.length s.cp] 57):=⟨_,rfl⟩
   have hsb9:w9.heap[wr.heap.size]? = some (.cells #[.int .i64 s.node,.slice s.a s.d.length s.cp] 57 (0,0)):=by rw [hw9,hX];exact heap_newE _ _ _ rfl
   have hD9:DecB W0 (w2.heap.size+1+1) (w2.heap.size+1+1+1) (w2.heap.size+1+1+1+1) w2.heap.size (allT n l J) w9:=by rw [hw9];exact HI.out.alloc (tb:=0) _
   have hsap:Apart (.slice s.a s.d.length s.cp) [w2.heap.size,w2.heap.size+1+1,w2.heap.size+1+1+1,w2.heap.size+1+1+1+1]:=fun bb hbb hm=>by
    have hrd:=HS.out.each s hmem
    unfold Sy.rd at hrd
    obtain ⟨y,hy,-⟩:=at_get (l:=s.d) (i:=0) (by rw [hsl];omega)
    obtain ⟨b3,o3,e3,h3,-⟩:=GRd.at hrd hy
    rw [e3] at hbb
    simp [Value.ownBlock] at hbb
    simp at hm
    omega
   have HCALL:=Lib.hid (eachD_any w9 lb n mb X (w2.heap.size+1) wr.heap.size (w2.heap.size+1+1) (w2.heap.size+1+1+1) (w2.heap.size+1+1+1+1)
    (fun o W=>DecB W0 (w2.heap.size+1+1) (w2.heap.size+1+1+1) (w2.heap.size+1+1+1+1) w2.heap.size (rowT n s (allT n l J) o) W∧W.heap[wr.heap.size]? = some (.cells #[.int .i64 s.node,.slice s.a s.d.length s.cp] 57 (0,0))) hn hXn
    (fun o W hr=>((H.out.below HBW.out).b).kp hr.1.kp (by simp <;> omega) (by simp <;> omega))
    (fun W hr=>by rw [rowT,hXt,if_pos rfl];exact hr)
    (fun o W ho hne hr=>by
     rw [rowT,hXt,if_neg hne]
     have hpl:=plc_lt hne ho hXn
     have hel:=eE_lt (n:=n) (Ne.symm hne) hXn ho
     have hEl:=eN_le hn
     have hsh:=rowT_short HG.out.1 hs (Nat.le_of_lt ho)
     refine (dec1t_any W0 W (w2.heap.size+1) wr.heap.size (w2.heap.size+1+1) (w2.heap.size+1+1+1) (w2.heap.size+1+1+1+1) w2.heap.size s _ o (plcN X o) (eE n X o) HDW.out (by have:=(HS.out.below HBW.out).each s hmem;exact this) hsap hr.1 hr.2 hsr (by rw [hsl];have:=HN1.out;omega) (by omega) (by omega)).mono ?_
     rintro e W' ⟨h1,h2,h3⟩
     exact ⟨h1,h2,h3⟩)
    ⟨by rw [rowT];exact hD9,hsb9⟩)
   have HSUC:=Lib.hid (allT_succ (n:=n) hs)
   rw [hX] at c0
   clear hat hs hmem hsl hsb9 hD9 hsap hX hXt hnode hS0 hcap hbn hsv
   go_wp2_with fail
   rw [← hw9]
   clear hw9
   refine HCALL.out.mono ?_
   rintro e wc ⟨rfl,hr,-⟩
   have HI2:Hid (DecB W0 (w2.heap.size+1+1) (w2.heap.size+1+1+1) (w2.heap.size+1+1+1+1) w2.heap.size (allT n l (J+1)) wc):=Lib.hid (by rw [HSUC.out];exact hr)
   clear hr HCALL c0 c1
   go_wp2
   go_roundg (L - (J+1))
   case measure=>omega
   case rel=>exact ⟨J+1,by omega,rfl,by go_num,HI2⟩
  ·obtain rfl:J=L:=by omega
   obtain ⟨V1,V2,p1,p2,p3,p4,p5⟩:=HI.out.py
   have p6:=HI.out.a
   have hkw:Kp [] w wr:=(Kp.of_below HBW.out).step HI.out.kp (fun x hx=>.inr (by simp at hx;omega))
   have hfw:FOk wr fb:=H.out.code.ok.kp hkw (List.not_mem_nil)
   have hC:=H.out.step (hkw.mono (by simp)) hfw
   have hEl:=eN_le hn
   have hB1:=trB_pos hk1 hkn
   have hBl:=trB_le hkn
   have hti:=allT_inv n l (Nat.le_refl _)
   rw [List.take_length] at hti
   have htl:=hti.short fun e b h=>told_lt HG.out.1 h
   have htm:=told_many HG.out.1 (k:=k) (by rw [HL.out];exact hmany)
   rw [HL.out] at hti htl htm
   have hgp:GoodP (pows (eN n)).length ((allT n l J).1.map fun p=>(p.1:Int)):=⟨fun x hx=>by
    obtain ⟨p,hp,rfl⟩:=List.mem_map.1 hx
    have:=told_lt HG.out.1 (hti.sub p hp)
    rw [pows_len]
    omega,by
    have h1:=hti.nd
    rw [List.nodup_iff_pairwise_ne,List.pairwise_map] at h1 ⊢
    exact h1.imp fun hne e=>hne (by omega)⟩
   have HDC0:=decode_gen wr.drew cb fb (trB n k) cv V1 V2 (pows (eN n)) ((allT n l J).1.map fun p=>(p.1:Int)) ((allT n l J).1.map Prod.snd) (hC.below ((Below.refl _ wr).drew)).code (pows_nodup (by omega)) (by omega) (by rw [pows_len];exact hBl) (by rw [pows_len];omega) (p3.below ((Below.refl _ wr).drew)).rd (p4.below ((Below.refl _ wr).drew)).rd (.inr fun b hb hm=>by have:=(p3.lt b hb).1;simp at hm;omega) (.inr fun b hb hm=>by have:=(p4.lt b hb).1;simp at hm;omega) (by rw [List.length_map];omega) (by rw [List.length_map];omega)
   have HDC:=Lib.hid (HDC0.mono fun e w' h=>decF_of h hgp (by simp) (by rw [List.length_map];exact htm))
   have HTELL:Hid (∀ o:Option (List GF),(∀ m,o=some m→Fits (pows (eN n)) (trB n k) ((allT n l J).1.map fun p=>(p.1:Int)) ((allT n l J).1.map Prod.snd) m)→(o=none→∀ m,¬ Fits (pows (eN n)) (trB n k) ((allT n l J).1.map fun p=>(p.1:Int)) ((allT n l J).1.map Prod.snd) m) →
     TrTell n (trB n k) (pows (eN n)) l (if (allT n l J).2 then none else o)):=Lib.hid fun o h1 h2=>tell_of HG.out.1 (fun s hs=>by rw [((HG.out.2 s hs).2),HN1.out]) (by rw [HL.out]) (by rw [HL.out];exact h1) (by rw [HL.out];exact h2)
   obtain ⟨q,hq⟩:∃ q,(allT n l J).2=q:=⟨_,rfl⟩
   rw [hq] at HTELL p6
   have y3:=cell_of_heap hC.box (j:=3) rfl
   have z1:=cell_of_heap p1 (j:=0) rfl
   have z2:=cell_of_heap p2 (j:=0) rfl
   have z3:=cell_of_heap p6 (j:=0) rfl
   have s1:=lt_of_heap p1
   have s2:=lt_of_heap p2
   have s3:=lt_of_heap p6
   have s4:=lt_of_heap hC.box
   have hne:=hC.ne.1
   obtain ⟨kp,hkp⟩:∃ kp:Nat→Bool,∀ k,kp k=true↔k < wr.heap.size∧k ≠ fb:=⟨fun k=>decide (k < wr.heap.size∧k ≠ fb),by simp⟩
   have k1:kp lb=true:=(hkp _).2 ⟨s4,hne⟩
   have k2:kp (w2.heap.size+1+1)=true:=(hkp _).2 ⟨s1,by omega⟩
   have k3:kp (w2.heap.size+1+1+1)=true:=(hkp _).2 ⟨s2,by omega⟩
   have HKP:=Lib.hid hkp
   have HKW:=Lib.hid hkw
   have HP6:=Lib.hid p6
   clear p1 p2 p3 p4 p5 p6 hkw hfw hC hEl hB1 hBl hti htl htm hgp HDC0 hq hkp
   go_upto_region 16 with fail
   have hgr:=fun (w0 W:World) (p:Addr) (hp:(fun k=>kp k=true) p.block)=>graft_cell (w0:=w0) (keep:=(fun k=>kp k=true)) W hp
   refine wp_region_tree (fun k=>kp k=true) [6] (.sq [0,1,2,3,4,5,6,7,8,9,10,11] .done) (by kernel_rfl) (by kernel_rfl) ?_
   simp only [Tr.sq,List.foldr_cons,List.foldr_nil,slimTr,slimStep,Oper.slim,List.contains_cons,List.contains_nil,Option.map_none,Option.map_some,List.getElem?_toArray,List.getElem?_cons_zero,List.getElem?_cons_succ,Option.bind_some,beq_self_eq_true,Bool.or_false,Nat.reduceBEq,Nat.reduceAdd,Nat.zero_add]
   repeat' first | ((with_reducible refine wpSlimT_id ?_);first | (with_reducible refine wpSlimT_done ?_) | ((with_reducible refine wpSlimT_step (fun K hK=>?_));go_simp;first | (refine hK _ _ ?_;clear hK K) | (refine ⟨by (intro kk hkk;first | (simp (disch:=(simp;omega)) only [hp_drew,hp_drewN,hp_alloc,hp_set];done) | (simp [hp_drew,hp_drewN,hp_alloc_if,hkk];done) | fail),hK _ _ ?_⟩;clear hK K) | (go_at_call 52;(with_reducible refine HDC.out.mono ?_);rintro e wc ⟨da,dn,dc,ec,rfl,hkd,hfd,hans⟩;have HKD:=Lib.hid hkd;have HFD:=Lib.hid hfd;have HANS:=Lib.hid hans;refine ⟨_,rfl,(fun kk hkk=>HKD.out.block kk ((HKP.out kk).1 hkk).1 (by simpa using ((HKP.out kk).1 hkk).2)),hK _ _ ?_⟩;clear hkd hfd hans hK K))) | fail
   clear hgr
   have hk3:Kp [fb] w wc:=(HKW.out.mono (by simp)).trans (((Kp.refl _ wr).drew).trans HKD.out)
   have HK3:=Lib.hid hk3
   have z3':=cell_of_heap (((Kp.refl _ wr).drew.trans HKD.out).heap HP6.out (by simp <;> omega)) (j:=0) rfl
   have s3':=Nat.lt_of_lt_of_le s3 (((Kp.refl _ wr).drew.trans HKD.out).size)
   have HGG:=Lib.hid (And.intro HG.out (And.intro HL.out hmany))
   have HN2:=HN1
   clear hk3
   rcases HANS.out with ⟨hec,m,hm,hfit⟩ | ⟨hec,hno⟩
   ·subst hec
    cases q
    ·have HT:Hid (TrTell n (trB n k) (pows (eN n)) l (some m)):=Lib.hid (HTELL.out (some m) (fun m' e=>by cases e;exact hfit) (fun e=>by cases e))
     have HM:=Lib.hid hm
     clear hm hfit HANS HTELL
     go_wp2
     go_ret2
     exact ⟨HK3.out,HFD.out,.inr ⟨by rw [HN2.out];exact HGG.out.1,.inr ⟨by rw [HGG.out.2.1];exact hmany,.inl ⟨m,_,rfl,HT.out,HM.out.1,fun b hb=>Nat.le_trans HKW.out.size (HM.out.2 b hb)⟩⟩⟩⟩
    ·have HT:Hid (TrTell n (trB n k) (pows (eN n)) l none):=Lib.hid (HTELL.out (some m) (fun m' e=>by cases e;exact hfit) (fun e=>by cases e))
     clear hm hfit HANS HTELL
     go_wp2
     go_ret2
     exact ⟨HK3.out,HFD.out,.inr ⟨by rw [HN2.out];exact HGG.out.1,.inr ⟨by rw [HGG.out.2.1];exact hmany,.inr ⟨rfl,HT.out⟩⟩⟩⟩
   ·have HT:Hid (TrTell n (trB n k) (pows (eN n)) l none):=Lib.hid (by
     have:=HTELL.out none (fun m' e=>by cases e) (fun _=>hno)
     cases q <;> exact this)
    have hec2:¬ ec=0:=by simpa using hec
    clear hno HANS HTELL
    cases q
    ·go_wp2
     go_ret2
     exact ⟨HK3.out,HFD.out,.inr ⟨by rw [HN2.out];exact HGG.out.1,.inr ⟨by rw [HGG.out.2.1];exact hmany,.inr ⟨rfl,HT.out⟩⟩⟩⟩
    ·go_wp2
     go_ret2
     exact ⟨HK3.out,HFD.out,.inr ⟨by rw [HN2.out];exact HGG.out.1,.inr ⟨by rw [HGG.out.2.1];exact hmany,.inr ⟨rfl,HT.out⟩⟩⟩⟩
end Go.Proofs.YtjdnicacnaokdaaGreat
