/-
  Sorted and without its repetitions: as long as it was, if no byte is there twice.
  A code is made, or refused.
-/
import Derived.Test.YtnjbkfeihbcalaaGreatZSorts
import Derived.Test.YtnjbkfeihbcalaaGreatZAts
/- Sorted and without its repetitions: as long as it was, if no byte is there twice. -/
namespace Go.Proofs.YtnjbkfeihbcalaaGreat
open Go.RowKit Fld Go.Sort
set_option linter.unusedVariables false
set_option linter.unusedSimpArgs false

def nums (xs:List GF):List Int:=xs.map fun x=>(x.n:Int)
theorem nums_nodup (xs:List GF):(nums xs).Nodup↔xs.Nodup:=by
 unfold nums List.Nodup
 rw [List.pairwise_map]
 constructor
 ·exact fun h=>h.imp fun {a b} hne e=>hne (by rw [e])
 ·exact fun h=>h.imp fun {a b} hne e=>hne (GF.ext' (by omega))
theorem compact_len (zs:List Int):((Lib.compact (zs.mergeSort fun x y=>decide (x≤y))).length=zs.length)↔zs.Nodup:=by
 obtain ⟨ss,hss⟩:∃ ss,ss=zs.mergeSort fun x y=>decide (x≤y):=⟨_,rfl⟩
 have hp:ss.Perm zs:=by rw [hss];exact List.mergeSort_perm _ _
 have hs:ss.Pairwise fun x y=>decide (x≤y)=true:=by
  rw [hss]
  exact List.pairwise_mergeSort (by simp;omega) (by simp;omega) zs
 rw [← hss,← hp.length_eq,← hp.nodup_iff]
 clear hss hp
 have hk:(Lib.compact ss).length=ss.length↔∀ j,j < ss.length→Lib.keeps ss.toArray j=true:=by
  unfold Lib.compact Lib.compactUpTo
  rw [List.length_map]
  have:=List.length_filter_eq_length_iff (p:=Lib.keeps ss.toArray) (l:=List.range ss.length)
  rw [List.length_range] at this
  rw [this]
  simp [List.mem_range]
 rw [hk]
 have hkk:∀ j,j < ss.length→(Lib.keeps ss.toArray j=true↔(j=0 ∨ ∃ x y,ss[j]? = some x∧ss[j - 1]? = some y∧x ≠ y)):=fun j hj=>by
  unfold Lib.keeps
  rw [decide_eq_true_iff]
  have e1:ss.toArray[j]! = ss[j]:=by rw [getElem!_pos _ _ (by simpa using hj)];rfl
  have e2:ss.toArray[j - 1]! = ss[j - 1]:=by rw [getElem!_pos _ _ (by simp;omega)];rfl
  rw [e1,e2,List.getElem?_eq_getElem hj,List.getElem?_eq_getElem (by omega:j - 1 < ss.length)]
  simp
 constructor
 ·intro h
  refine List.pairwise_iff_getElem.2 fun i j hi hj hij e=>?_
  have h1:=(hkk j hj).1 (h j hj)
  rcases h1 with h1 | ⟨x,y,hx,hy,hne⟩
  ·omega
  ·rw [List.getElem?_eq_getElem hj] at hx
   rw [List.getElem?_eq_getElem (by omega)] at hy
   have a1:ss[j - 1]≤ss[j]:=by simpa using List.pairwise_iff_getElem.1 hs (j - 1) j (by omega) hj (by omega)
   have a2:ss[i]≤ss[j - 1]:=by
    by_cases e':i=j - 1
    ·subst e';exact Int.le_refl _
    ·simpa using List.pairwise_iff_getElem.1 hs i (j - 1) hi (by omega) (by omega)
   simp only [Option.some.injEq] at hx hy
   omega
 ·intro h j hj
  refine (hkk j hj).2 ?_
  by_cases e:j=0
  ·exact .inl e
  ·exact .inr ⟨_,_,List.getElem?_eq_getElem hj,List.getElem?_eq_getElem (by omega),fun e'=>List.pairwise_iff_getElem.1 h (j - 1) j (by omega) hj (by omega) e'.symm⟩

theorem holds_view {w:World} {g:Nat} {xs:List GF} (h:View w g xs.length (fun i=>xs.getD i 0)):Go.Sort.Holds (Value.int .u8) w g 0 (nums xs).toArray:=by
 intro j hj
 simp [nums] at hj
 have:=h.2 j hj
 rw [Nat.zero_add]
 refine ⟨this.1.trans ?_,this.2⟩
 rw [getElem!_pos _ _ (by simpa [nums] using hj)]
 simp [nums,List.getElem?_eq_getElem hj]
theorem kp_sort (w:World) (n g:Nat) (d:Array Int) (os:Array Obj):Kp [g] w (grow (putRow (Value.int .u8) (Sort.ahead w n) g 0 d) os) :=
 ⟨rfl,rfl,rfl,by simp,fun k hk hn=>by
  rw [heap_grow_old _ _ (by simpa using hk)]
  unfold putRow mapBlock
  simp only [Array.getElem?_modify]
  rw [if_neg (fun e=>hn (by simp [e]))]
  rfl⟩
theorem sort_any (g cap:Nat) (xs:List GF) (w:World) (h:View w g xs.length (fun i=>xs.getD i 0)) (hl:xs.length≤sortMax) :
  Calls Tryz.prog 49 #[.slice (some ⟨g,0,none⟩) xs.length cap] w fun e w'=>e=.returned (.tuple #[])∧Kp [g] w w'∧Go.Sort.Holds (Value.int .u8) w' g 0 ((nums xs).mergeSort fun x y=>decide (x≤y)).toArray:=by
 have hs:=st_slices_Sort g 0 cap (nums xs) w (holds_view h) h.1 (by simpa [nums] using hl)
 rw [show (nums xs).length=xs.length from by simp [nums]] at hs
 refine hs.mono ?_
 rintro e w' ⟨rfl,n,os,rfl⟩
 refine ⟨rfl,kp_sort _ _ _ _ _,?_⟩
 refine holds_grow _ _ _ _ _ _ (by simpa using h.1) ?_
 exact holds_putRow _ _ _ _ (nums xs).toArray _ (holds_ahead _ _ _ _ _ _ (holds_view h)) (by simp)
theorem compact_any (g cap:Nat) (zs:List Int) (w:World) (h:Go.Sort.Holds (Value.int .u8) w g 0 zs.toArray) (hg:g < w.heap.size) (hl:zs.length≤1000000000) (hc:zs.length≤cap) :
  Calls Tryz.prog 50 #[.slice (some ⟨g,0,none⟩) zs.length cap] w fun e w'=>e=.returned (.slice (some ⟨g,0,none⟩) (Lib.compact zs).length cap)∧Kp [g] w w':=by
 refine (cp_any g 0 cap zs w h (by omega) hc).mono ?_
 rintro e w' ⟨rfl,q,rfl⟩
 refine ⟨rfl,?_⟩
 have:=kp_sort w q g (Lib.compact zs ++ List.replicate (zs.length - (Lib.compact zs).length) 0).toArray #[]
 rwa [grow_empty] at this
end Go.Proofs.YtnjbkfeihbcalaaGreat
/- A code is made, or refused. -/
namespace Go.Proofs.YtnjbkfeihbcalaaGreat
open Go.RowKit Fld
set_option linter.unusedVariables false
set_option linter.unusedSimpArgs false

theorem sort_then (B:Nat) (v:Value) (xs:List GF) (w:World) (h:OwnG w B v xs) (hB:B≤w.heap.size) (hs:xs.length≤sortMax) :
  Calls Tryz.prog 49 #[v] w fun e w'=>e=.returned (.tuple #[])∧Go.RowKit.Below B w w' ∧
   Calls Tryz.prog 50 #[v] w' fun e' w''=>∃ a m c,e'=.returned (.slice a m c)∧(m=xs.length↔xs.Nodup)∧Go.RowKit.Below B w' w'':=by
 have hl:xs.length≤1000000000:=Nat.le_trans hs (by decide)
 by_cases hne:xs=[]
 ·subst hne
  obtain ⟨a,cap,rfl,-⟩:=h.form
  refine (st_Sort_int_nil a cap w).mono ?_
  rintro e w' ⟨rfl,rfl⟩
  refine ⟨rfl,Go.RowKit.Below.refl _ _,?_⟩
  refine (cp_any_empty a cap _).mono ?_
  rintro e w' ⟨rfl,rfl⟩
  exact ⟨a,0,cap,rfl,by simp,Go.RowKit.Below.refl _ _⟩
 ·obtain ⟨g,cap,rfl,hg,hc,hv⟩:=h.view hne
  refine (sort_any g cap xs w hv hs).mono ?_
  rintro e w' ⟨rfl,hk,hh⟩
  refine ⟨rfl,hk.below hB (by simpa using hg),?_⟩
  have:=compact_any g cap ((nums xs).mergeSort fun x y=>decide (x≤y)) w' hh (Nat.lt_of_lt_of_le hv.1 hk.size) (by simpa [nums] using hl) (by simpa [nums] using hc)
  rw [show ((nums xs).mergeSort fun x y=>decide (x≤y)).length=xs.length from by simp [nums]] at this
  refine this.mono ?_
  rintro e w'' ⟨rfl,hk2⟩
  refine ⟨_,_,_,rfl,?_,hk2.below (Nat.le_trans hB hk.size) (by simpa using hg)⟩
  have:=compact_len (nums xs)
  rw [show (nums xs).length=xs.length from by simp [nums]] at this
  rw [this,nums_nodup]

def NewPost (fb:Nat) (xs:List GF) (k:Int) (w:World) (e:Ending) (w':World):Prop :=
 Below w.heap.size w w'∧((xs.Nodup∧1≤k∧k≤xs.length)∧(∃ cb v,e=.returned (.tuple #[.pointer (some ⟨cb,0,none⟩),.int .i64 0])∧w.heap.size≤cb∧CodeAt w' cb fb k.toNat v xs∧OwnG w' w.heap.size v xs) ∨
  ¬ (xs.Nodup∧1≤k∧k≤xs.length)∧e=.returned (.tuple #[.pointer none,.int .i64 2]))
set_option maxHeartbeats 2000000 in
theorem new_any (fb:Nat) (v:Value) (xs:List GF) (k:Int) (w:World) (hf:FOk w fb) (h:GRd w v xs) (hsm:xs.length≤sortMax) (hk:-9223372036854775808≤k∧k≤9223372036854775807) :
  Calls Tryz.prog 27 #[.pointer (some ⟨fb,0,none⟩),v,.int .i64 k] w (NewPost fb xs k w):=by
 have hl:xs.length≤1000000000:=Nat.le_trans hsm (by decide)
 obtain ⟨ax,capx,rfl,hcap⟩:=h.form
 obtain ⟨N,hN⟩:∃ N,xs.length=N:=⟨_,rfl⟩
 have HF:=Lib.hid hf
 have HX:=Lib.hid h
 have HN:=Lib.hid hN
 rw [hN] at hl hcap
 have HCL:Hid (∀ W,Below w.heap.size w W→Calls Tryz.prog 48 #[.slice ax N capx] W (ClonePost xs W)):=Lib.hid fun W hW=>by
  have h1:=h.below hW
  rw [hN] at h1
  exact clone_any _ xs W h1 (by omega)
 have HST:Hid (∀ W v,OwnG W w.heap.size v xs→w.heap.size≤W.heap.size→Calls Tryz.prog 49 #[v] W fun e w'=>e=.returned (.tuple #[])∧Go.RowKit.Below w.heap.size W w' ∧
   Calls Tryz.prog 50 #[v] w' fun e' w''=>∃ a m c,e'=.returned (.slice a m c)∧(m=N↔xs.Nodup)∧Go.RowKit.Below w.heap.size w' w''):=Lib.hid fun W v h1 h2=>by
  have:=sort_then _ v xs W h1 h2 hsm
  rwa [hN] at this
 clear hf h hN
 rw [HN.out]
 go_enter Tryz.func27,Tryz.ntmps27
 go_wp2_with fail
 refine (HCL.out _ (Below.refl _ _)).mono ?_
 rintro e w1 ⟨lv,rfl,ho1,hb1⟩
 have HB1:=Lib.hid hb1
 have HS1:=Lib.hid (HST.out w1 lv ho1 hb1.size)
 clear ho1 hb1
 go_wp2_with fail
 refine HS1.out.mono ?_
 rintro e w2 ⟨rfl,hb2,hc2⟩
 have HB2:Hid (Below w.heap.size w w2):=Lib.hid (HB1.out.trans hb2)
 have HC2:=Lib.hid hc2
 clear hb2 hc2 HS1 HB1
 go_wp2_with fail
 refine HC2.out.mono ?_
 rintro e w3 ⟨ca,m,cc,rfl,hm,hb3⟩
 have HB3:Hid (Below w.heap.size w w3):=Lib.hid (HB2.out.trans hb3)
 have HM:=Lib.hid hm
 clear hm hb3 HC2 HB2
 by_cases hm1:m=N
 ·subst hm1
  by_cases hk1:k < 1
  ·go_wp2
   go_ret2
   exact ⟨HB3.out,.inr ⟨fun h=>by have:=h.2.1;omega,rfl⟩⟩
  ·by_cases hk2:(m:Int) < k
   ·go_wp2
    go_ret2
    exact ⟨HB3.out,.inr ⟨fun h=>by have:=h.2.2;rw [HN.out] at this;omega,rfl⟩⟩
   ·have HND:=Lib.hid (HM.out.1 rfl)
    go_wp2_with fail
    refine (HCL.out _ HB3.out).mono ?_
    rintro e w4 ⟨v4,rfl,ho4,hb4⟩
    obtain ⟨a4,c4,rfl,hc4⟩:=ho4.form
    have HO4:=Lib.hid ho4
    have HB4:Hid (Below w.heap.size w w4):=Lib.hid (HB3.out.trans (hb4.mono HB3.out.size))
    clear ho4 hb4
    go_wp2
    go_ret2
    have hk3:k=((k.toNat:Nat):Int):=by omega
    have hb5:=(Below.refl w4.heap.size w4).alloc (Nat.le_refl _) (.cells #[.pointer (some ⟨fb,0,none⟩),.slice a4 xs.length c4,.int .i64 k] 113)
    have hw4:=HB4.out.size
    refine ⟨HB4.out.trans (hb5.mono hw4),.inl ⟨⟨HND.out,by omega,by rw [HN.out];omega⟩,w4.heap.size,.slice a4 xs.length c4,rfl,hw4,?_,?_⟩⟩
    ·refine ⟨?_,(HF.out.below HB4.out).below hb5,HO4.out.rd.below hb5,?_,?_⟩
     ·rw [← hk3];exact heap_newA _ _
     ·intro b hb hm
      rw [List.mem_singleton] at hm
      have:=(HO4.out.below hb5).lt b hb
      have:=HF.out.lt
      have:=HB3.out.size
      omega
     ·have:=HF.out.lt
      omega
    ·exact (HO4.out.below hb5).mono HB3.out.size
 ·have hm2:¬ (m:Int)=(N:Int):=by omega
  go_wp2
  go_ret2
  exact ⟨HB3.out,.inr ⟨fun h=>hm1 (HM.out.2 h.1),rfl⟩⟩
end Go.Proofs.YtnjbkfeihbcalaaGreat
