/-
  The examples of the chapter on words that are wrong.
  Arguments as the frame has them.
-/
import Derived.Test.YteeeocianofkfaaGreatWeDec
import Derived.Test.YteeeocianofkfaaGreatWeKits
import Derived.Test.YteeeocianofkfaaGreatOwnC
import Derived.ChangeSlices
/- The examples of the chapter on words that are wrong. -/
namespace Go.Proofs.YteeeocianofkfaaGreat
open Go.RowKit Fld
set_option linter.unusedVariables false
set_option linter.unusedSimpArgs false

theorem slice_frontZ (g n C : Nat) (hC : 0 < C) (hn : n ≤ C) : ∀ W : World, (Instr.slice 27 (.slice (some ⟨g, 0, none⟩) C C) none (some (.int .i64 (n : Nat))) none).run Tryz.prog W = .ok (.slice (some ⟨g, 0, none⟩) n C) W := fun W => by
  obtain ⟨i0, hi, hz0, hz1, hz2⟩ := info_parts i64_info
  have hs : (sizeOf (Tryz.prog.elem 27)).run Tryz.prog W = .ok 1 W := by
    have e : Tryz.prog.elem 27 = 3 := by kernel_rfl
    rw [e]
    simp [sizeOf, typeInfo, hi, hz1]
  rw [run_slice_h (P := Tryz.prog) (w := W) 27 (some ⟨g, 0, none⟩) C C (by kernel_rfl) .i64 (n : Int) (by omega) (by omega), hs]
  simp only [Result.andThen_ok, sliced, Int.toNat_natCast]
  rw [if_neg (by omega)]
  simp [Addr.add_lit]
theorem IRd.front {w : World} {b o n cap k : Nat} {l : List Int} (h : IRd w (.slice (some ⟨b, o, none⟩) n cap) l) (hk : k ≤ l.length) (hl : 0 < l.length) : IRd w (.slice (some ⟨b, o, none⟩) k cap) (l.take k) := by
  obtain ⟨x, hx⟩ : ∃ x, l[0]? = some x := ⟨_, List.getElem?_eq_getElem hl⟩
  obtain ⟨h1, h2, b', o', e, hb, -⟩ := IRd.cell h hx
  cases e
  have := IRd.mk (w := w) (b := b) (o := o) (cap := cap) (l := l.take k) (by rw [List.length_take, Nat.min_eq_left hk]; omega) hb fun i x hx => by
    have hi : i < k := by
      have := (List.getElem?_eq_some_iff.1 hx).1
      rw [List.length_take] at this
      omega
    rw [List.getElem?_take, if_pos hi] at hx
    exact IRd.cells h i x hx
  rwa [List.length_take, Nat.min_eq_left hk] at this
theorem filter4 (f : Nat → Bool) : ((List.range 4).filter f).length = (f 0).toNat + (f 1).toNat + (f 2).toNat + (f 3).toNat := by
  rw [show List.range 4 = [0, 1, 2, 3] from rfl]
  cases h0 : f 0 <;> cases h1 : f 1 <;> cases h2 : f 2 <;> cases h3 : f 3 <;> simp [List.filter_cons, h0, h1, h2, h3]
def kX : List GF := gl [1, 2, 4, 8]
def kP : List Int := [0, 1, 2, 3]
theorem k8_pts : ptsOf kX kP = kX := by rfl
theorem k8_nodup : kX.Nodup := by decide
theorem k8_good : GoodP kX.length kP := ⟨by decide, by decide⟩
theorem k8_e0 : ev (gl [7, 1]) (kX.getD 0 0) = (gl [6, 5, 3, 15]).getD 0 0 := GF.ext' (by rfl)
theorem k8_e1 : ev (gl [7, 1]) (kX.getD 1 0) = (gl [6, 5, 3, 15]).getD 1 0 := GF.ext' (by rfl)
theorem k8_e2 : ev (gl [7, 1]) (kX.getD 2 0) = (gl [6, 5, 3, 15]).getD 2 0 := GF.ext' (by rfl)
theorem k8_e3 : ev (gl [7, 1]) (kX.getD 3 0) = (gl [6, 5, 3, 15]).getD 3 0 := GF.ext' (by rfl)
theorem k8_wr1 : wrS kX kP (gl [6, 5, 3, 15]) (gl [7, 1]) = [] := by
  have h : wrI kX (gl [6, 5, 3, 15]) (gl [7, 1]) = [] := by
    unfold wrI
    refine List.filter_eq_nil_iff.2 fun i hi => ?_
    have hi' : i < 4 := List.mem_range.1 hi
    rw [decide_eq_true_eq]
    intro hne
    rcases (show i = 0 ∨ i = 1 ∨ i = 2 ∨ i = 3 by omega) with rfl | rfl | rfl | rfl
    · exact hne k8_e0
    · exact hne k8_e1
    · exact hne k8_e2
    · exact hne k8_e3
  rw [wrS, wrP, k8_pts, h]
  simp [riseI]
theorem k8_wr2 : wrS kX kP (gl [6, 9, 3, 15]) (gl [7, 1]) = [1] := by
  have h : wrI kX (gl [6, 9, 3, 15]) (gl [7, 1]) = [1] := by
    unfold wrI
    rw [show List.range kX.length = [0, 1, 2, 3] from rfl]
    rw [List.filter_cons_of_neg (by rw [decide_eq_true_eq]; exact fun h => h k8_e0), List.filter_cons_of_pos (by rw [decide_eq_true_eq, k8_e1]; decide), List.filter_cons_of_neg (by rw [decide_eq_true_eq]; exact fun h => h k8_e2), List.filter_cons_of_neg (by rw [decide_eq_true_eq]; exact fun h => h k8_e3)]
    rfl
  rw [wrS, wrP, k8_pts, h]
  exact riseI_self (List.pairwise_singleton _ _)
theorem k8_lost : WeTells kX 2 kP (gl [0, 0, 1, 1]) 1 none := by
  intro m hm hle
  rw [wrS_len, k8_pts] at hle
  unfold wrI at hle
  rw [show kX.length = 4 from rfl, filter4] at hle
  have hb : ∀ i : Nat, i < 4 → i < kX.length := fun i h => h
  by_cases h01 : ev m (kX.getD 0 0) = (gl [0, 0, 1, 1]).getD 0 0 ∧ ev m (kX.getD 1 0) = (gl [0, 0, 1, 1]).getD 1 0
  · have e : m = gl [0, 0] := agree_many (ls := [0, 1]) k8_nodup (by rw [hm]; rfl) (by decide) (fun i hi => by simp at hi; exact hb i (by omega)) (by rw [hm]; decide) fun i hi => by
      simp at hi
      rcases hi with rfl | rfl
      · rw [h01.1]; exact (GF.ext' (by rfl))
      · rw [h01.2]; exact (GF.ext' (by rfl))
    have h2 : ev m (kX.getD 2 0) ≠ (gl [0, 0, 1, 1]).getD 2 0 := by
      rw [e, show ev (gl [0, 0]) (kX.getD 2 0) = (gl [0]).getD 0 0 from GF.ext' (by rfl)]
      decide
    have h3 : ev m (kX.getD 3 0) ≠ (gl [0, 0, 1, 1]).getD 3 0 := by
      rw [e, show ev (gl [0, 0]) (kX.getD 3 0) = (gl [0]).getD 0 0 from GF.ext' (by rfl)]
      decide
    rw [decide_eq_true h2, decide_eq_true h3] at hle
    simp only [Bool.toNat_true] at hle
    omega
  by_cases h23 : ev m (kX.getD 2 0) = (gl [0, 0, 1, 1]).getD 2 0 ∧ ev m (kX.getD 3 0) = (gl [0, 0, 1, 1]).getD 3 0
  · have e : m = gl [1, 0] := agree_many (ls := [2, 3]) k8_nodup (by rw [hm]; rfl) (by decide) (fun i hi => by simp at hi; exact hb i (by omega)) (by rw [hm]; decide) fun i hi => by
      simp at hi
      rcases hi with rfl | rfl
      · rw [h23.1]; exact (GF.ext' (by rfl))
      · rw [h23.2]; exact (GF.ext' (by rfl))
    have h2 : ev m (kX.getD 0 0) ≠ (gl [0, 0, 1, 1]).getD 0 0 := by
      rw [e, show ev (gl [1, 0]) (kX.getD 0 0) = (gl [1]).getD 0 0 from GF.ext' (by rfl)]
      decide
    have h3 : ev m (kX.getD 1 0) ≠ (gl [0, 0, 1, 1]).getD 1 0 := by
      rw [e, show ev (gl [1, 0]) (kX.getD 1 0) = (gl [1]).getD 0 0 from GF.ext' (by rfl)]
      decide
    rw [decide_eq_true h2, decide_eq_true h3] at hle
    simp only [Bool.toNat_true] at hle
    omega
  have ha : ∀ a b : Prop, [Decidable a] → [Decidable b] → ¬ (a ∧ b) → 1 ≤ (decide (¬ a)).toNat + (decide (¬ b)).toNat := fun a b _ _ h => by
    by_cases h1 : a
    · by_cases h2 : b
      · exact absurd ⟨h1, h2⟩ h
      · simp [h1, h2]
    · simp [h1]
  have h4 := ha _ _ h01
  have h5 := ha _ _ h23
  simp only [ne_eq] at hle
  omega
theorem k8_far : farU (gl [1, 2]) (gl [1, 3, 4]) = 2 := by rfl
theorem k8_some {fb : Nat} {ys : List GF} {l : List Int} {w w' : World} {e : Ending} (hy : ys.length = 4) (hl : wrS kX kP ys (gl [7, 1]) = l) {L : Nat} (hL : l.length = L) (h1 : L ≤ 1) (h : WDecPost fb kX 2 kP ys 1 w e w') :
    ∃ a1 c1 a2 c2, e = .returned (.tuple #[.slice a1 2 c1, .slice a2 L c2, .int .i64 0]) ∧ Kp [fb] w w' ∧ FOk w' fb ∧ OwnG w' w.heap.size (.slice a1 2 c1) (gl [7, 1]) ∧ RdZ w' w.heap.size (.slice a2 L c2) l := by
  subst hL
  obtain ⟨hk, hf, h⟩ := h
  have hpl : kP.length = ys.length := hy.symm
  have htl : WeTells kX 2 kP ys 1 (some (gl [7, 1])) := ⟨rfl, by rw [hl]; exact h1⟩
  rcases h with ⟨h2 | h2, -⟩ | ⟨-, ⟨h2, -⟩ | ⟨-, ⟨m, v1, v2, rfl, h3, h4, h5⟩ | ⟨-, h3⟩⟩⟩
  · exact absurd ⟨k8_good, hpl⟩ h2
  · omega
  · have : (4 : Int) < 2 + 2 * 1 := h2
    omega
  · have e := weTells_one k8_nodup k8_good (by decide) h3 htl
    cases e
    rw [hl] at h5
    obtain ⟨a1, c1, rfl, -⟩ := h4.form
    obtain ⟨a2, c2, rfl⟩ := h5.rd.form
    exact ⟨a1, c1, a2, c2, rfl, hk, hf, h4, h5⟩
  · have e := weTells_one k8_nodup k8_good (by decide) h3 htl
    cases e
theorem k8_few {fb : Nat} {w w' : World} {e : Ending} (h : WDecPost fb kX 2 [0, 1, 2] (gl [6, 5, 3]) 1 w e w') : e = .returned (.tuple #[.slice none 0 0, .slice none 0 0, .int .i64 70]) ∧ Kp [fb] w w' ∧ FOk w' fb := by
  obtain ⟨hk, hf, h⟩ := h
  rcases h with ⟨h2 | h2, -⟩ | ⟨-, ⟨h2, rfl⟩ | ⟨h2, -⟩⟩
  · exact absurd ⟨⟨by decide, by decide⟩, rfl⟩ h2
  · omega
  · exact ⟨rfl, hk, hf⟩
  · have : (2 : Int) + 2 * 1 ≤ 3 := h2
    omega
theorem k8_none {fb : Nat} {w w' : World} {e : Ending} (h : WDecPost fb kX 2 kP (gl [0, 0, 1, 1]) 1 w e w') : e = .returned (.tuple #[.slice none 0 0, .slice none 0 0, .int .i64 80]) ∧ Kp [fb] w w' ∧ FOk w' fb := by
  obtain ⟨hk, hf, h⟩ := h
  rcases h with ⟨h2 | h2, -⟩ | ⟨-, ⟨h2, -⟩ | ⟨-, ⟨m, v1, v2, rfl, h3, h4, h5⟩ | ⟨rfl, h3⟩⟩⟩
  · exact absurd ⟨k8_good, rfl⟩ h2
  · omega
  · have : (4 : Int) < 2 + 2 * 1 := h2
    omega
  · exact absurd h3.2 (k8_lost _ h3.1)
  · exact ⟨rfl, hk, hf⟩
theorem k8_new {fb : Nat} {w w' : World} {e : Ending} (h : NewPost fb kX 2 w e w') :
    Below w.heap.size w w' ∧ ∃ cb v, e = .returned (.tuple #[.pointer (some ⟨cb, 0, none⟩), .int .i64 0]) ∧ w.heap.size ≤ cb ∧ CodeAt w' cb fb 2 v kX ∧ OwnG w' w.heap.size v kX := by
  obtain ⟨h1, ⟨_, h2⟩ | ⟨h2, _⟩⟩ := h
  · exact ⟨h1, h2⟩
  · exact absurd ⟨k8_nodup, by decide, by decide⟩ h2
set_option maxRecDepth 100000 in
set_option maxHeartbeats 4000000 in
theorem works_any (w : World) : Calls Tryz.prog 10 #[] w fun e w' => e = .returned (.bool true) ∧ Below w.heap.size w w' := by
  have HFN := Lib.hid (fun W => fnew_g W)
  go_enter Tryz.func10, Tryz.ntmps10
  go_wp2_with fail
  refine (HFN.out _).mono ?_
  rintro e w1 ⟨fb, rfl, hfb0, hf1, hb1⟩
  have HFO := Lib.hid hf1
  have HB0 := Lib.hid hb1
  have HFB := Lib.hid hfb0
  have hs1 := hf1.lt
  clear hf1 hb1 hfb0
  have HDEC : Hid (∀ (W : World) (cb : Nat) (v : Value) (ps : List Int) (ys : List GF) (pv yv : Value), CodeAt W cb fb 2 v kX → IRd W pv ps → GRd W yv ys → Apart pv [fb] → Apart yv [fb] → ps.length ≤ 256 → ys.length ≤ 256 →
      Calls Tryz.prog 15 #[.pointer (some ⟨cb, 0, none⟩), pv, yv, .int .i64 1] W (WDecPost fb kX 2 ps ys 1 W)) := Lib.hid fun W cb v ps ys pv yv h1 h2 h3 h4 h5 h6 h7 =>
    wdec_any W cb fb 2 v pv yv _ ps ys 1 h1 k8_nodup (by omega) (by decide) (by decide) h2 h3 (.inr h4) (.inr h5) h6 (by omega) (by omega)
  -- the code
  go_wp2_with fail
  have ha2 : ∀ o : Obj, Below w1.heap.size w1 (w1.alloc o) := fun o => (Below.refl _ _).alloc (Nat.le_refl _) o
  refine (new_any fb _ kX 2 _ (HFO.out.below (ha2 _)) (GRd.lit kX (heap_newA _ _) rfl) (by decide) (by omega)).mono ?_
  rintro e w2 hp
  obtain ⟨hb2, cb, v, rfl, hcb, hc, ho⟩ := k8_new hp
  have HC := Lib.hid hc
  have HK2 : Hid (Kp [fb] w1 w2) := Lib.hid ((Kp.of_below (ha2 _)).below_step hb2)
  clear hp hb2 ha2 hc ho hcb HFO
  have hf2 := HC.out.ok.lt
  -- right
  obtain ⟨pb, hpb⟩ : ∃ pb, w2.heap.size = pb := ⟨_, rfl⟩
  have hsl := slice_frontZ pb 3 4 (by omega) (by omega)
  have HPB := Lib.hid hpb
  go_wp2_with fail
  (with_reducible refine (HDEC.out _ cb v kP (gl [6, 5, 3, 15]) _ _ ?c1 ?c2 ?c3 ?c4 ?c5 (by decide) (by decide)).mono ?_)
  case c1 => exact HC.out.below (((Below.refl _ _).alloc (Nat.le_refl _) _).alloc (by simp) _)
  case c2 => rw [← HPB.out]; exact IRd.lit kP (keepA (heap_newA _ _) _) rfl
  case c3 => rw [← HPB.out]; exact GRd.lit (gl [6, 5, 3, 15]) (heap_newE _ _ _ (by simp)) rfl
  case c4 => exact fun k hk hm => by simp [Value.ownBlock] at hk hm; omega
  case c5 => exact fun k hk hm => by simp [Value.ownBlock] at hk hm; omega
  rintro e w3 hp
  obtain ⟨a1, c1, a2, c2, rfl, hk3, hf3, ho3, hr3⟩ := k8_some rfl k8_wr1 (L := 0) rfl (by decide) hp
  have hk23 : Kp [fb] w2 w3 := (Kp.of_below (((Below.refl _ _).alloc (Nat.le_refl _) _).alloc (by simp) _)).trans hk3
  have HC3 := Lib.hid (HC.out.step hk23 hf3)
  have HP3 : Hid (IRd w3 (.slice (some ⟨pb, 0, none⟩) 4 4) kP) := Lib.hid (by
    refine IRd.kp ?_ hk3 (fun k hk hm => by simp [Value.ownBlock] at hk hm; omega)
    rw [← HPB.out]
    exact IRd.lit kP (keepA (heap_newA _ _) _) rfl)
  have HO3 := Lib.hid (OwnG.mono ho3 (B' := w2.heap.size) (by simp; omega))
  have HK3 := Lib.hid (HK2.out.trans hk23)
  have hf3' := hf3.lt
  have hs23 := hk23.size
  clear hp hk3 hf3 ho3 hr3 hk23 HC HK2
  -- one is wrong
  go_wp2_with fail
  (with_reducible refine (HDEC.out _ cb v kP (gl [6, 9, 3, 15]) _ _ ?c1 ?c2 ?c3 ?c4 ?c5 (by decide) (by decide)).mono ?_)
  case c1 => exact HC3.out.below ((Below.refl _ _).alloc (Nat.le_refl _) _)
  case c2 => exact HP3.out.below ((Below.refl _ _).alloc (Nat.le_refl _) _)
  case c3 => exact GRd.lit (gl [6, 9, 3, 15]) (heap_newA _ _) rfl
  case c4 => exact fun k hk hm => by simp [Value.ownBlock] at hk hm; omega
  case c5 => exact fun k hk hm => by simp [Value.ownBlock] at hk hm; omega
  rintro e w4 hp
  obtain ⟨a3, c3, a4, c4, rfl, hk4, hf4, ho4, hr4⟩ := k8_some rfl k8_wr2 (L := 1) rfl (by decide) hp
  have hk34 : Kp [fb] w3 w4 := (Kp.of_below ((Below.refl _ _).alloc (Nat.le_refl _) _)).trans hk4
  have HC4 := Lib.hid (HC3.out.step hk34 hf4)
  have HP4 : Hid (IRd w4 (.slice (some ⟨pb, 0, none⟩) 4 4) kP) := Lib.hid (IRd.kp HP3.out hk34 (fun k hk hm => by simp [Value.ownBlock] at hk hm; omega))
  have HO34 := Lib.hid (HO3.out.kp hk34 (fun c hc hm => by have := (HO3.out.lt c hc).1; simp at hm; omega))
  have HO4 := Lib.hid (OwnG.mono ho4 (B' := w2.heap.size) (by simp; omega))
  have HR4 := Lib.hid (hr4.mono (B' := w2.heap.size) (by simp; omega))
  have HK4 := Lib.hid (HK3.out.trans hk34)
  have hf4' := hf4.lt
  have hs34 := hk34.size
  clear hp hk4 hf4 ho4 hr4 hk34 HC3 HK3 HP3 HO3
  -- too few
  go_wp2_with fail
  (with_reducible refine (HDEC.out _ cb v [0, 1, 2] (gl [6, 5, 3]) _ _ ?c1 ?c2 ?c3 ?c4 ?c5 (by decide) (by decide)).mono ?_)
  case c1 => exact HC4.out.below ((Below.refl _ _).alloc (Nat.le_refl _) _)
  case c2 => exact (IRd.front (k := 3) HP4.out (by decide) (by decide)).below ((Below.refl _ _).alloc (Nat.le_refl _) _)
  case c3 => exact GRd.lit (gl [6, 5, 3]) (heap_newA _ _) rfl
  case c4 => exact fun k hk hm => by simp [Value.ownBlock] at hk hm; omega
  case c5 => exact fun k hk hm => by simp [Value.ownBlock] at hk hm; omega
  rintro e w5 hp
  obtain ⟨rfl, hk5, hf5⟩ := k8_few hp
  have hk45 : Kp [fb] w4 w5 := (Kp.of_below ((Below.refl _ _).alloc (Nat.le_refl _) _)).trans hk5
  have HC5 := Lib.hid (HC4.out.step hk45 hf5)
  have HP5 : Hid (IRd w5 (.slice (some ⟨pb, 0, none⟩) 4 4) kP) := Lib.hid (IRd.kp HP4.out hk45 (fun k hk hm => by simp [Value.ownBlock] at hk hm; omega))
  have HO35 := Lib.hid (HO34.out.kp hk45 (fun c hc hm => by have := (HO34.out.lt c hc).1; simp at hm; omega))
  have HO45 := Lib.hid (HO4.out.kp hk45 (fun c hc hm => by have := (HO4.out.lt c hc).1; simp at hm; omega))
  have HR45 := Lib.hid (HR4.out.kp hk45 (by simp; omega))
  have HK5 := Lib.hid (HK4.out.trans hk45)
  have hf5' := hf5.lt
  have hs45 := hk45.size
  clear hp hk5 hf5 hk45 HC4 HK4 HP4 HO34 HO4 HR4
  -- lost
  go_wp2_with fail
  (with_reducible refine (HDEC.out _ cb v kP (gl [0, 0, 1, 1]) _ _ ?c1 ?c2 ?c3 ?c4 ?c5 (by decide) (by decide)).mono ?_)
  case c1 => exact HC5.out.below ((Below.refl _ _).alloc (Nat.le_refl _) _)
  case c2 => exact HP5.out.below ((Below.refl _ _).alloc (Nat.le_refl _) _)
  case c3 => exact GRd.lit (gl [0, 0, 1, 1]) (heap_newA _ _) rfl
  case c4 => exact fun k hk hm => by simp [Value.ownBlock] at hk hm; omega
  case c5 => exact fun k hk hm => by simp [Value.ownBlock] at hk hm; omega
  rintro e w6 hp
  obtain ⟨rfl, hk6, hf6⟩ := k8_none hp
  have hk56 : Kp [fb] w5 w6 := (Kp.of_below ((Below.refl _ _).alloc (Nat.le_refl _) _)).trans hk6
  have HO36 := Lib.hid (HO35.out.kp hk56 (fun c hc hm => by have := (HO35.out.lt c hc).1; simp at hm; omega))
  have HO46 := Lib.hid (HO45.out.kp hk56 (fun c hc hm => by have := (HO45.out.lt c hc).1; simp at hm; omega))
  have HR46 := Lib.hid (HR45.out.kp hk56 (by simp; omega))
  have HK6 := Lib.hid (HK5.out.trans hk56)
  clear hp hk6 hf6 hk56 HC5 HK5 HP5 HO35 HO45 HR45
  -- the rows are the same
  go_wp2_with fail
  refine (same_g _ _ (gl [7, 1]) (gl [7, 1]) _ (HO36.out.rd.below ((Below.refl _ _).alloc (Nat.le_refl _) _)) (GRd.lit (gl [7, 1]) (heap_newA _ _) rfl)).mono ?_
  rintro e w7 ⟨rfl, hw7⟩
  rw [decide_eq_true rfl]
  have hb67 : Below w6.heap.size w6 w7 := by rw [← hw7]; exact (Below.refl _ _).alloc (Nat.le_refl _) _
  have HO47 := Lib.hid (OwnG.below HO46.out hb67)
  have HR47 := Lib.hid (HR46.out.below hb67)
  have HK7 := Lib.hid (HK6.out.below_step hb67)
  clear hw7 hb67 HO36 HO46 HR46 HK6
  go_wp2_with fail
  refine (same_g _ _ (gl [7, 1]) (gl [7, 1]) _ (HO47.out.rd.below ((Below.refl _ _).alloc (Nat.le_refl _) _)) (GRd.lit (gl [7, 1]) (heap_newA _ _) rfl)).mono ?_
  rintro e w8 ⟨rfl, hw8⟩
  rw [decide_eq_true rfl]
  have hb78 : Below w7.heap.size w7 w8 := by rw [← hw8]; exact (Below.refl _ _).alloc (Nat.le_refl _) _
  have HR48 := Lib.hid (HR47.out.below hb78)
  have HK8 := Lib.hid (HK7.out.below_step hb78)
  clear hw8 hb78 HO47 HR47 HK7
  go_wp2_with fail
  refine (sameI_any _ _ [1] [1] _ (HR48.out.rd.below ((Below.refl _ _).alloc (Nat.le_refl _) _)) (IRd.lit [1] (heap_newA _ _) rfl) (by decide) (by decide)).mono ?_
  rintro e w9 ⟨rfl, hb9⟩
  rw [decide_eq_true rfl]
  have hb89 : Below w8.heap.size w8 w9 := ((Below.refl _ _).alloc (Nat.le_refl _) _).trans (hb9.mono (by simp))
  have HK9 := Lib.hid (HK8.out.below_step hb89)
  clear hb9 hb89 HR48 HK8
  go_wp2_with fail
  refine (far_any _ _ (gl [1, 2]) (gl [1, 3, 4]) _ (GRd.lit (gl [1, 2]) (keepA (heap_newA _ _) _) rfl) (GRd.lit (gl [1, 3, 4]) (heap_newE _ _ _ (by simp)) rfl) (by decide) (by decide)).mono ?_
  rintro e w10 ⟨rfl, hb10⟩
  rw [k8_far]
  have hb910 : Below w9.heap.size w9 w10 := (((Below.refl _ _).alloc (Nat.le_refl _) _).alloc (by simp) _).trans (hb10.mono (by simp; omega))
  have HK10 := Lib.hid (HK9.out.below_step hb910)
  clear hb10 hb910 HK9
  go_wp2
  go_ret
  exact ⟨rfl, HB0.out.trans (HK10.out.below (by have := HB0.out.size; omega) (fun x hx => by have := HFB.out; simp at hx; omega))⟩
end Go.Proofs.YteeeocianofkfaaGreat
/- Arguments as the frame has them. -/
namespace Go.Proofs.YteeeocianofkfaaGreat
open Go.RowKit Go.ChangeShapes Go.WideShapes Go.ChangeAt Go.ChangeMaps
theorem u8_nat {a : Int} (h : (Lit.int .u8 a).wf = true) : ∃ n : Nat, a = (n : Int) ∧ n < 256 := ⟨a.toNat, by have := byte_wf h; omega, by have := byte_wf h; omega⟩
theorem i64_wf {a : Int} (h : (Lit.int .i64 a).wf = true) : -9223372036854775808 ≤ a ∧ a ≤ 9223372036854775807 := by
  have h1 : IntKind.i64.min = -9223372036854775808 := rfl
  have h2 : IntKind.i64.max = 9223372036854775807 := rfl
  simp only [Lit.wf, Bool.and_eq_true, decide_eq_true_eq] at h
  omega
theorem u64_wf {a : Int} (h : (Lit.int .u64 a).wf = true) : ∃ n : Nat, a = (n : Int) ∧ n < 18446744073709551616 := by
  have h1 : IntKind.u64.min = 0 := rfl
  have h2 : IntKind.u64.max = 18446744073709551615 := rfl
  simp only [Lit.wf, Bool.and_eq_true, decide_eq_true_eq] at h
  exact ⟨a.toNat, by omega, by omega⟩
/-- An argument of type []int. -/
theorem ints_of_trod {H : Type} {enc : TypeId × Value → H} {W : World} {a0 : Option Addr} {len cap : Nat} {d0 : DataW H} {p : List MemPlace}
    (h0 : DataW.Trod enc Tryz.prog W 0 (fun _ => true) true 27 (.slice a0 len cap) d0 p) : ∃ l, IRd W (.slice a0 len cap) l ∧ l.length = len := by
  obtain ⟨fuel, hf⟩ := h0
  rcases open_ints Tryz.underlying27 Tryz.underlying3 (by kernel_rfl) hf with ⟨hcs, hx⟩ | ⟨a, len', cap', zs, hcs, _, hl, hm, hz, hx, hcell, hwz⟩
  · simp [Value.cells] at hcs
    obtain ⟨rfl, rfl, rfl⟩ := hcs
    exact ⟨[], (OwnZ.nil W 0).rd, rfl⟩
  · simp [Value.cells] at hcs
    obtain ⟨rfl, rfl, rfl⟩ := hcs
    simp only [if_true] at hz
    have hlen : (zs.take len).length = len := by simp; omega
    by_cases hpos : len = 0
    · subst hpos
      exact ⟨[], ⟨some a, cap, rfl, by simp, fun h => absurd rfl h⟩, rfl⟩
    · obtain ⟨b, o, sp⟩ := a
      have h0 := hcell 0 (by omega)
      have hsp : sp = none := by
        cases sp with
        | none => rfl
        | some s => simp [World.cell?, Addr.add] at h0; split at h0 <;> simp_all
      subst hsp
      have hc : ∀ i, i < zs.length → W.cell? ⟨b, o + i, none⟩ = some (.int .i64 (zs.getD i 0)) := fun i hi => by
        have := hcell i hi
        have e : (⟨b, o, none⟩ : Addr).add i = ⟨b, o + i, none⟩ := by unfold Addr.add; split <;> simp_all
        rwa [e] at this
      have hb : b < W.heap.size := by
        have := hc 0 (by omega)
        unfold World.cell? at this
        rcases Nat.lt_or_ge b W.heap.size with h | h
        · exact h
        · simp [Array.getElem?_eq_none h] at this
      have := IRd.mk (w := W) (b := b) (o := o) (cap := cap) (l := zs.take len) (by rw [hlen]; exact hl) hb fun i x hx => by
        have hi := (List.getElem?_eq_some_iff.1 hx).1
        rw [hlen] at hi
        rw [hc i (by omega), List.getD_eq_getElem?_getD]
        rw [List.getElem?_take, if_pos hi] at hx
        rw [hx]
        rfl
      rw [hlen] at this
      exact ⟨_, this, hlen⟩
end Go.Proofs.YteeeocianofkfaaGreat
