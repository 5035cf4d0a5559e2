/-
  The example of the chapter holds.
-/
import Derived.Test.YtpkeglpigjaccaaGreatNews
import Derived.Test.YtpkeglpigjaccaaGreatDec3
import Derived.Test.YtpkeglpigjaccaaGreatAts
import Derived.Test.YtpkeglpigjaccaaGreatKit
namespace Go.Proofs.YtpkeglpigjaccaaGreat
open Go.RowKit Fld
set_option linter.unusedVariables false
set_option linter.unusedSimpArgs false

theorem wk_ev0 : ev (gl [7, 1]) ((gl [1, 2, 4]).getD 0 0) = (gl [6]).getD 0 0 := GF.ext' (by rfl)
theorem wk_ev1 : ev (gl [7, 1]) ((gl [1, 2, 4]).getD 1 0) = (gl [5]).getD 0 0 := GF.ext' (by rfl)
theorem wk_ev2 : ev (gl [7, 1]) ((gl [1, 2, 4]).getD 2 0) = (gl [3]).getD 0 0 := GF.ext' (by rfl)
theorem wk_nodup : (gl [1, 2, 4]).Nodup := by decide
theorem wk_enc {fb : Nat} {w w' : World} {e : Ending} (h : EncPost fb (gl [7, 1]) (gl [1, 2, 4]) w e w') :
    ∃ g, e = .returned (.tuple #[.slice (some ⟨g, 0, none⟩) 3 3, .int .i64 0]) ∧ w.heap.size ≤ g ∧ View w' g 3 (fun i => (gl [6, 5, 3]).getD i 0) ∧ Kp [fb] w w' ∧ FOk w' fb := by
  obtain ⟨g, rfl, h1, h2, h3, h4⟩ := h
  refine ⟨g, rfl, h1, h2.congr fun j hj => ?_, h3, h4⟩
  have : j < 3 := hj
  rcases (show j = 0 ∨ j = 1 ∨ j = 2 by omega) with rfl | rfl | rfl
  · exact wk_ev0
  · exact wk_ev1
  · exact wk_ev2
theorem wk_fit1 : Fits (gl [1, 2, 4]) 2 [2, 0] (gl [3, 6]) (gl [7, 1]) := by
  refine ⟨rfl, fun i hi => ?_⟩
  have : i < 2 := hi
  rcases (show i = 0 ∨ i = 1 by omega) with rfl | rfl
  · exact wk_ev2
  · exact wk_ev0
theorem wk_dec1 {fb : Nat} {w w' : World} {e : Ending} (h : DecPost fb (gl [1, 2, 4]) 2 [2, 0] (gl [3, 6]) w e w') :
    ∃ g, e = .returned (.tuple #[.slice (some ⟨g, 0, none⟩) 2 2, .int .i64 0]) ∧ w.heap.size ≤ g ∧ View w' g 2 (fun i => (gl [7, 1]).getD i 0) ∧ Kp [fb] w w' ∧ FOk w' fb := by
  have hg : GoodP (gl [1, 2, 4]).length [2, 0] := ⟨by decide, by decide⟩
  obtain ⟨h1, h2, h3⟩ := h
  rcases h3 with ⟨h4, _⟩ | ⟨_, ⟨h5, _⟩ | ⟨h5, ⟨g, m, rfl, h6, h7, h8⟩ | ⟨_, h8⟩⟩⟩
  · exact absurd hg (h4 rfl)
  · exact absurd h5 (by decide)
  · obtain rfl := fits_one wk_nodup hg h5 h8 wk_fit1
    exact ⟨g, rfl, h6, h7, h1, h2⟩
  · exact absurd wk_fit1 (h8 _)
theorem wk_dec2 {fb : Nat} {w w' : World} {e : Ending} (h : DecPost fb (gl [1, 2, 4]) 2 [0] (gl [6]) w e w') :
    e = .returned (.tuple #[.slice none 0 0, .int .i64 70]) ∧ Kp [fb] w w' ∧ FOk w' fb := by
  have hg : GoodP (gl [1, 2, 4]).length [0] := ⟨by decide, by decide⟩
  obtain ⟨h1, h2, h3⟩ := h
  rcases h3 with ⟨h4, _⟩ | ⟨_, ⟨h5, rfl⟩ | ⟨h5, _⟩⟩
  · exact absurd hg (h4 rfl)
  · exact ⟨rfl, h1, h2⟩
  · exact absurd h5 (by decide)
theorem wk_nofit (m : List GF) : ¬ Fits (gl [1, 2, 4]) 2 [0, 1, 2] (gl [6, 5, 2]) m := by
  rintro ⟨h1, h2⟩
  have hg : GoodP (gl [1, 2, 4]).length [0, 1] := ⟨by decide, by decide⟩
  have e : m = gl [7, 1] := fits_one (ps := [0, 1]) (ys := gl [6, 5]) (k := 2) wk_nodup hg (by decide) ⟨h1, fun i hi => by
    have : i < 2 := hi
    rcases (show i = 0 ∨ i = 1 by omega) with rfl | rfl
    · exact h2 0 (by decide)
    · exact h2 1 (by decide)⟩ ⟨rfl, fun i hi => by
    have : i < 2 := hi
    rcases (show i = 0 ∨ i = 1 by omega) with rfl | rfl
    · exact wk_ev0
    · exact wk_ev1⟩
  subst e
  have := h2 2 (by decide)
  exact absurd (wk_ev2.symm.trans this) (by decide)
theorem wk_dec3 {fb : Nat} {w w' : World} {e : Ending} (h : DecPost fb (gl [1, 2, 4]) 2 [0, 1, 2] (gl [6, 5, 2]) w e w') :
    e = .returned (.tuple #[.slice none 0 0, .int .i64 71]) ∧ Kp [fb] w w' ∧ FOk w' fb := by
  have hg : GoodP (gl [1, 2, 4]).length [0, 1, 2] := ⟨by decide, by decide⟩
  obtain ⟨h1, h2, h3⟩ := h
  rcases h3 with ⟨h4, _⟩ | ⟨_, ⟨h5, rfl⟩ | ⟨h5, ⟨g, m, rfl, h6, h7, h8⟩ | ⟨rfl, h8⟩⟩⟩
  · exact absurd hg (h4 rfl)
  · exact absurd h5 (by decide)
  · exact absurd h8 (wk_nofit m)
  · exact ⟨rfl, h1, h2⟩
theorem wk_new1 {fb : Nat} {w w' : World} {e : Ending} (h : NewPost fb (gl [1, 2, 4]) 2 w e w') :
    Below w.heap.size w w' ∧ ∃ cb v, e = .returned (.tuple #[.pointer (some ⟨cb, 0, none⟩), .int .i64 0]) ∧ w.heap.size ≤ cb ∧ CodeAt w' cb fb 2 v (gl [1, 2, 4]) ∧ OwnG w' w.heap.size v (gl [1, 2, 4]) := by
  obtain ⟨h1, ⟨_, h2⟩ | ⟨h2, _⟩⟩ := h
  · exact ⟨h1, h2⟩
  · exact absurd ⟨wk_nodup, by decide, by decide⟩ h2
theorem wk_new2 {fb : Nat} {w w' : World} {e : Ending} {xs : List GF} {k : Int} (hb : ¬ (xs.Nodup ∧ 1 ≤ k ∧ k ≤ xs.length)) (h : NewPost fb xs k w e w') :
    Below w.heap.size w w' ∧ e = .returned (.tuple #[.pointer none, .int .i64 2]) := by
  obtain ⟨h1, ⟨h2, _⟩ | ⟨_, h2⟩⟩ := h
  · exact absurd h2 hb
  · exact ⟨h1, h2⟩
set_option maxRecDepth 100000 in
set_option maxHeartbeats 4000000 in
theorem works_any (w : World) : Calls Tryz.prog 14 #[] w fun e w' => e = .returned (.bool true) ∧ Below w.heap.size w w' := by
  have HFN := Lib.hid (fun W => fnew_any W)
  have HFO : Hid (FOk (w.alloc (.cells Tryz.zeroCells98 98 (0, 0))) w.heap.size) := Lib.hid (fok_new w)
  have HB0 : Hid (Below w.heap.size w (w.alloc (.cells Tryz.zeroCells98 98 (0, 0)))) := Lib.hid ((Below.refl _ _).alloc (Nat.le_refl _) _)
  have hs1 : w.heap.size < (w.alloc (.cells Tryz.zeroCells98 98 (0, 0))).heap.size := by simp
  go_enter Tryz.func14, Tryz.ntmps14
  go_wp2_with fail
  refine (HFN.out _).mono ?_
  rintro e w1' ⟨rfl, rfl⟩
  generalize w.alloc (.cells Tryz.zeroCells98 98 (0, 0)) = w1 at *
  obtain ⟨fb, hfb⟩ : ∃ fb, fb = w.heap.size := ⟨_, rfl⟩
  rw [← hfb] at HFO hs1 HB0 ⊢
  have HFB := Lib.hid hfb
  clear hfb
  have HDEC : Hid (∀ (W : World) (cb : Nat) (v : Value) (ps : List Int) (ys : List GF) (pv yv : Value), CodeAt W cb fb 2 v (gl [1, 2, 4]) → IRd W pv ps → GRd W yv ys → Apart pv [fb] → Apart yv [fb] → ps.length ≤ 256 → ys.length ≤ 256 →
      Calls Tryz.prog 5 #[.pointer (some ⟨cb, 0, none⟩), pv, yv] W (DecPost fb (gl [1, 2, 4]) 2 ps ys W)) := Lib.hid fun W cb v ps ys pv yv h1 h2 h3 h4 h5 h6 h7 =>
    decode_any W cb fb 2 v pv yv _ ps ys h1 wk_nodup (by omega) (by simp [gl]) (by simp [gl]) h2 h3 h4 h5 h6 (by omega)
  -- the code
  go_wp2_with fail
  have ha2 : ∀ o : Obj, Below w1.heap.size w1 (w1.alloc o) := fun o => (Below.refl _ _).alloc (Nat.le_refl _) o
  refine (new_any fb _ (gl [1, 2, 4]) 2 _ (HFO.out.below (ha2 _)) (GRd.lit (gl [1, 2, 4]) (heap_newA _ _) rfl) (by decide) (by omega)).mono ?_
  rintro e w2 hp
  obtain ⟨hb2, cb, v, rfl, hcb, hc, ho⟩ := wk_new1 hp
  have HC := Lib.hid hc
  have HK2 : Hid (Kp [fb] w1 w2) := Lib.hid ((Kp.of_below (ha2 _)).below_step hb2)
  clear hp hb2 ha2 hc ho hcb
  have hf2 := HC.out.ok.lt
  -- a word
  go_wp2_with fail
  refine (encode_any _ cb fb v _ (gl [1, 2, 4]) (gl [7, 1]) (HC.out.below ((Below.refl _ _).alloc (Nat.le_refl _) _)) (GRd.lit (gl [7, 1]) (heap_newA _ _) rfl) (fun k hk hm => by simp [Value.ownBlock] at hk hm; omega) (by decide) (by decide) (by decide)).mono ?_
  rintro e w3 hp
  obtain ⟨g3, rfl, hg3, hv3, hk3, hf3⟩ := wk_enc hp
  have hk23 : Kp [fb] w2 w3 := (Kp.of_below ((Below.refl _ _).alloc (Nat.le_refl _) _)).trans hk3
  have HC3 := Lib.hid (HC.out.step hk23 hf3)
  have HV3 := Lib.hid hv3
  have HK3 := Lib.hid (HK2.out.trans hk23)
  have hg3' : w2.heap.size < g3 := by simp at hg3; omega
  have hf3' := hf3.lt
  clear hp hg3 hv3 hk3 hf3 hk23 HC HK2
  -- two symbols
  go_wp2_with fail
  (with_reducible refine (HDEC.out _ cb v [2, 0] (gl [3, 6]) _ _ ?c1 ?c2 ?c3 ?c4 ?c5 (by simp) (by simp [gl])).mono ?_)
  case c1 => exact HC3.out.below (((Below.refl _ _).alloc (Nat.le_refl _) _).alloc (by simp) _)
  case c2 => exact IRd.lit [2, 0] (keepA (heap_newA _ _) _) rfl
  case c3 => exact GRd.lit (gl [3, 6]) (heap_newE _ _ _ (by simp)) rfl
  case c4 => exact fun k hk hm => by simp [Value.ownBlock] at hk hm; omega
  case c5 => exact fun k hk hm => by simp [Value.ownBlock] at hk hm; omega
  rintro e w4 hp
  obtain ⟨g4, rfl, hg4, hv4, hk4, hf4⟩ := wk_dec1 hp
  have hk34 : Kp [fb] w3 w4 := (Kp.of_below (((Below.refl _ _).alloc (Nat.le_refl _) _).alloc (by simp) _)).trans hk4
  have HC4 := Lib.hid (HC3.out.step hk34 hf4)
  have HV34 := Lib.hid (HV3.out.kp hk34 (by simp; omega))
  have HV4 := Lib.hid hv4
  have HK4 := Lib.hid (HK3.out.trans hk34)
  have hg4' : w3.heap.size < g4 := by simp at hg4; omega
  have hf4' := hf4.lt
  clear hp hg4 hv4 hk4 hf4 hk34 HC3 HK3 HV3
  -- too few
  go_wp2_with fail
  (with_reducible refine (HDEC.out _ cb v [0] (gl [6]) _ _ ?c1 ?c2 ?c3 ?c4 ?c5 (by simp) (by simp [gl])).mono ?_)
  case c1 => exact HC4.out.below (((Below.refl _ _).alloc (Nat.le_refl _) _).alloc (by simp) _)
  case c2 => exact IRd.lit [0] (keepA (heap_newA _ _) _) rfl
  case c3 => exact GRd.lit (gl [6]) (heap_newE _ _ _ (by simp)) rfl
  case c4 => exact fun k hk hm => by simp [Value.ownBlock] at hk hm; omega
  case c5 => exact fun k hk hm => by simp [Value.ownBlock] at hk hm; omega
  rintro e w5 hp
  obtain ⟨rfl, hk5, hf5⟩ := wk_dec2 hp
  have hk45 : Kp [fb] w4 w5 := (Kp.of_below (((Below.refl _ _).alloc (Nat.le_refl _) _).alloc (by simp) _)).trans hk5
  have HC5 := Lib.hid (HC4.out.step hk45 hf5)
  have HV35 := Lib.hid (HV34.out.kp hk45 (by simp; omega))
  have HV45 := Lib.hid (HV4.out.kp hk45 (by simp; omega))
  have HK5 := Lib.hid (HK4.out.trans hk45)
  have hf5' := hf5.lt
  clear hp hk5 hf5 hk45 HC4 HK4 HV34 HV4
  -- of no word
  go_wp2_with fail
  (with_reducible refine (HDEC.out _ cb v [0, 1, 2] (gl [6, 5, 2]) _ _ ?c1 ?c2 ?c3 ?c4 ?c5 (by simp) (by simp [gl])).mono ?_)
  case c1 => exact HC5.out.below (((Below.refl _ _).alloc (Nat.le_refl _) _).alloc (by simp) _)
  case c2 => exact IRd.lit [0, 1, 2] (keepA (heap_newA _ _) _) rfl
  case c3 => exact GRd.lit (gl [6, 5, 2]) (heap_newE _ _ _ (by simp)) rfl
  case c4 => exact fun k hk hm => by simp [Value.ownBlock] at hk hm; omega
  case c5 => exact fun k hk hm => by simp [Value.ownBlock] at hk hm; omega
  rintro e w6 hp
  obtain ⟨rfl, hk6, hf6⟩ := wk_dec3 hp
  have hk56 : Kp [fb] w5 w6 := (Kp.of_below (((Below.refl _ _).alloc (Nat.le_refl _) _).alloc (by simp) _)).trans hk6
  have HF6 := Lib.hid hf6
  have HV36 := Lib.hid (HV35.out.kp hk56 (by simp; omega))
  have HV46 := Lib.hid (HV45.out.kp hk56 (by simp; omega))
  have HK6 := Lib.hid (HK5.out.trans hk56)
  clear hp hk6 hf6 hk56 HC5 HK5 HV35 HV45
  -- codes that are none
  go_wp2_with fail
  refine (new_any fb _ (gl [1, 2, 1]) 2 _ (HF6.out.below ((Below.refl _ _).alloc (Nat.le_refl _) _)) (GRd.lit (gl [1, 2, 1]) (heap_newA _ _) rfl) (by decide) (by omega)).mono ?_
  rintro e w7 hp
  obtain ⟨hb7, rfl⟩ := wk_new2 (fun h => absurd h.1 (by decide)) hp
  have hb67 : Below w6.heap.size w6 w7 := ((Below.refl _ _).alloc (Nat.le_refl _) _).trans (hb7.mono (by simp))
  have HF7 := Lib.hid (HF6.out.below hb67)
  have HV37 := Lib.hid (HV36.out.below hb67)
  have HV47 := Lib.hid (HV46.out.below hb67)
  have HK7 := Lib.hid (HK6.out.below_step hb67)
  clear hp hb7 hb67 HF6 HV36 HV46 HK6
  go_wp2_with fail
  refine (new_any fb _ (gl [1, 2]) 3 _ (HF7.out.below ((Below.refl _ _).alloc (Nat.le_refl _) _)) (GRd.lit (gl [1, 2]) (heap_newA _ _) rfl) (by decide) (by omega)).mono ?_
  rintro e w8 hp
  obtain ⟨hb8, rfl⟩ := wk_new2 (fun h => absurd h.2.2 (by decide)) hp
  have hb78 : Below w7.heap.size w7 w8 := ((Below.refl _ _).alloc (Nat.le_refl _) _).trans (hb8.mono (by simp))
  have HV38 := Lib.hid (HV37.out.below hb78)
  have HV48 := Lib.hid (HV47.out.below hb78)
  have HK8 := Lib.hid (HK7.out.below_step hb78)
  clear hp hb8 hb78 HF7 HV37 HV47 HK7
  -- the rows are the same
  go_wp2_with fail
  have hr3 : GRd w8 (.slice (some ⟨g3, 0, none⟩) 3 3) (gl [6, 5, 3]) := HV38.out.rd (o := 0) (m := 3) (by omega) (Nat.le_refl _)
  refine (same_g _ _ (gl [6, 5, 3]) (gl [6, 5, 3]) _ (hr3.below ((Below.refl _ _).alloc (Nat.le_refl _) _)) (GRd.lit (gl [6, 5, 3]) (heap_newA _ _) rfl)).mono ?_
  rintro e w9 ⟨rfl, hw9⟩
  rw [decide_eq_true rfl]
  have hb9 : Below w8.heap.size w8 w9 := by rw [← hw9]; exact (Below.refl _ _).alloc (Nat.le_refl _) _
  have HV49 := Lib.hid (HV48.out.below hb9)
  have HK9 := Lib.hid (HK8.out.below_step hb9)
  clear hr3 hw9 hb9 HV38 HV48 HK8
  go_wp2_with fail
  have hr4 : GRd w9 (.slice (some ⟨g4, 0, none⟩) 2 2) (gl [7, 1]) := HV49.out.rd (o := 0) (m := 2) (by omega) (Nat.le_refl _)
  refine (same_g _ _ (gl [7, 1]) (gl [7, 1]) _ (hr4.below ((Below.refl _ _).alloc (Nat.le_refl _) _)) (GRd.lit (gl [7, 1]) (heap_newA _ _) rfl)).mono ?_
  rintro e w10 ⟨rfl, rfl⟩
  rw [decide_eq_true rfl]
  clear hr4
  go_wp2
  go_ret
  refine ⟨rfl, ?_⟩
  have hk10 := HK9.out.alloc (.cells (gv (gl [7, 1])).toArray 5)
  rw [← HFB.out]
  exact HB0.out.trans (hk10.below (by omega) (fun x hx => by simp at hx; omega))
end Go.Proofs.YtpkeglpigjaccaaGreat
