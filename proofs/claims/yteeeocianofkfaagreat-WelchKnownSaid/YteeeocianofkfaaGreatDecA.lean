/-
  The places that are seen.
  Whether a row holds a place that may not be taken.
  What the symbols of a word tell: the one message, or none.
-/
import Derived.Test.YteeeocianofkfaaGreatAts
import Derived.Test.YteeeocianofkfaaGreatMPick
import Derived.Test.YteeeocianofkfaaGreatSol
/- The places that are seen. -/
namespace Go.Proofs.YteeeocianofkfaaGreat
open Go.RowKit Fld Go.Shelf
set_option linter.unusedVariables false
set_option linter.unusedSimpArgs false

/-- A row of marks, behind a box. -/
structure SeenP (w : World) (bx sb N : Nat) (S : Nat → Bool) : Prop where
  box : w.heap[bx]? = some (.cells #[.slice (some ⟨sb, 0, none⟩) N N] 68 (0, 0))
  lt : sb < w.heap.size
  ne : bx ≠ sb
  cells : ∀ j, j < N → w.cell? ⟨sb, j, none⟩ = some (.bool (S j)) ∧ w.frozen? ⟨sb, j, none⟩ = false
/-- A place that may not be taken. -/
def badP (N : Nat) (S : Nat → Bool) (i : Int) : Bool := decide (i < 0) || decide ((N : Int) ≤ i) || S i.toNat
/-- What a place leaves. -/
def seeP (N : Nat) (S : Nat → Bool) (i : Int) : Nat → Bool := if badP N S i = true then S else fun j => if j = i.toNat then true else S j
theorem SeenP.set {w : World} {bx sb N : Nat} {S : Nat → Bool} (h : SeenP w bx sb N S) {i : Nat} (hi : i < N) : SeenP (w.setCell ⟨sb, i, none⟩ (.bool true)) bx sb N (fun j => if j = i then true else S j) := by
  refine ⟨?_, by simpa [World.setCell] using h.lt, h.ne, fun j hj => ?_⟩
  · have := ((Kp.refl [sb] w).setCell (p := ⟨sb, i, none⟩) (.inl (by simp)) (.bool true)).heap h.box (by simpa using h.ne)
    exact this
  · by_cases e : j = i
    · subst e
      rw [if_pos rfl]
      exact ⟨World.cell?_setCell_same _ _ _ (h.cells j hj).1, by rw [World.frozen?_setCell]; exact (h.cells j hj).2⟩
    · rw [if_neg e]
      exact ⟨(World.cell?_setCell_other _ ⟨sb, i, none⟩ ⟨sb, j, none⟩ _ (by simp <;> omega)).trans (h.cells j hj).1, by rw [World.frozen?_setCell]; exact (h.cells j hj).2⟩
/-- What the closure leaves. -/
def Dec1Post (bx sb N : Nat) (S : Nat → Bool) (i : Int) (w : World) (e : Ending) (w' : World) : Prop := e = .returned (.bool (badP N S i)) ∧ SeenP w' bx sb N (seeP N S i) ∧ Kp [sb] w w'
set_option maxHeartbeats 1000000 in
theorem dec1_any (bx sb N : Nat) (S : Nat → Bool) (i : Int) (w : World) (h : SeenP w bx sb N S) :
    Calls Tryz.prog 36 #[.int .i64 i, .pointer (some ⟨bx, 0, none⟩)] w (Dec1Post bx sb N S i w) := by
  have c0 := cell_of_heap h.box (j := 0) rfl
  have H := Lib.hid h
  clear h
  by_cases h1 : i < 0
  · have hb : badP N S i = true := by simp [badP, h1]
    have HB := Lib.hid hb
    clear hb
    go_enter Tryz.func36, Tryz.ntmps36
    go_wp2
    go_ret
    exact ⟨by rw [HB.out]; rfl, by unfold seeP; rw [if_pos HB.out]; exact H.out, Kp.refl _ _⟩
  · by_cases h2 : (N : Int) ≤ i
    · have hb : badP N S i = true := by simp [badP, h2]
      have HB := Lib.hid hb
      clear hb
      go_enter Tryz.func36, Tryz.ntmps36
      go_wp2
      go_ret
      exact ⟨by rw [HB.out]; rfl, by unfold seeP; rw [if_pos HB.out]; exact H.out, Kp.refl _ _⟩
    · obtain ⟨j, rfl⟩ : ∃ j : Nat, i = (j : Int) := ⟨i.toNat, by omega⟩
      have hj : j < N := by omega
      obtain ⟨c1, f1⟩ := H.out.cells j hj
      have hlt := H.out.lt
      have q1 : (0 : Int) ≤ (j : Int) ∧ (j : Int) < (N : Int) := by omega
      obtain ⟨s, hs⟩ : ∃ s, S j = s := ⟨_, rfl⟩
      rw [hs] at c1
      have hb : badP N S (j : Int) = s := by
        rw [← hs]
        simp [badP]
        omega
      have HB := Lib.hid hb
      have HJ := Lib.hid hj
      clear hb hs hj
      cases s
      · go_enter Tryz.func36, Tryz.ntmps36
        go_wp2
        go_ret
        exact ⟨by rw [HB.out]; rfl, by unfold seeP; rw [if_neg (by rw [HB.out]; simp)]; exact H.out.set HJ.out, (Kp.refl _ _).setCell (.inl (by simp)) _⟩
      · go_enter Tryz.func36, Tryz.ntmps36
        go_wp2
        go_ret
        exact ⟨by rw [HB.out]; rfl, by unfold seeP; rw [if_pos HB.out]; exact H.out, Kp.refl _ _⟩
end Go.Proofs.YteeeocianofkfaaGreat
/- Whether a row holds a place that may not be taken. -/
namespace Go.Proofs.YteeeocianofkfaaGreat
open Go.RowKit Fld Go.Shelf
set_option linter.unusedVariables false
set_option linter.unusedSimpArgs false

/-- What has been seen. -/
def seeL (N : Nat) (S : Nat → Bool) (l : List Int) : Nat → Bool := l.foldl (seeP N) S
/-- Where a row first holds a place that may not be taken. -/
def IdxD (N sb : Nat) (S : Nat → Bool) (l : List Int) (w : World) (e : Ending) (w' : World) : Prop :=
  ∃ r : Int, e = .returned (.int .i64 r) ∧ Kp [sb] w w' ∧ ((r = -1 ∧ ∀ (i : Nat) x, l[i]? = some x → badP N (seeL N S (l.take i)) x = false) ∨ ∃ I : Nat, r = I ∧ I < l.length ∧ ∀ x, l[I]? = some x → badP N (seeL N S (l.take I)) x = true)
set_option maxHeartbeats 1000000 in
theorem index_dec (bx sb N : Nat) (S : Nat → Bool) (v : Value) (l : List Int) (w : World) (hS : SeenP w bx sb N S) (h : IRd w v l) (hl : l.length ≤ 1000000000) (ha : l ≠ [] → ∀ b o n c, v = .slice (some ⟨b, o, none⟩) n c → b ≠ sb) :
    Calls Tryz.prog 56 #[v, .func (.func 36) #[] #[.pointer (some ⟨bx, 0, none⟩)]] w (IdxD N sb S l w) := by
  obtain ⟨a, cap, rfl⟩ := h.form
  have H := Lib.hid h
  have HA := Lib.hid ha
  have HS := Lib.hid hS
  clear h hS ha
  go_enter Tryz.func56, Tryz.ntmps56
  go_wp2
  go_loopg [8] l.length (fun gk i wr => ∃ I : Nat, I ≤ l.length ∧ gk = l.length - I ∧ i = .int .i64 I ∧ Hid (∀ (i : Nat) x, i < I → l[i]? = some x → badP N (seeL N S (l.take i)) x = false) ∧ Hid (SeenP wr bx sb N (seeL N S (l.take I))) ∧ Hid (Kp [sb] w wr))
  case atStart => exact ⟨0, by omega, rfl, rfl, Lib.hid (fun i c hi => by omega), HS, Lib.hid (Kp.refl _ _)⟩
  case round =>
    clear HS
    obtain ⟨I, hI, rfl, rfl, hN, HS, HK⟩ := hrel
    by_cases hlt : I < l.length
    · obtain ⟨x, hx⟩ : ∃ x, l[I]? = some x := ⟨_, List.getElem?_eq_getElem hlt⟩
      obtain ⟨-, hcap, b, o, rfl, hb, c0⟩ := IRd.cell H.out hx
      have hbs : b ≠ sb := HA.out (fun e => by rw [e] at hx; simp at hx) b o _ _ rfl
      have c1 := (HK.out.cell (p := ⟨b, o + I, none⟩) hb (by simpa using hbs)).trans c0
      have HX := Lib.hid hx
      have HCALL := Lib.hid (dec1_any bx sb N _ x wr HS.out)
      have HNX : Hid (seeP N (seeL N S (l.take I)) x = seeL N S (l.take (I + 1))) := Lib.hid (by rw [List.take_add_one, hx]; simp [seeL])
      unfold Dec1Post at HCALL
      rw [HNX.out] at HCALL
      obtain ⟨pc, hpc⟩ : ∃ y, y = badP N (seeL N S (l.take I)) x := ⟨_, rfl⟩
      rw [← hpc] at HCALL
      have HPC := Lib.hid hpc
      clear hx hpc c0
      cases pc
      · go_wp2_with (go_at_call 36; (with_reducible refine HCALL.out.mono ?_); rintro e wc ⟨rfl, hs5, hk5⟩; have HS5 := Lib.hid hs5; have HK5 := Lib.hid (HK.out.trans hk5); clear hs5 hk5)
        have HN2 : Hid (∀ (i : Nat) c', i < I + 1 → l[i]? = some c' → badP N (seeL N S (l.take i)) c' = false) := Lib.hid (fun i c' hi hc' => by
          by_cases e : i = I
          · subst e
            have : c' = x := by have := HX.out; rw [hc'] at this; exact Option.some.inj this
            subst this
            exact HPC.out.symm
          · exact hN.out i c' (by omega) hc')
        go_roundg (l.length - (I + 1))
        case measure => omega
        case rel => exact ⟨I + 1, by omega, rfl, by go_num, HN2, HS5, HK5⟩
      · go_wp2_with (go_at_call 36; (with_reducible refine HCALL.out.mono ?_); rintro e wc ⟨rfl, hs5, hk5⟩; have HK5 := Lib.hid (HK.out.trans hk5); clear hs5 hk5)
        go_ret
        exact ⟨I, rfl, HK5.out, .inr ⟨I, rfl, hlt, fun c' hc' => by
          have : c' = x := by have := HX.out; rw [hc'] at this; exact Option.some.inj this
          subst this
          exact HPC.out.symm⟩⟩
    · obtain rfl : I = l.length := by omega
      go_wp2
      go_ret
      exact ⟨-1, rfl, HK.out, .inl ⟨rfl, fun i x hi => hN.out i x (List.getElem?_eq_some_iff.1 hi).1 hi⟩⟩
/-- Whether a row holds one. -/
def ConD (N sb : Nat) (S : Nat → Bool) (l : List Int) (w : World) (e : Ending) (w' : World) : Prop :=
  ∃ b : Bool, e = .returned (.bool b) ∧ Kp [sb] w w' ∧ (b = false → ∀ (i : Nat) x, l[i]? = some x → badP N (seeL N S (l.take i)) x = false) ∧ (b = true → ∃ (i : Nat) (x : Int), l[i]? = some x ∧ badP N (seeL N S (l.take i)) x = true)
set_option maxHeartbeats 1000000 in
theorem contains_dec (bx sb N : Nat) (S : Nat → Bool) (v : Value) (l : List Int) (w : World) (hS : SeenP w bx sb N S) (h : IRd w v l) (hl : l.length ≤ 1000000000) (ha : l ≠ [] → ∀ b o n c, v = .slice (some ⟨b, o, none⟩) n c → b ≠ sb) :
    Calls Tryz.prog 37 #[v, .func (.func 36) #[] #[.pointer (some ⟨bx, 0, none⟩)]] w (ConD N sb S l w) := by
  have HIDX := Lib.hid (index_dec bx sb N S v l w hS h hl ha)
  obtain ⟨a, cap, rfl⟩ := h.form
  clear h hS ha
  go_enter Tryz.func37, Tryz.ntmps37
  go_wp2_with (go_at_call 56; (with_reducible refine HIDX.out.mono ?_); rintro e w1 ⟨r, rfl, hk, hr⟩; have HR := Lib.hid hr; have HK := Lib.hid hk; clear hr hk)
  go_ret
  refine ⟨decide ((0 : Int) ≤ r), by rfl, HK.out, fun hb => ?_, fun hb => ?_⟩
  · rcases HR.out with ⟨h1, h2⟩ | ⟨I, h1, h2, h3⟩
    · exact h2
    · have := of_decide_eq_false hb
      omega
  · rcases HR.out with ⟨h1, h2⟩ | ⟨I, h1, h2, h3⟩
    · have := of_decide_eq_true hb
      omega
    · exact ⟨I, l[I], List.getElem?_eq_getElem h2, h3 _ (List.getElem?_eq_getElem h2)⟩
end Go.Proofs.YteeeocianofkfaaGreat
/- What the symbols of a word tell: the one message, or none. -/
namespace Go.Proofs.YteeeocianofkfaaGreat
open Go.RowKit Fld
set_option linter.unusedVariables false
set_option linter.unusedSimpArgs false

theorem IRd.kp {S : List Nat} {w w' : World} {v : Value} {l : List Int} (h : IRd w v l) (hk : Kp S w w') (ha : Apart v S) : IRd w' v l := by
  obtain ⟨a, cap, rfl, h2, h3⟩ := h
  refine ⟨a, cap, rfl, h2, fun hne => ?_⟩
  obtain ⟨b, o, rfl, h5, h6⟩ := h3 hne
  exact ⟨b, o, rfl, Nat.lt_of_lt_of_le h5 hk.size, fun i c hi j u hj => (hk.cell (p := ⟨b, o + i * 1 + j, none⟩) h5 (ha b rfl)).trans (h6 i c hi j u hj)⟩
/-- Places that may be told. -/
def GoodP (N : Nat) (l : List Int) : Prop := (∀ x ∈ l, 0 ≤ x ∧ x < (N : Int)) ∧ l.Nodup
theorem good_from (N : Nat) : ∀ (l : List Int) (S : Nat → Bool), (∀ (i : Nat) x, l[i]? = some x → badP N (seeL N S (l.take i)) x = false) ↔ (∀ x ∈ l, 0 ≤ x ∧ x < (N : Int) ∧ S x.toNat = false) ∧ l.Nodup
  | [], S => by simp
  | a :: l, S => by
    have e0 : (badP N S a = false) ↔ 0 ≤ a ∧ a < (N : Int) ∧ S a.toNat = false := by
      simp only [badP, Bool.or_eq_false_iff, decide_eq_false_iff_not]
      constructor
      · rintro ⟨⟨h1, h2⟩, h3⟩; exact ⟨by omega, by omega, h3⟩
      · rintro ⟨h1, h2, h3⟩; exact ⟨⟨by omega, by omega⟩, h3⟩
    constructor
    · intro h
      have h0 := h 0 a rfl
      have ha := e0.1 (by simpa [seeL] using h0)
      have hS : seeP N S a = fun j => if j = a.toNat then true else S j := by unfold seeP; rw [if_neg (by rw [e0.2 ha]; simp)]
      have ih := (good_from N l (seeP N S a)).1 fun i x hx => h (i + 1) x (by simpa using hx)
      rw [hS] at ih
      refine ⟨fun x hx => ?_, List.nodup_cons.2 ⟨fun hm => ?_, ih.2⟩⟩
      · rcases List.mem_cons.1 hx with rfl | hx
        · exact ha
        · obtain ⟨h1, h2, h3⟩ := ih.1 x hx
          refine ⟨h1, h2, ?_⟩
          simp only [] at h3
          by_cases e : x.toNat = a.toNat
          · rw [if_pos e] at h3; cases h3
          · rwa [if_neg e] at h3
      · obtain ⟨h1, h2, h3⟩ := ih.1 a hm
        simp at h3
    · rintro ⟨h1, h2⟩ i x hx
      have ha := h1 a (by simp)
      have hS : seeP N S a = fun j => if j = a.toNat then true else S j := by unfold seeP; rw [if_neg (by rw [e0.2 ha]; simp)]
      have hn := List.nodup_cons.1 h2
      cases i with
      | zero =>
        obtain rfl : a = x := by simpa using hx
        simpa [seeL] using e0.2 ha
      | succ i =>
        have := (good_from N l (seeP N S a)).2 ⟨fun y hy => by
          obtain ⟨g1, g2, g3⟩ := h1 y (by simp [hy])
          refine ⟨g1, g2, ?_⟩
          rw [hS]
          have hne : y ≠ a := fun e => hn.1 (e ▸ hy)
          simp only []
          rw [if_neg (by omega)]
          exact g3, hn.2⟩ i x (by simpa using hx)
        simpa [seeL] using this
theorem good_iff (N : Nat) (l : List Int) : (∀ (i : Nat) x, l[i]? = some x → badP N (seeL N (fun _ => false) (l.take i)) x = false) ↔ GoodP N l := by
  rw [good_from]
  simp [GoodP]

/-- The points of places. -/
def ptsOf {F : Type} [Fld F] (xs : List F) (ps : List Int) : List F := ps.map fun p => xs.getD p.toNat 0
theorem getD_inj {F : Type} [Fld F] {xs : List F} (hn : xs.Nodup) {i j : Nat} (hi : i < xs.length) (hj : j < xs.length) (h : xs.getD i 0 = xs.getD j 0) : i = j := by
  rw [List.getD_eq_getElem?_getD, List.getElem?_eq_getElem hi, List.getD_eq_getElem?_getD, List.getElem?_eq_getElem hj] at h
  simp only [Option.getD_some] at h
  rcases Nat.lt_trichotomy i j with e | e | e
  · exact absurd h (List.pairwise_iff_getElem.1 hn i j hi hj e)
  · exact e
  · exact absurd h.symm (List.pairwise_iff_getElem.1 hn j i hj hi e)
theorem pts_nodup {F : Type} [Fld F] {xs : List F} (hn : xs.Nodup) {ps : List Int} (hg : GoodP xs.length ps) : (ptsOf xs ps).Nodup := by
  obtain ⟨h1, h2⟩ := hg
  unfold ptsOf
  refine List.pairwise_map.2 (h2.imp_of_mem fun {a b} ha hb hne e => hne ?_)
  obtain ⟨a1, a2⟩ := h1 a ha
  obtain ⟨b1, b2⟩ := h1 b hb
  have := getD_inj hn (i := a.toNat) (j := b.toNat) (by omega) (by omega) e
  omega
/-- A message that has these symbols. -/
def Fits {F : Type} [Fld F] (xs : List F) (k : Nat) (ps : List Int) (ys m : List F) : Prop := m.length = k ∧ ∀ i, i < ps.length → ev m (xs.getD (ps.getD i 0).toNat 0) = ys.getD i 0
theorem fits_pts {F : Type} [Fld F] {xs : List F} {k : Nat} {ps : List Int} {ys m : List F} (h : Fits xs k ps ys m) (hl : ps.length = ys.length) : (ptsOf xs ps).map (ev m) = ys := by
  unfold ptsOf
  refine List.ext_getElem (by simp [hl]) fun i h1 h2 => ?_
  simp at h1
  have := h.2 i h1
  rw [List.getD_eq_getElem?_getD, List.getD_eq_getElem?_getD, List.getD_eq_getElem?_getD, List.getElem?_eq_getElem h1, List.getElem?_eq_getElem h2] at this
  simpa using this
theorem fits_one {F : Type} [Fld F] {xs : List F} {k : Nat} {ps : List Int} {ys m m' : List F} (hn : xs.Nodup) (hg : GoodP xs.length ps) (hk : k ≤ ps.length) (h : Fits xs k ps ys m) (h' : Fits xs k ps ys m') : m = m' := by
  refine ev_inj (pts_nodup hn hg) (h.1.trans h'.1.symm) (by rw [h.1]; simp [ptsOf]; omega) fun x hx => ?_
  obtain ⟨p, hp, rfl⟩ := List.mem_map.1 hx
  obtain ⟨i, hi, rfl⟩ := List.mem_iff_getElem.1 hp
  have e1 := h.2 i hi
  have e2 := h'.2 i hi
  rw [show ps.getD i 0 = ps[i] from by rw [List.getD_eq_getElem?_getD, List.getElem?_eq_getElem hi]; rfl] at e1 e2
  exact e1.trans e2.symm
/-- The equations of a message. -/
theorem met_fits {F : Type} [Fld F] {xs : List F} {k : Nat} {ps : List Int} {ys m : List F} (hm : m.length = k) :
    MetS ps.length k 1 (fun i c => pw (xs.getD (ps.getD i 0).toNat 0) c) (fun i _ => ys.getD i 0) (fun c => m.getD c 0) (dlt 0) ↔ Fits xs k ps ys m := by
  unfold MetS Fits
  have e : ∀ i, eqn k 1 (fun i c => pw (xs.getD (ps.getD i 0).toNat 0) c) (fun i _ => ys.getD i 0) (fun c => m.getD c 0) (dlt 0) i = 0 ↔ ev m (xs.getD (ps.getD i 0).toNat 0) = ys.getD i 0 := by
    intro i
    rw [eqn_iff, sm_dlt (by omega : 0 < 1) (fun _ => ys.getD i 0), ev_sm, hm, sm_congr (fun c _ => mulC (pw (xs.getD (ps.getD i 0).toNat 0) c) (m.getD c 0))]
  exact ⟨fun h => ⟨hm, fun i hi => (e i).1 (h i hi)⟩, fun h i hi => (e i).2 (h.2 i hi)⟩
theorem getD_rangeMap {F : Type} [Fld F] {k : Nat} (x : Nat → F) {c : Nat} (hc : c < k) : ((List.range k).map x).getD c 0 = x c := by
  rw [List.getD_eq_getElem?_getD, List.getElem?_map, List.getElem?_range hc]
  rfl
theorem no_kernel {F : Type} [Fld F] {xs : List F} {k : Nat} {ps : List Int} (hn : xs.Nodup) (hg : GoodP xs.length ps) (hk : k ≤ ps.length) {x : Nat → F} (h : ∀ i, i < ps.length → sm k (fun c => pw (xs.getD (ps.getD i 0).toNat 0) c * x c) = 0) : ∀ c, c < k → x c = 0 := by
  have hr := roots_all (pts_nodup hn hg) (p := (List.range k).map x) (by simp [ptsOf]; omega) fun y hy => by
    obtain ⟨p, hp, rfl⟩ := List.mem_map.1 hy
    obtain ⟨i, hi, rfl⟩ := List.mem_iff_getElem.1 hp
    have e1 := h i hi
    rw [show ps.getD i 0 = ps[i] from by rw [List.getD_eq_getElem?_getD, List.getElem?_eq_getElem hi]; rfl] at e1
    rw [ev_sm]
    refine Eq.trans ?_ e1
    simp only [List.length_map, List.length_range, Option.getD_some]
    refine sm_congr fun c hc => ?_
    rw [mulC, getD_rangeMap x hc]
  intro c hc
  exact hr (x c) (List.mem_map.2 ⟨c, List.mem_range.2 hc, rfl⟩)
/-- What the symbols are found to tell. -/
def Tells {F : Type} [Fld F] (xs : List F) (k : Nat) (ps : List Int) (ys : List F) (r : Option (List F)) : Prop :=
  match r with
  | some m => Fits xs k ps ys m
  | none => ∀ m, ¬ Fits xs k ps ys m
theorem tells_one {F : Type} [Fld F] {xs : List F} {k : Nat} {ps : List Int} {ys : List F} {r r' : Option (List F)} (hn : xs.Nodup) (hg : GoodP xs.length ps) (hk : k ≤ ps.length) (h : Tells xs k ps ys r) (h' : Tells xs k ps ys r') : r = r' := by
  cases r with
  | none => cases r' with
    | none => rfl
    | some m => exact absurd h' (h m)
  | some m => cases r' with
    | none => exact absurd h (h' m)
    | some m' => exact congrArg some (fits_one hn hg hk h h')
end Go.Proofs.YteeeocianofkfaaGreat
