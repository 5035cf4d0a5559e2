/-
  Rows of numbers that are written; the reference's next.
-/
import Derived.Test.YteeeocianofkfaaGreatWeWrong
namespace Go.Proofs.YteeeocianofkfaaGreat
open Go.RowKit Fld
set_option linter.unusedVariables false
set_option linter.unusedSimpArgs false

/-- The first N cells of a block, as numbers. -/
def ViewZ (w : World) (b N : Nat) (g : Nat → Nat) : Prop := b < w.heap.size ∧ ∀ j, j < N → w.cell? ⟨b, j, none⟩ = some (.int .i64 ((g j : Nat) : Int)) ∧ w.frozen? ⟨b, j, none⟩ = false
theorem ViewZ.kp {S : List Nat} {w w' : World} {b N : Nat} {g : Nat → Nat} (h : ViewZ w b N g) (hk : Kp S w w') (hn : b ∉ S) : ViewZ w' b N g :=
  ⟨Nat.lt_of_lt_of_le h.1 hk.size, fun j hj => ⟨(hk.cell (p := ⟨b, j, none⟩) h.1 hn).trans (h.2 j hj).1, (hk.frozen (p := ⟨b, j, none⟩) h.1 hn).trans (h.2 j hj).2⟩⟩
theorem ViewZ.below {w w' : World} {b N : Nat} {g : Nat → Nat} (h : ViewZ w b N g) (hb : Below w.heap.size w w') : ViewZ w' b N g := h.kp (S := []) (Kp.of_below hb) (by simp)
theorem ViewZ.congr {w : World} {b N : Nat} {g g' : Nat → Nat} (h : ViewZ w b N g) (e : ∀ j, j < N → g j = g' j) : ViewZ w b N g' := ⟨h.1, fun j hj => by rw [← e j hj]; exact h.2 j hj⟩
theorem ViewZ.set {w : World} {b N : Nat} {g : Nat → Nat} (h : ViewZ w b N g) {i : Nat} (hi : i < N) (x : Nat) : ViewZ (w.setCell ⟨b, i, none⟩ (.int .i64 (x : Int))) b N (fun j => if j = i then x else g j) := by
  refine ⟨by simpa [World.setCell] using h.1, fun j hj => ?_⟩
  by_cases e : j = i
  · subst e
    dsimp only
    rw [if_pos rfl]
    exact ⟨World.cell?_setCell_same _ _ _ (h.2 j hj).1, by rw [World.frozen?_setCell]; exact (h.2 j hj).2⟩
  · dsimp only
    rw [if_neg e]
    exact ⟨(World.cell?_setCell_other _ ⟨b, i, none⟩ ⟨b, j, none⟩ _ (by simp <;> omega)).trans (h.2 j hj).1, by rw [World.frozen?_setCell]; exact (h.2 j hj).2⟩
theorem ViewZ.rd {w : World} {b N cap : Nat} {g : Nat → Nat} (h : ViewZ w b N g) (hc : N ≤ cap) : IRd w (.slice (some ⟨b, 0, none⟩) N cap) (rowN N g) := by
  have := IRd.mk (w := w) (b := b) (o := 0) (cap := cap) (l := rowN N g) (by rw [rowN_len]; exact hc) h.1 fun i x hi => by
    have hiN : i < N := by
      have := (List.getElem?_eq_some_iff.1 hi).1
      rwa [rowN_len] at this
    rw [rowN_get hiN] at hi
    cases hi
    rw [Nat.zero_add]
    exact (h.2 i hiN).1
  rwa [rowN_len] at this
theorem OwnZ.view {w : World} {B k : Nat} {v : Value} {g : Nat → Nat} (h : OwnZ w B v (rowN k g)) (hk : 0 < k) : ∃ b cap, v = .slice (some ⟨b, 0, none⟩) k cap ∧ B ≤ b ∧ k ≤ cap ∧ ViewZ w b k g := by
  have hl : (rowN k g).length = k := rowN_len k g
  unfold OwnZ at h
  rw [hl] at h
  rcases h.2 with ⟨_, h2⟩ | ⟨b, cap, cur, rfl, h2, h3, h4, h5, h6, h7⟩
  · omega
  · refine ⟨b, cap, rfl, h2, h4, lt_of_heap h3, fun j hj => ⟨?_, by simp [World.frozen?, h3]⟩⟩
    have := h.cells (g := b) rfl j (.int .i64 ((g j : Nat) : Int)) (by rw [List.getElem?_map, rowN_get hj]; rfl)
    have e : (⟨b, 0, none⟩ : Addr).add j = ⟨b, j, none⟩ := by unfold Addr.add; split <;> simp_all
    rwa [e] at this
/-- What 'next' leaves. -/
def NextPost (g k n : Nat) (r : Nat → Nat) (w : World) (e : Ending) (w' : World) : Prop :=
  Kp [g] w w' ∧ ((∃ i, i < k ∧ r i + (k - i) < n ∧ (∀ j, i < j → j < k → n ≤ r j + (k - j)) ∧ e = .returned (.bool true) ∧ ViewZ w' g k (nxt r i)) ∨
    ((∀ j, j < k → n ≤ r j + (k - j)) ∧ e = .returned (.bool false) ∧ ViewZ w' g k r))
/-- Half of the next row. -/
def nxtH (r : Nat → Nat) (i K : Nat) : Nat → Nat := fun j => if j < i then r j else if j < K then r i + 1 + (j - i) else r j
set_option maxRecDepth 100000 in
set_option maxHeartbeats 4000000 in
theorem rnext_any (g cap k n : Nat) (r : Nat → Nat) (w : World) (hv : ViewZ w g k r) (hr : ∀ j, j < k → r j < n) (hkn : k ≤ n) (hn : n ≤ 100000) :
    Calls Tryz.prog 45 #[.slice (some ⟨g, 0, none⟩) k cap, .int .i64 n] w (NextPost g k n r w) := by
  have HV := Lib.hid hv
  have HRR := Lib.hid hr
  have hg := hv.1
  obtain ⟨M, hM⟩ : ∃ M, n - k = M := ⟨_, rfl⟩
  have x1 : (n : Int) - (k : Int) = (M : Int) := by omega
  have x2 : IntKind.i64.wrap (M : Int) = (M : Int) := IntWalk.i64_in _ (by omega)
  have x3 : IntKind.i64.wrap ((k : Int) - 1) = (k : Int) - 1 := IntWalk.i64_in _ (by omega)
  have hM2 : M ≤ 100000 := by omega
  have HM := Lib.hid hM
  clear hv hr hM
  go_enter Tryz.func45, Tryz.ntmps45
  go_wp2
  clear x3
  go_loopg [5] k (fun gk s wr => ∃ (J : Nat) (iv : Int), J ≤ k ∧ J = gk ∧ s = .int .i64 iv ∧ iv = (J : Int) - 1 ∧ Hid (∀ j, J ≤ j → j < k → n ≤ r j + (k - j)) ∧ Hid (ViewZ wr g k r) ∧ Hid (Kp [g] w wr))
  case atStart => exact ⟨k, _, Nat.le_refl _, rfl, rfl, rfl, Lib.hid (fun j h1 h2 => by omega), HV, Lib.hid (Kp.refl _ _)⟩
  case round =>
    clear HV
    obtain ⟨J, iv, hJ, rfl, rfl, hiv, HT, HV, HK⟩ := hrel
    by_cases h0 : J = 0
    · subst h0
      have hneg : ¬ (0 : Int) ≤ iv := by omega
      clear hiv
      go_wp2
      go_ret
      exact ⟨HK.out, .inr ⟨fun j hj => HT.out j (by omega) hj, rfl, HV.out⟩⟩
    · obtain ⟨i, rfl⟩ : ∃ i, J = i + 1 := ⟨J - 1, by omega⟩
      obtain rfl : iv = (i : Int) := by omega
      have hik : i < k := by omega
      obtain ⟨c1, f1⟩ := HV.out.2 i hik
      have hrn := HRR.out i hik
      obtain ⟨x, hx⟩ : ∃ x, r i = x := ⟨_, rfl⟩
      rw [hx] at c1
      have hxn : x < n := by omega
      obtain ⟨P, hP⟩ : ∃ P, M + i = P := ⟨_, rfl⟩
      have y1 : (M : Int) + (i : Int) = (P : Int) := by omega
      have y2 : IntKind.i64.wrap (P : Int) = (P : Int) := IntWalk.i64_in _ (by omega)
      have y3 : (0 : Int) ≤ (i : Int) ∧ (i : Int) < (k : Int) := by omega
      have HX := Lib.hid hx
      have HP := Lib.hid hP
      have hgr := HV.out.1
      clear hx hP hiv hrn
      by_cases hlt : x < P
      · obtain ⟨y, hy⟩ : ∃ y, x + 1 = y := ⟨_, rfl⟩
        have y4 : (x : Int) + 1 = (y : Int) := by omega
        have y5 : IntKind.i64.wrap (y : Int) = (y : Int) := IntWalk.i64_in _ (by omega)
        have hyn : y ≤ 200000 := by omega
        have hVN : ViewZ (wr.setCell ⟨g, i, none⟩ (.int .i64 (y : Int))) g k (nxtH r i (i + 1)) := (HV.out.set hik y).congr fun j hj => by
          unfold nxtH
          by_cases e : j = i
          · subst e
            rw [if_pos rfl, if_neg (by omega), if_pos (by omega), HX.out]
            omega
          · rw [if_neg e]
            by_cases e2 : j < i
            · rw [if_pos e2]
            · rw [if_neg e2, if_neg (by omega)]
        have hKN : Kp [g] w (wr.setCell ⟨g, i, none⟩ (.int .i64 (y : Int))) := HK.out.setCell (.inl (by simp)) _
        have HVN := Lib.hid hVN
        have HKN := Lib.hid hKN
        have HY := Lib.hid hy
        clear hVN hKN hy
        go_wp2
        clear c1 f1 y1 y2 y4 y5
        go_loopg [6] (k - (i + 1)) (fun gk s wr => ∃ (K : Nat), K ≤ k ∧ i < K ∧ gk = k - K ∧ s = .int .i64 K ∧ Hid (ViewZ wr g k (nxtH r i K)) ∧ Hid (Kp [g] w wr))
        case atStart => exact ⟨i + 1, by omega, by omega, by omega, by go_num, HVN, HKN⟩
        case round =>
          clear HVN HKN HV HK
          obtain ⟨K, hK, hiK, rfl, rfl, HV, HK⟩ := hrel
          by_cases hKk : K < k
          · obtain ⟨Q, rfl⟩ : ∃ Q, K = Q + 1 := ⟨K - 1, by omega⟩
            obtain ⟨c2, f2⟩ := HV.out.2 Q (by omega)
            obtain ⟨c3, f3⟩ := HV.out.2 (Q + 1) hKk
            have hgr := HV.out.1
            have e1 : nxtH r i (Q + 1) Q = y + (Q - i) := by
              unfold nxtH
              rw [if_neg (by omega), if_pos (by omega), HX.out, HY.out]
            rw [e1] at c2
            obtain ⟨Y, hY⟩ : ∃ Y, y + (Q - i) = Y := ⟨_, rfl⟩
            obtain ⟨Z, hZ⟩ : ∃ Z, Y + 1 = Z := ⟨_, rfl⟩
            obtain ⟨K, hKe⟩ : ∃ K, Q + 1 = K := ⟨_, rfl⟩
            obtain ⟨O, hO⟩ : ∃ O, nxtH r i (Q + 1) (Q + 1) = O := ⟨_, rfl⟩
            rw [hO] at c3
            rw [hY] at c2
            have z1 : (K : Int) - 1 = (Q : Int) := by omega
            have z2 : IntKind.i64.wrap (Q : Int) = (Q : Int) := IntWalk.i64_in _ (by omega)
            have z3 : (Y : Int) + 1 = (Z : Int) := by omega
            have z4 : IntKind.i64.wrap (Z : Int) = (Z : Int) := IntWalk.i64_in _ (by omega)
            have z5 : (0 : Int) ≤ (Q : Int) ∧ (Q : Int) < (k : Int) := by omega
            have z6 : (0 : Int) ≤ (K : Int) ∧ (K : Int) < (k : Int) := by omega
            have hVN : ViewZ (wr.setCell ⟨g, K, none⟩ (.int .i64 (Z : Int))) g k (nxtH r i (K + 1)) := by
              have := HV.out.set hKk Z
              rw [hKe] at this
              refine this.congr fun j hj => ?_
              unfold nxtH
              by_cases e : j = K
              · rw [if_pos e, if_neg (by omega), if_pos (by omega), HX.out]
                have := HY.out
                omega
              · rw [if_neg e]
                by_cases e2 : j < i
                · rw [if_pos e2, if_pos e2]
                · rw [if_neg e2, if_neg e2]
                  by_cases e3 : j < K
                  · rw [if_pos e3, if_pos (by omega)]
                  · rw [if_neg e3, if_neg (by omega)]
            have hKN : Kp [g] w (wr.setCell ⟨g, K, none⟩ (.int .i64 (Z : Int))) := HK.out.setCell (.inl (by simp)) _
            have HVN := Lib.hid hVN
            have HKN := Lib.hid hKN
            rw [hKe] at c3 f3 ⊢
            have hKk2 : K < k := by omega
            have HQK := Lib.hid hKe
            clear hVN hKN hY hZ hO hKe e1 HV HK
            go_wp2
            go_roundg (k - (K + 1))
            case measure => omega
            case rel => exact ⟨K + 1, by omega, by have := HQK.out; omega, rfl, by go_num, HVN, HKN⟩
          · obtain rfl : K = k := by omega
            go_wp2
            go_ret
            refine ⟨HK.out, .inl ⟨i, hik, ?_, fun j h1 h2 => HT.out j (by omega) h2, rfl, HV.out.congr fun j hj => ?_⟩⟩
            · have := HP.out
              have := HM.out
              have := HX.out
              omega
            · unfold nxtH nxt
              by_cases e : j < i
              · rw [if_pos e, if_pos e]
              · rw [if_neg e, if_neg e, if_pos hj]
      · have HT2 : Hid (∀ j, i ≤ j → j < k → n ≤ r j + (k - j)) := Lib.hid fun j h1 h2 => by
          rcases Nat.lt_or_eq_of_le h1 with e | e
          · exact HT.out j (by omega) h2
          · subst e
            have := HP.out
            have := HM.out
            rw [HX.out]
            omega
        go_wp2
        go_roundg i
        case measure => omega
        case rel => exact ⟨i, _, by omega, rfl, rfl, by omega, HT2, HV, HK⟩
end Go.Proofs.YteeeocianofkfaaGreat
