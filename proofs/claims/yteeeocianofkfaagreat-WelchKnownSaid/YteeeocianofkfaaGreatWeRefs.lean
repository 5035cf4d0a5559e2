/-
  Rows of numbers that are written; the reference's next.
  The reference's Wrong.
  The message that is looked for through all rising rows: the plain laws.
  The contract of the sort of ints, laid at this dump by the kit's tool.
  Where symbols are not those of a word.
  The reference's Decode of words some symbols of which are wrong.
-/
import Derived.Test.YteeeocianofkfaaGreatWeWrong
import Derived.Test.YteeeocianofkfaaGreatRef5
import Derived.Ground.NamesProg
import Derived.Shelf.Sort.Plain
import Derived.Shelf.Slices.In.SortNone
import Derived.Test.YteeeocianofkfaaGreatProg
import Derived.Lib.RowBridge
/- Rows of numbers that are written; the reference's next. -/
namespace Go.Proofs.YteeeocianofkfaaGreat
open Go.RowKit Fld
set_option linter.unusedVariables false
set_option linter.unusedSimpArgs false

/-- The first N cells of a block, as numbers. -/
def ViewZ (w : World) (b N : Nat) (g : Nat → Nat) : Prop := b < w.heap.size ∧ ∀ j, j < N → w.cell? ⟨b, j, none⟩ = some (.int .i64 ((g j : Nat) : Int)) ∧ w.frozen? ⟨b, j, none⟩ = false
theorem ViewZ.kp {S : List Nat} {w w' : World} {b N : Nat} {g : Nat → Nat} (h : ViewZ w b N g) (hk : Kp S w w') (hn : b ∉ S) : ViewZ w' b N g :=
  ⟨Nat.lt_of_lt_of_le h.1 hk.size, fun j hj => ⟨(hk.cell (p := ⟨b, j, none⟩) h.1 hn).trans (h.2 j hj).1, (hk.frozen (p := ⟨b, j, none⟩) h.1 hn).trans (h.2 j hj).2⟩⟩
theorem ViewZ.below {w w' : World} {b N : Nat} {g : Nat → Nat} (h : ViewZ w b N g) (hb : Below w.heap.size w w') : ViewZ w' b N g := h.kp (S := []) (Kp.of_below hb) (by simp)
theorem ViewZ.congr {w : World} {b N : Nat} {g g' : Nat → Nat} (h : ViewZ w b N g) (e : ∀ j, j < N → g j = g' j) : ViewZ w b N g' := ⟨h.1, fun j hj => by rw [← e j hj]; exact h.2 j hj⟩
theorem ViewZ.set {w : World} {b N : Nat} {g : Nat → Nat} (h : ViewZ w b N g) {i : Nat} (hi : i < N) (x : Nat) : ViewZ (w.setCell ⟨b, i, none⟩ (.int .i64 (x : Int))) b N (fun j => if j = i then x else g j) := by
  refine ⟨by simpa [World.setCell] using h.1, fun j hj => ?_⟩
  by_cases e : j = i
  · subst e
    dsimp only
    rw [if_pos rfl]
    exact ⟨World.cell?_setCell_same _ _ _ (h.2 j hj).1, by rw [World.frozen?_setCell]; exact (h.2 j hj).2⟩
  · dsimp only
    rw [if_neg e]
    exact ⟨(World.cell?_setCell_other _ ⟨b, i, none⟩ ⟨b, j, none⟩ _ (by simp <;> omega)).trans (h.2 j hj).1, by rw [World.frozen?_setCell]; exact (h.2 j hj).2⟩
theorem ViewZ.rd {w : World} {b N cap : Nat} {g : Nat → Nat} (h : ViewZ w b N g) (hc : N ≤ cap) : IRd w (.slice (some ⟨b, 0, none⟩) N cap) (rowN N g) := by
  have := IRd.mk (w := w) (b := b) (o := 0) (cap := cap) (l := rowN N g) (by rw [rowN_len]; exact hc) h.1 fun i x hi => by
    have hiN : i < N := by
      have := (List.getElem?_eq_some_iff.1 hi).1
      rwa [rowN_len] at this
    rw [rowN_get hiN] at hi
    cases hi
    rw [Nat.zero_add]
    exact (h.2 i hiN).1
  rwa [rowN_len] at this
theorem OwnZ.view {w : World} {B k : Nat} {v : Value} {g : Nat → Nat} (h : OwnZ w B v (rowN k g)) (hk : 0 < k) : ∃ b cap, v = .slice (some ⟨b, 0, none⟩) k cap ∧ B ≤ b ∧ k ≤ cap ∧ ViewZ w b k g := by
  have hl : (rowN k g).length = k := rowN_len k g
  unfold OwnZ at h
  rw [hl] at h
  rcases h.2 with ⟨_, h2⟩ | ⟨b, cap, cur, rfl, h2, h3, h4, h5, h6, h7⟩
  · omega
  · refine ⟨b, cap, rfl, h2, h4, lt_of_heap h3, fun j hj => ⟨?_, by simp [World.frozen?, h3]⟩⟩
    have := h.cells (g := b) rfl j (.int .i64 ((g j : Nat) : Int)) (by rw [List.getElem?_map, rowN_get hj]; rfl)
    have e : (⟨b, 0, none⟩ : Addr).add j = ⟨b, j, none⟩ := by unfold Addr.add; split <;> simp_all
    rwa [e] at this
/-- What 'next' leaves. -/
def NextPost (g k n : Nat) (r : Nat → Nat) (w : World) (e : Ending) (w' : World) : Prop :=
  Kp [g] w w' ∧ ((∃ i, i < k ∧ r i + (k - i) < n ∧ (∀ j, i < j → j < k → n ≤ r j + (k - j)) ∧ e = .returned (.bool true) ∧ ViewZ w' g k (nxt r i)) ∨
    ((∀ j, j < k → n ≤ r j + (k - j)) ∧ e = .returned (.bool false) ∧ ViewZ w' g k r))
/-- Half of the next row. -/
def nxtH (r : Nat → Nat) (i K : Nat) : Nat → Nat := fun j => if j < i then r j else if j < K then r i + 1 + (j - i) else r j
set_option maxRecDepth 100000 in
set_option maxHeartbeats 4000000 in
theorem rnext_any (g cap k n : Nat) (r : Nat → Nat) (w : World) (hv : ViewZ w g k r) (hr : ∀ j, j < k → r j < n) (hkn : k ≤ n) (hn : n ≤ 100000) :
    Calls Tryz.prog 45 #[.slice (some ⟨g, 0, none⟩) k cap, .int .i64 n] w (NextPost g k n r w) := by
  have HV := Lib.hid hv
  have HRR := Lib.hid hr
  have hg := hv.1
  obtain ⟨M, hM⟩ : ∃ M, n - k = M := ⟨_, rfl⟩
  have x1 : (n : Int) - (k : Int) = (M : Int) := by omega
  have x2 : IntKind.i64.wrap (M : Int) = (M : Int) := IntWalk.i64_in _ (by omega)
  have x3 : IntKind.i64.wrap ((k : Int) - 1) = (k : Int) - 1 := IntWalk.i64_in _ (by omega)
  have hM2 : M ≤ 100000 := by omega
  have HM := Lib.hid hM
  clear hv hr hM
  go_enter Tryz.func45, Tryz.ntmps45
  go_wp2
  clear x3
  go_loopg [5] k (fun gk s wr => ∃ (J : Nat) (iv : Int), J ≤ k ∧ J = gk ∧ s = .int .i64 iv ∧ iv = (J : Int) - 1 ∧ Hid (∀ j, J ≤ j → j < k → n ≤ r j + (k - j)) ∧ Hid (ViewZ wr g k r) ∧ Hid (Kp [g] w wr))
  case atStart => exact ⟨k, _, Nat.le_refl _, rfl, rfl, rfl, Lib.hid (fun j h1 h2 => by omega), HV, Lib.hid (Kp.refl _ _)⟩
  case round =>
    clear HV
    obtain ⟨J, iv, hJ, rfl, rfl, hiv, HT, HV, HK⟩ := hrel
    by_cases h0 : J = 0
    · subst h0
      have hneg : ¬ (0 : Int) ≤ iv := by omega
      clear hiv
      go_wp2
      go_ret
      exact ⟨HK.out, .inr ⟨fun j hj => HT.out j (by omega) hj, rfl, HV.out⟩⟩
    · obtain ⟨i, rfl⟩ : ∃ i, J = i + 1 := ⟨J - 1, by omega⟩
      obtain rfl : iv = (i : Int) := by omega
      have hik : i < k := by omega
      obtain ⟨c1, f1⟩ := HV.out.2 i hik
      have hrn := HRR.out i hik
      obtain ⟨x, hx⟩ : ∃ x, r i = x := ⟨_, rfl⟩
      rw [hx] at c1
      have hxn : x < n := by omega
      obtain ⟨P, hP⟩ : ∃ P, M + i = P := ⟨_, rfl⟩
      have y1 : (M : Int) + (i : Int) = (P : Int) := by omega
      have y2 : IntKind.i64.wrap (P : Int) = (P : Int) := IntWalk.i64_in _ (by omega)
      have y3 : (0 : Int) ≤ (i : Int) ∧ (i : Int) < (k : Int) := by omega
      have HX := Lib.hid hx
      have HP := Lib.hid hP
      have hgr := HV.out.1
      clear hx hP hiv hrn
      by_cases hlt : x < P
      · obtain ⟨y, hy⟩ : ∃ y, x + 1 = y := ⟨_, rfl⟩
        have y4 : (x : Int) + 1 = (y : Int) := by omega
        have y5 : IntKind.i64.wrap (y : Int) = (y : Int) := IntWalk.i64_in _ (by omega)
        have hyn : y ≤ 200000 := by omega
        have hVN : ViewZ (wr.setCell ⟨g, i, none⟩ (.int .i64 (y : Int))) g k (nxtH r i (i + 1)) := (HV.out.set hik y).congr fun j hj => by
          unfold nxtH
          by_cases e : j = i
          · subst e
            rw [if_pos rfl, if_neg (by omega), if_pos (by omega), HX.out]
            omega
          · rw [if_neg e]
            by_cases e2 : j < i
            · rw [if_pos e2]
            · rw [if_neg e2, if_neg (by omega)]
        have hKN : Kp [g] w (wr.setCell ⟨g, i, none⟩ (.int .i64 (y : Int))) := HK.out.setCell (.inl (by simp)) _
        have HVN := Lib.hid hVN
        have HKN := Lib.hid hKN
        have HY := Lib.hid hy
        clear hVN hKN hy
        go_wp2
        clear c1 f1 y1 y2 y4 y5
        go_loopg [6] (k - (i + 1)) (fun gk s wr => ∃ (K : Nat), K ≤ k ∧ i < K ∧ gk = k - K ∧ s = .int .i64 K ∧ Hid (ViewZ wr g k (nxtH r i K)) ∧ Hid (Kp [g] w wr))
        case atStart => exact ⟨i + 1, by omega, by omega, by omega, by go_num, HVN, HKN⟩
        case round =>
          clear HVN HKN HV HK
          obtain ⟨K, hK, hiK, rfl, rfl, HV, HK⟩ := hrel
          by_cases hKk : K < k
          · obtain ⟨Q, rfl⟩ : ∃ Q, K = Q + 1 := ⟨K - 1, by omega⟩
            obtain ⟨c2, f2⟩ := HV.out.2 Q (by omega)
            obtain ⟨c3, f3⟩ := HV.out.2 (Q + 1) hKk
            have hgr := HV.out.1
            have e1 : nxtH r i (Q + 1) Q = y + (Q - i) := by
              unfold nxtH
              rw [if_neg (by omega), if_pos (by omega), HX.out, HY.out]
            rw [e1] at c2
            obtain ⟨Y, hY⟩ : ∃ Y, y + (Q - i) = Y := ⟨_, rfl⟩
            obtain ⟨Z, hZ⟩ : ∃ Z, Y + 1 = Z := ⟨_, rfl⟩
            obtain ⟨K, hKe⟩ : ∃ K, Q + 1 = K := ⟨_, rfl⟩
            obtain ⟨O, hO⟩ : ∃ O, nxtH r i (Q + 1) (Q + 1) = O := ⟨_, rfl⟩
            rw [hO] at c3
            rw [hY] at c2
            have z1 : (K : Int) - 1 = (Q : Int) := by omega
            have z2 : IntKind.i64.wrap (Q : Int) = (Q : Int) := IntWalk.i64_in _ (by omega)
            have z3 : (Y : Int) + 1 = (Z : Int) := by omega
            have z4 : IntKind.i64.wrap (Z : Int) = (Z : Int) := IntWalk.i64_in _ (by omega)
            have z5 : (0 : Int) ≤ (Q : Int) ∧ (Q : Int) < (k : Int) := by omega
            have z6 : (0 : Int) ≤ (K : Int) ∧ (K : Int) < (k : Int) := by omega
            have hVN : ViewZ (wr.setCell ⟨g, K, none⟩ (.int .i64 (Z : Int))) g k (nxtH r i (K + 1)) := by
              have := HV.out.set hKk Z
              rw [hKe] at this
              refine this.congr fun j hj => ?_
              unfold nxtH
              by_cases e : j = K
              · rw [if_pos e, if_neg (by omega), if_pos (by omega), HX.out]
                have := HY.out
                omega
              · rw [if_neg e]
                by_cases e2 : j < i
                · rw [if_pos e2, if_pos e2]
                · rw [if_neg e2, if_neg e2]
                  by_cases e3 : j < K
                  · rw [if_pos e3, if_pos (by omega)]
                  · rw [if_neg e3, if_neg (by omega)]
            have hKN : Kp [g] w (wr.setCell ⟨g, K, none⟩ (.int .i64 (Z : Int))) := HK.out.setCell (.inl (by simp)) _
            have HVN := Lib.hid hVN
            have HKN := Lib.hid hKN
            rw [hKe] at c3 f3 ⊢
            have hKk2 : K < k := by omega
            have HQK := Lib.hid hKe
            clear hVN hKN hY hZ hO hKe e1 HV HK
            go_wp2
            go_roundg (k - (K + 1))
            case measure => omega
            case rel => exact ⟨K + 1, by omega, by have := HQK.out; omega, rfl, by go_num, HVN, HKN⟩
          · obtain rfl : K = k := by omega
            go_wp2
            go_ret
            refine ⟨HK.out, .inl ⟨i, hik, ?_, fun j h1 h2 => HT.out j (by omega) h2, rfl, HV.out.congr fun j hj => ?_⟩⟩
            · have := HP.out
              have := HM.out
              have := HX.out
              omega
            · unfold nxtH nxt
              by_cases e : j < i
              · rw [if_pos e, if_pos e]
              · rw [if_neg e, if_neg e, if_pos hj]
      · have HT2 : Hid (∀ j, i ≤ j → j < k → n ≤ r j + (k - j)) := Lib.hid fun j h1 h2 => by
          rcases Nat.lt_or_eq_of_le h1 with e | e
          · exact HT.out j (by omega) h2
          · subst e
            have := HP.out
            have := HM.out
            rw [HX.out]
            omega
        go_wp2
        go_roundg i
        case measure => omega
        case rel => exact ⟨i, _, by omega, rfl, rfl, by omega, HT2, HV, HK⟩
end Go.Proofs.YteeeocianofkfaaGreat
/- The reference's Wrong. -/
namespace Go.Proofs.YteeeocianofkfaaGreat
open Go.RowKit Fld
set_option linter.unusedVariables false
set_option linter.unusedSimpArgs false

theorem inR_len (ps : List Int) (W ys : List GF) (p i : Nat) : (inR ps W ys p i).length ≤ i := by
  unfold inR
  rw [List.length_map]
  have := List.length_filter_le (fun i => decide (ps.getD i 0 = (p : Int)) && decide (W.getD p 0 ≠ ys.getD i 0)) (List.range i)
  rwa [List.length_range] at this
theorem wrR_len (ps : List Int) (W ys : List GF) : ∀ p, (wrR ps W ys p).length ≤ p * ps.length
  | 0 => by simp [wrR_zero]
  | p + 1 => by
    have h1 := wrR_len ps W ys p
    have h2 := inR_len ps W ys p ps.length
    rw [wrR_succ, List.length_append, Nat.succ_mul]
    omega
def RWrPost (ps : List Int) (W ys : List GF) (N : Nat) (w : World) (e : Ending) (w' : World) : Prop := ∃ v, e = .returned v ∧ OwnZ w' w.heap.size v (wrR ps W ys N) ∧ Below w.heap.size w w'
set_option maxRecDepth 100000 in
set_option maxHeartbeats 4000000 in
theorem rwrong_any (xv mv pv yv : Value) (xs ms ys : List GF) (k : Nat) (ps : List Int) (w : World) (hx : GRd w xv xs) (hm : GRd w mv ms) (hp : IRd w pv ps) (hy : GRd w yv ys) (hk : ms.length = k) (hyl : ps.length ≤ ys.length) (hxl : xs.length ≤ 500) (hpl : ps.length ≤ 1000) (hkl : k ≤ 1000) :
    Calls Tryz.prog 20 #[xv, .int .i64 k, mv, pv, yv] w (RWrPost ps (rowF (fun i => ev ms (xs.getD i 0)) xs.length) ys xs.length w) := by
  have HENC := Lib.hid (renc_any xv mv xs ms k w hx hm (by omega) (by omega) (by omega))
  obtain ⟨ax, cx, rfl, hcx⟩ := hx.form
  obtain ⟨am, cm, rfl, hcm⟩ := hm.form
  obtain ⟨ap, cp, rfl⟩ := hp.form
  obtain ⟨ay, cy, rfl, hcy⟩ := hy.form
  have hWl : (rowF (fun i => ev ms (xs.getD i 0)) xs.length).length = xs.length := rowF_len _ _
  obtain ⟨W, hW⟩ : ∃ W, rowF (fun i => ev ms (xs.getD i 0)) xs.length = W := ⟨_, rfl⟩
  unfold REncPost at HENC
  rw [hW] at HENC hWl ⊢
  obtain ⟨N, hN⟩ : ∃ N, xs.length = N := ⟨_, rfl⟩
  obtain ⟨Q, hQ⟩ : ∃ Q, ps.length = Q := ⟨_, rfl⟩
  obtain ⟨Y, hY⟩ : ∃ Y, ys.length = Y := ⟨_, rfl⟩
  have HN := Lib.hid hN
  have HQ := Lib.hid hQ
  have HY := Lib.hid hY
  have HK := Lib.hid hk
  have HWL := Lib.hid hWl
  rw [hN] at hxl hx hcx ⊢
  rw [hQ] at hpl hyl hp ⊢
  rw [hY] at hyl hy ⊢
  have HP := Lib.hid hp
  have HYS := Lib.hid hy
  rw [hN] at HENC
  rw [HK.out] at HENC ⊢
  clear hx hm hp hy hk hW hWl hN hQ hY hcx hcm hcy
  go_enter Tryz.func20, Tryz.ntmps20
  go_wp2_with fail
  refine HENC.out.mono ?_
  rintro e w1 ⟨hb1, ⟨-, vw, rfl, how⟩ | ⟨hne, -⟩⟩
  case inr => exact absurd rfl hne
  have HB1 := Lib.hid hb1
  have HOW := Lib.hid how.rd
  have hs1 := hb1.size
  obtain ⟨aw, cw, rfl, -⟩ := how.rd.form
  rw [HWL.out, HN.out] at HOW ⊢
  clear hb1 how
  go_wp2
  go_loopg [13, 14] N (fun gk l i wr => ∃ (V : Value) (p : Nat), V = l ∧ p ≤ N ∧ gk = N - p ∧ i = .int .i64 p ∧ Hid (OwnZ wr w1.heap.size V (wrR ps W ys p)) ∧ Hid (Below w1.heap.size w1 wr))
  case atStart => exact ⟨_, 0, rfl, by omega, rfl, rfl, Lib.hid (OwnZ.nil _ _), Lib.hid (Below.refl _ _)⟩
  case round =>
    obtain ⟨V, p, rfl, hpN, rfl, rfl, HO, HB⟩ := hrel
    have hs := HB.out.size
    by_cases hlt : p < N
    · have hlen0 : p * Q ≤ 500 * 1000 := Nat.mul_le_mul (by omega) hpl
      have hlen := wrR_len ps W ys p
      rw [HQ.out] at hlen
      have HLEN : Hid ((wrR ps W ys p).length ≤ 500000) := Lib.hid (by omega)
      clear hlen hlen0
      go_wp2
      go_loopg [13, 15] Q (fun gk l i wr => ∃ (V : Value) (I : Nat), V = l ∧ I ≤ Q ∧ gk = Q - I ∧ i = .int .i64 I ∧ Hid (OwnZ wr w1.heap.size V (wrR ps W ys p ++ inR ps W ys p I)) ∧ Hid (Below w1.heap.size w1 wr))
      case atStart => exact ⟨_, 0, rfl, by omega, rfl, rfl, by rw [inR_zero, List.append_nil]; exact HO, HB⟩
      case round =>
        clear HO HB hs
        obtain ⟨V, I, rfl, hI, rfl, rfl, HO, HB⟩ := hrel
        have hs := HB.out.size
        by_cases hlt2 : I < Q
        · obtain ⟨x, hx⟩ : ∃ x, ps[I]? = some x := ⟨_, List.getElem?_eq_getElem (by rw [HQ.out]; exact hlt2)⟩
          have hbw : Below w.heap.size w wr := HB1.out.trans (HB.out.mono HB1.out.size)
          obtain ⟨-, -, b0, o0, rfl, hb0, -⟩ := IRd.cell HP.out hx
          have c0 := IRd.cells (HP.out.below hbw) I x hx
          have hxd : ps.getD I 0 = x := by rw [List.getD_eq_getElem?_getD, hx]; rfl
          have HXD := Lib.hid hxd
          have HBD : Hid (Below w1.heap.size w1 wr.drew) := Lib.hid HB.out.drew
          obtain ⟨kp, hkp⟩ : ∃ kp : Nat → Bool, ∀ j, kp j = true ↔ j < wr.heap.size := ⟨fun j => decide (j < wr.heap.size), by simp⟩
          have hk0 : kp b0 = true := (hkp _).2 (by omega)
          have HKP := Lib.hid hkp
          have i0 : (0 : Int) ≤ (I : Int) ∧ (I : Int) < (Q : Int) := by omega
          by_cases hxp : x = (p : Int)
          · subst hxp
            obtain ⟨c, hc, hcd⟩ := at_get (l := W) (i := p) (by rw [HWL.out, HN.out]; exact hlt)
            obtain ⟨d, hd, hdd⟩ := at_get (l := ys) (i := I) (by rw [HY.out]; omega)
            obtain ⟨b1, o1, rfl, hb1, -⟩ := HOW.out.at hc
            obtain ⟨b2, o2, rfl, hb2, -⟩ := HYS.out.at hd
            obtain ⟨_, _, e, -, c1⟩ := (HOW.out.below HB.out).at hc
            cases e
            obtain ⟨_, _, e, -, c2⟩ := (HYS.out.below hbw).at hd
            cases e
            obtain ⟨cn, hcn⟩ : ∃ t, c.n = t := ⟨_, rfl⟩
            obtain ⟨dn, hdn⟩ : ∃ t, d.n = t := ⟨_, rfl⟩
            rw [hcn] at c1
            rw [hdn] at c2
            have hiff : W.getD p 0 = ys.getD I 0 ↔ cn = dn := by
              rw [hcd, hdd]
              exact ⟨fun e => by rw [← hcn, ← hdn, e], fun e => GF.ext' (by omega)⟩
            have HIF := Lib.hid hiff
            have hk1 : kp b1 = true := (hkp _).2 (by omega)
            have hk2 : kp b2 = true := (hkp _).2 (by omega)
            have i1 : (0 : Int) ≤ (p : Int) ∧ (p : Int) < (N : Int) := by omega
            have i2 : (0 : Int) ≤ (I : Int) ∧ (I : Int) < (Y : Int) := by omega
            clear hkp hc hcd hd hdd hcn hdn hiff hx hxd hbw
            by_cases hcc : cn = dn
            · subst hcc
              have HO2 : Hid (OwnZ wr.drew w1.heap.size V (wrR ps W ys p ++ inR ps W ys p (I + 1))) := Lib.hid (by
                rw [inR_no (fun _ => HIF.out.2 rfl)]
                exact HO.out)
              go_upto_region 9 with fail
              have hgr := fun (w0 W : World) (p : Addr) (hp : (fun j => kp j = true) p.block) => graft_cell (w0 := w0) (keep := (fun j => kp j = true)) W hp
              refine wp_region_tree (fun j => kp j = true) [] (.step 0 (.step 1 (.step 2 (.step 3 (.step 4 (.step 5 (.step 6 (.step 7 (.step 8 (.step 9 (.step 10 (.step 11 (.step 12 (.step 13 (.step 14 (.step 15 (.step 16 .done))))))))))))))))) (by kernel_rfl) (by kernel_rfl) ?_
              simp only [slimTr, slimStep, Oper.slim, List.contains_cons, List.contains_nil, Option.map_none, Option.map_some, List.getElem?_toArray, List.getElem?_cons_zero, List.getElem?_cons_succ, Option.bind_some, beq_self_eq_true, Bool.or_false, Nat.reduceBEq, Nat.reduceAdd, Nat.zero_add]
              repeat (first | (fail) | ((with_reducible refine wpSlimT_step (fun K hK => ?_)); go_simp; first | (refine hK _ _ ?_; clear hK K) | (refine ⟨by (intro kk hkk; first | (simp (disch := (simp; omega)) only [hp_drew, hp_drewN, hp_alloc, hp_set]; done) | (simp [hp_drew, hp_drewN, hp_alloc_if, hkk]; done) | fail), hK _ _ ?_⟩; clear hK K)))
              refine wpSlimT_done ?_
              clear hgr
              go_wp2
              go_roundg (Q - (I + 1))
              case measure => omega
              case rel => exact ⟨_, I + 1, rfl, by omega, rfl, by go_num, HO2, HBD⟩
            · have hne : ¬ (cn : Int) = (dn : Int) := by omega
              obtain ⟨v1, w6, hap, ho1, -, hb6, -⟩ := app_int (W := wr.drew) (p : Int) HO.out (by
                have := HLEN.out
                have := inR_len ps W ys p I
                rw [List.length_append]
                omega) (by simpa using HB.out.size) (ad := wr.heap.size) rfl
              have HO6 : Hid (OwnZ w6 w1.heap.size v1 (wrR ps W ys p ++ inR ps W ys p (I + 1))) := Lib.hid (by
                rw [inR_yes HXD.out (fun e => hcc (HIF.out.1 e)), ← List.append_assoc]
                exact ho1)
              have HB6 : Hid (Below w1.heap.size w1 w6) := Lib.hid (HBD.out.trans hb6)
              clear hcc ho1 hb6
              go_upto_region 9 with fail
              have hgr := fun (w0 W : World) (p : Addr) (hp : (fun j => kp j = true) p.block) => graft_cell (w0 := w0) (keep := (fun j => kp j = true)) W hp
              refine wp_region_tree (fun j => kp j = true) [] (.step 0 (.step 1 (.step 2 (.step 3 (.step 4 (.step 5 (.step 6 (.step 7 (.step 8 (.step 9 (.step 10 (.step 11 (.step 12 (.step 13 (.step 14 (.step 15 (.step 16 .done))))))))))))))))) (by kernel_rfl) (by kernel_rfl) ?_
              simp only [slimTr, slimStep, Oper.slim, List.contains_cons, List.contains_nil, Option.map_none, Option.map_some, List.getElem?_toArray, List.getElem?_cons_zero, List.getElem?_cons_succ, Option.bind_some, beq_self_eq_true, Bool.or_false, Nat.reduceBEq, Nat.reduceAdd, Nat.zero_add]
              repeat (first | (fail) | ((with_reducible refine wpSlimT_step (fun K hK => ?_)); go_simp; first | (refine hK _ _ ?_; clear hK K) | (refine ⟨by (intro kk hkk; first | (simp (disch := (simp; omega)) only [hp_drew, hp_drewN, hp_alloc, hp_set]; done) | (simp [hp_drew, hp_drewN, hp_alloc_if, hkk]; done) | fail), hK _ _ ?_⟩; clear hK K)))
              refine wpSlimT_done ?_
              clear hgr
              go_wp2_with (at_builtin; refine wpList_append rfl _ _ _ rfl rfl rfl hap ?_)
              go_roundg (Q - (I + 1))
              case measure => omega
              case rel => exact ⟨_, I + 1, rfl, by omega, rfl, by go_num, HO6, HB6⟩
          · have HO2 : Hid (OwnZ wr.drew w1.heap.size V (wrR ps W ys p ++ inR ps W ys p (I + 1))) := Lib.hid (by
              rw [inR_no (fun e => absurd (hxd.symm.trans e) hxp)]
              exact HO.out)
            clear hkp hx hxd hbw
            go_upto_region 9 with fail
            have hgr := fun (w0 W : World) (p : Addr) (hp : (fun j => kp j = true) p.block) => graft_cell (w0 := w0) (keep := (fun j => kp j = true)) W hp
            refine wp_region_tree (fun j => kp j = true) [] (.step 0 (.step 1 (.step 2 (.step 3 (.step 4 (.step 5 (.step 6 (.step 7 (.step 8 (.step 9 (.step 10 (.step 11 (.step 12 (.step 13 (.step 14 (.step 15 (.step 16 .done))))))))))))))))) (by kernel_rfl) (by kernel_rfl) ?_
            simp only [slimTr, slimStep, Oper.slim, List.contains_cons, List.contains_nil, Option.map_none, Option.map_some, List.getElem?_toArray, List.getElem?_cons_zero, List.getElem?_cons_succ, Option.bind_some, beq_self_eq_true, Bool.or_false, Nat.reduceBEq, Nat.reduceAdd, Nat.zero_add]
            repeat (first | (fail) | ((with_reducible refine wpSlimT_step (fun K hK => ?_)); go_simp; first | (refine hK _ _ ?_; clear hK K) | (refine ⟨by (intro kk hkk; first | (simp (disch := (simp; omega)) only [hp_drew, hp_drewN, hp_alloc, hp_set]; done) | (simp [hp_drew, hp_drewN, hp_alloc_if, hkk]; done) | fail), hK _ _ ?_⟩; clear hK K)))
            refine wpSlimT_done ?_
            clear hgr
            go_wp2
            go_roundg (Q - (I + 1))
            case measure => omega
            case rel => exact ⟨_, I + 1, rfl, by omega, rfl, by go_num, HO2, HBD⟩
        · obtain rfl : I = Q := by omega
          have HO2 : Hid (OwnZ wr w1.heap.size V (wrR ps W ys (p + 1))) := Lib.hid (by
            rw [wrR_succ, HQ.out]
            exact HO.out)
          go_wp2
          go_roundg (N - (p + 1))
          case measure => omega
          case rel => exact ⟨_, p + 1, rfl, by omega, rfl, by go_num, HO2, HB⟩
    · obtain rfl : p = N := by omega
      go_wp2
      go_ret
      exact ⟨V, rfl, HO.out.mono HB1.out.size, HB1.out.trans (HB.out.mono HB1.out.size)⟩
end Go.Proofs.YteeeocianofkfaaGreat
/- The message that is looked for through all rising rows: the plain laws. -/
namespace Go.Proofs.YteeeocianofkfaaGreat
open Go.RowKit Fld
set_option linter.unusedVariables false
set_option linter.unusedSimpArgs false

noncomputable def rowP (ps : List Int) (r : Nat → Nat) (J : Nat) : List Int := (List.range J).map fun j => ps.getD (r j) 0
noncomputable def rowY (ys : List GF) (r : Nat → Nat) (J : Nat) : List GF := rowF (fun j => ys.getD (r j) 0) J
theorem rowP_len (ps : List Int) (r : Nat → Nat) (J : Nat) : (rowP ps r J).length = J := by simp [rowP]
theorem rowP_succ (ps : List Int) (r : Nat → Nat) (J : Nat) : rowP ps r (J + 1) = rowP ps r J ++ [ps.getD (r J) 0] := by simp [rowP, List.range_succ]
theorem rowP_get (ps : List Int) (r : Nat → Nat) {J i : Nat} (h : i < J) : (rowP ps r J).getD i 0 = ps.getD (r i) 0 := by
  rw [rowP, List.getD_eq_getElem?_getD, List.getElem?_map, List.getElem?_range h]
  rfl
theorem rowP_congr {ps : List Int} {r r' : Nat → Nat} {J : Nat} (h : ∀ j, j < J → r j = r' j) : rowP ps r J = rowP ps r' J := by
  unfold rowP
  exact List.map_congr_left fun i hi => by rw [h i (List.mem_range.1 hi)]
theorem rowY_congr {ys : List GF} {r r' : Nat → Nat} {J : Nat} (h : ∀ j, j < J → r j = r' j) : rowY ys r J = rowY ys r' J := by
  unfold rowY rowF
  exact List.map_congr_left fun i hi => by rw [h i (List.mem_range.1 hi)]
theorem ris_inj {k n : Nat} {r : Nat → Nat} (h : Ris k n r) {i j : Nat} (hi : i < k) (hj : j < k) (e : r i = r j) : i = j := by
  rcases Nat.lt_trichotomy i j with h1 | h1 | h1
  · have := ris_add h i (j - i) (by omega)
    rw [show i + (j - i) = j by omega] at this
    omega
  · exact h1
  · have := ris_add h j (i - j) (by omega)
    rw [show j + (i - j) = i by omega] at this
    omega
section
variable {xs ys : List GF} {ps : List Int} {k t : Nat}
theorem ris_good {N : Nat} {r : Nat → Nat} (hg : GoodP N ps) (h : Ris k ps.length r) : GoodP N (rowP ps r k) := by
  refine ⟨fun x hx => ?_, List.pairwise_map.2 (List.nodup_range.imp_of_mem fun {a b} ha hb hne e => hne ?_)⟩
  · obtain ⟨j, hj, rfl⟩ := List.mem_map.1 hx
    refine hg.1 _ ?_
    rw [List.getD_eq_getElem?_getD, List.getElem?_eq_getElem (h.1 j (List.mem_range.1 hj))]
    exact List.getElem_mem _
  · have ha' := List.mem_range.1 ha
    have hb' := List.mem_range.1 hb
    exact ris_inj h ha' hb' (getI_inj hg.2 (h.1 a ha') (h.1 b hb') e)
theorem fits_rowP {r : Nat → Nat} {m : List GF} : Fits xs k (rowP ps r k) (rowY ys r k) m ↔ m.length = k ∧ ∀ j, j < k → ev m (xs.getD (ps.getD (r j) 0).toNat 0) = ys.getD (r j) 0 := by
  unfold Fits
  rw [rowP_len]
  constructor
  · rintro ⟨h1, h2⟩
    refine ⟨h1, fun j hj => ?_⟩
    have := h2 j hj
    rw [rowP_get _ _ hj, rowY, rowF_get _ hj] at this
    exact this
  · rintro ⟨h1, h2⟩
    refine ⟨h1, fun j hj => ?_⟩
    rw [rowP_get _ _ hj, rowY, rowF_get _ hj]
    exact h2 j hj
/-- With K symbols there always is one. -/
theorem fits_ex {r : Nat → Nat} (hn : xs.Nodup) (hg : GoodP xs.length ps) (h : Ris k ps.length r) : ∃ m, Fits xs k (rowP ps r k) (rowY ys r k) m := by
  obtain ⟨p, hp, hq⟩ := through ((List.range k).map fun j => (xs.getD (ps.getD (r j) 0).toNat 0, ys.getD (r j) 0)) (by
    rw [List.map_map]
    refine List.pairwise_map.2 (List.nodup_range.imp_of_mem fun {a c} ha hc hne e => hne ?_)
    have ha' := List.mem_range.1 ha
    have hc' := List.mem_range.1 hc
    have h1 : ∀ j, j < k → 0 ≤ ps.getD (r j) 0 ∧ ps.getD (r j) 0 < (xs.length : Int) := fun j hj => hg.1 _ (by
      rw [List.getD_eq_getElem?_getD, List.getElem?_eq_getElem (h.1 j hj)]
      exact List.getElem_mem _)
    have ha2 := h1 a ha'
    have hc2 := h1 c hc'
    have h2 := getD_inj hn (i := (ps.getD (r a) 0).toNat) (j := (ps.getD (r c) 0).toNat) (by omega) (by omega) e
    exact ris_inj h ha' hc' (getI_inj hg.2 (h.1 a ha') (h.1 c hc') (by omega)))
  refine ⟨p, fits_rowP.2 ⟨by rw [hp]; simp, fun i hi => ?_⟩⟩
  exact hq _ (List.mem_map.2 ⟨i, List.mem_range.2 hi, rfl⟩)
/-- The row tells no message of which so few symbols are wrong. -/
def FailR (xs : List GF) (ps : List Int) (ys : List GF) (k t : Nat) (r : Nat → Nat) : Prop := ∀ m, Fits xs k (rowP ps r k) (rowY ys r k) m → ¬ (wrS xs ps ys m).length ≤ t
theorem fail_congr {r r' : Nat → Nat} (h : ∀ j, j < k → r j = r' j) (hf : FailR xs ps ys k t r') : FailR xs ps ys k t r := by
  intro m hm
  rw [rowP_congr h, rowY_congr h] at hm
  exact hf m hm
theorem fail_one {r : Nat → Nat} {m : List GF} (hn : xs.Nodup) (hg : GoodP xs.length ps) (h : Ris k ps.length r) (hm : Fits xs k (rowP ps r k) (rowY ys r k) m) (hw : ¬ (wrS xs ps ys m).length ≤ t) : FailR xs ps ys k t r := by
  intro m' hm'
  rw [fits_one hn (ris_good hg h) (by rw [rowP_len]; exact Nat.le_refl _) hm' hm]
  exact hw
theorem all_fail (hk : k + t ≤ ps.length) (h : ∀ r, Ris k ps.length r → FailR xs ps ys k t r) : WeTells xs k ps ys t none := by
  intro m hm hw
  have hw' := hw
  rw [wrS_len] at hw'
  obtain ⟨r, hr, hf⟩ := right_ris hw' (by rw [pts_len]; exact hk)
  rw [pts_len] at hr
  refine h r hr m (fits_rowP.2 ⟨hm, fun j hj => ?_⟩) hw
  have := hf j hj
  rwa [pts_get xs (hr.1 j hj)] at this
end
end Go.Proofs.YteeeocianofkfaaGreat
/- The contract of the sort of ints, laid at this dump by the kit's tool. -/
namespace Go.Proofs
open Go.Shelf
def Tryz.lays189_ren : Go.Shelf.Ren := ⟨fun | 189 => 53 | 125 => 66 | 257 => 77 | 128 => 92 | 129 => 93 | 294 => 102 | 295 => 103 | 296 => 104 | 297 => 105 | 298 => 106 | 299 => 107 | 216 => 108 | 300 => 109 | 301 => 110 | 328 => 123 | 329 => 112 | 330 => 113 | 331 => 124 | 332 => 125 | 215 => 126 | 343 => 132 | n => n, fun | 28 => 27 | 3 => 3 | 46 => 120 | 0 => 0 | 51 => 82 | 53 => 41 | 4 => 4 | 183 => 138 | 182 => 137 | 131 => 143 | 5 => 5 | 9 => 9 | 218 => 156 | 222 => 160 | 228 => 168 | 229 => 169 | n => n, fun | n => n⟩
theorem Tryz.lays189 : Go.Proofs.Lays.n189 Tryz.prog Tryz.lays189_ren := {
  mixed := by kernel_rfl
  f125 := Tryz.func66.trans (congrArg some (by kernel_rfl))
  f128 := Tryz.func92.trans (congrArg some (by kernel_rfl))
  f129 := Tryz.func93.trans (congrArg some (by kernel_rfl))
  f189 := Tryz.func53.trans (congrArg some (by kernel_rfl))
  f215 := Tryz.func126.trans (congrArg some (by kernel_rfl))
  f216 := Tryz.func108.trans (congrArg some (by kernel_rfl))
  f257 := Tryz.func77.trans (congrArg some (by kernel_rfl))
  f294 := Tryz.func102.trans (congrArg some (by kernel_rfl))
  f295 := Tryz.func103.trans (congrArg some (by kernel_rfl))
  f296 := Tryz.func104.trans (congrArg some (by kernel_rfl))
  f297 := Tryz.func105.trans (congrArg some (by kernel_rfl))
  f298 := Tryz.func106.trans (congrArg some (by kernel_rfl))
  f299 := Tryz.func107.trans (congrArg some (by kernel_rfl))
  f300 := Tryz.func109.trans (congrArg some (by kernel_rfl))
  f301 := Tryz.func110.trans (congrArg some (by kernel_rfl))
  f328 := Tryz.func123.trans (congrArg some (by kernel_rfl))
  f329 := Tryz.func112.trans (congrArg some (by kernel_rfl))
  f330 := Tryz.func113.trans (congrArg some (by kernel_rfl))
  f331 := Tryz.func124.trans (congrArg some (by kernel_rfl))
  f332 := Tryz.func125.trans (congrArg some (by kernel_rfl))
  f343 := Tryz.func132.trans (congrArg some (by kernel_rfl))
  t0 := Tryz.underlying0
  a0 := Tryz.isAgg0
  z0 := Tryz.sizeOf0
  v0 := Tryz.zeroValue0
  t3 := Tryz.underlying3
  a3 := Tryz.isAgg3
  z3 := Tryz.sizeOf3
  v3 := Tryz.zeroValue3
  t4 := Tryz.underlying4
  a4 := Tryz.isAgg4
  z4 := Tryz.sizeOf4
  v4 := Tryz.zeroValue4
  t5 := Tryz.underlying5
  a5 := Tryz.isAgg5
  z5 := Tryz.sizeOf5
  v5 := Tryz.zeroValue5
  t9 := Tryz.underlying9
  a9 := Tryz.isAgg9
  z9 := Tryz.sizeOf9
  v9 := Tryz.zeroValue9
  t28 := Tryz.underlying27
  a28 := Tryz.isAgg27
  z28 := Tryz.sizeOf27
  v28 := Tryz.zeroValue27
  t46 := Tryz.underlying120
  a46 := Tryz.isAgg120
  z46 := Tryz.sizeOf120
  v46 := Tryz.zeroValue120
  t51 := Tryz.underlying82
  a51 := Tryz.isAgg82
  z51 := Tryz.sizeOf82
  v51 := Tryz.zeroValue82
  t53 := Tryz.underlying41
  a53 := Tryz.isAgg41
  z53 := Tryz.sizeOf41
  v53 := Tryz.zeroValue41
  t131 := Tryz.underlying143
  a131 := Tryz.isAgg143
  z131 := Tryz.sizeOf143
  v131 := Tryz.zeroValue143
  t182 := Tryz.underlying137
  a182 := Tryz.isAgg137
  z182 := Tryz.sizeOf137
  v182 := Tryz.zeroValue137
  t183 := Tryz.underlying138
  a183 := Tryz.isAgg138
  z183 := Tryz.sizeOf138
  v183 := Tryz.zeroValue138
  t218 := Tryz.underlying156
  a218 := Tryz.isAgg156
  z218 := Tryz.sizeOf156
  v218 := Tryz.zeroValue156
  t222 := Tryz.underlying160
  a222 := Tryz.isAgg160
  z222 := Tryz.sizeOf160
  v222 := Tryz.zeroValue160
  t228 := Tryz.underlying168
  a228 := Tryz.isAgg168
  z228 := Tryz.sizeOf168
  v228 := Tryz.zeroValue168
  t229 := Tryz.underlying169
  a229 := Tryz.isAgg169
  z229 := Tryz.sizeOf169
  v229 := Tryz.zeroValue169 }
open Go.Sort Go.RowKit in
theorem Tryz.slices_Sort_int (blk off cap : Nat) (zs : List Int) (w : World) (hH : Holds (Value.int .i64) w blk off zs.toArray) (hblk : blk < w.heap.size) (hsz : zs.length < 4611686018427387904) :
    Calls Tryz.prog 53 #[.slice (some ⟨blk, off, none⟩) zs.length cap] w fun e w' =>
      e = .returned (.tuple #[]) ∧ ∃ n os, w' = grow (putRow (Value.int .i64) (Sort.ahead w n) blk off (zs.mergeSort fun x y => decide (x ≤ y)).toArray) os := Any.slices_Sort_int Tryz.lays189 blk off cap zs w hH hblk hsz
theorem Tryz.slices_Sort_int_none (p : Option Addr) (cap : Nat) (w : World) :
    Calls Tryz.prog 53 #[.slice p 0 cap] w fun e w' => e = .returned (.tuple #[]) ∧ w' = w := Any.slices_Sort_int_none Tryz.lays189 p cap w
end Go.Proofs
/- Where symbols are not those of a word. -/
namespace Go.Proofs.YteeeocianofkfaaGreat
open Go.RowKit Fld Go.Shelf Go.Sort
set_option linter.unusedVariables false
set_option linter.unusedSimpArgs false

/-- Numbers that are read, from some block on. -/
structure RdZ (w : World) (B : Nat) (v : Value) (l : List Int) : Prop where
  rd : IRd w v l
  lo : ∀ k, v.ownBlock = some k → B ≤ k ∧ k < w.heap.size
theorem RdZ.kp {S : List Nat} {w w' : World} {B : Nat} {v : Value} {l : List Int} (h : RdZ w B v l) (hk : Kp S w w') (hS : ∀ x ∈ S, x < B) : RdZ w' B v l :=
  ⟨IRd.kp h.rd hk fun k hk' hm => by have := (h.lo k hk').1; have := hS k hm; omega, fun k hk' => ⟨(h.lo k hk').1, Nat.lt_of_lt_of_le (h.lo k hk').2 hk.size⟩⟩
theorem RdZ.below {w w' : World} {B : Nat} {v : Value} {l : List Int} (h : RdZ w B v l) (hb : Go.RowKit.Below w.heap.size w w') : RdZ w' B v l := h.kp (S := []) (Kp.of_below hb) (by simp)
theorem RdZ.mono {w : World} {B B' : Nat} {v : Value} {l : List Int} (h : RdZ w B v l) (hb : B' ≤ B) : RdZ w B' v l := ⟨h.rd, fun k hk => ⟨Nat.le_trans hb (h.lo k hk).1, (h.lo k hk).2⟩⟩
theorem RdZ.of_own {w : World} {B : Nat} {v : Value} {l : List Int} (h : OwnZ w B v l) : RdZ w B v l := ⟨h.rd, fun k hk => ⟨(h.lt k hk).1, (h.lt k hk).2⟩⟩
theorem RdZ.nil (w : World) (B : Nat) : RdZ w B (.slice none 0 0) [] := RdZ.of_own (OwnZ.nil w B)
theorem kp_sortZ (w : World) (n g : Nat) (d : Array Int) (os : Array Obj) : Kp [g] w (grow (putRow (Value.int .i64) (Sort.ahead w n) g 0 d) os) :=
  ⟨rfl, rfl, rfl, by simp, fun k hk hn => by
    rw [heap_grow_old _ _ (by simpa using hk)]
    unfold putRow mapBlock
    simp only [Array.getElem?_modify]
    rw [if_neg (fun e => hn (by simp [e]))]
    rfl⟩
theorem OwnZ.holds {w : World} {B g cap : Nat} {l : List Int} (h : OwnZ w B (.slice (some ⟨g, 0, none⟩) l.length cap) l) : Go.Sort.Holds (Value.int .i64) w g 0 l.toArray := by
  intro j hj
  have hj' : j < l.length := by simpa using hj
  unfold OwnZ at h
  have hc := h.cells (g := g) rfl j (.int .i64 (l.getD j 0)) (by rw [List.getElem?_map, List.getElem?_eq_getElem hj', List.getD_eq_getElem?_getD, List.getElem?_eq_getElem hj']; rfl)
  rcases h.2 with ⟨h1, _⟩ | ⟨b, cap', cur, e, h2, h3, h4, h5, h6, h7⟩
  · cases h1
  · cases e
    have e : (⟨g, 0, none⟩ : Addr).add j = ⟨g, j, none⟩ := by unfold Addr.add; split <;> simp_all
    rw [e] at hc
    rw [Nat.zero_add]
    refine ⟨hc.trans ?_, by simp [World.frozen?, h3]⟩
    rw [getElem!_pos l.toArray j hj, List.getD_eq_getElem?_getD, List.getElem?_eq_getElem hj']
    simp
/-- What 'Sort' leaves of a row of one's own. -/
theorem sortZ_any (B : Nat) (v : Value) (l : List Int) (w : World) (h : OwnZ w B v l) (hB : B ≤ w.heap.size) (hl : l.length ≤ 1000000000) :
    Calls Tryz.prog 53 #[v] w fun e w' => e = .returned (.tuple #[]) ∧ Go.RowKit.Below B w w' ∧ RdZ w' B v (riseI l) := by
  have hlt := h.lt
  have hrd := h.rd
  have h' := h
  unfold OwnZ at h'
  rcases h'.2 with ⟨rfl, h2⟩ | ⟨g, cap, cur, rfl, h2, h3, h4, h5, h6, h7⟩
  · have : l = [] := List.eq_nil_of_length_eq_zero h2
    subst this
    refine (Tryz.slices_Sort_int_none none 0 w).mono ?_
    rintro e w' ⟨rfl, rfl⟩
    exact ⟨rfl, Go.RowKit.Below.refl _ _, by rw [show riseI [] = [] from by simp [riseI]]; exact RdZ.nil _ _⟩
  · have hg := hlt g rfl
    have hh := OwnZ.holds h
    refine (Tryz.slices_Sort_int g 0 cap l w hh hg.2 (by omega)).mono ?_
    rintro e w' ⟨rfl, n, os, rfl⟩
    have hk := kp_sortZ w n g (l.mergeSort fun x y => decide (x ≤ y)).toArray os
    refine ⟨rfl, hk.below hB (by simpa using hg.1), ?_, fun k hk' => ?_⟩
    · have hH : Go.Sort.Holds (Value.int .i64) (grow (putRow (Value.int .i64) (Sort.ahead w n) g 0 (l.mergeSort fun x y => decide (x ≤ y)).toArray) os) g 0 (l.mergeSort fun x y => decide (x ≤ y)).toArray :=
        holds_grow _ _ _ _ _ _ (by simpa using hg.2) (holds_putRow _ _ _ _ l.toArray _ (holds_ahead _ _ _ _ _ _ hh) (by simp))
      have := IRd.mk (o := 0) (cap := cap) (l := riseI l) (b := g) (by rw [riseI_len]; exact h4) (Nat.lt_of_lt_of_le hg.2 hk.size) fun i x hi => by
        have hi' : i < (riseI l).length := (List.getElem?_eq_some_iff.1 hi).1
        have h8 := (hH i (by simpa [riseI] using hi')).1
        refine h8.trans ?_
        rw [getElem!_pos _ _ (by simpa [riseI] using hi')]
        rw [List.getElem?_eq_getElem hi'] at hi
        cases hi
        rfl
      rwa [riseI_len] at this
    · have : k = g := by simpa [Value.ownBlock] using hk'.symm
      subst this
      exact ⟨hg.1, Nat.lt_of_lt_of_le hg.2 hk.size⟩
/-- Places of symbols that differ, as they are told. -/
noncomputable def difL (W : List GF) (ps : List Int) (ys : List GF) (n : Nat) : List Int := ((List.range n).filter fun i => decide (W.getD (ps.getD i 0).toNat 0 ≠ ys.getD i 0)).map fun i => ps.getD i 0
theorem difL_yes {W : List GF} {ps : List Int} {ys : List GF} {n : Nat} (h : W.getD (ps.getD n 0).toNat 0 ≠ ys.getD n 0) : difL W ps ys (n + 1) = difL W ps ys n ++ [ps.getD n 0] := by
  unfold difL
  rw [List.range_succ, List.filter_append, List.map_append, List.filter_cons_of_pos (p := fun i => decide (W.getD (ps.getD i 0).toNat 0 ≠ ys.getD i 0)) (decide_eq_true h)]
  rfl
theorem difL_no {W : List GF} {ps : List Int} {ys : List GF} {n : Nat} (h : W.getD (ps.getD n 0).toNat 0 = ys.getD n 0) : difL W ps ys (n + 1) = difL W ps ys n := by
  unfold difL
  rw [List.range_succ, List.filter_append, List.map_append, List.filter_cons_of_neg (p := fun i => decide (W.getD (ps.getD i 0).toNat 0 ≠ ys.getD i 0)) (by rw [decide_eq_true_eq]; exact fun e => e h)]
  simp
theorem difL_len (W : List GF) (ps : List Int) (ys : List GF) (n : Nat) : (difL W ps ys n).length ≤ n := by
  unfold difL
  rw [List.length_map]
  have := List.length_filter_le (fun i => decide (W.getD (ps.getD i 0).toNat 0 ≠ ys.getD i 0)) (List.range n)
  rwa [List.length_range] at this
theorem map_getD (m : List GF) {xs : List GF} {p : Nat} (hp : p < xs.length) : (xs.map (ev m)).getD p 0 = ev m (xs.getD p 0) := by
  rw [List.getD_eq_getElem?_getD, List.getElem?_map, List.getD_eq_getElem?_getD (l := xs), List.getElem?_eq_getElem hp]
  rfl
theorem difL_wrP {xs : List GF} {ps : List Int} (ys m : List GF) (hg : ∀ x ∈ ps, 0 ≤ x ∧ x < (xs.length : Int)) : difL (xs.map (ev m)) ps ys ps.length = wrP xs ps ys m := by
  unfold difL wrP wrI
  rw [pts_len]
  congr 1
  refine List.filter_congr fun i hi => ?_
  have hi' := List.mem_range.1 hi
  rw [pts_get xs hi', map_getD]
  have := hg (ps.getD i 0) (by rw [List.getD_eq_getElem?_getD, List.getElem?_eq_getElem hi']; exact List.getElem_mem _)
  omega
/-- What 'differ' leaves. -/
def DifPost (W : List GF) (ps : List Int) (ys : List GF) (w : World) (e : Ending) (w' : World) : Prop := ∃ v, e = .returned v ∧ RdZ w' w.heap.size v (riseI (difL W ps ys ps.length)) ∧ Go.RowKit.Below w.heap.size w w'
set_option maxRecDepth 100000 in
set_option maxHeartbeats 4000000 in
theorem differ_any (wv pv yv : Value) (W ys : List GF) (ps : List Int) (w : World) (hw : GRd w wv W) (hp : IRd w pv ps) (hy : GRd w yv ys) (hg : ∀ x ∈ ps, 0 ≤ x ∧ x < (W.length : Int)) (hyl : ps.length ≤ ys.length) (hpl : ps.length ≤ 100000) :
    Calls Tryz.prog 34 #[wv, pv, yv] w (DifPost W ps ys w) := by
  obtain ⟨aw, cw, rfl, hcw⟩ := hw.form
  obtain ⟨ap, cp, rfl⟩ := hp.form
  obtain ⟨ay, cy, rfl, hcy⟩ := hy.form
  unfold DifPost
  obtain ⟨N, hN⟩ : ∃ N, W.length = N := ⟨_, rfl⟩
  obtain ⟨Q, hQ⟩ : ∃ Q, ps.length = Q := ⟨_, rfl⟩
  obtain ⟨Y, hY⟩ : ∃ Y, ys.length = Y := ⟨_, rfl⟩
  have HN := Lib.hid hN
  have HQ := Lib.hid hQ
  have HY := Lib.hid hY
  have HG := Lib.hid hg
  rw [hN] at hw hcw ⊢
  rw [hQ] at hpl hyl hp ⊢
  rw [hY] at hyl hy ⊢
  have HW := Lib.hid hw
  have HP := Lib.hid hp
  have HYS := Lib.hid hy
  clear hw hp hy hN hQ hY hcw hcy hg
  go_enter Tryz.func34, Tryz.ntmps34
  go_wp2
  go_loopg [7, 12] Q (fun gk l i wr => ∃ (V : Value) (I : Nat), V = l ∧ I ≤ Q ∧ gk = Q - I ∧ i = .int .i64 I ∧ Hid (OwnZ wr w.heap.size V (difL W ps ys I)) ∧ Hid (Go.RowKit.Below w.heap.size w wr))
  case atStart => exact ⟨_, 0, rfl, by omega, rfl, rfl, Lib.hid (OwnZ.nil _ _), Lib.hid (Go.RowKit.Below.refl _ _)⟩
  case round =>
    obtain ⟨V, I, rfl, hI, rfl, rfl, HO, HB⟩ := hrel
    have hs := HB.out.size
    by_cases hlt : I < Q
    · obtain ⟨x, hx⟩ : ∃ x, ps[I]? = some x := ⟨_, List.getElem?_eq_getElem (by rw [HQ.out]; exact hlt)⟩
      have hxr := HG.out x (List.mem_of_getElem? hx)
      obtain ⟨p, rfl⟩ : ∃ p : Nat, x = (p : Int) := ⟨x.toNat, by omega⟩
      rw [HN.out] at hxr
      have hpN : p < N := by omega
      obtain ⟨-, -, b0, o0, rfl, hb0, -⟩ := IRd.cell HP.out hx
      have c0 := IRd.cells (HP.out.below HB.out) I p hx
      have hxd : ps.getD I 0 = (p : Int) := by rw [List.getD_eq_getElem?_getD, hx]; rfl
      obtain ⟨c, hc, hcd⟩ := at_get (l := W) (i := p) (by rw [HN.out]; exact hpN)
      obtain ⟨d, hd, hdd⟩ := at_get (l := ys) (i := I) (by rw [HY.out]; omega)
      obtain ⟨b1, o1, rfl, hb1, -⟩ := HW.out.at hc
      obtain ⟨b2, o2, rfl, hb2, -⟩ := HYS.out.at hd
      obtain ⟨_, _, e, -, c1⟩ := (HW.out.below HB.out).at hc
      cases e
      obtain ⟨_, _, e, -, c2⟩ := (HYS.out.below HB.out).at hd
      cases e
      obtain ⟨cn, hcn⟩ : ∃ t, c.n = t := ⟨_, rfl⟩
      obtain ⟨dn, hdn⟩ : ∃ t, d.n = t := ⟨_, rfl⟩
      rw [hcn] at c1
      rw [hdn] at c2
      have hiff : W.getD (ps.getD I 0).toNat 0 = ys.getD I 0 ↔ cn = dn := by
        rw [hxd, Int.toNat_natCast, hcd, hdd]
        exact ⟨fun e => by rw [← hcn, ← hdn, e], fun e => GF.ext' (by omega)⟩
      have HIF := Lib.hid hiff
      have HXD := Lib.hid hxd
      have HBD : Hid (Go.RowKit.Below w.heap.size w wr.drew) := Lib.hid HB.out.drew
      obtain ⟨kp, hkp⟩ : ∃ kp : Nat → Bool, ∀ j, kp j = true ↔ j < wr.heap.size := ⟨fun j => decide (j < wr.heap.size), by simp⟩
      have hk1 : kp b1 = true := (hkp _).2 (by omega)
      have hk2 : kp b2 = true := (hkp _).2 (by omega)
      have HKP := Lib.hid hkp
      have i0 : (0 : Int) ≤ (I : Int) ∧ (I : Int) < (Q : Int) := by omega
      have i1 : (0 : Int) ≤ (p : Int) ∧ (p : Int) < (N : Int) := by omega
      have i2 : (0 : Int) ≤ (I : Int) ∧ (I : Int) < (Y : Int) := by omega
      clear hkp hc hcd hd hdd hcn hdn hiff hx hxd hxr
      by_cases hcc : cn = dn
      · subst hcc
        have HO2 : Hid (OwnZ wr.drew w.heap.size V (difL W ps ys (I + 1))) := Lib.hid (by
          rw [difL_no (HIF.out.2 rfl)]
          exact HO.out)
        go_upto_region 5 with fail
        have hgr := fun (w0 W : World) (p : Addr) (hp : (fun j => kp j = true) p.block) => graft_cell (w0 := w0) (keep := (fun j => kp j = true)) W hp
        refine wp_region_tree (fun j => kp j = true) [] (.step 0 (.step 1 (.step 2 (.step 3 (.step 4 (.step 5 (.step 6 (.step 7 (.step 8 .done))))))))) (by kernel_rfl) (by kernel_rfl) ?_
        simp only [slimTr, slimStep, Oper.slim, List.contains_cons, List.contains_nil, Option.map_none, Option.map_some, List.getElem?_toArray, List.getElem?_cons_zero, List.getElem?_cons_succ, Option.bind_some, beq_self_eq_true, Bool.or_false, Nat.reduceBEq, Nat.reduceAdd, Nat.zero_add]
        repeat (first | (fail) | ((with_reducible refine wpSlimT_step (fun K hK => ?_)); go_simp; first | (refine hK _ _ ?_; clear hK K) | (refine ⟨by (intro kk hkk; first | (simp (disch := (simp; omega)) only [hp_drew, hp_drewN, hp_alloc, hp_set]; done) | (simp [hp_drew, hp_drewN, hp_alloc_if, hkk]; done) | fail), hK _ _ ?_⟩; clear hK K)))
        refine wpSlimT_done ?_
        clear hgr
        go_wp2
        go_roundg (Q - (I + 1))
        case measure => omega
        case rel => exact ⟨_, I + 1, rfl, by omega, rfl, by go_num, HO2, HBD⟩
      · have hne : ¬ (cn : Int) = (dn : Int) := by omega
        obtain ⟨v1, w6, hap, ho1, -, hb6, -⟩ := app_int (W := wr.drew) (p : Int) HO.out (by
          have := difL_len W ps ys I
          omega) (by simpa using HB.out.size) (ad := wr.heap.size) rfl
        have HO6 : Hid (OwnZ w6 w.heap.size v1 (difL W ps ys (I + 1))) := Lib.hid (by
          rw [difL_yes (fun e => hcc (HIF.out.1 e)), HXD.out]
          exact ho1)
        have HB6 : Hid (Go.RowKit.Below w.heap.size w w6) := Lib.hid (HBD.out.trans hb6)
        clear hcc ho1 hb6
        go_upto_region 5 with fail
        have hgr := fun (w0 W : World) (p : Addr) (hp : (fun j => kp j = true) p.block) => graft_cell (w0 := w0) (keep := (fun j => kp j = true)) W hp
        refine wp_region_tree (fun j => kp j = true) [] (.step 0 (.step 1 (.step 2 (.step 3 (.step 4 (.step 5 (.step 6 (.step 7 (.step 8 .done))))))))) (by kernel_rfl) (by kernel_rfl) ?_
        simp only [slimTr, slimStep, Oper.slim, List.contains_cons, List.contains_nil, Option.map_none, Option.map_some, List.getElem?_toArray, List.getElem?_cons_zero, List.getElem?_cons_succ, Option.bind_some, beq_self_eq_true, Bool.or_false, Nat.reduceBEq, Nat.reduceAdd, Nat.zero_add]
        repeat (first | (fail) | ((with_reducible refine wpSlimT_step (fun K hK => ?_)); go_simp; first | (refine hK _ _ ?_; clear hK K) | (refine ⟨by (intro kk hkk; first | (simp (disch := (simp; omega)) only [hp_drew, hp_drewN, hp_alloc, hp_set]; done) | (simp [hp_drew, hp_drewN, hp_alloc_if, hkk]; done) | fail), hK _ _ ?_⟩; clear hK K)))
        refine wpSlimT_done ?_
        clear hgr
        go_wp2_with (at_builtin; refine wpList_append rfl _ _ _ rfl rfl rfl hap ?_)
        go_roundg (Q - (I + 1))
        case measure => omega
        case rel => exact ⟨_, I + 1, rfl, by omega, rfl, by go_num, HO6, HB6⟩
    · obtain rfl : I = Q := by omega
      have HSRT := Lib.hid (sortZ_any _ _ _ wr HO.out HB.out.size (by have := difL_len W ps ys I; omega))
      go_wp2_with fail
      refine HSRT.out.mono ?_
      rintro e w5 ⟨rfl, hb5, hr5⟩
      have HFIN := Lib.hid (And.intro hr5 (HB.out.trans hb5))
      clear hb5 hr5
      go_wp2
      go_ret
      exact ⟨_, rfl, HFIN.out⟩
end Go.Proofs.YteeeocianofkfaaGreat
/- The reference's Decode of words some symbols of which are wrong. -/
namespace Go.Proofs.YteeeocianofkfaaGreat
open Go.RowKit Fld
set_option linter.unusedVariables false
set_option linter.unusedSimpArgs false

theorem rowN_succ (J : Nat) (l : Nat → Nat) : rowN (J + 1) l = rowN J l ++ [((l J : Nat) : Int)] := by simp [rowN, List.range_succ]
/-- What a word of which few symbols are wrong is answered with. -/
def WeAns (B : Nat) (xs : List GF) (k : Nat) (ps : List Int) (ys : List GF) (t : Int) (e : Ending) (w' : World) : Prop :=
  (¬ (GoodP xs.length ps ∧ ps.length = ys.length) ∨ t < 0) ∧ e = .returned (.tuple #[.slice none 0 0, .slice none 0 0, .int .i64 2]) ∨
  ((GoodP xs.length ps ∧ ps.length = ys.length) ∧ 0 ≤ t) ∧ ((ps.length : Int) < (k : Int) + 2 * t ∧ e = .returned (.tuple #[.slice none 0 0, .slice none 0 0, .int .i64 70]) ∨
    (k : Int) + 2 * t ≤ (ps.length : Int) ∧ ((∃ m v1 v2, e = .returned (.tuple #[v1, v2, .int .i64 0]) ∧ WeTells xs k ps ys t.toNat (some m) ∧ OwnG w' B v1 m ∧ RdZ w' B v2 (wrS xs ps ys m)) ∨
      e = .returned (.tuple #[.slice none 0 0, .slice none 0 0, .int .i64 80]) ∧ WeTells xs k ps ys t.toNat none))
def RWePost (xs : List GF) (k : Nat) (ps : List Int) (ys : List GF) (t : Int) (w : World) (e : Ending) (w' : World) : Prop := Below w.heap.size w w' ∧ WeAns w.heap.size xs k ps ys t e w'
theorem apart_nil (V : Value) : Apart V (Value.slice none 0 0).ownBlock.toList := fun k _ hm => by simp [Value.ownBlock] at hm
theorem rowF_map (xs m : List GF) : rowF (fun i => ev m (xs.getD i 0)) xs.length = xs.map (ev m) := by
  refine List.ext_getElem (by simp [rowF]) fun i h1 h2 => ?_
  rw [rowF_len] at h1
  simp [rowF, List.getElem?_eq_getElem h1]
set_option maxRecDepth 100000 in
set_option maxHeartbeats 2000000 in
theorem rwdec_any (xv pv yv : Value) (xs : List GF) (k : Nat) (ps : List Int) (ys : List GF) (t : Int) (w : World) (hx : GRd w xv xs) (hp : IRd w pv ps) (hy : GRd w yv ys) (hn : xs.Nodup) (hk0 : 0 < k) (hxl : xs.length ≤ 500) (hpl : ps.length ≤ 500) (hk : k ≤ 500) (ht : -9223372036854775808 ≤ t ∧ t ≤ 9223372036854775807) :
    Calls Tryz.prog 27 #[xv, .int .i64 k, pv, yv, .int .i64 t] w (RWePost xs k ps ys t w) := by
  have HPL := Lib.hid (rplaces_any xv pv yv xs ps ys w hx hp hy (by omega))
  obtain ⟨ax, cx, rfl, hcx⟩ := hx.form
  obtain ⟨ay, cy, rfl, hcy⟩ := hy.form
  obtain ⟨ap, cp, rfl⟩ := hp.form
  have HX := Lib.hid hx
  have HP := Lib.hid hp
  have HY := Lib.hid hy
  have HND := Lib.hid hn
  obtain ⟨Q, hQ⟩ : ∃ Q, ps.length = Q := ⟨_, rfl⟩
  obtain ⟨N, hN⟩ : ∃ N, xs.length = N := ⟨_, rfl⟩
  obtain ⟨Y, hY⟩ : ∃ Y, ys.length = Y := ⟨_, rfl⟩
  have HQ := Lib.hid hQ
  have HNN := Lib.hid hN
  have HYY := Lib.hid hY
  rw [hQ] at HPL HP hpl ⊢
  rw [hN] at HPL HX hxl ⊢
  rw [hY] at HPL HY ⊢
  clear hx hp hy hn hcx hcy hQ hN hY
  go_enter Tryz.func27, Tryz.ntmps27
  go_wp2_with fail
  refine HPL.out.mono ?_
  rintro e w1 ⟨b, rfl, hbi, hb1⟩
  have HB1 := Lib.hid hb1
  have HBI := Lib.hid hbi
  have hs1 := hb1.size
  clear hb1 hbi HPL
  cases b
  · go_wp2
    go_ret3
    refine ⟨HB1.out, .inl ⟨.inl fun h => ?_, rfl⟩⟩
    have := HBI.out.2 ⟨by rw [← HNN.out]; exact h.1, by rw [← HYY.out]; exact h.2⟩
    cases this
  have HGD := Lib.hid (HBI.out.1 (by trivial))
  clear HBI
  obtain rfl : Q = Y := by rw [← HQ.out]; exact HGD.out.2
  by_cases ht0 : t < 0
  · go_wp2
    go_ret3
    exact ⟨HB1.out, .inl ⟨.inr ht0, rfl⟩⟩
  obtain ⟨T, rfl⟩ : ∃ T : Nat, t = (T : Int) := ⟨t.toNat, by omega⟩
  have HGA : Hid ((GoodP xs.length ps ∧ ps.length = ys.length) ∧ (0 : Int) ≤ (T : Int)) := Lib.hid ⟨⟨by rw [HNN.out]; exact HGD.out.1, by rw [HYY.out, HQ.out]⟩, by omega⟩
  by_cases hf : (Q : Int) < (T : Int)
  · go_wp2
    go_ret3
    exact ⟨HB1.out, .inr ⟨HGA.out, .inl ⟨by rw [HQ.out]; omega, rfl⟩⟩⟩
  obtain ⟨T2, hT2⟩ : ∃ T2, 2 * T = T2 := ⟨_, rfl⟩
  obtain ⟨U, hU⟩ : ∃ U, k + T2 = U := ⟨_, rfl⟩
  have x1 : (2 : Int) * (T : Int) = (T2 : Int) := by omega
  have x2 : IntKind.i64.wrap (T2 : Int) = (T2 : Int) := IntWalk.i64_in _ (by omega)
  have x3 : (k : Int) + (T2 : Int) = (U : Int) := by omega
  have x4 : IntKind.i64.wrap (U : Int) = (U : Int) := IntWalk.i64_in _ (by omega)
  by_cases hfew : Q < U
  · have hfew' : (Q : Int) < (U : Int) := by omega
    have HF : Hid (((ps.length : Nat) : Int) < (k : Int) + 2 * (T : Int)) := Lib.hid (by rw [HQ.out]; omega)
    clear hfew hT2 hU
    go_wp2
    go_ret3
    exact ⟨HB1.out, .inr ⟨HGA.out, .inl ⟨HF.out, rfl⟩⟩⟩
  have hfew' : ¬ (Q : Int) < (U : Int) := by omega
  have HFW : Hid (k + 2 * T ≤ Q) := Lib.hid (by omega)
  have hkQ : k ≤ Q := by omega
  have HFZ : Hid ((k : Int) + 2 * (T : Int) ≤ ((ps.length : Nat) : Int)) := Lib.hid (by rw [HQ.out]; omega)
  obtain ⟨E, hE⟩ : ∃ E : (Nat → Nat) → Nat, E = fun r => Q ^ k - encE Q r k := ⟨_, rfl⟩
  have HE := Lib.hid hE
  have hTQ : T ≤ Q := by omega
  have hd1 : decide (Q < T) = false := by simp; omega
  have hd2 : decide (Q < U) = false := by simp; omega
  clear hfew hT2 hU hE ht
  go_wp2
  clear x1 x2 x3 x4 hfew' hf ht0 hd1 hd2
  go_loopg [13, 14] k (fun gk l i wr => ∃ (V : Value) (J : Nat), V = l ∧ J ≤ k ∧ gk = k - J ∧ i = .int .i64 J ∧ Hid (OwnZ wr w1.heap.size V (rowN J (fun j => j))) ∧ Hid (Below w1.heap.size w1 wr))
  case atStart => exact ⟨_, 0, rfl, by omega, rfl, rfl, Lib.hid (OwnZ.nil _ _), Lib.hid (Below.refl _ _)⟩
  case round =>
    obtain ⟨V, J, rfl, hJ, rfl, rfl, HO, HB⟩ := hrel
    have hs := HB.out.size
    by_cases hlt : J < k
    · obtain ⟨v1, w6, hap, ho1, -, hb6, -⟩ := app_int (W := wr) (J : Int) HO.out (by rw [rowN_len]; omega) (by omega) (ad := wr.heap.size) rfl
      have HO6 : Hid (OwnZ w6 w1.heap.size v1 (rowN (J + 1) (fun j => j))) := Lib.hid (by rw [rowN_succ]; exact ho1)
      have HB6 := Lib.hid (HB.out.trans hb6)
      clear ho1 hb6
      go_wp2_with (at_builtin; refine wpList_append rfl _ _ _ rfl rfl rfl hap ?_)
      go_roundg (k - (J + 1))
      case measure => omega
      case rel => exact ⟨_, J + 1, rfl, by omega, rfl, by go_num, HO6, HB6⟩
    · obtain rfl : J = k := by omega
      obtain ⟨g, capg, rfl, hg1, hg2, hgv⟩ := OwnZ.view HO.out hk0
      obtain ⟨w2, rfl⟩ : ∃ w2 : World, w2 = wr := ⟨_, rfl⟩
      have HV2 := Lib.hid hgv
      have HB2 : Hid (Below w.heap.size w w2) := Lib.hid (HB1.out.trans (HB.out.mono HB1.out.size))
      have HGG : Hid (w.heap.size ≤ g) := Lib.hid (by omega)
      clear hgv hg1 HB HO hs hlt hJ
      go_wp2
      go_loopg [15] (E (fun j => j)) (fun gk s wr => ∃ (b : Bool) (r : Nat → Nat), s = .bool b ∧ gk = cond b (E r) 0 ∧ Hid (ViewZ wr g J r) ∧ Hid (Ris J Q r) ∧ Hid (Below w.heap.size w wr) ∧ Hid (b = true → ∀ r', Ris J Q r' → Lx J r' r → FailR xs ps ys J T r') ∧ Hid (b = false → ∀ r', Ris J Q r' → FailR xs ps ys J T r'))
      case atStart => exact ⟨true, fun j => j, rfl, rfl, HV2, Lib.hid (first_ris hkQ), HB2, Lib.hid (fun _ r' h1 h2 => absurd h2 (first_none h1)), Lib.hid (fun h => by cases h)⟩
      case round =>
        clear HV2 HB2
        obtain ⟨b, r, rfl, rfl, HV, HR, HB, HT, HF⟩ := hrel
        have hsr := HB.out.size
        cases b
        · go_wp2
          go_ret3
          refine ⟨HB.out, .inr ⟨HGA.out, .inr ⟨HFZ.out, .inr ⟨rfl, ?_⟩⟩⟩⟩
          rw [Int.toNat_natCast]
          exact all_fail (by rw [HQ.out]; have := HFW.out; omega) (by rw [HQ.out]; exact HF.out (by trivial))
        obtain ⟨wo, rfl⟩ : ∃ wo : World, wo = wr := ⟨_, rfl⟩
        go_wp2
        go_loopg [16, 17, 18] J (fun gk p y i wr => ∃ (V1 V2 : Value) (I : Nat), V1 = p ∧ V2 = y ∧ I ≤ J ∧ gk = J - I ∧ i = .int .i64 I ∧ Hid (OwnZ wr wo.heap.size V1 (rowP ps r I)) ∧ Hid (OwnG wr wo.heap.size V2 (rowY ys r I)) ∧ Hid (Apart V2 V1.ownBlock.toList) ∧ Hid (Below wo.heap.size wo wr))
        case atStart => exact ⟨_, _, 0, rfl, rfl, by omega, rfl, rfl, Lib.hid (OwnZ.nil _ _), Lib.hid (OwnG.nil _ _), Lib.hid (apart_nil _), Lib.hid (Below.refl _ _)⟩
        case round =>
          obtain ⟨V1, V2, I, rfl, rfl, hI, rfl, rfl, HO1, HO2, HAP, HBR⟩ := hrel
          have hsw := HBR.out.size
          by_cases hlt : I < J
          · have hgo := HV.out.1
            have cl := ((HV.out.below HBR.out).2 I hlt).1
            have hRQ := HR.out.1 I hlt
            obtain ⟨R, hRe⟩ : ∃ R, r I = R := ⟨_, rfl⟩
            rw [hRe] at cl hRQ
            obtain ⟨x, hx⟩ : ∃ x, ps[R]? = some x := ⟨_, List.getElem?_eq_getElem (by rw [HQ.out]; exact hRQ)⟩
            obtain ⟨y, hy, hyd⟩ := at_get (l := ys) (i := R) (by rw [HYY.out]; omega)
            have hbw : Below w.heap.size w wr := HB.out.trans (HBR.out.mono HB.out.size)
            obtain ⟨-, -, b0, o0, rfl, hb0, -⟩ := IRd.cell HP.out hx
            obtain ⟨b2, o2, rfl, hb2, -⟩ := HY.out.at hy
            have c0 := IRd.cells (HP.out.below hbw) R x hx
            obtain ⟨yn, hyn⟩ : ∃ t, y.n = t := ⟨_, rfl⟩
            have hxd : ps.getD (r I) 0 = x := by rw [hRe, List.getD_eq_getElem?_getD, hx]; rfl
            obtain ⟨v1, w6, hap1, ho1, hk1, hb6, hat1⟩ := app_int (W := wr) x HO1.out (by rw [rowP_len]; omega) (by omega) (ad := wr.heap.size) rfl
            have ho1' : OwnZ w6 wo.heap.size v1 (rowP ps r (I + 1)) := by rw [rowP_succ, hxd]; exact ho1
            have ho2 : OwnG w6 wo.heap.size V2 (rowY ys r I) := OwnG.kp HO2.out hk1 HAP.out
            have hap6 : Apart V2 v1.ownBlock.toList := apart_grow HAP.out (fun kk hkk => (HO2.out.lt kk hkk).2) hat1
            have hs6 := hk1.size
            obtain ⟨v2, w7, hap2, ho3, hk2, hb7, hat2⟩ := app_row (W := w6) (f := fun j => ys.getD (r j) 0) (J := I) ho2 (by omega) (by omega) (n := yn) (by show (ys.getD (r I) 0).n = yn; rw [hRe, hyd, hyn]) (ad := w6.heap.size) rfl
            have HO1' : Hid (OwnZ w7 wo.heap.size v1 (rowP ps r (I + 1))) := Lib.hid (OwnZ.kp ho1' hk2 (apart_swap hap6))
            have HO2' : Hid (OwnG w7 wo.heap.size v2 (rowY ys r (I + 1))) := Lib.hid ho3
            have HAP' : Hid (Apart v2 v1.ownBlock.toList) := Lib.hid (apart_swap (apart_grow (apart_swap hap6) (fun kk hkk => (ho1.lt kk hkk).2) hat2))
            have hb46 := HBR.out.trans hb6
            have HB7 : Hid (Below wo.heap.size wo w7) := Lib.hid (hb46.trans hb7)
            have cl6 := ((HV.out.below hb46).2 I hlt).1
            rw [hRe] at cl6
            obtain ⟨_, _, e, -, cy⟩ := (HY.out.below (HB.out.trans (hb46.mono HB.out.size))).at hy
            cases e
            rw [hyn] at cy
            have i1 : (0 : Int) ≤ (R : Int) ∧ (R : Int) < (Q : Int) := by omega
            have i3 : (0 : Int) ≤ (I : Int) ∧ (I : Int) < (J : Int) := by omega
            clear ho1 ho1' ho2 ho3 hk1 hk2 hb6 hb7 hat1 hat2 hb46 hap6 hx hy hyd hyn hxd hRe hbw
            go_wp2_with (at_builtin; first | refine wpList_append rfl _ _ _ rfl rfl rfl hap1 ?_ | refine wpList_append rfl _ _ _ rfl rfl rfl hap2 ?_)
            go_roundg (J - (I + 1))
            case measure => omega
            case rel => exact ⟨v1, v2, I + 1, rfl, rfl, by omega, rfl, by go_num, HO1', HO2', HAP', HB7⟩
          · obtain rfl : I = J := by omega
            have hbw : Below w.heap.size w wr := HB.out.trans (HBR.out.mono HB.out.size)
            have HBW := Lib.hid hbw
            have HRG : Hid (Ris I ps.length r) := Lib.hid (by rw [HQ.out]; exact HR.out)
            have HDEC := Lib.hid (rdec_any (.slice ax N cx) V1 V2 xs I (rowP ps r I) (rowY ys r I) wr (HX.out.below hbw) HO1.out.rd HO2.out.rd HND.out (by rw [HNN.out]; omega) (by rw [rowP_len]; omega) (by omega))
            have HV3 := Lib.hid (HV.out.below HBR.out)
            clear hbw
            go_wp2_with fail
            refine HDEC.out.mono ?_
            rintro e w7 ⟨hb7, h7⟩
            obtain ⟨v, m, rfl, hov, hfit⟩ : ∃ v m, e = .returned (.tuple #[v, .int .i64 0]) ∧ OwnG w7 wr.heap.size v m ∧ Fits xs I (rowP ps r I) (rowY ys r I) m := by
              have hg := ris_good (N := xs.length) HGA.out.1.1 HRG.out
              have hl : (rowP ps r I).length = (rowY ys r I).length := by rw [rowP_len, rowY, rowF_len]
              rcases h7 with ⟨h7, -⟩ | ⟨-, ⟨h7, -⟩ | ⟨-, h7 | ⟨-, h7⟩⟩⟩
              · exact absurd hg (h7 hl)
              · rw [rowP_len] at h7; omega
              · exact h7
              · obtain ⟨m, hm⟩ := fits_ex (ys := ys) HND.out HGA.out.1.1 HRG.out
                exact absurd hm (h7 m)
            have HB7 : Hid (Below w.heap.size w w7) := Lib.hid (HBW.out.trans (hb7.mono HBW.out.size))
            have HV7 := Lib.hid (HV3.out.below hb7)
            have HOV := Lib.hid hov
            have HFIT := Lib.hid hfit
            have HBB7 := Lib.hid hb7
            have HWR := Lib.hid (rwrong_any (.slice ax N cx) v (.slice ap Q cp) (.slice ay Q cy) xs m ys I ps w7 (HX.out.below HB7.out) hov.rd (HP.out.below HB7.out) (HY.out.below HB7.out) hfit.1 (by rw [HQ.out, HYY.out]; exact Nat.le_refl _) (by rw [HNN.out]; exact hxl) (by rw [HQ.out]; omega) (by omega))
            clear hb7 hov hfit h7 HDEC HO1 HO2 HAP HBR HV3 HV HB
            go_wp2_with fail
            refine HWR.out.mono ?_
            rintro e w8 ⟨v2, rfl, hoz, hb8⟩
            rw [rowF_map, wrR_wrS ys m HGA.out.1.1] at hoz
            have hs7 := HB7.out.size
            have HB8 : Hid (Below w.heap.size w w8) := Lib.hid (HB7.out.trans (hb8.mono HB7.out.size))
            have HV8 := Lib.hid (HV7.out.below hb8)
            have HOV8 := Lib.hid (OwnG.below HOV.out hb8)
            have hzz := RdZ.of_own hoz
            obtain ⟨av, cv, rfl⟩ := hzz.rd.form
            obtain ⟨L, hL⟩ : ∃ L, (wrS xs ps ys m).length = L := ⟨_, rfl⟩
            have HL := Lib.hid hL
            have HZZ : Hid (RdZ w8 w7.heap.size (.slice av L cv) (wrS xs ps ys m)) := Lib.hid (by rw [← hL]; exact hzz)
            rw [hL]
            have hsw2 := HBW.out.size
            clear hb8 hoz hzz hL HWR HV7 HOV
            by_cases hLT : L ≤ T
            · have hLT' : (L : Int) ≤ (T : Int) := by omega
              have HLT := Lib.hid hLT
              clear hLT
              go_wp2
              go_ret3
              exact ⟨HB8.out, .inr ⟨HGA.out, .inr ⟨HFZ.out, .inl ⟨m, v, _, rfl, ⟨HFIT.out.1, by rw [HL.out, Int.toNat_natCast]; exact HLT.out⟩, HOV8.out.mono hsw2, HZZ.out.mono hs7⟩⟩⟩⟩
            · have hLT' : ¬ (L : Int) ≤ (T : Int) := by omega
              have HFAIL : Hid (FailR xs ps ys I T r) := Lib.hid (fail_one HND.out HGA.out.1.1 HRG.out HFIT.out (by rw [HL.out]; exact hLT))
              have HNX := Lib.hid (rnext_any g capg I Q r w8 HV8.out (fun j hj => HR.out.1 j hj) hkQ (by omega))
              clear hLT
              go_wp2_with fail
              refine HNX.out.mono ?_
              rintro e w9 ⟨hk9, ⟨i, hi, hgi, hti, rfl, hv9⟩ | ⟨hti, rfl, hv9⟩⟩
              · have HB9 : Hid (Below w.heap.size w w9) := Lib.hid (HB8.out.trans (hk9.below HB8.out.size (by simp; exact HGG.out)))
                have HV9 := Lib.hid hv9
                have HR9 := Lib.hid (nxt_ris HR.out hi hgi)
                have HM : Hid (E (nxt r i) < E r) := Lib.hid (by
                  rw [HE.out]
                  have h1 := encE_lx I HR.out.1 (nxt_lx (k := I) (n := Q) (l := r) hi)
                  have h2 := encE_lt I (nxt_ris HR.out hi hgi).1
                  simp only []
                  omega)
                have HT9 : Hid (∀ r', Ris I Q r' → Lx I r' (nxt r i) → FailR xs ps ys I T r') := Lib.hid fun r' h1 h2 => by
                  rcases nxt_next hi hti h1 h2 with h3 | h3
                  · exact fail_congr h3 HFAIL.out
                  · exact HT.out (by trivial) r' h1 h3
                clear hk9 hv9 HNX
                go_wp2
                go_roundg (E (nxt r i))
                case measure => exact HM.out
                case rel => exact ⟨true, nxt r i, rfl, rfl, HV9, HR9, HB9, Lib.hid (fun _ => HT9.out), Lib.hid (fun h => by cases h)⟩
              · have HB9 : Hid (Below w.heap.size w w9) := Lib.hid (HB8.out.trans (hk9.below HB8.out.size (by simp; exact HGG.out)))
                have HV9 := Lib.hid hv9
                have HM : Hid (0 < E r) := Lib.hid (by
                  rw [HE.out]
                  have h2 := encE_lt I HR.out.1
                  simp only []
                  omega)
                have HF9 : Hid (∀ r', Ris I Q r' → FailR xs ps ys I T r') := Lib.hid fun r' h1 => by
                  rcases last_next hti h1 with h3 | h3
                  · exact fail_congr h3 HFAIL.out
                  · exact HT.out (by trivial) r' h1 h3
                clear hk9 hv9 HNX
                go_wp2
                go_roundg 0
                case measure => exact HM.out
                case rel => exact ⟨false, r, rfl, rfl, HV9, HR, HB9, Lib.hid (fun h => by cases h), Lib.hid (fun _ => HF9.out)⟩
end Go.Proofs.YteeeocianofkfaaGreat
