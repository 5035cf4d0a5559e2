/-
  The law ReedTight.
-/
import Derived.Test.YtpkeglpigjaccaaL7Parts
import Derived.Test.YtpkeglpigjaccaaPol2
namespace Go.Proofs.Ytpkeglpigjaccaa
open Go.RowKit Fld
set_option linter.unusedVariables false
set_option linter.unusedSimpArgs false

/-- A row of marks. -/
def Marked (w : World) (b N : Nat) (S : Nat → Bool) : Prop := b < w.heap.size ∧ ∀ j, j < N → w.cell? ⟨b, j, none⟩ = some (.bool (S j)) ∧ w.frozen? ⟨b, j, none⟩ = false
theorem Marked.kp {T : List Nat} {w w' : World} {b N : Nat} {S : Nat → Bool} (h : Marked w b N S) (hk : Kp T w w') (hn : b ∉ T) : Marked w' b N S :=
  ⟨Nat.lt_of_lt_of_le h.1 hk.size, fun j hj => ⟨(hk.cell (p := ⟨b, j, none⟩) h.1 hn).trans (h.2 j hj).1, (hk.frozen (p := ⟨b, j, none⟩) h.1 hn).trans (h.2 j hj).2⟩⟩
theorem Marked.below {w w' : World} {b N : Nat} {S : Nat → Bool} (h : Marked w b N S) (hb : Below w.heap.size w w') : Marked w' b N S := h.kp (T := []) (Kp.of_below hb) (by simp)
theorem Marked.set {w : World} {b N : Nat} {S : Nat → Bool} (h : Marked w b N S) {i : Nat} (hi : i < N) (x : Bool) {S' : Nat → Bool} (hS : ∀ j, S' j = if j = i then x else S j) : Marked (w.setCell ⟨b, i, none⟩ (.bool x)) b N S' := by
  refine ⟨by simpa [World.setCell] using h.1, fun j hj => ?_⟩
  rw [hS]
  by_cases e : j = i
  · subst e
    rw [if_pos rfl]
    exact ⟨World.cell?_setCell_same _ _ _ (h.2 j hj).1, by rw [World.frozen?_setCell]; exact (h.2 j hj).2⟩
  · rw [if_neg e]
    exact ⟨(World.cell?_setCell_other _ ⟨b, i, none⟩ ⟨b, j, none⟩ _ (by simp <;> omega)).trans (h.2 j hj).1, by rw [World.frozen?_setCell]; exact (h.2 j hj).2⟩
/-- The numbers that are among the first J. -/
def amid (ls : List Nat) (J : Nat) (j : Nat) : Bool := decide (j ∈ ls.take J)
theorem amid_succ {ls : List Nat} {J x : Nat} (h : ls[J]? = some x) (j : Nat) : amid ls (J + 1) j = if j = x then true else amid ls J j := by
  obtain ⟨hJ, hx⟩ := List.getElem?_eq_some_iff.1 h
  unfold amid
  rw [List.take_succ_eq_append_getElem hJ, hx]
  by_cases e : j = x
  · simp [e]
  · simp [e]
theorem trimd_nil {p : List GF} (h : Trimd p) (hz : ∀ c ∈ p, c = 0) : p = [] := by
  rcases h with h | h
  · exact h
  · refine Classical.byContradiction fun hne => h ?_
    have hl : 0 < p.length := List.length_pos_iff.2 hne
    rw [List.getD_eq_getElem?_getD, List.getElem?_eq_getElem (by omega)]
    exact hz _ (List.getElem_mem _)
/-- The polynomial of unlike roots is as long as they ask. -/
theorem roots_len {xs p : List GF} (hn : xs.Nodup) (hl : xs.length ≤ 254) (ht : Trimd p) (hp : p.length ≤ xs.length + 1) (he : ∀ y, ev p y = prodN (fun i => xs.getD i 0) y xs.length) : p.length = xs.length + 1 := by
  refine Classical.byContradiction fun hne => ?_
  have hz : p = [] := trimd_nil ht (roots_all hn (by omega) fun x hx => by
    rw [he, prodN_eq0]
    obtain ⟨i, hi, rfl⟩ := List.mem_iff_getElem.1 hx
    exact ⟨i, hi, by rw [List.getD_eq_getElem?_getD, List.getElem?_eq_getElem hi]; rfl⟩)
  have hall : ∀ y, y ∈ xs := fun y => by
    have := he y
    rw [hz, ev_nil] at this
    obtain ⟨i, hi, e⟩ := (prodN_eq0 _ _ _).1 this.symm
    rw [← e, List.getD_eq_getElem?_getD, List.getElem?_eq_getElem hi]
    exact List.getElem_mem _
  have := (pows_nodup (n := 255) (by omega)).length_le_of_subset (l₂ := xs) fun y _ => hall y
  rw [pows_len] at this
  omega
set_option maxRecDepth 100000 in
set_option maxHeartbeats 8000000 in
theorem ltight_any (n k bs : Nat) (w : World) (hn : n < 256) (hk : k < 256) (hbs : bs < 18446744073709551616) :
    Calls Try.prog 9 #[.int .u8 n, .int .u8 k, .int .u64 bs] w fun e w' => e = .returned (.bool true) ∧ Below w.heap.size w w' := by
  have HW := Lib.hid (fun W => works_any W)
  have HFN := Lib.hid (fun W => fnew_g W)
  obtain ⟨i0, hi, hz0, hz1, hz2⟩ := info_parts bool_info
  obtain ⟨N, hN⟩ : ∃ N : Nat, 1 + n % 20 = N := ⟨_, rfl⟩
  obtain ⟨Q, hQ⟩ : ∃ Q : Nat, 1 + k % 20 = Q := ⟨_, rfl⟩
  have en2 : (1 : Int) + (n : Int) % 20 = (N : Int) := by omega
  have ek2 : (1 : Int) + (k : Int) % 20 = (Q : Int) := by omega
  have bn : n % 20 < 20 := Nat.mod_lt _ (by omega)
  have bk : k % 20 < 20 := Nat.mod_lt _ (by omega)
  have hN1 : 1 ≤ N ∧ N ≤ 20 := by omega
  have hQ1 : 1 ≤ Q ∧ Q ≤ 20 := by omega
  have hmk : ∀ W, (Instr.makeSlice 51 (.int .i64 N) (.int .i64 N)).run Try.prog W = .ok (.slice (some ⟨W.heap.size, 0, none⟩) N N) (W.alloc (.cells (Array.replicate N (.bool false)) 4)) := fun W =>
    run_row W 51 4 i0 (.bool false) Try.underlying51 hi hz0 hz1 rfl N (by rw [hz2]; omega) (by unfold maxLen; omega)
  have HBS := Lib.hid hbs
  clear hN hQ hbs hi hz0 hz1 hz2
  go_enter Try.func9, Try.ntmps9
  go_wp2_with fail
  refine (kreed_any N Q w (by omega) (by omega) (by omega) (by omega)).mono ?_
  rintro e w1 ⟨hb1, hr⟩
  rcases hr with ⟨hQN, cb, fb, v, rfl, hcb, hfb, hc, ho⟩ | ⟨-, rfl⟩
  · have HC1 := Lib.hid hc
    have HB1 := Lib.hid hb1
    have HND := Lib.hid (pows_nodup (n := N) (by omega))
    have hf1 := hc.ok.lt
    have hcl1 := hc.lt
    have hs01 := hb1.size
    have HVL : Hid (∀ b, v.ownBlock = some b → b < w1.heap.size) := Lib.hid fun b hb => (ho.lt b hb).2
    clear hc ho hb1 en2 ek2 bn bk
    -- the points
    have HCP := Lib.hid (codeP_any w1 cb fb Q v _ HC1.out (by rw [pows_len]; omega))
    go_wp2_with fail
    refine HCP.out.mono ?_
    rintro e w2 ⟨pv, rfl, ho2, hb2⟩
    obtain ⟨pb, pc, hpe, hpb, hpc, hpv⟩ := ho2.view (by
      intro h
      have := congrArg List.length h
      rw [pows_len] at this
      simp at this
      omega)
    rw [pows_len] at hpv hpc hpe
    subst hpe
    have HX2 := Lib.hid hpv
    have hpl2 := hpv.1
    have HC2 := Lib.hid (HC1.out.below hb2)
    have hs12 := hb2.size
    have HB2 : Hid (Below w.heap.size w w2) := Lib.hid (HB1.out.trans (hb2.mono (by omega)))
    clear ho2 hb2 hpv HC1 HB1 HCP
    -- which of them
    obtain ⟨q, hq⟩ : ∃ q : Nat, (Q : Int) - 1 = (q : Int) := ⟨Q - 1, by omega⟩
    have hqQ : q + 1 = Q := by omega
    have hqw : IntKind.i64.wrap (q : Int) = (q : Int) := IntWalk.i64_in _ (by omega)
    go_wp2_with fail
    refine (codeK_any _ cb fb Q v _ HC2.out).mono ?_
    rintro e wk ⟨rfl, rfl⟩
    have HSOME := Lib.hid (ksome_any bs N q w2 HBS.out (by omega) (by omega))
    go_wp2_with fail
    refine HSOME.out.mono ?_
    rintro e w3 ⟨V, ls, rfl, hoz, hrise, hlen, hb3⟩
    have HL3 := Lib.hid hoz.rd
    have HRISE := Lib.hid hrise
    have hs23 := hb3.size
    have HC3 := Lib.hid (HC2.out.below hb3)
    have HX3 := Lib.hid (HX2.out.below hb3)
    have HB3 : Hid (Below w.heap.size w w3) := Lib.hid (HB2.out.trans (hb3.mono (by omega)))
    obtain ⟨L, hL⟩ : ∃ L, ls.length = L := ⟨_, rfl⟩
    have hform := hoz.rd.form
    rw [intsOf_len, hL] at hform
    obtain ⟨va, vc, rfl⟩ := hform
    have HLL := Lib.hid hL
    rw [hL] at hlen
    clear hoz hrise hb3 HC2 HX2 HB2 HSOME hL
    by_cases hLq : L < q
    · go_wp2_with fail
      refine (codeK_any _ cb fb Q v _ HC3.out).mono ?_
      rintro e wk ⟨rfl, rfl⟩
      have HBW := HB3
      go_wp2_with fail
      refine (HW.out _).mono ?_
      rintro e w20 ⟨rfl, hb20⟩
      have HB20 : Hid (Below w.heap.size w w20) := Lib.hid (HBW.out.trans (hb20.mono HBW.out.size))
      clear hb20
      go_wp2
      go_ret
      exact ⟨rfl, HB20.out⟩
    · obtain rfl : L = q := by omega
      clear hLq
      go_wp2_with fail
      refine (codeK_any _ cb fb Q v _ HC3.out).mono ?_
      rintro e wk ⟨rfl, rfl⟩
      obtain ⟨X, hX⟩ : ∃ X : Nat → GF, X = fun j => (pows N).getD (ls.getD j 0) 0 := ⟨_, rfl⟩
      have HXX := Lib.hid hX
      obtain ⟨w4, hw4⟩ : ∃ w4, w4 = w3.alloc (.cells (Array.replicate N (.bool false)) 4) := ⟨_, rfl⟩
      have hh : w4.heap[w3.heap.size]? = some (.cells (Array.replicate N (.bool false)) 4 (0, 0)) := by rw [hw4]; exact heap_newA _ _
      have hb4 : Below w3.heap.size w3 w4 := by rw [hw4]; exact (Below.refl _ _).alloc (Nat.le_refl _) _
      have HMK : Hid (Marked w4 w3.heap.size N (amid ls 0)) := Lib.hid ⟨lt_of_heap hh, fun j hj => ⟨by
        rw [cell_of_row _ _ _ _ _ (0, 0) hh]
        simp [hj, amid], free_of_heap hh j⟩⟩
      have HC4 := Lib.hid (HC3.out.below hb4)
      have HX4 := Lib.hid (HX3.out.below hb4)
      have HL4 := Lib.hid (HL3.out.below hb4)
      have HB4 : Hid (Below w.heap.size w w4) := Lib.hid (HB3.out.trans (hb4.mono (by omega)))
      have hs34 : w4.heap.size = w3.heap.size + 1 := by rw [hw4]; simp
      have HW4 := Lib.hid hw4
      clear hX hh hb4 hw4 HC3 HX3 HB3
      go_wp2
      rw [← HW4.out]
      go_loopg [10, 12] L (fun gk l i wr => ∃ (V1 : Value) (J : Nat), V1 = l ∧ J ≤ L ∧ gk = L - J ∧ i = .int .i64 J ∧ Hid (OwnG wr w4.heap.size V1 (rowF X J)) ∧ Hid (Marked wr w3.heap.size N (amid ls J)) ∧ Hid (Kp [w3.heap.size] w4 wr))
      case atStart => exact ⟨_, 0, rfl, by omega, rfl, rfl, Lib.hid (OwnG.nil _ _), HMK, Lib.hid (Kp.refl _ _)⟩
      case round =>
        clear HMK HW4
        obtain ⟨V1, J, rfl, hJ, rfl, rfl, HO1, HMK, HKR⟩ := hrel
        have hsr := HKR.out.size
        by_cases hlt : J < L
        · obtain ⟨x, hx⟩ : ∃ x, ls.getD J 0 = x := ⟨_, rfl⟩
          have hlJ : ls[J]? = some x := by
            rw [List.getD_eq_getElem?_getD, List.getElem?_eq_getElem (by rw [HLL.out]; exact hlt)] at hx
            rw [List.getElem?_eq_getElem (by rw [HLL.out]; exact hlt)]
            exact congrArg some hx
          have hxN : x < N := HRISE.out.2 _ (List.mem_of_getElem? hlJ)
          have hIx : (intsOf ls)[J]? = some (x : Int) := by rw [intsOf, List.getElem?_map, hlJ]; rfl
          obtain ⟨-, -, lb, lo, hva, hlb, -⟩ := IRd.cell HL3.out hIx
          subst hva
          obtain ⟨c, hc⟩ : ∃ c, (X J).n = c := ⟨_, rfl⟩
          have hc2 := hc
          rw [HXX.out] at hc2
          simp only [hx] at hc2
          obtain ⟨v1, w6, hap1, ho1, hk1, hb6, hat1⟩ := app_row (W := wr) HO1.out (by omega) hsr hc (ad := wr.heap.size) rfl
          have hown : ∀ y ∈ V1.ownBlock.toList, w4.heap.size ≤ y := fun y hy => (HO1.out.lt y (by simpa using hy)).1
          have hk46 : Kp [w3.heap.size] w4 w6 := HKR.out.step hk1 (fun y hy => .inr (hown y hy))
          have hcl := IRd.cells (IRd.kp HL4.out HKR.out (fun b hb hm => by simp [Value.ownBlock] at hb hm; omega)) J _ hIx
          have hcl6 := IRd.cells (IRd.kp HL4.out hk46 (fun b hb hm => by simp [Value.ownBlock] at hb hm; omega)) J _ hIx
          have hcx := ((HX4.out.kp HKR.out (by simp; omega)).2 x hxN).1
          simp only [hc2] at hcx
          have HM6 := HMK.out.kp hk1 (fun hm => by have := hown _ hm; omega)
          obtain ⟨c6, f6⟩ := HM6.2 x hxN
          have g6 := HM6.1
          obtain ⟨z6, hz6⟩ : ∃ z, amid ls J x = z := ⟨_, rfl⟩
          rw [hz6] at c6
          have hk67 : Kp [w3.heap.size] w6 (w6.setCell ⟨w3.heap.size, x, none⟩ (.bool true)) := (Kp.refl _ _).setCell (.inl (by simp)) _
          have HO7 : Hid (OwnG (w6.setCell ⟨w3.heap.size, x, none⟩ (.bool true)) w4.heap.size v1 (rowF X (J + 1))) := Lib.hid (ho1.kp hk67 (fun b hb hm => by
            have := (ho1.lt b hb).1
            simp at hm
            omega))
          have HM7 : Hid (Marked (w6.setCell ⟨w3.heap.size, x, none⟩ (.bool true)) w3.heap.size N (amid ls (J + 1))) := Lib.hid (HM6.set hxN true (amid_succ hlJ))
          have HK7 : Hid (Kp [w3.heap.size] w4 (w6.setCell ⟨w3.heap.size, x, none⟩ (.bool true))) := Lib.hid (hk46.trans hk67)
          clear ho1 hk1 hb6 hat1 hown hk46 hk67 HM6 hIx hlJ hc hc2 hx hz6
          go_wp2_with (at_builtin; refine wpList_append rfl _ _ _ rfl rfl rfl hap1 ?_)
          go_roundg (L - (J + 1))
          case measure => omega
          case rel => exact ⟨v1, J + 1, rfl, by omega, rfl, by go_num, HO7, HM7, HK7⟩
        · obtain rfl : J = L := by omega
          obtain ⟨w5, rfl⟩ : ∃ w5 : World, w5 = wr := ⟨_, rfl⟩
          have hatn : (rowF X J).Nodup := by
            have := pick_nodup (pows_nodup (n := N) (by omega)) (by rw [pows_len]; exact HRISE.out)
            rwa [HLL.out, ← HXX.out] at this
          have HATN := Lib.hid hatn
          obtain ⟨a1, c1, hv1, hc1⟩ := HO1.out.form
          rw [rowF_len] at hv1
          subst hv1
          have HC5 := Lib.hid (HC4.out.kpS HKR.out (by simp; omega) (by simp; omega) (fun b hb hm => by
            have := HVL.out b hb
            simp at hm
            omega))
          have HB5 : Hid (Below w.heap.size w w5) := Lib.hid (HB4.out.trans (HKR.out.below (by omega) (fun x hx => by simp at hx; omega)))
          have hib5 := HMK.out.1
          clear hatn HC4 HX4 HL4 HL3 HB4 HKR
          go_wp2_with fail
          refine (HFN.out _).mono ?_
          rintro e w6 ⟨fc, rfl, hfc, hf6, hb6⟩
          have HC6 := Lib.hid (HC5.out.below hb6)
          have HM6 := Lib.hid (HMK.out.below hb6)
          have HB6 : Hid (Below w.heap.size w w6) := Lib.hid (HB5.out.trans (hb6.mono HB5.out.size))
          have hs56 := hb6.size
          have hfl6 := hf6.lt
          have HROOT := Lib.hid (proots_any fc _ (rowF X J) w6 hf6 (HO1.out.rd.below hb6) (fun b hb hm => by
            have := (HO1.out.lt b hb).2
            simp at hm
            omega) (by rw [rowF_len]; omega))
          clear hf6 hb6 HC5 HMK HB5
          go_wp2_with fail
          refine HROOT.out.mono ?_
          rintro e w7 ⟨v7, p, rfl, ho7, ht7, he7, hl7, hk7, hf7⟩
          have hpl : p.length = Q := by
            have := roots_len HATN.out (by rw [rowF_len]; omega) ht7 hl7 he7
            rw [rowF_len] at this
            omega
          have HC7 := Lib.hid (HC6.out.kpS hk7 (by simp; omega) (by simp; omega) (fun b hb hm => by
            have := HVL.out b hb
            simp at hm
            omega))
          have HM7 := Lib.hid (HM6.out.kp hk7 (by simp; omega))
          have HB7 : Hid (Below w.heap.size w w7) := Lib.hid (HB6.out.trans (hk7.below (by omega) (fun x hx => by simp at hx; omega)))
          have hs67 := hk7.size
          have HE7 : Hid (∀ y, ev p y = prodN (fun i => (rowF X J).getD i 0) y J) := Lib.hid (by rw [rowF_len] at he7; exact he7)
          have HEN := Lib.hid (encode_any w7 cb fb v v7 (pows N) p (by rw [hpl]; exact HC7.out) ho7.rd (fun b hb hm => by
            have := (ho7.lt b hb).1
            simp at hm
            omega) (by rw [pows_len]; omega) (by rw [pows_len]; omega) (by omega))
          clear ho7 ht7 he7 hl7 hk7 hf7 hpl HROOT HC6 HM6 HB6
          go_wp2_with fail
          refine HEN.out.mono ?_
          rintro e w8 ⟨ge, rfl, hge, hve, hk8, hf8⟩
          rw [pows_len] at hve
          rw [pows_len]
          have HM8 := Lib.hid (HM7.out.kp hk8 (by simp; omega))
          have HG8 := Lib.hid hve
          have hgl8 := hve.1
          have HB8 : Hid (Below w.heap.size w w8) := Lib.hid (HB7.out.trans (hk8.below (by omega) (fun x hx => by simp at hx; omega)))
          have hs78 := hk8.size
          have HZ : Hid (∀ j, j < N → ((ev p ((pows N).getD j 0)).n = 0 ↔ amid ls J j = true)) := Lib.hid fun j hj => by
            rw [← GF.eq0, HE7.out, prodN_eq0]
            unfold amid
            rw [decide_eq_true_eq, List.take_of_length_le (by rw [HLL.out]; exact Nat.le_refl _)]
            constructor
            · rintro ⟨i, hi, e⟩
              rw [rowF_get X hi, HXX.out] at e
              have hil : i < ls.length := by rw [HLL.out]; exact hi
              have e1 : ls.getD i 0 = ls[i] := by rw [List.getD_eq_getElem?_getD, List.getElem?_eq_getElem hil]; rfl
              have := getD_inj HND.out (by rw [pows_len]; simp only [e1]; exact HRISE.out.2 _ (List.getElem_mem hil)) (by rw [pows_len]; exact hj) e
              rw [← this, e1]
              exact List.getElem_mem hil
            · intro hm
              obtain ⟨i, hi, e⟩ := List.mem_iff_getElem.1 hm
              have hiJ : i < J := by rw [← HLL.out]; exact hi
              refine ⟨i, hiJ, ?_⟩
              rw [rowF_get X hiJ, HXX.out]
              simp only
              rw [List.getD_eq_getElem?_getD (l := ls), List.getElem?_eq_getElem hi, e]
              rfl
          clear hve hk8 hf8 HEN HC7 HM7 HB7
          go_wp2
          go_loopg [15] N (fun gk i wr => ∃ I : Nat, I ≤ N ∧ gk = N - I ∧ i = .int .i64 I ∧ Hid (Below w8.heap.size w8 wr))
          case atStart => exact ⟨0, by omega, rfl, rfl, Lib.hid (Below.refl _ _)⟩
          case round =>
            obtain ⟨I, hI, rfl, rfl, HBR⟩ := hrel
            have hsr := HBR.out.size
            by_cases hlt : I < N
            · have c1 := ((HG8.out.below HBR.out).2 I hlt).1
              have c2 := ((HM8.out.below HBR.out).2 I hlt).1
              have hz := HZ.out I hlt
              obtain ⟨y, hy⟩ : ∃ y, (ev p ((pows N).getD I 0)).n = y := ⟨_, rfl⟩
              obtain ⟨s, hs⟩ : ∃ s, amid ls J I = s := ⟨_, rfl⟩
              simp only [hy] at c1
              rw [hs] at c2
              rw [hy, hs] at hz
              obtain ⟨kp, hkp⟩ : ∃ kp : Nat → Bool, ∀ j, kp j = true ↔ j < w8.heap.size := ⟨fun j => decide (j < w8.heap.size), by simp⟩
              have hk1 : kp ge = true := (hkp _).2 (by omega)
              have hk2 : kp w3.heap.size = true := (hkp _).2 (by omega)
              have HKP := Lib.hid hkp
              have HBD : Hid (Below w8.heap.size w8 wr.drew) := Lib.hid HBR.out.drew
              clear hkp hy hs
              cases s
              · have hy0 : ((y : Int) == 0) = false := by
                  have : ¬ y = 0 := fun e => by simpa using hz.1 e
                  simp
                  omega
                clear hz
                go_upto_region 21 with fail
                have hgr := fun (w0 W : World) (p : Addr) (hp : (fun j => kp j = true) p.block) => graft_cell (w0 := w0) (keep := (fun j => kp j = true)) W hp
                refine wp_region_tree (fun j => kp j = true) [] (.step 0 (.step 1 (.step 2 (.step 3 (.step 4 (.step 5 (.step 6 (.step 7 (.step 8 (.step 9 .done)))))))))) (by kernel_rfl) (by kernel_rfl) ?_
                simp only [slimTr, slimStep, Oper.slim, List.contains_cons, List.contains_nil, Option.map_none, Option.map_some, List.getElem?_toArray, List.getElem?_cons_zero, List.getElem?_cons_succ, Option.bind_some, beq_self_eq_true, Bool.or_false, Nat.reduceBEq, Nat.reduceAdd, Nat.zero_add]
                repeat (first | (fail) | ((with_reducible refine wpSlimT_step (fun K hK => ?_)); go_simp; first | (refine hK _ _ ?_; clear hK K) | (refine ⟨by (intro kk hkk; first | (simp (disch := (simp; omega)) only [hp_drew, hp_drewN, hp_alloc, hp_set]; done) | (simp [hp_drew, hp_drewN, hp_alloc_if, hkk]; done) | fail), hK _ _ ?_⟩; clear hK K)))
                refine wpSlimT_done ?_
                clear hgr
                go_wp2
                go_roundg (N - (I + 1))
                case measure => omega
                case rel => exact ⟨I + 1, by omega, rfl, by go_num, HBD⟩
              · obtain rfl : y = 0 := hz.2 rfl
                clear hz
                go_upto_region 21 with fail
                have hgr := fun (w0 W : World) (p : Addr) (hp : (fun j => kp j = true) p.block) => graft_cell (w0 := w0) (keep := (fun j => kp j = true)) W hp
                refine wp_region_tree (fun j => kp j = true) [] (.step 0 (.step 1 (.step 2 (.step 3 (.step 4 (.step 5 (.step 6 (.step 7 (.step 8 (.step 9 .done)))))))))) (by kernel_rfl) (by kernel_rfl) ?_
                simp only [slimTr, slimStep, Oper.slim, List.contains_cons, List.contains_nil, Option.map_none, Option.map_some, List.getElem?_toArray, List.getElem?_cons_zero, List.getElem?_cons_succ, Option.bind_some, beq_self_eq_true, Bool.or_false, Nat.reduceBEq, Nat.reduceAdd, Nat.zero_add]
                repeat (first | (fail) | ((with_reducible refine wpSlimT_step (fun K hK => ?_)); go_simp; first | (refine hK _ _ ?_; clear hK K) | (refine ⟨by (intro kk hkk; first | (simp (disch := (simp; omega)) only [hp_drew, hp_drewN, hp_alloc, hp_set]; done) | (simp [hp_drew, hp_drewN, hp_alloc_if, hkk]; done) | fail), hK _ _ ?_⟩; clear hK K)))
                refine wpSlimT_done ?_
                clear hgr
                go_wp2
                go_roundg (N - (I + 1))
                case measure => omega
                case rel => exact ⟨I + 1, by omega, rfl, by go_num, HBD⟩
            · obtain rfl : I = N := by omega
              have HBW : Hid (Below w.heap.size w wr) := Lib.hid (HB8.out.trans (HBR.out.mono HB8.out.size))
              go_wp2_with fail
              refine (HW.out _).mono ?_
              rintro e w20 ⟨rfl, hb20⟩
              have HB20 : Hid (Below w.heap.size w w20) := Lib.hid (HBW.out.trans (hb20.mono HBW.out.size))
              clear hb20
              go_wp2
              go_ret
              exact ⟨rfl, HB20.out⟩
  · have HBW := Lib.hid hb1
    clear hb1
    go_wp2_with fail
    refine (HW.out _).mono ?_
    rintro e w20 ⟨rfl, hb20⟩
    have HB20 : Hid (Below w.heap.size w w20) := Lib.hid (HBW.out.trans (hb20.mono HBW.out.size))
    clear hb20
    go_wp2
    go_ret
    exact ⟨rfl, HB20.out⟩
end Go.Proofs.Ytpkeglpigjaccaa
