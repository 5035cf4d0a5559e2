/-
  The law WelchTurned.
-/
import Derived.Test.YteeeocianofkfaaGreatWork8
import Derived.Test.YteeeocianofkfaaGreatWeEnd
import Derived.Test.YteeeocianofkfaaGreatMPick
import Derived.Test.YteeeocianofkfaaGreatPick
namespace Go.Proofs.YteeeocianofkfaaGreat
open Go.RowKit Fld
set_option linter.unusedVariables false
set_option linter.unusedSimpArgs false

set_option maxRecDepth 100000 in
set_option maxHeartbeats 4000000 in
theorem lturn_any (n k t : Nat) (turn : Int) (pv yv : Value) (ys : List GF) (ps : List Int) (w : World) (hn : n < 256) (hk : k < 256) (ht : t < 256) (hp : IRd w pv ps) (hy : GRd w yv ys) :
    Calls Tryz.prog 6 #[.int .u8 n, .int .u8 k, pv, yv, .int .u8 t, .int .i64 turn] w fun e w' => e = .returned (.bool true) ∧ Below w.heap.size w w' := by
  have HW := Lib.hid (fun W => works_any W)
  obtain ⟨ay, cy, rfl, hcy⟩ := hy.form
  obtain ⟨ap, cp, rfl⟩ := hp.form
  obtain ⟨Y, hY⟩ : ∃ Y, ys.length = Y := ⟨_, rfl⟩
  obtain ⟨Q, hQ⟩ : ∃ Q, ps.length = Q := ⟨_, rfl⟩
  rw [hY] at hy hcy ⊢
  rw [hQ] at hp ⊢
  have HY := Lib.hid hy
  have HP := Lib.hid hp
  have HYL := Lib.hid hY
  have HQ := Lib.hid hQ
  obtain ⟨N, hN⟩ : ∃ N : Nat, 1 + n % 12 = N := ⟨_, rfl⟩
  obtain ⟨K, hK⟩ : ∃ K : Nat, 1 + k % 12 = K := ⟨_, rfl⟩
  have en2 : (1 : Int) + (n : Int) % 12 = (N : Int) := by omega
  have ek2 : (1 : Int) + (k : Int) % 12 = (K : Int) := by omega
  have bn : n % 12 < 12 := Nat.mod_lt _ (by omega)
  have bk : k % 12 < 12 := Nat.mod_lt _ (by omega)
  have hN1 : 1 ≤ N ∧ N ≤ 12 := by omega
  have hK1 : 1 ≤ K ∧ K ≤ 12 := by omega
  clear hN hK hp hy hY hQ hcy
  go_enter Tryz.func6, Tryz.ntmps6
  go_wp2_with fail
  refine (kreed_any N K w (by omega) (by omega) (by omega) (by omega)).mono ?_
  rintro e w1 ⟨hb1, hr⟩
  rcases hr with ⟨hQN, cb, fb, v, rfl, hcb, hfb, hc, -⟩ | ⟨-, rfl⟩
  case inr =>
    have HBW := Lib.hid hb1
    clear hb1
    go_wp2_with fail
    refine (HW.out _).mono ?_
    rintro e w20 ⟨rfl, hb20⟩
    have HB20 : Hid (Below w.heap.size w w20) := Lib.hid (HBW.out.trans (hb20.mono HBW.out.size))
    clear hb20
    go_wp2
    go_ret
    exact ⟨rfl, HB20.out⟩
  have HC1 := Lib.hid hc
  have HB1 := Lib.hid hb1
  have HND := Lib.hid (pows_nodup (n := N) (by omega))
  have hf1 := hc.ok.lt
  have hs01 := hb1.size
  clear hc hb1 en2 ek2 bn bk
  by_cases h1 : 12 < Q
  · have h1' : (12 : Int) < (Q : Int) := by omega
    have HBW := HB1
    go_wp2_with fail
    refine (HW.out _).mono ?_
    rintro e w20 ⟨rfl, hb20⟩
    have HB20 : Hid (Below w.heap.size w w20) := Lib.hid (HBW.out.trans (hb20.mono HBW.out.size))
    clear hb20
    go_wp2
    go_ret
    exact ⟨rfl, HB20.out⟩
  have h1' : ¬ (12 : Int) < (Q : Int) := by omega
  by_cases h2 : ¬ Y = Q
  · have h2' : ¬ (Y : Int) = (Q : Int) := by omega
    have HBW := HB1
    clear h2
    go_wp2_with fail
    refine (HW.out _).mono ?_
    rintro e w20 ⟨rfl, hb20⟩
    have HB20 : Hid (Below w.heap.size w w20) := Lib.hid (HBW.out.trans (hb20.mono HBW.out.size))
    clear hb20
    go_wp2
    go_ret
    exact ⟨rfl, HB20.out⟩
  obtain rfl : Q = Y := by omega
  clear h2
  by_cases h3 : Q = 0
  · subst h3
    have HBW := HB1
    go_wp2_with fail
    refine (HW.out _).mono ?_
    rintro e w20 ⟨rfl, hb20⟩
    have HB20 : Hid (Below w.heap.size w w20) := Lib.hid (HBW.out.trans (hb20.mono HBW.out.size))
    clear hb20
    go_wp2
    go_ret
    exact ⟨rfl, HB20.out⟩
  have h3' : ((Q : Int) == 0) = false := by simp; omega
  have h3n : ¬ (Q : Int) = 0 := by omega
  go_wp2_with fail
  refine (pick_any turn Q w1 (by omega)).mono ?_
  rintro e wp ⟨s, rfl, hs, rfl⟩
  have hsQ : s < Q := by omega
  have HSQ := Lib.hid hsQ
  obtain ⟨σ, hσ⟩ : ∃ σ, σ = trn Q s := ⟨_, rfl⟩
  have HSG := Lib.hid hσ
  clear hs hσ h3
  go_wp2
  go_loopg [15, 16, 17] Q (fun gk l y i wr => ∃ (V1 V2 : Value) (J : Nat) (iv : Int), V1 = l ∧ V2 = y ∧ J ≤ Q ∧ gk = Q - J ∧ i = .int .i64 iv ∧ iv + J + 1 = Q ∧ Hid (OwnZ wr w1.heap.size V1 (rowP ps σ J)) ∧ Hid (OwnG wr w1.heap.size V2 (rowY ys σ J)) ∧ Hid (Apart V2 V1.ownBlock.toList) ∧ Hid (Below w1.heap.size w1 wr))
  case atStart => exact ⟨_, _, 0, (Q : Int) - 1, rfl, rfl, by omega, rfl, by go_num, by omega, Lib.hid (OwnZ.nil _ _), Lib.hid (OwnG.nil _ _), Lib.hid (apart_nil _), Lib.hid (Below.refl _ _)⟩
  case round =>
    obtain ⟨V1, V2, J, iv, rfl, rfl, hJ, rfl, rfl, hiv, HO1, HO2, HAP, HBR⟩ := hrel
    have hsr := HBR.out.size
    by_cases hlt : J < Q
    · obtain ⟨I, rfl⟩ : ∃ I : Nat, iv = (I : Int) := ⟨iv.toNat, by omega⟩
      obtain ⟨A, hA⟩ : ∃ A, I + s = A := ⟨_, rfl⟩
      obtain ⟨R, hR⟩ : ∃ R, σ J = R := ⟨_, rfl⟩
      have hRv : R = A % Q ∧ R < Q := by
        rw [HSG.out] at hR
        unfold trn at hR
        have e1 : Q - 1 - J + s = A := by omega
        rw [e1] at hR
        by_cases hAQ : A < Q
        · rw [if_pos hAQ] at hR
          rw [Nat.mod_eq_of_lt hAQ]
          omega
        · rw [if_neg hAQ] at hR
          rw [Nat.mod_eq_sub_mod (by omega), Nat.mod_eq_of_lt (by omega)]
          omega
      have x1 : (I : Int) + (s : Int) = (A : Int) := by omega
      have x2 : IntKind.i64.wrap (A : Int) = (A : Int) := IntWalk.i64_in _ (by omega)
      have x3 : (A : Int) % (Q : Int) = (R : Int) := by rw [hRv.1]; rfl
      have x4 : Int.tmod (A : Int) (Q : Int) = (R : Int) := by rw [Int.tmod_eq_emod_of_nonneg (by omega), x3]
      have x5 : IntKind.i64.wrap (R : Int) = (R : Int) := IntWalk.i64_in _ (by omega)
      have hRQ := hRv.2
      obtain ⟨x, hx⟩ : ∃ x, ps[R]? = some x := ⟨_, List.getElem?_eq_getElem (by rw [HQ.out]; exact hRQ)⟩
      obtain ⟨y, hy, hyd⟩ := at_get (l := ys) (i := R) (by rw [HYL.out]; exact hRQ)
      have hbw : Below w.heap.size w wr := HB1.out.trans (HBR.out.mono HB1.out.size)
      obtain ⟨-, -, b0, o0, rfl, hb0, -⟩ := IRd.cell HP.out hx
      obtain ⟨b2, o2, rfl, hb2, -⟩ := HY.out.at hy
      have c0 := IRd.cells (HP.out.below hbw) R x hx
      obtain ⟨yn, hyn⟩ : ∃ t, y.n = t := ⟨_, rfl⟩
      have hxd : ps.getD (σ J) 0 = x := by rw [hR, List.getD_eq_getElem?_getD, hx]; rfl
      obtain ⟨v1, w6, hap1, ho1, hk1, hb6, hat1⟩ := app_int (W := wr) x HO1.out (by rw [rowP_len]; omega) (by omega) (ad := wr.heap.size) rfl
      have ho1' : OwnZ w6 w1.heap.size v1 (rowP ps σ (J + 1)) := by rw [rowP_succ, hxd]; exact ho1
      have ho2 : OwnG w6 w1.heap.size V2 (rowY ys σ J) := OwnG.kp HO2.out hk1 HAP.out
      have hap6 : Apart V2 v1.ownBlock.toList := apart_grow HAP.out (fun kk hkk => (HO2.out.lt kk hkk).2) hat1
      have hs6 := hk1.size
      obtain ⟨v2, w7, hap2, ho3, hk2, hb7, hat2⟩ := app_row (W := w6) (f := fun j => ys.getD (σ j) 0) (J := J) ho2 (by omega) (by omega) (n := yn) (by show (ys.getD (σ J) 0).n = yn; rw [hR, hyd, hyn]) (ad := w6.heap.size) rfl
      have HO1' : Hid (OwnZ w7 w1.heap.size v1 (rowP ps σ (J + 1))) := Lib.hid (OwnZ.kp ho1' hk2 (apart_swap hap6))
      have HO2' : Hid (OwnG w7 w1.heap.size v2 (rowY ys σ (J + 1))) := Lib.hid ho3
      have HAP' : Hid (Apart v2 v1.ownBlock.toList) := Lib.hid (apart_swap (apart_grow (apart_swap hap6) (fun kk hkk => (ho1.lt kk hkk).2) hat2))
      have hb46 := HBR.out.trans hb6
      have HB7 : Hid (Below w1.heap.size w1 w7) := Lib.hid (hb46.trans hb7)
      obtain ⟨_, _, e, -, cy⟩ := (HY.out.below (HB1.out.trans (hb46.mono HB1.out.size))).at hy
      cases e
      rw [hyn] at cy
      have i1 : (0 : Int) ≤ (R : Int) ∧ (R : Int) < (Q : Int) := by omega
      have hge : (0 : Int) ≤ (I : Int) := by omega
      clear ho1 ho1' ho2 ho3 hk1 hk2 hb6 hb7 hat1 hat2 hb46 hap6 hx hy hyd hyn hxd hR hbw hRv hA
      go_wp2_with (at_builtin; first | refine wpList_append rfl _ _ _ rfl rfl rfl hap1 ?_ | refine wpList_append rfl _ _ _ rfl rfl rfl hap2 ?_)
      go_roundg (Q - (J + 1))
      case measure => omega
      case rel => exact ⟨v1, v2, J + 1, (I : Int) - 1, rfl, rfl, by omega, rfl, by go_num, by omega, HO1', HO2', HAP', HB7⟩
    · obtain rfl : J = Q := by omega
      have hneg : ¬ (0 : Int) ≤ iv := by omega
      obtain ⟨w4, rfl⟩ : ∃ w4 : World, w4 = wr := ⟨_, rfl⟩
      have HB4 : Hid (Below w.heap.size w w4) := Lib.hid (HB1.out.trans (HBR.out.mono HB1.out.size))
      have HC4 := Lib.hid (HC1.out.below HBR.out)
      have hd256 : IntKind.i64.wrap (t : Int) = (t : Int) := IntWalk.i64_in _ (by omega)
      have HPA := Lib.hid (IRd.apart_in HP.out (S := [fb]) (by simpa using hfb))
      have HYA := Lib.hid (GRd.apart_in HY.out (S := [fb]) (by simpa using hfb))
      have HDEC := Lib.hid (wdec_any w4 cb fb K v (.slice ap J cp) (.slice ay J cy) (pows N) ps ys (t : Int) HC4.out HND.out (by omega) (by rw [pows_len]; omega) (by rw [pows_len]; omega) (HP.out.below HB4.out) (HY.out.below HB4.out) HPA.out HYA.out (by rw [HQ.out]; omega) (by rw [HYL.out]; omega) (by omega))
      clear hiv hlt hJ
      go_wp2_with fail
      refine HDEC.out.mono ?_
      rintro e w5 ⟨hk5, hf5, ha5⟩
      have HC5 := Lib.hid (HC4.out.step hk5 hf5)
      have HB5 : Hid (Below w.heap.size w w5) := Lib.hid (HB4.out.trans (hk5.below HB4.out.size (fun x hx => by simp at hx; omega)))
      have HO15 := Lib.hid (OwnZ.kp HO1.out hk5 (fun c hc hm => by have := (HO1.out.lt c hc).1; simp at hm; omega))
      have HO25 := Lib.hid (OwnG.kp HO2.out hk5 (fun c hc hm => by have := (HO2.out.lt c hc).1; simp at hm; omega))
      have HA5 := Lib.hid (we_cases ha5)
      have hs45 := hk5.size
      have HDEC2 := Lib.hid (wdec_any w5 cb fb K v V1 V2 (pows N) (rowP ps σ J) (rowY ys σ J) (t : Int) HC5.out HND.out (by omega) (by rw [pows_len]; omega) (by rw [pows_len]; omega) HO15.out.rd HO25.out.rd (.inr (fun c hc hm => by have := (HO1.out.lt c hc).1; simp at hm; omega)) (.inr (fun c hc hm => by have := (HO2.out.lt c hc).1; simp at hm; omega)) (by rw [rowP_len]; omega) (by rw [rowY, rowF_len]; omega) (by omega))
      have hex : ∃ a b c, e = .returned (.tuple #[a, b, .int .i64 c]) := by
        rcases HA5.out with ⟨c, -, rfl⟩ | ⟨m, v1, v2, -, rfl, -, -⟩ <;> exact ⟨_, _, _, rfl⟩
      obtain ⟨ea, eb, ec, rfl⟩ := hex
      clear hk5 hf5 ha5 HDEC HO1 HO2 HAP
      go_wp2_with fail
      refine HDEC2.out.mono ?_
      rintro e w6 ⟨hk6, hf6, ha6⟩
      have HB6 : Hid (Below w.heap.size w w6) := Lib.hid (HB5.out.trans (hk6.below HB5.out.size (fun x hx => by simp at hx; omega)))
      have HA6 := Lib.hid (we_cases ha6)
      rcases HA5.out with ⟨c, hc, he⟩ | ⟨m, v1, v2, hok, he, ho1, hz1⟩
      · cases he
        have hc2 : WeCode (pows N) K (rowP ps σ J) (rowY ys σ J) (t : Int) ec := by
          rw [HSG.out]
          exact turn_code HQ.out HYL.out HSQ.out hc
        obtain rfl : e = .returned (.tuple #[.slice none 0 0, .slice none 0 0, .int .i64 ec]) := by
          rcases HA6.out with ⟨c', hc', rfl⟩ | ⟨m, v1, v2, hok, rfl, -, -⟩
          · rw [hc2.one hc']
          · exact (hok.not hc2).elim
        clear hk6 hf6 ha6 hc hc2 HDEC2 HA5 HA6 HO15 HO25
        go_wp2_with fail
        refine (same_g _ _ [] [] _ (GRd.nil0 _) (GRd.nil0 _)).mono ?_
        rintro e w7 ⟨rfl, rfl⟩
        rw [decide_eq_true rfl]
        go_wp2_with fail
        refine (sameI_any _ _ [] [] _ (IRd.nil0 _) (IRd.nil0 _) (by simp) (by simp)).mono ?_
        rintro e w8 ⟨rfl, hb8⟩
        rw [decide_eq_true rfl]
        have HBW : Hid (Below w.heap.size w w8) := Lib.hid (HB6.out.trans (hb8.mono HB6.out.size))
        clear hb8
        go_wp2_with fail
        refine (HW.out _).mono ?_
        rintro e w20 ⟨rfl, hb20⟩
        have HB20 : Hid (Below w.heap.size w w20) := Lib.hid (HBW.out.trans (hb20.mono HBW.out.size))
        clear hb20
        go_wp2
        go_ret
        exact ⟨rfl, HB20.out⟩
      · cases he
        have hok2 : WeOk (pows N) K (rowP ps σ J) (rowY ys σ J) (t : Int) m ∧ wrS (pows N) (rowP ps σ J) (rowY ys σ J) m = wrS (pows N) ps ys m := by
          rw [HSG.out]
          exact turn_ok HQ.out HYL.out HSQ.out hok
        obtain ⟨u1, u2, rfl, ho2, hz2⟩ : ∃ u1 u2, e = .returned (.tuple #[u1, u2, .int .i64 0]) ∧ OwnG w6 w5.heap.size u1 m ∧ RdZ w6 w5.heap.size u2 (wrS (pows N) ps ys m) := by
          rcases HA6.out with ⟨c', hc', rfl⟩ | ⟨m', v1', v2', hok', rfl, ho', hz'⟩
          · exact (hok2.1.not hc').elim
          · obtain rfl := hok2.1.one HND.out hok'
            rw [hok2.2] at hz'
            exact ⟨_, _, rfl, ho', hz'⟩
        have HO16 := Lib.hid (OwnG.kp ho1 hk6 (fun c hc hm => by have := (ho1.lt c hc).1; simp at hm; omega))
        have HZ16 := Lib.hid (hz1.kp hk6 (by simp; omega))
        have HO2 := Lib.hid ho2
        have HZ2 := Lib.hid hz2
        have hwl : (wrS (pows N) ps ys m).length ≤ 1000000 := Nat.le_trans (wrS_le m) (by rw [HQ.out]; omega)
        clear hk6 hf6 ha6 hok hok2 HDEC2 HA5 HA6 HO15 HO25 ho1 hz1 ho2 hz2
        go_wp2_with fail
        refine (same_g _ _ m m _ HO16.out.rd HO2.out.rd).mono ?_
        rintro e w7 ⟨rfl, rfl⟩
        rw [decide_eq_true rfl]
        go_wp2_with fail
        refine (sameI_any _ _ (wrS (pows N) ps ys m) (wrS (pows N) ps ys m) _ HZ16.out.rd HZ2.out.rd hwl hwl).mono ?_
        rintro e w8 ⟨rfl, hb8⟩
        rw [decide_eq_true rfl]
        have HBW : Hid (Below w.heap.size w w8) := Lib.hid (HB6.out.trans (hb8.mono HB6.out.size))
        clear hb8 hwl
        go_wp2_with fail
        refine (HW.out _).mono ?_
        rintro e w20 ⟨rfl, hb20⟩
        have HB20 : Hid (Below w.heap.size w w20) := Lib.hid (HBW.out.trans (hb20.mono HBW.out.size))
        clear hb20
        go_wp2
        go_ret
        exact ⟨rfl, HB20.out⟩
end Go.Proofs.YteeeocianofkfaaGreat
