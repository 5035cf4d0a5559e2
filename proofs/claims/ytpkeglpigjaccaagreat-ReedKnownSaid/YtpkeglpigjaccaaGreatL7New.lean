/-
  The law ReedNew.
-/
import Derived.Test.YtpkeglpigjaccaaGreatL7Base
import Derived.Test.YtpkeglpigjaccaaGreatRef5
namespace Go.Proofs.YtpkeglpigjaccaaGreat
open Go.RowKit Fld
set_option linter.unusedVariables false
set_option linter.unusedSimpArgs false

theorem two128 : ((⟨2, by omega⟩ : GF) * (⟨128, by omega⟩ : GF)).n = 29 := by rfl
/-- A row written over with noughts, so far. -/
theorem zero_step {W : World} {ob N I : Nat} {g : Nat → GF} (h : View W ob N g) (hI : I < N) : ∃ g', View (W.setCell ⟨ob, I, none⟩ (.int .u8 0)) ob N g' := ⟨_, h.set hI 0⟩
set_option maxRecDepth 100000 in
set_option maxHeartbeats 8000000 in
theorem lnew_any (xv : Value) (xs : List GF) (k : Int) (w : World) (hx : GRd w xv xs) (hk : -9223372036854775808 ≤ k ∧ k ≤ 9223372036854775807) :
    Calls Tryz.prog 13 #[xv, .int .i64 k] w fun e w' => e = .returned (.bool true) ∧ Below w.heap.size w w' := by
  have HW := Lib.hid (fun W => works_any W)
  have HFN := Lib.hid (fun W => fnew_g W)
  have HBW0 : Hid (Below w.heap.size w w) := Lib.hid (Below.refl _ _)
  obtain ⟨ax, capx, rfl, hcapx⟩ := hx.form
  obtain ⟨N, hN⟩ : ∃ N, xs.length = N := ⟨_, rfl⟩
  obtain ⟨s, cap, w1, hcv1, hcv2, hcap, hv1, hb1⟩ := own_copy w hx
  rw [hN] at hx hcapx hcv1 hcv2 hcap hv1 ⊢
  have HX := Lib.hid hx
  have HN := Lib.hid hN
  have HB1 := Lib.hid hb1
  have HV1 := Lib.hid hv1
  have hol := hv1.1
  clear hx hN hcapx hb1 hv1
  go_enter Tryz.func13, Tryz.ntmps13
  by_cases h1 : 300 < N
  · have HBW := HBW0
    go_wp2_with fail
    refine (HW.out _).mono ?_
    rintro e w20 ⟨rfl, hb20⟩
    have HB20 : Hid (Below w.heap.size w w20) := Lib.hid (HBW.out.trans (hb20.mono HBW.out.size))
    clear hb20
    go_wp2
    go_ret
    exact ⟨rfl, HB20.out⟩
  · clear HBW0
    go_wp2_with fail
    refine (HFN.out _).mono ?_
    rintro e w2 ⟨fb, rfl, hfb, hf2, hb2⟩
    have HB2 : Hid (Below w.heap.size w w2) := Lib.hid (HB1.out.trans (hb2.mono HB1.out.size))
    have HV2 := Lib.hid (HV1.out.below hb2)
    have hs2 := hb2.size
    have HOW2 : Hid (GRd w2 (.slice (some ⟨w.heap.size, 0, none⟩) N cap) xs) := Lib.hid (HV2.out.list HN.out hcap)
    have HNEW := Lib.hid (new_any fb _ xs k w2 hf2 HOW2.out (by rw [HN.out]; omega) hk)
    have hfl := hf2.lt
    clear hf2 hb2 HV1 HB1
    go_wp2_with fail
    refine HNEW.out.mono ?_
    rintro e w3 ⟨hb3, hr⟩
    rw [HN.out] at hr
    have HB3 : Hid (Below w.heap.size w w3) := Lib.hid (HB2.out.trans (hb3.mono HB2.out.size))
    have HV3 := Lib.hid (HV2.out.below hb3)
    have HREF := Lib.hid (rnew_any _ xs k w3 (HX.out.below HB3.out) (by rw [HN.out]; omega))
    rw [HN.out] at HREF
    have hs3 := hb3.size
    clear hb3 HNEW HOW2 HV2 HB2
    rcases hr with ⟨hok, cb, v, rfl, hcb, hc, ho⟩ | ⟨hbad, rfl⟩
    · obtain ⟨hnd, hk1, hk2⟩ := hok
      obtain ⟨K, rfl⟩ : ∃ K : Nat, k = (K : Int) := ⟨k.toNat, by omega⟩
      rw [Int.toNat_natCast] at hc
      have HND := Lib.hid hnd
      have hvb : Apart v [w.heap.size] := fun b hb hm => by
        have := ho.lt b hb
        simp at hm
        omega
      have HVB := Lib.hid hvb
      have HVL : Hid (∀ b, v.ownBlock = some b → b < w3.heap.size) := Lib.hid fun b hb => (ho.lt b hb).2
      have HC3 := Lib.hid hc
      have hcl := hc.lt
      clear hc ho hnd hvb
      go_wp2_with fail
      refine HREF.out.mono ?_
      rintro e w4 ⟨hb4, hr4⟩
      rcases hr4 with ⟨-, rfl⟩ | ⟨hbad, -⟩
      · have HB4 : Hid (Below w.heap.size w w4) := Lib.hid (HB3.out.trans (hb4.mono HB3.out.size))
        have HV4 := Lib.hid (HV3.out.below hb4)
        have HC4 := Lib.hid (HC3.out.below hb4)
        have hs4 := hb4.size
        clear hb4 HV3 HC3 HB3 HREF
        go_wp2
        go_loopg [8] N (fun gk i wr => ∃ I : Nat, I ≤ N ∧ gk = N - I ∧ i = .int .i64 I ∧ Hid (∃ g, View wr w.heap.size N g) ∧ Hid (Kp [w.heap.size] w4 wr))
        case atStart => exact ⟨0, by omega, rfl, rfl, Lib.hid ⟨_, HV4.out⟩, Lib.hid (Kp.refl _ _)⟩
        case round =>
          obtain ⟨I, hI, rfl, rfl, HVI, HKI⟩ := hrel
          obtain ⟨g, hg⟩ := HVI.out
          by_cases hlt : I < N
          · obtain ⟨c5, f5⟩ := hg.2 I hlt
            have gg := hg.1
            obtain ⟨z, hz⟩ : ∃ z, (g I).n = z := ⟨_, rfl⟩
            rw [hz] at c5
            have HV6 : Hid (∃ g', View (wr.setCell ⟨w.heap.size, I, none⟩ (.int .u8 0)) w.heap.size N g') := Lib.hid (zero_step hg hlt)
            have HK6 : Hid (Kp [w.heap.size] w4 (wr.setCell ⟨w.heap.size, I, none⟩ (.int .u8 0))) := Lib.hid (HKI.out.setCell (.inl (by simp)) _)
            have q1 : (0 : Int) ≤ (I : Int) ∧ (I : Int) < (N : Int) := by omega
            clear hg hz
            go_wp2
            go_roundg (N - (I + 1))
            case measure => omega
            case rel => exact ⟨I + 1, by omega, rfl, by go_num, HV6, HK6⟩
          · obtain rfl : I = N := by omega
            obtain ⟨w5, rfl⟩ : ∃ w5 : World, w5 = wr := ⟨_, rfl⟩
            have HB5 : Hid (Below w.heap.size w w5) := Lib.hid (HB4.out.trans (HKI.out.below (by omega) (fun x hx => by simp at hx; omega)))
            have HC5 := Lib.hid (HC4.out.kpS HKI.out (by simp; omega) (by simp; omega) HVB.out)
            have hs5 := HKI.out.size
            have HCP := Lib.hid (codeP_any w5 cb fb K v xs HC5.out (by rw [HN.out]; omega))
            clear hg HVI HKI HV4 HC4 HB4
            go_wp2_with fail
            refine HCP.out.mono ?_
            rintro e w6 ⟨pv, rfl, ho6, hb6⟩
            have HB6 : Hid (Below w.heap.size w w6) := Lib.hid (HB5.out.trans (hb6.mono HB5.out.size))
            have HC6 := Lib.hid (HC5.out.below hb6)
            have hs6 := hb6.size
            have HSA := Lib.hid (same_g _ _ _ _ w6 ho6.rd (HX.out.below HB6.out))
            rw [decide_eq_true rfl] at HSA
            obtain ⟨pb, pc, hpe, hpb, hpc, hpv⟩ := ho6.view (by
              intro h
              have := congrArg List.length h
              rw [HN.out] at this
              simp at this
              omega)
            rw [HN.out] at hpv hpc hpe
            subst hpe
            have HPV6 := Lib.hid hpv
            clear ho6 hb6 hpv HC5 HB5 HCP
            go_wp2_with fail
            refine HSA.out.mono ?_
            rintro e w6' ⟨rfl, rfl⟩
            go_wp2_with fail
            refine (codeK_any _ cb fb K v _ HC6.out).mono ?_
            rintro e w6' ⟨rfl, rfl⟩
            go_wp2_with fail
            refine (codeF_any _ cb fb K v _ HC6.out).mono ?_
            rintro e w6' ⟨rfl, rfl⟩
            have HMU := Lib.hid (fmul_any (⟨2, by omega⟩ : GF) (⟨128, by omega⟩ : GF) fb w6 HC6.out.ok)
            unfold FPost at HMU
            rw [two128] at HMU
            go_wp2_with fail
            refine HMU.out.mono ?_
            rintro e w7 ⟨rfl, hk7, hf7⟩
            have HB7 : Hid (Below w.heap.size w w7) := Lib.hid (HB6.out.trans (hk7.below (by omega) (fun x hx => by simp at hx; omega)))
            have HC7 := Lib.hid (HC6.out.step hk7 hf7)
            have hs7 := hk7.size
            have hcl7 := HC6.out.lt
            have hfl7 := HC6.out.ok.lt
            have HVA6 := Lib.hid HC6.out.rd
            have HPV7 : Hid (View w7 pb I (fun i => xs.getD i 0)) := Lib.hid (HPV6.out.kp hk7 (by simp; omega))
            have hvp : Apart v [pb] := fun b hb hm => by
              have := HVL.out b hb
              simp at hm
              omega
            have HVP := Lib.hid hvp
            have hcb5 : cb < pb := by omega
            have hpl7 := HPV7.out.1
            clear hk7 hf7 HPV6 HC6 HB6 HMU hvp HVA6
            go_wp2
            go_loopg [11] I (fun gk i wr => ∃ J : Nat, J ≤ I ∧ gk = I - J ∧ i = .int .i64 J ∧ Hid (∃ g, View wr pb I g) ∧ Hid (Kp [pb] w7 wr))
            case atStart => exact ⟨0, by omega, rfl, rfl, Lib.hid ⟨_, HPV7.out⟩, Lib.hid (Kp.refl _ _)⟩
            case round =>
              obtain ⟨J, hJ, rfl, rfl, HVI, HKI⟩ := hrel
              obtain ⟨g, hg⟩ := HVI.out
              by_cases hlt : J < I
              · obtain ⟨c5, f5⟩ := hg.2 J hlt
                have gg := hg.1
                obtain ⟨z, hz⟩ : ∃ z, (g J).n = z := ⟨_, rfl⟩
                rw [hz] at c5
                have HV6 : Hid (∃ g', View (wr.setCell ⟨pb, J, none⟩ (.int .u8 0)) pb I g') := Lib.hid (zero_step hg hlt)
                have HK6 : Hid (Kp [pb] w7 (wr.setCell ⟨pb, J, none⟩ (.int .u8 0))) := Lib.hid (HKI.out.setCell (.inl (by simp)) _)
                have q1 : (0 : Int) ≤ (J : Int) ∧ (J : Int) < (I : Int) := by omega
                clear hg hz
                go_wp2
                go_roundg (I - (J + 1))
                case measure => omega
                case rel => exact ⟨J + 1, by omega, rfl, by go_num, HV6, HK6⟩
              · obtain rfl : J = I := by omega
                obtain ⟨w8, rfl⟩ : ∃ w8 : World, w8 = wr := ⟨_, rfl⟩
                have HB8 : Hid (Below w.heap.size w w8) := Lib.hid (HB7.out.trans (HKI.out.below (by omega) (fun x hx => by simp at hx; omega)))
                have HC8 := Lib.hid (HC7.out.kpS HKI.out (by simp; omega) (by simp; omega) HVP.out)
                have hs8 := HKI.out.size
                have HCP := Lib.hid (codeP_any w8 cb fb K v xs HC8.out (by rw [HN.out]; omega))
                clear hg HVI HKI HPV7 HC7 HB7
                go_wp2_with fail
                refine HCP.out.mono ?_
                rintro e w9 ⟨pv, rfl, ho9, hb9⟩
                have HBW : Hid (Below w.heap.size w w9) := Lib.hid (HB8.out.trans (hb9.mono HB8.out.size))
                have HSA := Lib.hid (same_g _ _ _ _ w9 ho9.rd (HX.out.below HBW.out))
                rw [decide_eq_true rfl] at HSA
                clear ho9 hb9 HC8 HB8 HCP
                go_wp2_with fail
                refine HSA.out.mono ?_
                rintro e w9' ⟨rfl, rfl⟩
                go_wp2_with fail
                refine (HW.out _).mono ?_
                rintro e w20 ⟨rfl, hb20⟩
                have HB20 : Hid (Below w.heap.size w w20) := Lib.hid (HBW.out.trans (hb20.mono HBW.out.size))
                clear hb20
                go_wp2
                go_ret
                exact ⟨rfl, HB20.out⟩
      · exact absurd ⟨HND.out, hk1, hk2⟩ hbad
    · have HBAD := Lib.hid hbad
      clear hbad
      go_wp2_with fail
      refine HREF.out.mono ?_
      rintro e w4 ⟨hb4, hr4⟩
      rcases hr4 with ⟨hok, -⟩ | ⟨-, rfl⟩
      · exact absurd hok HBAD.out
      · have HBW : Hid (Below w.heap.size w w4) := Lib.hid (HB3.out.trans (hb4.mono HB3.out.size))
        clear hb4
        go_wp2_with fail
        refine (HW.out _).mono ?_
        rintro e w20 ⟨rfl, hb20⟩
        have HB20 : Hid (Below w.heap.size w w20) := Lib.hid (HBW.out.trans (hb20.mono HBW.out.size))
        clear hb20
        go_wp2
        go_ret
        exact ⟨rfl, HB20.out⟩
end Go.Proofs.YtpkeglpigjaccaaGreat
