/-
  The law ReedEncode.
-/
import Derived.Test.YtpkeglpigjaccaaGreatL7Base
import Derived.Test.YtpkeglpigjaccaaGreatRef5
namespace Go.Proofs.YtpkeglpigjaccaaGreat
open Go.RowKit Fld
set_option linter.unusedVariables false
set_option linter.unusedSimpArgs false

set_option maxRecDepth 100000 in
set_option maxHeartbeats 8000000 in
theorem lenc_any (xv mv : Value) (xs ms : List GF) (k : Int) (w : World) (hx : GRd w xv xs) (hm : GRd w mv ms) (hk : -9223372036854775808 ≤ k ∧ k ≤ 9223372036854775807) :
    Calls Tryz.prog 12 #[xv, .int .i64 k, mv] w fun e w' => e = .returned (.bool true) ∧ Below w.heap.size w w' := by
  have HW := Lib.hid (fun W => works_any W)
  have HFN := Lib.hid (fun W => fnew_g W)
  have HBW0 : Hid (Below w.heap.size w w) := Lib.hid (Below.refl _ _)
  have hx0 := hx
  have hm0 := hm
  obtain ⟨ax, capx, rfl, hcapx⟩ := hx.form
  obtain ⟨am, capm, rfl, hcapm⟩ := hm.form
  obtain ⟨N, hN⟩ : ∃ N, xs.length = N := ⟨_, rfl⟩
  obtain ⟨M, hM⟩ : ∃ M, ms.length = M := ⟨_, rfl⟩
  rw [hN] at hx hcapx ⊢
  rw [hM] at hm hcapm ⊢
  have HX := Lib.hid hx
  have HM := Lib.hid hm
  have HN := Lib.hid hN
  have HML := Lib.hid hM
  clear hx hm hN hM hx0 hm0 hcapx hcapm
  go_enter Tryz.func12, Tryz.ntmps12
  by_cases h1 : 40 < N
  · have HBW := HBW0
    go_wp2_with fail
    refine (HW.out _).mono ?_
    rintro e w20 ⟨rfl, hb20⟩
    have HB20 : Hid (Below w.heap.size w w20) := Lib.hid (HBW.out.trans (hb20.mono HBW.out.size))
    clear hb20
    go_wp2
    go_ret
    exact ⟨rfl, HB20.out⟩
  · by_cases h2 : 60 < M
    · have HBW := HBW0
      go_wp2_with fail
      refine (HW.out _).mono ?_
      rintro e w20 ⟨rfl, hb20⟩
      have HB20 : Hid (Below w.heap.size w w20) := Lib.hid (HBW.out.trans (hb20.mono HBW.out.size))
      clear hb20
      go_wp2
      go_ret
      exact ⟨rfl, HB20.out⟩
    · clear HBW0
      go_wp2_with fail
      refine (HFN.out _).mono ?_
      rintro e w1 ⟨fb, rfl, hfb, hf1, hb1⟩
      have HB1 := Lib.hid hb1
      have HNEW := Lib.hid (new_any fb _ xs k w1 hf1 (HX.out.below hb1) (by rw [HN.out]; omega) hk)
      clear hf1 hb1
      go_wp2_with fail
      refine HNEW.out.mono ?_
      rintro e w2 ⟨hb2, hr⟩
      rw [HN.out] at hr
      have HB2 : Hid (Below w.heap.size w w2) := Lib.hid (HB1.out.trans (hb2.mono HB1.out.size))
      rcases hr with ⟨⟨hnd, hk1, hk2⟩, cb, v, rfl, hcb, hc, ho⟩ | ⟨-, rfl⟩
      · obtain ⟨K, rfl⟩ : ∃ K : Nat, k = (K : Int) := ⟨k.toNat, by omega⟩
        rw [Int.toNat_natCast] at hc
        have HC2 := Lib.hid hc
        have HND := Lib.hid hnd
        have hfl2 := hc.ok.lt
        have hs2 := HB2.out.size
        obtain ⟨s, cap, w3, hcv1, hcv2, hcap, hv3, hb3⟩ := own_copy w2 (HM.out.below HB2.out)
        rw [HML.out] at hcv2 hcap hv3
        have HV3 := Lib.hid hv3
        have HB3 : Hid (Below w.heap.size w w3) := Lib.hid (HB2.out.trans (hb3.mono hs2))
        have HC3 := Lib.hid (HC2.out.below hb3)
        have hs3 := hb3.size
        have HOW3 : Hid (GRd w3 (.slice (some ⟨w2.heap.size, 0, none⟩) M cap) ms) := Lib.hid (HV3.out.list HML.out hcap)
        have hne : w2.heap.size ≠ fb := by omega
        clear hc hnd ho hb2 hv3 hb3 HNEW HB1 HC2
        by_cases hMK : M = K
        · subst hMK
          have HENC := Lib.hid (encode_any w3 cb fb v _ xs ms (by rw [HML.out]; exact HC3.out) HOW3.out (fun k hk hm => by simp [Value.ownBlock] at hk hm; omega) (by rw [HN.out]; omega) (by rw [HN.out]; omega) (by rw [HML.out]; omega))
          go_wp2_with fail
          refine HENC.out.mono ?_
          rintro e w4 ⟨g, rfl, hg, hv4, hk4, hf4⟩
          rw [HN.out] at hv4
          rw [HN.out]
          have HB4 : Hid (Below w.heap.size w w4) := Lib.hid (HB3.out.trans (hk4.below (by omega) (fun x hx => by simp at hx; omega)))
          have HA4 : Hid (GRd w4 (.slice (some ⟨g, 0, none⟩) N N) (rowF (fun i => ev ms (xs.getD i 0)) N)) := Lib.hid (hv4.rowF (Nat.le_refl _))
          have HOW4 := Lib.hid (HOW3.out.kp hk4 (fun k hk hm => by simp [Value.ownBlock] at hk hm; omega))
          have hs4 := HB4.out.size
          clear hv4 hk4 hf4 HENC HOW3 HC3 HV3
          have HREF := Lib.hid (renc_any _ _ xs ms M w4 (HX.out.below HB4.out) (HM.out.below HB4.out) (by rw [HN.out]; omega) (by rw [HML.out]; omega) hk)
          go_wp2_with fail
          refine HREF.out.mono ?_
          rintro e w5 ⟨hb5, hr5⟩
          rcases hr5 with ⟨-, v5, rfl, ho5⟩ | ⟨hbad, -⟩
          · rw [HN.out] at ho5
            have HB5 : Hid (Below w.heap.size w w5) := Lib.hid (HB4.out.trans (hb5.mono hs4))
            have HSA := Lib.hid (same_g _ _ _ _ w5 (HA4.out.below hb5) ho5.rd)
            have HSO := Lib.hid (same_g _ _ _ _ w5 (HOW4.out.below hb5) (HM.out.below HB5.out))
            rw [decide_eq_true rfl] at HSA HSO
            clear hb5 ho5
            go_wp2_with fail
            refine HSA.out.mono ?_
            rintro e w6 ⟨rfl, rfl⟩
            go_wp2_with fail
            refine HSO.out.mono ?_
            rintro e w6 ⟨rfl, rfl⟩
            have HBW := HB5
            go_wp2_with fail
            refine (HW.out _).mono ?_
            rintro e w20 ⟨rfl, hb20⟩
            have HB20 : Hid (Below w.heap.size w w20) := Lib.hid (HBW.out.trans (hb20.mono HBW.out.size))
            clear hb20
            go_wp2
            go_ret
            exact ⟨rfl, HB20.out⟩
          · exact absurd (by rw [HML.out]) hbad
        · have HENC := Lib.hid (encode_bad w3 cb fb K v _ xs ms HC3.out HOW3.out (by rw [HML.out]; exact hMK))
          go_wp2_with fail
          refine HENC.out.mono ?_
          rintro e w4 ⟨rfl, rfl⟩
          have HREF := Lib.hid (renc_any _ _ xs ms K w3 (HX.out.below HB3.out) (HM.out.below HB3.out) (by rw [HN.out]; omega) (by rw [HML.out]; omega) hk)
          go_wp2_with fail
          refine HREF.out.mono ?_
          rintro e w5 ⟨hb5, hr5⟩
          rcases hr5 with ⟨hbad, -⟩ | ⟨-, rfl⟩
          · exact absurd hbad (by rw [HML.out]; omega)
          · have HB5 : Hid (Below w.heap.size w w5) := Lib.hid (HB3.out.trans (hb5.mono HB3.out.size))
            have HSA := Lib.hid (same_g _ _ _ _ w5 (GRd.nil0 w5) (GRd.nil0 w5))
            have HSO := Lib.hid (same_g _ _ _ _ w5 (HOW3.out.below hb5) (HM.out.below HB5.out))
            rw [decide_eq_true rfl] at HSA HSO
            clear hb5
            go_wp2_with fail
            refine HSA.out.mono ?_
            rintro e w6 ⟨rfl, rfl⟩
            go_wp2_with fail
            refine HSO.out.mono ?_
            rintro e w6 ⟨rfl, rfl⟩
            have HBW := HB5
            go_wp2_with fail
            refine (HW.out _).mono ?_
            rintro e w20 ⟨rfl, hb20⟩
            have HB20 : Hid (Below w.heap.size w w20) := Lib.hid (HBW.out.trans (hb20.mono HBW.out.size))
            clear hb20
            go_wp2
            go_ret
            exact ⟨rfl, HB20.out⟩
      · have HBW := HB2
        clear hb2
        go_wp2_with fail
        refine (HW.out _).mono ?_
        rintro e w20 ⟨rfl, hb20⟩
        have HB20 : Hid (Below w.heap.size w w20) := Lib.hid (HBW.out.trans (hb20.mono HBW.out.size))
        clear hb20
        go_wp2
        go_ret
        exact ⟨rfl, HB20.out⟩
end Go.Proofs.YtpkeglpigjaccaaGreat
