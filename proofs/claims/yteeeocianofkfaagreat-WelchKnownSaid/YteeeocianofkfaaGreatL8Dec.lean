/-
  The law WelchDecode.
-/
import Derived.Test.YteeeocianofkfaaGreatWork8
import Derived.Test.YteeeocianofkfaaGreatWeEnd
namespace Go.Proofs.YteeeocianofkfaaGreat
open Go.RowKit Fld
set_option linter.unusedVariables false
set_option linter.unusedSimpArgs false

set_option maxRecDepth 100000 in
set_option maxHeartbeats 4000000 in
theorem ldec_any (xv pv yv : Value) (xs ys : List GF) (ps : List Int) (k t : Int) (w : World) (hx : GRd w xv xs) (hp : IRd w pv ps) (hy : GRd w yv ys) (hk : -9223372036854775808 ≤ k ∧ k ≤ 9223372036854775807) (ht : -9223372036854775808 ≤ t ∧ t ≤ 9223372036854775807) :
    Calls Tryz.prog 7 #[xv, .int .i64 k, pv, yv, .int .i64 t] w fun e w' => e = .returned (.bool true) ∧ Below w.heap.size w w' := by
  have HW := Lib.hid (fun W => works_any W)
  have HFN := Lib.hid (fun W => fnew_g W)
  have HBW0 : Hid (Below w.heap.size w w) := Lib.hid (Below.refl _ _)
  obtain ⟨ax, capx, rfl, hcapx⟩ := hx.form
  obtain ⟨ay, capy, rfl, hcapy⟩ := hy.form
  obtain ⟨ap, capp, rfl⟩ := hp.form
  obtain ⟨N, hN⟩ : ∃ N, xs.length = N := ⟨_, rfl⟩
  obtain ⟨Y, hY⟩ : ∃ Y, ys.length = Y := ⟨_, rfl⟩
  obtain ⟨Q, hQ⟩ : ∃ Q, ps.length = Q := ⟨_, rfl⟩
  rw [hN] at hx hcapx ⊢
  rw [hY] at hy hcapy ⊢
  rw [hQ] at hp ⊢
  have HX := Lib.hid hx
  have HY := Lib.hid hy
  have HP := Lib.hid hp
  have HN := Lib.hid hN
  have HYL := Lib.hid hY
  have HQ := Lib.hid hQ
  have HT := Lib.hid ht
  clear hx hy hp hN hY hQ hcapx hcapy ht
  go_enter Tryz.func7, Tryz.ntmps7
  by_cases h1 : 9 < N
  · have h1' : (9 : Int) < (N : Int) := by omega
    have HBW := HBW0
    go_wp2_with fail
    refine (HW.out _).mono ?_
    rintro e w20 ⟨rfl, hb20⟩
    have HB20 : Hid (Below w.heap.size w w20) := Lib.hid (HBW.out.trans (hb20.mono HBW.out.size))
    clear hb20
    go_wp2
    go_ret
    exact ⟨rfl, HB20.out⟩
  have h1' : ¬ (9 : Int) < (N : Int) := by omega
  by_cases h2 : 9 < Q
  · have h2' : (9 : Int) < (Q : Int) := by omega
    have HBW := HBW0
    go_wp2_with fail
    refine (HW.out _).mono ?_
    rintro e w20 ⟨rfl, hb20⟩
    have HB20 : Hid (Below w.heap.size w w20) := Lib.hid (HBW.out.trans (hb20.mono HBW.out.size))
    clear hb20
    go_wp2
    go_ret
    exact ⟨rfl, HB20.out⟩
  have h2' : ¬ (9 : Int) < (Q : Int) := by omega
  by_cases h3 : 9 < Y
  · have h3' : (9 : Int) < (Y : Int) := by omega
    have HBW := HBW0
    go_wp2_with fail
    refine (HW.out _).mono ?_
    rintro e w20 ⟨rfl, hb20⟩
    have HB20 : Hid (Below w.heap.size w w20) := Lib.hid (HBW.out.trans (hb20.mono HBW.out.size))
    clear hb20
    go_wp2
    go_ret
    exact ⟨rfl, HB20.out⟩
  have h3' : ¬ (9 : Int) < (Y : Int) := by omega
  clear HBW0
  go_wp2_with fail
  refine (HFN.out _).mono ?_
  rintro e w1 ⟨fb, rfl, hfb, hf1, hb1⟩
  have HB1 := Lib.hid hb1
  have HNEW := Lib.hid (new_any fb _ xs k w1 hf1 (HX.out.below hb1) (by rw [HN.out]; omega) hk)
  clear hf1 hb1
  go_wp2_with fail
  refine HNEW.out.mono ?_
  rintro e w2 ⟨hb2, hr⟩
  rw [HN.out] at hr
  have HB2 : Hid (Below w.heap.size w w2) := Lib.hid (HB1.out.trans (hb2.mono HB1.out.size))
  rcases hr with ⟨⟨hnd, hk1, hk2⟩, cb, v, rfl, hcb, hc, ho⟩ | ⟨-, rfl⟩
  case inr =>
    have HBW := HB2
    clear hb2
    go_wp2_with fail
    refine (HW.out _).mono ?_
    rintro e w20 ⟨rfl, hb20⟩
    have HB20 : Hid (Below w.heap.size w w20) := Lib.hid (HBW.out.trans (hb20.mono HBW.out.size))
    clear hb20
    go_wp2
    go_ret
    exact ⟨rfl, HB20.out⟩
  obtain ⟨K, rfl⟩ : ∃ K : Nat, k = (K : Int) := ⟨k.toNat, by omega⟩
  rw [Int.toNat_natCast] at hc
  have HND := Lib.hid hnd
  have hfl2 := hc.ok.lt
  have hs2 := HB2.out.size
  obtain ⟨s, cap, w3, hcv1, hcv2, hcap, hv3, hb3⟩ := own_copy w2 (HY.out.below HB2.out)
  rw [HYL.out] at hcv2 hcap hv3
  have HB3 : Hid (Below w.heap.size w w3) := Lib.hid (HB2.out.trans (hb3.mono hs2))
  have hs3 := hb3.size
  have HOW3 : Hid (GRd w3 (.slice (some ⟨w2.heap.size, 0, none⟩) Y cap) ys) := Lib.hid (hv3.list HYL.out hcap)
  have hne : w2.heap.size ≠ fb := by omega
  have HC3 := Lib.hid (hc.below hb3)
  have HPA := Lib.hid (IRd.apart_in HP.out (S := [fb]) (by simpa using hfb))
  have HYA := Lib.hid (GRd.apart_in HY.out (S := [fb]) (by simpa using hfb))
  have HDEC := Lib.hid (wdec_any w3 cb fb K v (.slice ap Q capp) _ xs ps ys t HC3.out hnd (by omega) (by rw [HN.out]; omega) (by rw [HN.out]; omega) (HP.out.below HB3.out) HOW3.out HPA.out (.inr (fun k hk hm => by simp [Value.ownBlock] at hk hm; omega)) (by rw [HQ.out]; omega) (by rw [HYL.out]; omega) HT.out)
  clear hc hnd ho hb2 hv3 hb3 HNEW HB1
  go_wp2_with fail
  refine HDEC.out.mono ?_
  rintro e w4 ⟨hk4, hf4, ha4⟩
  have HB4 : Hid (Below w.heap.size w w4) := Lib.hid (HB3.out.trans (hk4.below (by omega) (fun x hx => by simp at hx; omega)))
  have HOW4 := Lib.hid (HOW3.out.kp hk4 (fun k hk hm => by simp [Value.ownBlock] at hk hm; omega))
  have HC4 := Lib.hid (HC3.out.step hk4 hf4)
  have hs4 := HB4.out.size
  have hs34 := hk4.size
  have HREF := Lib.hid (rwdec_any (.slice ax N capx) (.slice ap Q capp) (.slice ay Y capy) xs K ps ys t w4 (HX.out.below HB4.out) (HP.out.below HB4.out) (HY.out.below HB4.out) HND.out (by omega) (by rw [HN.out]; omega) (by rw [HQ.out]; omega) (by omega) HT.out)
  clear hk4 hf4 HDEC HOW3 HB3 HC3
  have hwc := we_cases ha4
  clear ha4
  rcases hwc with ⟨c, hc1, rfl⟩ | ⟨m, v1, v2, hok, rfl, ho1, hz1⟩
  · have HC1 := Lib.hid hc1
    have hc0 : ((c : Int) == 0) = false := by rcases hc1.ne with rfl | rfl | rfl <;> rfl
    clear hc1
    go_wp2_with fail
    refine HREF.out.mono ?_
    rintro e w5 ⟨hb5, ha5⟩
    obtain rfl : e = .returned (.tuple #[.slice none 0 0, .slice none 0 0, .int .i64 c]) := by
      rcases we_cases ha5 with ⟨c', hc', rfl⟩ | ⟨m, v1, v2, hok, rfl, -, -⟩
      · rw [HC1.out.one hc']
      · exact (hok.not HC1.out).elim
    have HB5 : Hid (Below w.heap.size w w5) := Lib.hid (HB4.out.trans (hb5.mono hs4))
    have HOW5 := Lib.hid (HOW4.out.below hb5)
    have HC5 := Lib.hid (HC4.out.below hb5)
    have hs45 := hb5.size
    clear hb5 ha5 HREF
    go_wp2_with fail
    refine (same_g _ _ [] [] _ (GRd.nil0 _) (GRd.nil0 _)).mono ?_
    rintro e w6 ⟨rfl, rfl⟩
    rw [decide_eq_true rfl]
    go_wp2_with fail
    refine (sameI_any _ _ [] [] _ (IRd.nil0 _) (IRd.nil0 _) (by simp) (by simp)).mono ?_
    rintro e w7 ⟨rfl, hb7⟩
    rw [decide_eq_true rfl]
    have HB7 : Hid (Below w.heap.size w w7) := Lib.hid (HB5.out.trans (hb7.mono HB5.out.size))
    have HOW7 := Lib.hid (HOW5.out.below hb7)
    have HC7 := Lib.hid (HC5.out.below hb7)
    have hs57 := hb7.size
    clear hb7
    go_wp2_with fail
    refine (same_g _ _ ys ys _ HOW7.out (HY.out.below HB7.out)).mono ?_
    rintro e w8 ⟨rfl, rfl⟩
    rw [decide_eq_true rfl]
    have HWO := Lib.hid (wword_any w7 cb fb K v (.slice ap Q capp) (.slice ay Y capy) xs ps ys t HC7.out HND.out (by omega) (by rw [HN.out]; omega) (by rw [HN.out]; omega) (HP.out.below HB7.out) (HY.out.below HB7.out) HPA.out HYA.out (by rw [HQ.out]; omega) (by rw [HYL.out]; omega) HT.out)
    go_wp2_with fail
    refine HWO.out.mono ?_
    rintro e w9 ⟨hk9, hf9, ha9⟩
    obtain rfl : e = .returned (.tuple #[.slice none 0 0, .int .i64 c]) := by
      rcases wo_cases ha9 with ⟨c', hc', rfl⟩ | ⟨m, g, hok, rfl, -, -⟩
      · rw [HC1.out.one hc']
      · exact (hok.not HC1.out).elim
    have HBW : Hid (Below w.heap.size w w9) := Lib.hid (HB7.out.trans (hk9.below (by omega) (fun x hx => by simp at hx; omega)))
    clear hk9 hf9 ha9 HWO
    go_wp2_with fail
    refine (HW.out _).mono ?_
    rintro e w20 ⟨rfl, hb20⟩
    have HB20 : Hid (Below w.heap.size w w20) := Lib.hid (HBW.out.trans (hb20.mono HBW.out.size))
    clear hb20
    go_wp2
    go_ret
    exact ⟨rfl, HB20.out⟩
  · have HOK := Lib.hid hok
    have HO1 := Lib.hid ho1
    have HZ1 := Lib.hid hz1
    clear hok ho1 hz1
    go_wp2_with fail
    refine HREF.out.mono ?_
    rintro e w5 ⟨hb5, ha5⟩
    obtain ⟨b1, b2, rfl, ho2, hz2⟩ : ∃ b1 b2, e = .returned (.tuple #[b1, b2, .int .i64 0]) ∧ OwnG w5 w4.heap.size b1 m ∧ RdZ w5 w4.heap.size b2 (wrS xs ps ys m) := by
      rcases we_cases ha5 with ⟨c', hc', rfl⟩ | ⟨m', v1', v2', hok', rfl, ho', hz'⟩
      · exact (HOK.out.not hc').elim
      · obtain rfl := HOK.out.one HND.out hok'
        exact ⟨_, _, rfl, ho', hz'⟩
    have HB5 : Hid (Below w.heap.size w w5) := Lib.hid (HB4.out.trans (hb5.mono hs4))
    have HOW5 := Lib.hid (HOW4.out.below hb5)
    have HC5 := Lib.hid (HC4.out.below hb5)
    have HO15 := Lib.hid (HO1.out.below hb5)
    have HZ15 := Lib.hid (HZ1.out.below hb5)
    have HO2 := Lib.hid ho2
    have HZ2 := Lib.hid hz2
    have hs45 := hb5.size
    clear hb5 ha5 HREF HO1 HZ1 ho2 hz2
    go_wp2_with fail
    refine (same_g _ _ m m _ HO15.out.rd HO2.out.rd).mono ?_
    rintro e w6 ⟨rfl, rfl⟩
    rw [decide_eq_true rfl]
    have hwl : (wrS xs ps ys m).length ≤ 1000000 := Nat.le_trans (wrS_le m) (by rw [HQ.out]; omega)
    go_wp2_with fail
    refine (sameI_any _ _ (wrS xs ps ys m) (wrS xs ps ys m) _ HZ15.out.rd HZ2.out.rd hwl hwl).mono ?_
    rintro e w7 ⟨rfl, hb7⟩
    rw [decide_eq_true rfl]
    have HB7 : Hid (Below w.heap.size w w7) := Lib.hid (HB5.out.trans (hb7.mono HB5.out.size))
    have HOW7 := Lib.hid (HOW5.out.below hb7)
    have HC7 := Lib.hid (HC5.out.below hb7)
    have HO27 := Lib.hid (OwnG.below HO2.out hb7)
    have hs57 := hb7.size
    clear hb7 hwl HO15 HZ15 HO2 HZ2 HOW5
    go_wp2_with fail
    refine (same_g _ _ ys ys _ HOW7.out (HY.out.below HB7.out)).mono ?_
    rintro e w8 ⟨rfl, rfl⟩
    rw [decide_eq_true rfl]
    have HWO := Lib.hid (wword_any w7 cb fb K v (.slice ap Q capp) (.slice ay Y capy) xs ps ys t HC7.out HND.out (by omega) (by rw [HN.out]; omega) (by rw [HN.out]; omega) (HP.out.below HB7.out) (HY.out.below HB7.out) HPA.out HYA.out (by rw [HQ.out]; omega) (by rw [HYL.out]; omega) HT.out)
    go_wp2_with fail
    refine HWO.out.mono ?_
    rintro e w9 ⟨hk9, hf9, ha9⟩
    obtain ⟨g, rfl, hg9, hv9⟩ : ∃ g, e = .returned (.tuple #[.slice (some ⟨g, 0, none⟩) xs.length xs.length, .int .i64 0]) ∧ w7.heap.size ≤ g ∧ View w9 g xs.length (fun i => ev m (xs.getD i 0)) := by
      rcases wo_cases ha9 with ⟨c', hc', rfl⟩ | ⟨m', g, hok', rfl, hg, hv⟩
      · exact (HOK.out.not hc').elim
      · obtain rfl := HOK.out.one HND.out hok'
        exact ⟨g, rfl, hg, hv⟩
    have HB9 : Hid (Below w.heap.size w w9) := Lib.hid (HB7.out.trans (hk9.below (by omega) (fun x hx => by simp at hx; omega)))
    have HO29 := Lib.hid (OwnG.kp HO27.out hk9 (fun c hc hm => by have := (HO27.out.lt c hc).1; simp at hm; omega))
    have HGX := Lib.hid (hv9.rowF (cap := xs.length) (Nat.le_refl _))
    have hml : m.length = K := HOK.out.2.2.1
    have HENC := Lib.hid (renc_any (.slice ax N capx) b1 xs m (K : Int) w9 (HX.out.below HB9.out) HO29.out.rd (by rw [HN.out]; omega) (by omega) (by omega))
    have HML := Lib.hid hml
    rw [HN.out]
    rw [HN.out] at HGX
    clear hk9 hf9 ha9 HWO hg9 hv9 hml HO27
    go_wp2_with fail
    refine HENC.out.mono ?_
    rintro e w10 ⟨hb10, ⟨-, v10, rfl, ho10⟩ | ⟨hne10, -⟩⟩
    case inr => exact absurd (by rw [HML.out]) hne10
    rw [HN.out] at ho10
    have HO10 := Lib.hid ho10
    have HGX10 := Lib.hid (HGX.out.below hb10)
    have HB10 : Hid (Below w.heap.size w w10) := Lib.hid (HB9.out.trans (hb10.mono HB9.out.size))
    clear hb10 ho10 HENC HGX
    go_wp2_with fail
    refine (same_g _ _ (rowF (fun i => ev m (xs.getD i 0)) N) (rowF (fun i => ev m (xs.getD i 0)) N) _ HGX10.out HO10.out.rd).mono ?_
    rintro e w11 ⟨rfl, rfl⟩
    rw [decide_eq_true rfl]
    have HBW := HB10
    go_wp2_with fail
    refine (HW.out _).mono ?_
    rintro e w20 ⟨rfl, hb20⟩
    have HB20 : Hid (Below w.heap.size w w20) := Lib.hid (HBW.out.trans (hb20.mono HBW.out.size))
    clear hb20
    go_wp2
    go_ret
    exact ⟨rfl, HB20.out⟩
end Go.Proofs.YteeeocianofkfaaGreat
