/-
  The law ReedParts.
-/
import Derived.Test.YtpkeglpigjaccaaL7Base
import Derived.Test.YtpkeglpigjaccaaRefPlain
namespace Go.Proofs.Ytpkeglpigjaccaa
open Go.RowKit Fld
set_option linter.unusedVariables false
set_option linter.unusedSimpArgs false

theorem full_ev (M : List GF) {n : Nat} (h : M.length ≤ n) (x : GF) : ev (fullG M n) x = ev M x := by
  rw [show fullG M n = rowF (fun i => M.getD i 0) n from rfl, rowF_ev, ev_wide M h]
/-- The points that are picked are unlike. -/
theorem pick_nodup {xs : List GF} (hn : xs.Nodup) {ls : List Nat} (hr : RiseTo xs.length ls) : (rowF (fun j => xs.getD (ls.getD j 0) 0) ls.length).Nodup := by
  refine List.pairwise_map.2 (List.nodup_range.imp_of_mem fun {a b} ha hb hne e => hne ?_)
  have ha' := List.mem_range.1 ha
  have hb' := List.mem_range.1 hb
  have e1 : ls.getD a 0 = ls[a] := by rw [List.getD_eq_getElem?_getD, List.getElem?_eq_getElem ha']; rfl
  have e2 : ls.getD b 0 = ls[b] := by rw [List.getD_eq_getElem?_getD, List.getElem?_eq_getElem hb']; rfl
  rw [e1, e2] at e
  exact (List.getElem_inj hr.nodup).1 (getD_inj hn (hr.2 _ (List.getElem_mem ha')) (hr.2 _ (List.getElem_mem hb')) e)
set_option maxRecDepth 100000 in
set_option maxHeartbeats 8000000 in
theorem lparts_any (n k : Nat) (ub : Value) (B : List GF) (bs : Nat) (w : World) (hn : n < 256) (hk : k < 256) (hb : GRd w ub B) (hbs : bs < 18446744073709551616) :
    Calls Try.prog 7 #[.int .u8 n, .int .u8 k, ub, .int .u64 bs] w fun e w' => e = .returned (.bool true) ∧ Below w.heap.size w w' := by
  have HW := Lib.hid (fun W => works_any W)
  have HFN := Lib.hid (fun W => fnew_g W)
  obtain ⟨ab, cb0, rfl, hcb0⟩ := hb.form
  obtain ⟨N, hN⟩ : ∃ N : Nat, 1 + n % 20 = N := ⟨_, rfl⟩
  obtain ⟨Q, hQ⟩ : ∃ Q : Nat, 1 + k % 20 = Q := ⟨_, rfl⟩
  have en2 : (1 : Int) + (n : Int) % 20 = (N : Int) := by omega
  have ek2 : (1 : Int) + (k : Int) % 20 = (Q : Int) := by omega
  have bn : n % 20 < 20 := Nat.mod_lt _ (by omega)
  have bk : k % 20 < 20 := Nat.mod_lt _ (by omega)
  have hN1 : 1 ≤ N ∧ N ≤ 20 := by omega
  have hQ1 : 1 ≤ Q ∧ Q ≤ 20 := by omega
  have HB := Lib.hid hb
  have HBS := Lib.hid hbs
  clear hN hQ hb hbs
  go_enter Try.func7, Try.ntmps7
  go_wp2_with fail
  refine (kreed_any N Q w (by omega) (by omega) (by omega) (by omega)).mono ?_
  rintro e w1 ⟨hb1, hr⟩
  rcases hr with ⟨hQN, cb, fb, v, rfl, hcb, hfb, hc, ho⟩ | ⟨-, rfl⟩
  · have HC1 := Lib.hid hc
    have HB1 := Lib.hid hb1
    have HND := Lib.hid (pows_nodup (n := N) (by omega))
    have hf1 := hc.ok.lt
    have hcl1 := hc.lt
    have HVL : Hid (∀ b, v.ownBlock = some b → b < w1.heap.size) := Lib.hid fun b hb => (ho.lt b hb).2
    clear hc ho hb1 en2 ek2 bn bk
    go_wp2_with fail
    refine (codeK_any _ cb fb Q v _ HC1.out).mono ?_
    rintro e wk ⟨rfl, rfl⟩
    go_wp2_with fail
    refine (kfull_any _ B Q w1 (HB.out.below HB1.out) (by omega)).mono ?_
    rintro e w2 ⟨gx, rfl, hgx, hvx, hrx, hb2⟩
    have HC2 := Lib.hid (HC1.out.below hb2)
    have HB2 : Hid (Below w.heap.size w w2) := Lib.hid (HB1.out.trans (hb2.mono HB1.out.size))
    obtain ⟨M, hM⟩ : ∃ M, M = fullG B Q := ⟨_, rfl⟩
    have hml : M.length = Q := by rw [hM, fullG_len]
    rw [← hM] at hrx
    have HM2 := Lib.hid hrx
    have HML := Lib.hid hml
    have hlx := hvx.1
    have hs12 := hb2.size
    have hs01 := HB1.out.size
    clear hvx hrx hb2 HC1 HB hM hml
    go_wp2_with fail
    refine (encode_any w2 cb fb v _ (pows N) M (by rw [HML.out]; exact HC2.out) HM2.out (fun k hk hm => by simp [Value.ownBlock] at hk hm; omega) (by rw [pows_len]; omega) (by rw [pows_len]; omega) (by rw [HML.out]; omega)).mono ?_
    rintro e w3 ⟨gu, rfl, hgu, hvu, hk3, hf3⟩
    rw [pows_len] at hvu
    rw [pows_len]
    have hs23 := hk3.size
    have hlu := hvu.1
    have HC3 := Lib.hid (HC2.out.step hk3 hf3)
    have HM3 := Lib.hid (HM2.out.kp hk3 (fun k hk hm => by simp [Value.ownBlock] at hk hm; omega))
    have HU3 := Lib.hid hvu
    have HB3 : Hid (Below w.heap.size w w3) := Lib.hid (HB2.out.trans (hk3.below (by omega) (fun x hx => by simp at hx; omega)))
    clear hvu hk3 hf3 HC2 HM2 HB2
    -- the points
    have HCP := Lib.hid (codeP_any w3 cb fb Q v _ HC3.out (by rw [pows_len]; omega))
    go_wp2_with fail
    refine HCP.out.mono ?_
    rintro e w4 ⟨pv, rfl, ho4, hb4⟩
    obtain ⟨pb, pc, hpe, hpb, hpc, hpv⟩ := ho4.view (by
      intro h
      have := congrArg List.length h
      rw [pows_len] at this
      simp at this
      omega)
    rw [pows_len] at hpv hpc hpe
    subst hpe
    have HX4 := Lib.hid hpv
    have hpl4 := hpv.1
    have HXR4 := Lib.hid ho4.rd
    have HC4 := Lib.hid (HC3.out.below hb4)
    have HM4 := Lib.hid (HM3.out.below hb4)
    have HU4 := Lib.hid (HU3.out.below hb4)
    have hs34 := hb4.size
    have HB4 : Hid (Below w.heap.size w w4) := Lib.hid (HB3.out.trans (hb4.mono (by omega)))
    clear ho4 hb4 hpv HC3 HM3 HU3 HB3 HCP
    -- which of them
    have HSOME := Lib.hid (ksome_any bs N N w4 HBS.out (by omega) (by omega))
    go_wp2_with fail
    refine HSOME.out.mono ?_
    rintro e w5 ⟨V, ls, rfl, hoz, hrise, hlen, hb5⟩
    have HL5 := Lib.hid hoz.rd
    have HRISE := Lib.hid hrise
    have hs45 := hb5.size
    have HC5 := Lib.hid (HC4.out.below hb5)
    have HM5 := Lib.hid (HM4.out.below hb5)
    have HU5 := Lib.hid (HU4.out.below hb5)
    have HX5 := Lib.hid (HX4.out.below hb5)
    have HXR5 := Lib.hid (HXR4.out.below hb5)
    have HB5 : Hid (Below w.heap.size w w5) := Lib.hid (HB4.out.trans (hb5.mono (by omega)))
    obtain ⟨L, hL⟩ : ∃ L, ls.length = L := ⟨_, rfl⟩
    have hform := hoz.rd.form
    rw [intsOf_len, hL] at hform
    obtain ⟨va, vc, rfl⟩ := hform
    have HLL := Lib.hid hL
    rw [hL] at hlen
    clear hoz hrise hb5 HC4 HM4 HU4 HX4 HXR4 HB4 HSOME hL
    obtain ⟨X, hX⟩ : ∃ X : Nat → GF, X = fun j => (pows N).getD (ls.getD j 0) 0 := ⟨_, rfl⟩
    obtain ⟨Y, hY⟩ : ∃ Y : Nat → GF, Y = fun j => ev M ((pows N).getD (ls.getD j 0) 0) := ⟨_, rfl⟩
    have HXX := Lib.hid hX
    have HYY := Lib.hid hY
    clear hX hY
    go_wp2
    go_loopg [15, 16, 17] L (fun gk l y i wr => ∃ (V1 V2 : Value) (J : Nat), V1 = l ∧ V2 = y ∧ J ≤ L ∧ gk = L - J ∧ i = .int .i64 J ∧ Hid (OwnG wr w5.heap.size V1 (rowF X J)) ∧ Hid (OwnG wr w5.heap.size V2 (rowF Y J)) ∧ Hid (Apart V2 V1.ownBlock.toList) ∧ Hid (Below w5.heap.size w5 wr))
    case atStart => exact ⟨_, _, 0, rfl, rfl, by omega, rfl, rfl, Lib.hid (OwnG.nil _ _), Lib.hid (OwnG.nil _ _), Lib.hid (Apart.nil _ _ _), Lib.hid (Below.refl _ _)⟩
    case round =>
      obtain ⟨V1, V2, J, rfl, rfl, hJ, rfl, rfl, HO1, HO2, HAP, HBR⟩ := hrel
      have hsr := HBR.out.size
      by_cases hlt : J < L
      · obtain ⟨x, hx⟩ : ∃ x, ls.getD J 0 = x := ⟨_, rfl⟩
        have hlJ : ls[J]? = some x := by
          rw [List.getD_eq_getElem?_getD, List.getElem?_eq_getElem (by rw [HLL.out]; exact hlt)] at hx
          rw [List.getElem?_eq_getElem (by rw [HLL.out]; exact hlt)]
          exact congrArg some hx
        have hxN : x < N := HRISE.out.2 _ (List.mem_of_getElem? hlJ)
        have hIx : (intsOf ls)[J]? = some (x : Int) := by rw [intsOf, List.getElem?_map, hlJ]; rfl
        obtain ⟨-, -, lb, lo, hva, hlb, hcl⟩ := IRd.cell (HL5.out.below HBR.out) hIx
        subst hva
        obtain ⟨c, hc⟩ : ∃ c, (X J).n = c := ⟨_, rfl⟩
        obtain ⟨d, hd⟩ : ∃ d, (Y J).n = d := ⟨_, rfl⟩
        have hc2 := hc
        have hd2 := hd
        rw [HXX.out] at hc2
        rw [HYY.out] at hd2
        simp only [hx] at hc2 hd2
        obtain ⟨v1, w6, hap1, ho1, hk1, hb6, hat1⟩ := app_row (W := wr) HO1.out (by omega) hsr hc (ad := wr.heap.size) rfl
        have ho2 : OwnG w6 w5.heap.size V2 (rowF Y J) := HO2.out.kp hk1 HAP.out
        have hap6 : Apart V2 v1.ownBlock.toList := apart_grow HAP.out (fun kk hkk => (HO2.out.lt kk hkk).2) hat1
        have hs6 := hk1.size
        obtain ⟨v2, w7, hap2, ho3, hk2, hb7, hat2⟩ := app_row (W := w6) ho2 (by omega) (by omega) hd (ad := w6.heap.size) rfl
        have HO1' : Hid (OwnG w7 w5.heap.size v1 (rowF X (J + 1))) := Lib.hid (ho1.kp hk2 (apart_swap hap6))
        have HO2' : Hid (OwnG w7 w5.heap.size v2 (rowF Y (J + 1))) := Lib.hid ho3
        have HAP' : Hid (Apart v2 v1.ownBlock.toList) := Lib.hid (apart_swap (apart_grow (apart_swap hap6) (fun kk hkk => (ho1.lt kk hkk).2) hat2))
        have hb56 := HBR.out.trans hb6
        have HB7 : Hid (Below w5.heap.size w5 w7) := Lib.hid (hb56.trans hb7)
        have hcl6 := IRd.cells (HL5.out.below hb56) J _ hIx
        have hcx := ((HX5.out.below HBR.out).2 x hxN).1
        have hcu6 := ((HU5.out.below hb56).2 x hxN).1
        simp only [hc2] at hcx
        simp only [hd2] at hcu6
        clear ho1 ho2 ho3 hk1 hk2 hb6 hb7 hat1 hat2 hb56 hap6 hIx hlJ hc hd hc2 hd2 hx hlb
        go_wp2_with (at_builtin; first | refine wpList_append rfl _ _ _ rfl rfl rfl hap1 ?_ | refine wpList_append rfl _ _ _ rfl rfl rfl hap2 ?_)
        go_roundg (L - (J + 1))
        case measure => omega
        case rel => exact ⟨v1, v2, J + 1, rfl, rfl, by omega, rfl, by go_num, HO1', HO2', HAP', HB7⟩
      · obtain rfl : J = L := by omega
        obtain ⟨w6, rfl⟩ : ∃ w6 : World, w6 = wr := ⟨_, rfl⟩
        have hatn : (rowF X J).Nodup := by
          have := pick_nodup (pows_nodup (n := N) (by omega)) (by rw [pows_len]; exact HRISE.out)
          rwa [HLL.out, ← HXX.out] at this
        have HATN := Lib.hid hatn
        obtain ⟨a1, c1, hv1, hc1⟩ := HO1.out.form
        rw [rowF_len] at hv1
        subst hv1
        have HC6 := Lib.hid (HC5.out.below HBR.out)
        have HM6 := Lib.hid (HM5.out.below HBR.out)
        have HU6 := Lib.hid (HU5.out.below HBR.out)
        have HXR6 := Lib.hid (HXR5.out.below HBR.out)
        have HB6 : Hid (Below w.heap.size w w6) := Lib.hid (HB5.out.trans (HBR.out.mono HB5.out.size))
        have hs56 := HBR.out.size
        clear hatn HC5 HM5 HU5 HX5 HXR5 HB5 HBR HAP HL5
        go_wp2_with fail
        refine (HFN.out _).mono ?_
        rintro e w7 ⟨fc, rfl, hfc, hf7, hb7⟩
        have HC7 := Lib.hid (HC6.out.below hb7)
        have HM7 := Lib.hid (HM6.out.below hb7)
        have HU7 := Lib.hid (HU6.out.below hb7)
        have HXR7 := Lib.hid (HXR6.out.below hb7)
        have HB7 : Hid (Below w.heap.size w w7) := Lib.hid (HB6.out.trans (hb7.mono HB6.out.size))
        have HW7 := Lib.hid (HO2.out.below hb7)
        have hs67 := hb7.size
        have HNEW := Lib.hid (new_any fc _ (rowF X J) Q w7 hf7 (HO1.out.rd.below hb7) (by rw [rowF_len]; omega) (by omega))
        clear hf7 hb7 HC6 HM6 HU6 HXR6 HB6
        go_wp2_with fail
        refine (codeK_any _ cb fb Q v _ HC7.out).mono ?_
        rintro e wk ⟨rfl, rfl⟩
        go_wp2_with fail
        refine HNEW.out.mono ?_
        rintro e w8 ⟨hb8, hr8⟩
        rw [rowF_len] at hr8
        have HC8 := Lib.hid (HC7.out.below hb8)
        have HM8 := Lib.hid (HM7.out.below hb8)
        have HU8 := Lib.hid (HU7.out.below hb8)
        have HXR8 := Lib.hid (HXR7.out.below hb8)
        have HB8 : Hid (Below w.heap.size w w8) := Lib.hid (HB7.out.trans (hb8.mono HB7.out.size))
        have HW8 := Lib.hid (HW7.out.below hb8)
        have hs78 := hb8.size
        clear hb8 HNEW HC7 HM7 HU7 HXR7 HB7 HW7
        rcases hr8 with ⟨⟨-, -, hQJ⟩, cd, vd, rfl, hcd, hcd2, -⟩ | ⟨hbad, rfl⟩
        · rw [Int.toNat_natCast] at hcd2
          have HD8 := Lib.hid hcd2
          have hQJ' : (Q : Int) ≤ (J : Int) := hQJ
          clear hcd2 hQJ
          go_wp2_with fail
          refine (codeK_any _ cb fb Q v _ HC8.out).mono ?_
          rintro e wk ⟨rfl, rfl⟩
          have HEN := Lib.hid (encode_any w8 cd fc vd _ (rowF X J) M (by rw [HML.out]; exact HD8.out) HM8.out (fun k hk hm => by simp [Value.ownBlock] at hk hm; omega) (by rw [rowF_len]; omega) (by rw [rowF_len]; omega) (by rw [HML.out]; omega))
          go_wp2_with fail
          refine HEN.out.mono ?_
          rintro e w9 ⟨gd, rfl, hgd, hvd, hk9, hf9⟩
          rw [rowF_len] at hvd
          rw [rowF_len]
          have HBt : Hid (Below w.heap.size w w9) := Lib.hid (HB8.out.trans (hk9.below (by omega) (fun x hx => by simp at hx; omega)))
          have HCt := Lib.hid (HC8.out.kpS hk9 (by simp; omega) (by simp; omega) (fun b hb hm => by
            have := HVL.out b hb
            simp at hm
            omega))
          have HMt := Lib.hid (HM8.out.kp hk9 (fun k hk hm => by simp [Value.ownBlock] at hk hm; omega))
          have HUt := Lib.hid (HU8.out.kp hk9 (by simp; omega))
          have HXt := Lib.hid (HXR8.out.kp hk9 (fun k hk hm => by simp [Value.ownBlock] at hk hm; omega))
          have HWt := Lib.hid (HW8.out.kp hk9 (fun b hb hm => by
            have := HO2.out.lt b hb
            simp at hm
            omega))
          have hvd2 : View w9 gd J Y := hvd.congr fun j hj => by rw [rowF_get X hj, HXX.out, HYY.out]
          have HSA := Lib.hid (same_g _ _ _ _ w9 (hvd2.rowF (Nat.le_refl _)) HWt.out.rd)
          rw [decide_eq_true rfl] at HSA
          have hst := HBt.out.size
          have hs89 := hk9.size
          clear hvd hvd2 hk9 hf9 HEN HD8 HC8 HM8 HU8 HXR8 HB8 HW8
          go_wp2_with fail
          refine HSA.out.mono ?_
          rintro e wt ⟨rfl, rfl⟩
          by_cases hQN2 : Q = N
          · subst hQN2
            go_wp2_with fail
            refine (codeK_any _ cb fb Q v _ HCt.out).mono ?_
            rintro e wk ⟨rfl, rfl⟩
            have HBW := HBt
            go_wp2_with fail
            refine (HW.out _).mono ?_
            rintro e w20 ⟨rfl, hb20⟩
            have HB20 : Hid (Below w.heap.size w w20) := Lib.hid (HBW.out.trans (hb20.mono HBW.out.size))
            clear hb20
            go_wp2
            go_ret
            exact ⟨rfl, HB20.out⟩
          · have hQN3 : ((Q : Int) == (N : Int)) = false := by simp; omega
            go_wp2_with fail
            refine (codeK_any _ cb fb Q v _ HCt.out).mono ?_
            rintro e wk ⟨rfl, rfl⟩
            go_wp2_with fail
            refine (HFN.out _).mono ?_
            rintro e w11 ⟨fd, rfl, hfd, hf11, hb11⟩
            have HC11 := Lib.hid (HCt.out.below hb11)
            have HBW11 : Hid (Below w.heap.size w w11) := Lib.hid (HBt.out.trans (hb11.mono HBt.out.size))
            have HM11 := Lib.hid (HMt.out.below hb11)
            have HU11 := Lib.hid (HUt.out.below hb11)
            have hs11 := hb11.size
            have HNEW2 := Lib.hid (new_any fd _ (pows N) ((Q : Int) + 1) w11 hf11 (HXt.out.below hb11) (by rw [pows_len]; omega) (by omega))
            have hfd1 := hf11.lt
            clear hf11 hb11
            go_wp2_with fail
            refine (codeK_any _ cb fb Q v _ HC11.out).mono ?_
            rintro e wk ⟨rfl, rfl⟩
            go_wp2_with fail
            refine HNEW2.out.mono ?_
            rintro e w12 ⟨hb12, hr12⟩
            rw [pows_len] at hr12
            rcases hr12 with ⟨-, ce, ve, rfl, hce, hce2, -⟩ | ⟨hbad, -⟩
            · rw [show ((Q : Int) + 1).toNat = Q + 1 by omega] at hce2
              have HC12 := Lib.hid (HC11.out.below hb12)
              have HE12 := Lib.hid hce2
              have HM12 := Lib.hid (HM11.out.below hb12)
              have HU12 := Lib.hid (HU11.out.below hb12)
              have HBW12 : Hid (Below w.heap.size w w12) := Lib.hid (HBW11.out.trans (hb12.mono HBW11.out.size))
              have hs12 := hb12.size
              clear hb12 hce2 HNEW2 HC11 HM11 HU11 HBW11
              obtain ⟨R, hR⟩ : ∃ R : Nat, Q + 1 = R := ⟨_, rfl⟩
              have hRi : (Q : Int) + 1 = (R : Int) := by omega
              rw [hR] at HE12
              have HFU := Lib.hid (kfull_any _ M R w12 HM12.out (by omega))
              have HRR := Lib.hid hR
              clear hR
              go_wp2_with fail
              refine (codeK_any _ cb fb Q v _ HC12.out).mono ?_
              rintro e wk ⟨rfl, rfl⟩
              go_wp2_with fail
              refine HFU.out.mono ?_
              rintro e w13 ⟨gf, rfl, hgf, -, hrf, hb13⟩
              have HE13 := Lib.hid (HE12.out.below hb13)
              have HU13 := Lib.hid (HU12.out.below hb13)
              have HBW13 : Hid (Below w.heap.size w w13) := Lib.hid (HBW12.out.trans (hb13.mono HBW12.out.size))
              have hs13 := hb13.size
              have HEN2 := Lib.hid (encode_any w13 ce fd ve _ (pows N) (fullG M R) (by rw [fullG_len]; exact HE13.out) hrf (fun k hk hm => by simp [Value.ownBlock] at hk hm; omega) (by rw [pows_len]; omega) (by rw [pows_len]; omega) (by rw [fullG_len]; omega))
              clear hrf hb13 HFU HE12 HU12 HBW12
              go_wp2_with fail
              refine HEN2.out.mono ?_
              rintro e w14 ⟨ge, rfl, hge, hve, hk14, hf14⟩
              rw [pows_len] at hve
              rw [pows_len]
              have HBW : Hid (Below w.heap.size w w14) := Lib.hid (HBW13.out.trans (hk14.below (by omega) (fun x hx => by simp at hx; omega)))
              have HU14 : Hid (View w14 gu N (fun i => ev M ((pows N).getD i 0))) := Lib.hid (HU13.out.kp hk14 (by simp; omega))
              have hve2 : View w14 ge N (fun i => ev M ((pows N).getD i 0)) := hve.congr fun j hj => full_ev M (by rw [HML.out, ← HRR.out]; omega) _
              have HSA := Lib.hid (same_g _ _ _ _ w14 (hve2.rowF (Nat.le_refl _)) (HU14.out.rowF (Nat.le_refl _)))
              rw [decide_eq_true rfl] at HSA
              clear hve hve2 hk14 hf14 HEN2 HE13 HU13 HBW13
              go_wp2_with fail
              refine HSA.out.mono ?_
              rintro e w15 ⟨rfl, rfl⟩
              go_wp2_with fail
              refine (HW.out _).mono ?_
              rintro e w20 ⟨rfl, hb20⟩
              have HB20 : Hid (Below w.heap.size w w20) := Lib.hid (HBW.out.trans (hb20.mono HBW.out.size))
              clear hb20
              go_wp2
              go_ret
              exact ⟨rfl, HB20.out⟩
            · exact absurd ⟨HND.out, by omega, by omega⟩ hbad
        · have hQJ : ¬ (Q : Int) ≤ (J : Int) := fun h => hbad ⟨HATN.out, by omega, h⟩
          have HBt := HB8
          have HCt := HC8
          have HMt := HM8
          have HUt := HU8
          have HXt := HXR8
          clear hbad
          go_wp2_with fail
          refine (codeK_any _ cb fb Q v _ HC8.out).mono ?_
          rintro e wk ⟨rfl, rfl⟩
          by_cases hQN2 : Q = N
          · subst hQN2
            go_wp2_with fail
            refine (codeK_any _ cb fb Q v _ HCt.out).mono ?_
            rintro e wk ⟨rfl, rfl⟩
            have HBW := HBt
            go_wp2_with fail
            refine (HW.out _).mono ?_
            rintro e w20 ⟨rfl, hb20⟩
            have HB20 : Hid (Below w.heap.size w w20) := Lib.hid (HBW.out.trans (hb20.mono HBW.out.size))
            clear hb20
            go_wp2
            go_ret
            exact ⟨rfl, HB20.out⟩
          · have hQN3 : ((Q : Int) == (N : Int)) = false := by simp; omega
            go_wp2_with fail
            refine (codeK_any _ cb fb Q v _ HCt.out).mono ?_
            rintro e wk ⟨rfl, rfl⟩
            go_wp2_with fail
            refine (HFN.out _).mono ?_
            rintro e w11 ⟨fd, rfl, hfd, hf11, hb11⟩
            have HC11 := Lib.hid (HCt.out.below hb11)
            have HBW11 : Hid (Below w.heap.size w w11) := Lib.hid (HBt.out.trans (hb11.mono HBt.out.size))
            have HM11 := Lib.hid (HMt.out.below hb11)
            have HU11 := Lib.hid (HUt.out.below hb11)
            have hs11 := hb11.size
            have HNEW2 := Lib.hid (new_any fd _ (pows N) ((Q : Int) + 1) w11 hf11 (HXt.out.below hb11) (by rw [pows_len]; omega) (by omega))
            have hfd1 := hf11.lt
            clear hf11 hb11
            go_wp2_with fail
            refine (codeK_any _ cb fb Q v _ HC11.out).mono ?_
            rintro e wk ⟨rfl, rfl⟩
            go_wp2_with fail
            refine HNEW2.out.mono ?_
            rintro e w12 ⟨hb12, hr12⟩
            rw [pows_len] at hr12
            rcases hr12 with ⟨-, ce, ve, rfl, hce, hce2, -⟩ | ⟨hbad, -⟩
            · rw [show ((Q : Int) + 1).toNat = Q + 1 by omega] at hce2
              have HC12 := Lib.hid (HC11.out.below hb12)
              have HE12 := Lib.hid hce2
              have HM12 := Lib.hid (HM11.out.below hb12)
              have HU12 := Lib.hid (HU11.out.below hb12)
              have HBW12 : Hid (Below w.heap.size w w12) := Lib.hid (HBW11.out.trans (hb12.mono HBW11.out.size))
              have hs12 := hb12.size
              clear hb12 hce2 HNEW2 HC11 HM11 HU11 HBW11
              obtain ⟨R, hR⟩ : ∃ R : Nat, Q + 1 = R := ⟨_, rfl⟩
              have hRi : (Q : Int) + 1 = (R : Int) := by omega
              rw [hR] at HE12
              have HFU := Lib.hid (kfull_any _ M R w12 HM12.out (by omega))
              have HRR := Lib.hid hR
              clear hR
              go_wp2_with fail
              refine (codeK_any _ cb fb Q v _ HC12.out).mono ?_
              rintro e wk ⟨rfl, rfl⟩
              go_wp2_with fail
              refine HFU.out.mono ?_
              rintro e w13 ⟨gf, rfl, hgf, -, hrf, hb13⟩
              have HE13 := Lib.hid (HE12.out.below hb13)
              have HU13 := Lib.hid (HU12.out.below hb13)
              have HBW13 : Hid (Below w.heap.size w w13) := Lib.hid (HBW12.out.trans (hb13.mono HBW12.out.size))
              have hs13 := hb13.size
              have HEN2 := Lib.hid (encode_any w13 ce fd ve _ (pows N) (fullG M R) (by rw [fullG_len]; exact HE13.out) hrf (fun k hk hm => by simp [Value.ownBlock] at hk hm; omega) (by rw [pows_len]; omega) (by rw [pows_len]; omega) (by rw [fullG_len]; omega))
              clear hrf hb13 HFU HE12 HU12 HBW12
              go_wp2_with fail
              refine HEN2.out.mono ?_
              rintro e w14 ⟨ge, rfl, hge, hve, hk14, hf14⟩
              rw [pows_len] at hve
              rw [pows_len]
              have HBW : Hid (Below w.heap.size w w14) := Lib.hid (HBW13.out.trans (hk14.below (by omega) (fun x hx => by simp at hx; omega)))
              have HU14 : Hid (View w14 gu N (fun i => ev M ((pows N).getD i 0))) := Lib.hid (HU13.out.kp hk14 (by simp; omega))
              have hve2 : View w14 ge N (fun i => ev M ((pows N).getD i 0)) := hve.congr fun j hj => full_ev M (by rw [HML.out, ← HRR.out]; omega) _
              have HSA := Lib.hid (same_g _ _ _ _ w14 (hve2.rowF (Nat.le_refl _)) (HU14.out.rowF (Nat.le_refl _)))
              rw [decide_eq_true rfl] at HSA
              clear hve hve2 hk14 hf14 HEN2 HE13 HU13 HBW13
              go_wp2_with fail
              refine HSA.out.mono ?_
              rintro e w15 ⟨rfl, rfl⟩
              go_wp2_with fail
              refine (HW.out _).mono ?_
              rintro e w20 ⟨rfl, hb20⟩
              have HB20 : Hid (Below w.heap.size w w20) := Lib.hid (HBW.out.trans (hb20.mono HBW.out.size))
              clear hb20
              go_wp2
              go_ret
              exact ⟨rfl, HB20.out⟩
            · exact absurd ⟨HND.out, by omega, by omega⟩ hbad
  · have HBW := Lib.hid hb1
    clear hb1
    go_wp2_with fail
    refine (HW.out _).mono ?_
    rintro e w20 ⟨rfl, hb20⟩
    have HB20 : Hid (Below w.heap.size w w20) := Lib.hid (HBW.out.trans (hb20.mono HBW.out.size))
    clear hb20
    go_wp2
    go_ret
    exact ⟨rfl, HB20.out⟩
end Go.Proofs.Ytpkeglpigjaccaa
