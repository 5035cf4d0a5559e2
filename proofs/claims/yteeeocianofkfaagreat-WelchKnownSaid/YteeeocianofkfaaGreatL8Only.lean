/-
  The law WelchOnly.
-/
import Derived.Test.YteeeocianofkfaaGreatWork8
import Derived.Test.YteeeocianofkfaaGreatWeEnd
namespace Go.Proofs.YteeeocianofkfaaGreat
open Go.RowKit Fld
set_option linter.unusedVariables false
set_option linter.unusedSimpArgs false

set_option maxRecDepth 100000 in
set_option maxHeartbeats 4000000 in
theorem lonly_any (n k t : Nat) (pv yv : Value) (ys : List GF) (ps : List Int) (w : World) (hn : n < 256) (hk : k < 256) (ht : t < 256) (hp : IRd w pv ps) (hy : GRd w yv ys) :
    Calls Tryz.prog 4 #[.int .u8 n, .int .u8 k, pv, yv, .int .u8 t] w fun e w' => e = .returned (.bool true) ∧ Below w.heap.size w w' := by
  have HW := Lib.hid (fun W => works_any W)
  obtain ⟨ay, cy, rfl, hcy⟩ := hy.form
  obtain ⟨ap, cp, rfl⟩ := hp.form
  obtain ⟨Y, hY⟩ : ∃ Y, ys.length = Y := ⟨_, rfl⟩
  obtain ⟨Q, hQ⟩ : ∃ Q, ps.length = Q := ⟨_, rfl⟩
  rw [hY] at hy hcy ⊢
  rw [hQ] at hp ⊢
  have HY := Lib.hid hy
  have HP := Lib.hid hp
  have HYL := Lib.hid hY
  have HQ := Lib.hid hQ
  obtain ⟨N, hN⟩ : ∃ N : Nat, 1 + n % 9 = N := ⟨_, rfl⟩
  obtain ⟨K, hK⟩ : ∃ K : Nat, 1 + k % 9 = K := ⟨_, rfl⟩
  have en2 : (1 : Int) + (n : Int) % 9 = (N : Int) := by omega
  have ek2 : (1 : Int) + (k : Int) % 9 = (K : Int) := by omega
  have bn : n % 9 < 9 := Nat.mod_lt _ (by omega)
  have bk : k % 9 < 9 := Nat.mod_lt _ (by omega)
  have hN1 : 1 ≤ N ∧ N ≤ 9 := by omega
  have hK1 : 1 ≤ K ∧ K ≤ 9 := by omega
  clear hN hK hp hy hY hQ hcy
  go_enter Tryz.func4, Tryz.ntmps4
  go_wp2_with fail
  refine (kreed_any N K w (by omega) (by omega) (by omega) (by omega)).mono ?_
  rintro e w1 ⟨hb1, hr⟩
  rcases hr with ⟨hQN, cb, fb, v, rfl, hcb, hfb, hc, -⟩ | ⟨-, rfl⟩
  case inr =>
    have HBW := Lib.hid hb1
    clear hb1
    go_wp2_with fail
    refine (HW.out _).mono ?_
    rintro e w20 ⟨rfl, hb20⟩
    have HB20 : Hid (Below w.heap.size w w20) := Lib.hid (HBW.out.trans (hb20.mono HBW.out.size))
    clear hb20
    go_wp2
    go_ret
    exact ⟨rfl, HB20.out⟩
  have HC1 := Lib.hid hc
  have HB1 := Lib.hid hb1
  have HND := Lib.hid (pows_nodup (n := N) (by omega))
  have hf1 := hc.ok.lt
  have hs01 := hb1.size
  clear hc hb1 en2 ek2 bn bk
  by_cases h1 : 9 < Q
  · have h1' : (9 : Int) < (Q : Int) := by omega
    have HBW := HB1
    go_wp2_with fail
    refine (HW.out _).mono ?_
    rintro e w20 ⟨rfl, hb20⟩
    have HB20 : Hid (Below w.heap.size w w20) := Lib.hid (HBW.out.trans (hb20.mono HBW.out.size))
    clear hb20
    go_wp2
    go_ret
    exact ⟨rfl, HB20.out⟩
  have h1' : ¬ (9 : Int) < (Q : Int) := by omega
  by_cases h2 : 9 < Y
  · have h2' : (9 : Int) < (Y : Int) := by omega
    have HBW := HB1
    go_wp2_with fail
    refine (HW.out _).mono ?_
    rintro e w20 ⟨rfl, hb20⟩
    have HB20 : Hid (Below w.heap.size w w20) := Lib.hid (HBW.out.trans (hb20.mono HBW.out.size))
    clear hb20
    go_wp2
    go_ret
    exact ⟨rfl, HB20.out⟩
  have h2' : ¬ (9 : Int) < (Y : Int) := by omega
  have hd256 : IntKind.i64.wrap (t : Int) = (t : Int) := IntWalk.i64_in _ (by omega)
  have HPA := Lib.hid (IRd.apart_in HP.out (S := [fb]) (by simpa using hfb))
  have HYA := Lib.hid (GRd.apart_in HY.out (S := [fb]) (by simpa using hfb))
  have HDEC := Lib.hid (wdec_any w1 cb fb K v (.slice ap Q cp) (.slice ay Y cy) (pows N) ps ys (t : Int) HC1.out HND.out (by omega) (by rw [pows_len]; omega) (by rw [pows_len]; omega) (HP.out.below HB1.out) (HY.out.below HB1.out) HPA.out HYA.out (by rw [HQ.out]; omega) (by rw [HYL.out]; omega) (by omega))
  go_wp2_with fail
  refine HDEC.out.mono ?_
  rintro e w2 ⟨hk2, hf2, ha2⟩
  have HC2 := Lib.hid (HC1.out.step hk2 hf2)
  have HB2 : Hid (Below w.heap.size w w2) := Lib.hid (HB1.out.trans (hk2.below HB1.out.size (fun x hx => by simp at hx; omega)))
  have hs12 := hk2.size
  have hwc := we_cases ha2
  clear hk2 hf2 ha2 HDEC
  rcases hwc with ⟨c, hc, rfl⟩ | ⟨m, v1m, v2m, hok, rfl, ho, hz⟩
  · have HCO := Lib.hid hc
    have hne := hc.ne
    clear hc
    rcases hne with rfl | rfl | rfl
    · have HBW := HB2
      go_wp2_with fail
      refine (HW.out _).mono ?_
      rintro e w20 ⟨rfl, hb20⟩
      have HB20 : Hid (Below w.heap.size w w20) := Lib.hid (HBW.out.trans (hb20.mono HBW.out.size))
      clear hb20
      go_wp2
      go_ret
      exact ⟨rfl, HB20.out⟩
    · have HBW := HB2
      go_wp2_with fail
      refine (HW.out _).mono ?_
      rintro e w20 ⟨rfl, hb20⟩
      have HB20 : Hid (Below w.heap.size w w20) := Lib.hid (HBW.out.trans (hb20.mono HBW.out.size))
      clear hb20
      go_wp2
      go_ret
      exact ⟨rfl, HB20.out⟩
    · obtain ⟨hg, hkq, hno⟩ : (GoodP (pows N).length ps ∧ ps.length = ys.length) ∧ K + 2 * t ≤ Q ∧ WeTells (pows N) K ps ys (t : Int).toNat none := by
        rcases HCO.out with ⟨h, -⟩ | ⟨h, ⟨h3, -⟩ | ⟨h3, -, h4⟩⟩
        · omega
        · omega
        · rw [HQ.out] at h3
          exact ⟨h.1, by omega, h4⟩
      have HGD := Lib.hid hg
      have HNO : Hid (∀ m : List GF, m.length = K → ¬ (wrS (pows N) ps ys m).length ≤ (t : Int).toNat) := Lib.hid hno
      have hQY : Q = Y := by rw [← HQ.out, ← HYL.out]; exact hg.2
      have hKQ : K ≤ Q := by omega
      have HBB := HB2
      have HCB := HC2
      obtain ⟨wB, hwB⟩ : ∃ wB, wB = w2 := ⟨_, rfl⟩
      rw [← hwB] at HBB HCB ⊢
      clear hg hkq hno hwB hQY
      have hQY2 : K ≤ Y := by have := HGD.out.2; rw [HQ.out, HYL.out] at this; omega
      have hQY3 : Q ≤ Y := by have := HGD.out.2; rw [HQ.out, HYL.out] at this; omega
      go_wp2
      have hfB := HCB.out.ok.lt
      go_loopg [19, 20, 21] K (fun gk l y i wr => ∃ (V1 V2 : Value) (J : Nat), V1 = l ∧ V2 = y ∧ J ≤ K ∧ gk = K - J ∧ i = .int .i64 J ∧ Hid (OwnZ wr wB.heap.size V1 (rowP ps (fun j => j) J)) ∧ Hid (OwnG wr wB.heap.size V2 (rowY ys (fun j => j) J)) ∧ Hid (Apart V2 V1.ownBlock.toList) ∧ Hid (Below wB.heap.size wB wr))
      case atStart => exact ⟨_, _, 0, rfl, rfl, by omega, rfl, rfl, Lib.hid (OwnZ.nil _ _), Lib.hid (OwnG.nil _ _), Lib.hid (apart_nil _), Lib.hid (Below.refl _ _)⟩
      case round =>
        obtain ⟨V1, V2, J, rfl, rfl, hJ, rfl, rfl, HO1, HO2, HAP, HBR⟩ := hrel
        have hsr := HBR.out.size
        have HKR := Lib.hid (codeK_any wr cb fb K v _ (HCB.out.below HBR.out))
        by_cases hlt : J < K
        · obtain ⟨x, hx⟩ : ∃ x, ps[J]? = some x := ⟨_, List.getElem?_eq_getElem (by rw [HQ.out]; omega)⟩
          obtain ⟨y, hy, hyd⟩ := at_get (l := ys) (i := J) (by rw [HYL.out]; omega)
          have hbw : Below w.heap.size w wr := HBB.out.trans (HBR.out.mono HBB.out.size)
          obtain ⟨-, -, b0, o0, rfl, hb0, -⟩ := IRd.cell HP.out hx
          obtain ⟨b2, o2, rfl, hb2, -⟩ := HY.out.at hy
          have c0 := IRd.cells (HP.out.below hbw) J x hx
          obtain ⟨yn, hyn⟩ : ∃ t, y.n = t := ⟨_, rfl⟩
          have hxd : ps.getD J 0 = x := by rw [List.getD_eq_getElem?_getD, hx]; rfl
          obtain ⟨v1, w6, hap1, ho1, hk1, hb6, hat1⟩ := app_int (W := wr) x HO1.out (by rw [rowP_len]; omega) (by omega) (ad := wr.heap.size) rfl
          have ho1' : OwnZ w6 wB.heap.size v1 (rowP ps (fun j => j) (J + 1)) := by rw [rowP_succ, hxd]; exact ho1
          have ho2 : OwnG w6 wB.heap.size V2 (rowY ys (fun j => j) J) := OwnG.kp HO2.out hk1 HAP.out
          have hap6 : Apart V2 v1.ownBlock.toList := apart_grow HAP.out (fun kk hkk => (HO2.out.lt kk hkk).2) hat1
          have hs6 := hk1.size
          obtain ⟨v2, w7, hap2, ho3, hk2, hb7, hat2⟩ := app_row (W := w6) (f := fun j => ys.getD j 0) (J := J) ho2 (by omega) (by omega) (n := yn) (by show (ys.getD J 0).n = yn; rw [hyd, hyn]) (ad := w6.heap.size) rfl
          have HO1' : Hid (OwnZ w7 wB.heap.size v1 (rowP ps (fun j => j) (J + 1))) := Lib.hid (OwnZ.kp ho1' hk2 (apart_swap hap6))
          have HO2' : Hid (OwnG w7 wB.heap.size v2 (rowY ys (fun j => j) (J + 1))) := Lib.hid ho3
          have HAP' : Hid (Apart v2 v1.ownBlock.toList) := Lib.hid (apart_swap (apart_grow (apart_swap hap6) (fun kk hkk => (ho1.lt kk hkk).2) hat2))
          have hb46 := HBR.out.trans hb6
          have HB7 : Hid (Below wB.heap.size wB w7) := Lib.hid (hb46.trans hb7)
          obtain ⟨_, _, e, -, cy⟩ := (HY.out.below (HBB.out.trans (hb46.mono HBB.out.size))).at hy
          cases e
          rw [hyn] at cy
          have i1 : (0 : Int) ≤ (J : Int) ∧ (J : Int) < (Q : Int) := by omega
          have i2 : (0 : Int) ≤ (J : Int) ∧ (J : Int) < (Y : Int) := by omega
          clear ho1 ho1' ho2 ho3 hk1 hk2 hb6 hb7 hat1 hat2 hb46 hap6 hx hy hyd hyn hxd hbw
          go_wp2_with fail
          refine HKR.out.mono ?_
          rintro e wk ⟨rfl, rfl⟩
          go_wp2_with (at_builtin; first | refine wpList_append rfl _ _ _ rfl rfl rfl hap1 ?_ | refine wpList_append rfl _ _ _ rfl rfl rfl hap2 ?_)
          go_roundg (K - (J + 1))
          case measure => omega
          case rel => exact ⟨v1, v2, J + 1, rfl, rfl, by omega, rfl, by go_num, HO1', HO2', HAP', HB7⟩
        · obtain rfl : J = K := by omega
          go_wp2_with fail
          refine HKR.out.mono ?_
          rintro e wk ⟨rfl, rfl⟩
          obtain ⟨wC, rfl⟩ : ∃ wC : World, wC = wr := ⟨_, rfl⟩
          have HBC : Hid (Below w.heap.size w wC) := Lib.hid (HBB.out.trans (HBR.out.mono HBB.out.size))
          have HCC := Lib.hid (HCB.out.below HBR.out)
          have HRIS : Hid (Ris J ps.length (fun j => j)) := Lib.hid (first_ris (by rw [HQ.out]; omega))
          have HDE := Lib.hid (decode_gen wC cb fb J v V1 V2 (pows N) (rowP ps (fun j => j) J) (rowY ys (fun j => j) J) HCC.out HND.out (by omega) (by rw [pows_len]; omega) (by rw [pows_len]; omega) HO1.out.rd HO2.out.rd (.inr (fun c hc hm => by have := (HO1.out.lt c hc).1; simp at hm; omega)) (.inr (fun c hc hm => by have := (HO2.out.lt c hc).1; simp at hm; omega)) (by rw [rowP_len]; omega) (by rw [rowY, rowF_len]; omega))
          clear hlt hJ
          go_wp2_with fail
          refine HDE.out.mono ?_
          rintro e wD ⟨hkD, hfD, haD⟩
          obtain ⟨gD, oth, rfl, hgD, hvD, hfit⟩ : ∃ g m, e = .returned (.tuple #[.slice (some ⟨g, 0, none⟩) J J, .int .i64 0]) ∧ wC.heap.size ≤ g ∧ View wD g J (fun i => m.getD i 0) ∧ Fits (pows N) J (rowP ps (fun j => j) J) (rowY ys (fun j => j) J) m := by
            have hg := ris_good (N := (pows N).length) HGD.out.1 HRIS.out
            have hl : (rowP ps (fun j => j) J).length = (rowY ys (fun j => j) J).length := by rw [rowP_len, rowY, rowF_len]
            rcases haD with ⟨h7, -⟩ | ⟨-, ⟨h7, -⟩ | ⟨-, h7 | ⟨-, h7⟩⟩⟩
            · exact absurd hg (h7 hl)
            · rw [rowP_len] at h7; omega
            · exact h7
            · obtain ⟨m, hm⟩ := fits_ex (ys := ys) HND.out HGD.out.1 HRIS.out
              exact absurd hm (h7 m)
          have HCD := Lib.hid (HCC.out.step hkD hfD)
          have HBD : Hid (Below w.heap.size w wD) := Lib.hid (HBC.out.trans (hkD.below HBC.out.size (fun x hx => by simp at hx; omega)))
          have HOT := Lib.hid (hvD.list hfit.1 (Nat.le_refl _))
          have HOL : Hid (oth.length = J) := Lib.hid hfit.1
          have HKD := Lib.hid hkD
          have hsCD := hkD.size
          have HPT := Lib.hid (codeP_any wD cb fb J v _ HCD.out (by rw [pows_len]; omega))
          clear hkD hfD haD hgD hvD hfit HDE HO1 HO2 HAP
          go_wp2_with fail
          refine HPT.out.mono ?_
          rintro e wE ⟨vE, rfl, hoE, hbE⟩
          have HKE := Lib.hid (codeK_any wE cb fb J v _ (HCD.out.below hbE))
          have HOE := Lib.hid hoE
          have HBE : Hid (Below w.heap.size w wE) := Lib.hid (HBD.out.trans (hbE.mono HBD.out.size))
          have HBDE := Lib.hid hbE
          clear hoE hbE HPT
          go_wp2_with fail
          refine HKE.out.mono ?_
          rintro e wk ⟨rfl, rfl⟩
          have HWRG := Lib.hid (rwrong_any vE (.slice (some ⟨gD, 0, none⟩) J J) _ _ (pows N) oth ys J ps wE HOE.out.rd (HOT.out.below HBDE.out) (HP.out.below HBE.out) (HY.out.below HBE.out) HOL.out (by rw [HQ.out, HYL.out]; omega) (by rw [pows_len]; omega) (by rw [HQ.out]; omega) (by omega))
          clear HKE
          go_wp2_with fail
          refine HWRG.out.mono ?_
          rintro e wF ⟨vF, rfl, hoF, hbF⟩
          rw [rowF_map, wrR_wrS ys oth HGD.out.1] at hoF
          have hzz := RdZ.of_own hoF
          obtain ⟨aF, cF, rfl⟩ := hzz.rd.form
          obtain ⟨L, hL⟩ : ∃ L, (wrS (pows N) ps ys oth).length = L := ⟨_, rfl⟩
          have HL := Lib.hid hL
          rw [hL]
          have HBF : Hid (Below w.heap.size w wF) := Lib.hid (HBE.out.trans (hbF.mono HBE.out.size))
          have HBDF : Hid (Below wD.heap.size wD wF) := Lib.hid (HBDE.out.trans (hbF.mono HBDE.out.size))
          clear hoF hzz hL hbF HWRG
          have hLt : ¬ (L : Int) ≤ (t : Int) := by
            have := HNO.out oth HOL.out
            rw [HL.out, Int.toNat_natCast] at this
            omega
          have hLn : ¬ L ≤ t := by omega
          have hLd : decide (L ≤ t) = false := decide_eq_false hLn
          have HBW := HBF
          go_wp2_with fail
          refine (HW.out _).mono ?_
          rintro e w20 ⟨rfl, hb20⟩
          have HB20 : Hid (Below w.heap.size w w20) := Lib.hid (HBW.out.trans (hb20.mono HBW.out.size))
          clear hb20
          go_wp2
          go_ret
          exact ⟨rfl, HB20.out⟩
  · have HGD := Lib.hid hok.1.1
    have hKQ : K + 2 * t ≤ Q := by have := hok.2.1; rw [HQ.out] at this; omega
    have HTM := Lib.hid hok.2.2
    have HKT : Hid (K + 2 * (t : Int).toNat ≤ ps.length) := Lib.hid (by rw [HQ.out, Int.toNat_natCast]; exact hKQ)
    have hml : m.length = K := hok.2.2.1
    have HO := Lib.hid ho
    have HZ := Lib.hid hz
    have HML := Lib.hid hml
    have HENC := Lib.hid (encode_any w2 cb fb v v1m (pows N) m (by rw [hml]; exact HC2.out) ho.rd (fun c hc hm => by have := (ho.lt c hc).1; simp at hm; omega) (by rw [pows_len]; omega) (by rw [pows_len]; omega) (by omega))
    have hQY3 : Q ≤ Y := by have := HGD.out.2; rw [HQ.out, HYL.out] at this; omega
    have hQY2 : K ≤ Y := by omega
    have hKQ2 : K ≤ Q := by omega
    obtain ⟨a2, c2, rfl⟩ := hz.rd.form
    obtain ⟨LM, hLM⟩ : ∃ LM, (wrS (pows N) ps ys m).length = LM := ⟨_, rfl⟩
    have HLM := Lib.hid hLM
    rw [hLM] at HZ ⊢
    have hLMt : LM ≤ t := by
      have := HTM.out.2
      rw [hLM, Int.toNat_natCast] at this
      exact this
    clear hok ho hz hml hLM
    go_wp2_with fail
    refine HENC.out.mono ?_
    rintro e w3 ⟨g, rfl, hg3, hv3, hk3, hf3⟩
    rw [pows_len] at hv3 ⊢
    have HW3 : Hid (GRd w3 (.slice (some ⟨g, 0, none⟩) N N) ((pows N).map (ev m))) := Lib.hid (View.list (hv3.congr fun i hi => (map_getD m (by rw [pows_len]; exact hi)).symm) (by rw [List.length_map, pows_len]) (Nat.le_refl _))
    have HC3 := Lib.hid (HC2.out.step hk3 hf3)
    have HB3 : Hid (Below w.heap.size w w3) := Lib.hid (HB2.out.trans (hk3.below HB2.out.size (fun x hx => by simp at hx; omega)))
    have HM3 := Lib.hid (HO.out.kp hk3 (fun c hc hm => by have := (HO.out.lt c hc).1; simp at hm; omega))
    have HZ3 := Lib.hid (HZ.out.kp hk3 (by simp; omega))
    have hgw := hv3.1
    have HWL : Hid (((pows N).map (ev m)).length = N) := Lib.hid (by rw [List.length_map, pows_len])
    obtain ⟨W, hW⟩ : ∃ W, (pows N).map (ev m) = W := ⟨_, rfl⟩
    have HWE := Lib.hid hW
    rw [hW] at HW3 HWL
    clear hg3 hv3 hk3 hf3 HENC HO HZ hW
    go_wp2
    go_loopg [17, 18] Q (fun gk c i wr => ∃ I C : Nat, I ≤ Q ∧ gk = Q - I ∧ c = .int .i64 C ∧ i = .int .i64 I ∧ C ≤ I ∧ Hid (C = (difL W ps ys I).length) ∧ Hid (Below w3.heap.size w3 wr))
    case atStart => exact ⟨0, 0, by omega, rfl, rfl, rfl, by omega, Lib.hid rfl, Lib.hid (Below.refl _ _)⟩
    case round =>
      obtain ⟨I, C, hI, rfl, rfl, rfl, hCI, HCC, HBR⟩ := hrel
      have hsr := HBR.out.size
      by_cases hlt : I < Q
      · have hbw : Below w.heap.size w wr := HB3.out.trans (HBR.out.mono HB3.out.size)
        obtain ⟨x, hx⟩ : ∃ x, ps[I]? = some x := ⟨_, List.getElem?_eq_getElem (by rw [HQ.out]; exact hlt)⟩
        have hxr := HGD.out.1.1 x (List.mem_of_getElem? hx)
        obtain ⟨p, rfl⟩ : ∃ p : Nat, x = (p : Int) := ⟨x.toNat, by omega⟩
        rw [pows_len] at hxr
        have hpN : p < N := by omega
        obtain ⟨-, -, b0, o0, rfl, hb0, -⟩ := IRd.cell HP.out hx
        have c0 := IRd.cells (HP.out.below hbw) I p hx
        have hxd : ps.getD I 0 = (p : Int) := by rw [List.getD_eq_getElem?_getD, hx]; rfl
        obtain ⟨c, hc, hcd⟩ := at_get (l := W) (i := p) (by rw [HWL.out]; exact hpN)
        obtain ⟨d, hd, hdd⟩ := at_get (l := ys) (i := I) (by rw [HYL.out]; omega)
        obtain ⟨b2, o2, rfl, hb2, -⟩ := HY.out.at hd
        obtain ⟨_, _, e, -, c1⟩ := (HW3.out.below HBR.out).at hc
        cases e
        rw [Nat.zero_add] at c1
        obtain ⟨_, _, e, -, c2'⟩ := (HY.out.below hbw).at hd
        cases e
        obtain ⟨cn, hcn⟩ : ∃ t, c.n = t := ⟨_, rfl⟩
        obtain ⟨dn, hdn⟩ : ∃ t, d.n = t := ⟨_, rfl⟩
        rw [hcn] at c1
        rw [hdn] at c2'
        have hiff : W.getD (ps.getD I 0).toNat 0 = ys.getD I 0 ↔ cn = dn := by
          rw [hxd, Int.toNat_natCast, hcd, hdd]
          exact ⟨fun e => by rw [← hcn, ← hdn, e], fun e => GF.ext' (by omega)⟩
        have HIF := Lib.hid hiff
        have HXD := Lib.hid hxd
        have HBD : Hid (Below w3.heap.size w3 wr.drew) := Lib.hid HBR.out.drew
        obtain ⟨kp, hkp⟩ : ∃ kp : Nat → Bool, ∀ j, kp j = true ↔ j < wr.heap.size := ⟨fun j => decide (j < wr.heap.size), by simp⟩
        have hsw := hbw.size
        have hk0 : kp b0 = true := (hkp _).2 (by omega)
        have hk1 : kp g = true := (hkp _).2 (by omega)
        have hk2 : kp b2 = true := (hkp _).2 (by omega)
        have HKP := Lib.hid hkp
        have i0 : (0 : Int) ≤ (I : Int) ∧ (I : Int) < (Q : Int) := by omega
        have i1 : (0 : Int) ≤ (p : Int) ∧ (p : Int) < (N : Int) := by omega
        have i2 : (0 : Int) ≤ (I : Int) ∧ (I : Int) < (Y : Int) := by omega
        clear hkp hc hcd hd hdd hcn hdn hiff hx hxd hxr
        by_cases hcc : cn = dn
        · subst hcc
          have HCN : Hid (C = (difL W ps ys (I + 1)).length) := Lib.hid (by rw [difL_no (HIF.out.2 rfl)]; exact HCC.out)
          clear hbw
          go_upto_region 17 with fail
          have hgr := fun (w0 W : World) (p : Addr) (hp : (fun j => kp j = true) p.block) => graft_cell (w0 := w0) (keep := (fun j => kp j = true)) W hp
          refine wp_region_tree (fun j => kp j = true) [] (.step 0 (.step 1 (.step 2 (.step 3 (.step 4 (.step 5 (.step 6 (.step 7 (.step 8 (.step 9 (.step 10 (.step 11 .done)))))))))))) (by kernel_rfl) (by kernel_rfl) ?_
          simp only [slimTr, slimStep, Oper.slim, List.contains_cons, List.contains_nil, Option.map_none, Option.map_some, List.getElem?_toArray, List.getElem?_cons_zero, List.getElem?_cons_succ, Option.bind_some, beq_self_eq_true, Bool.or_false, Nat.reduceBEq, Nat.reduceAdd, Nat.zero_add]
          repeat (first | (fail) | ((with_reducible refine wpSlimT_step (fun K hK => ?_)); go_simp; first | (refine hK _ _ ?_; clear hK K) | (refine ⟨by (intro kk hkk; first | (simp (disch := (simp; omega)) only [hp_drew, hp_drewN, hp_alloc, hp_set]; done) | (simp [hp_drew, hp_drewN, hp_alloc_if, hkk]; done) | fail), hK _ _ ?_⟩; clear hK K)))
          refine wpSlimT_done ?_
          clear hgr
          go_wp2
          go_roundg (Q - (I + 1))
          case measure => omega
          case rel => exact ⟨I + 1, C, by omega, rfl, rfl, by go_num, by omega, HCN, HBD⟩
        · have hne : ¬ (cn : Int) = (dn : Int) := by omega
          have HCN : Hid (C + 1 = (difL W ps ys (I + 1)).length) := Lib.hid (by rw [difL_yes (fun e => hcc (HIF.out.1 e)), List.length_append, ← HCC.out]; rfl)
          have HIN : Hid ((p : Int) ∈ wrS (pows N) ps ys m) := Lib.hid (by
            refine mem_wrS.2 ⟨I, by rw [HQ.out]; exact hlt, ?_, HXD.out.symm⟩
            have h1 := fun e => hcc (HIF.out.1 e)
            rw [← HWE.out, map_getD m (by rw [HXD.out, Int.toNat_natCast, pows_len]; exact hpN)] at h1
            exact h1)
          have HHAS := Lib.hid (has_any (.slice a2 LM c2) (wrS (pows N) ps ys m) (p : Int) wr.drew ((HZ3.out.below HBD.out).rd) (by rw [HLM.out]; omega))
          clear hcc hbw
          go_upto_region 17 with fail
          have hgr := fun (w0 W : World) (p : Addr) (hp : (fun j => kp j = true) p.block) => graft_cell (w0 := w0) (keep := (fun j => kp j = true)) W hp
          refine wp_region_tree (fun j => kp j = true) [] (.step 0 (.step 1 (.step 2 (.step 3 (.step 4 (.step 5 (.step 6 (.step 7 (.step 8 (.step 9 (.step 10 (.step 11 .done)))))))))))) (by kernel_rfl) (by kernel_rfl) ?_
          simp only [slimTr, slimStep, Oper.slim, List.contains_cons, List.contains_nil, Option.map_none, Option.map_some, List.getElem?_toArray, List.getElem?_cons_zero, List.getElem?_cons_succ, Option.bind_some, beq_self_eq_true, Bool.or_false, Nat.reduceBEq, Nat.reduceAdd, Nat.zero_add]
          repeat (first | (fail) | ((with_reducible refine wpSlimT_step (fun K hK => ?_)); go_simp; first | (refine hK _ _ ?_; clear hK K) | (refine ⟨by (intro kk hkk; first | (simp (disch := (simp; omega)) only [hp_drew, hp_drewN, hp_alloc, hp_set]; done) | (simp [hp_drew, hp_drewN, hp_alloc_if, hkk]; done) | fail), hK _ _ ?_⟩; clear hK K)))
          refine wpSlimT_done ?_
          clear hgr
          go_wp2_with fail
          refine HHAS.out.mono ?_
          rintro e w5 ⟨rfl, hb5⟩
          rw [decide_eq_true HIN.out]
          have HB5 : Hid (Below w3.heap.size w3 w5) := Lib.hid (HBD.out.trans (hb5.mono HBD.out.size))
          clear hb5 HHAS
          go_wp2
          go_roundg (Q - (I + 1))
          case measure => omega
          case rel => exact ⟨I + 1, C + 1, by omega, rfl, by go_num, by go_num, by omega, HCN, HB5⟩
      · obtain rfl : I = Q := by omega
        have hCLM : C = LM := by
          have h1 := HCC.out
          have h2 := difL_wrP ys m HGD.out.1.1
          rw [HWE.out, HQ.out] at h2
          rw [h2] at h1
          rw [h1, ← HLM.out, wrS, riseI_len]
        subst hCLM
        have hng : ¬ (t : Int) < (C : Int) := by omega
        have HCB := Lib.hid (HC3.out.below HBR.out)
        have HBB : Hid (Below w.heap.size w wr) := Lib.hid (HB3.out.trans (HBR.out.mono HB3.out.size))
        have HMB := Lib.hid (OwnG.below HM3.out HBR.out)
        obtain ⟨wB, hwB⟩ : ∃ wB, wB = wr := ⟨_, rfl⟩
        rw [← hwB] at HCB HBB HMB ⊢
        clear HBR hsr hwB hKQ hlt hI
        go_wp2
        have hfB := HCB.out.ok.lt
        go_loopg [19, 20, 21] K (fun gk l y i wr => ∃ (V1 V2 : Value) (J : Nat), V1 = l ∧ V2 = y ∧ J ≤ K ∧ gk = K - J ∧ i = .int .i64 J ∧ Hid (OwnZ wr wB.heap.size V1 (rowP ps (fun j => j) J)) ∧ Hid (OwnG wr wB.heap.size V2 (rowY ys (fun j => j) J)) ∧ Hid (Apart V2 V1.ownBlock.toList) ∧ Hid (Below wB.heap.size wB wr))
        case atStart => exact ⟨_, _, 0, rfl, rfl, by omega, rfl, rfl, Lib.hid (OwnZ.nil _ _), Lib.hid (OwnG.nil _ _), Lib.hid (apart_nil _), Lib.hid (Below.refl _ _)⟩
        case round =>
          obtain ⟨V1, V2, J, rfl, rfl, hJ, rfl, rfl, HO1, HO2, HAP, HBR⟩ := hrel
          have hsr := HBR.out.size
          have HKR := Lib.hid (codeK_any wr cb fb K v _ (HCB.out.below HBR.out))
          by_cases hlt : J < K
          · obtain ⟨x, hx⟩ : ∃ x, ps[J]? = some x := ⟨_, List.getElem?_eq_getElem (by rw [HQ.out]; omega)⟩
            obtain ⟨y, hy, hyd⟩ := at_get (l := ys) (i := J) (by rw [HYL.out]; omega)
            have hbw : Below w.heap.size w wr := HBB.out.trans (HBR.out.mono HBB.out.size)
            obtain ⟨-, -, b0, o0, rfl, hb0, -⟩ := IRd.cell HP.out hx
            obtain ⟨b2, o2, rfl, hb2, -⟩ := HY.out.at hy
            have c0 := IRd.cells (HP.out.below hbw) J x hx
            obtain ⟨yn, hyn⟩ : ∃ t, y.n = t := ⟨_, rfl⟩
            have hxd : ps.getD J 0 = x := by rw [List.getD_eq_getElem?_getD, hx]; rfl
            obtain ⟨v1, w6, hap1, ho1, hk1, hb6, hat1⟩ := app_int (W := wr) x HO1.out (by rw [rowP_len]; omega) (by omega) (ad := wr.heap.size) rfl
            have ho1' : OwnZ w6 wB.heap.size v1 (rowP ps (fun j => j) (J + 1)) := by rw [rowP_succ, hxd]; exact ho1
            have ho2 : OwnG w6 wB.heap.size V2 (rowY ys (fun j => j) J) := OwnG.kp HO2.out hk1 HAP.out
            have hap6 : Apart V2 v1.ownBlock.toList := apart_grow HAP.out (fun kk hkk => (HO2.out.lt kk hkk).2) hat1
            have hs6 := hk1.size
            obtain ⟨v2, w7, hap2, ho3, hk2, hb7, hat2⟩ := app_row (W := w6) (f := fun j => ys.getD j 0) (J := J) ho2 (by omega) (by omega) (n := yn) (by show (ys.getD J 0).n = yn; rw [hyd, hyn]) (ad := w6.heap.size) rfl
            have HO1' : Hid (OwnZ w7 wB.heap.size v1 (rowP ps (fun j => j) (J + 1))) := Lib.hid (OwnZ.kp ho1' hk2 (apart_swap hap6))
            have HO2' : Hid (OwnG w7 wB.heap.size v2 (rowY ys (fun j => j) (J + 1))) := Lib.hid ho3
            have HAP' : Hid (Apart v2 v1.ownBlock.toList) := Lib.hid (apart_swap (apart_grow (apart_swap hap6) (fun kk hkk => (ho1.lt kk hkk).2) hat2))
            have hb46 := HBR.out.trans hb6
            have HB7 : Hid (Below wB.heap.size wB w7) := Lib.hid (hb46.trans hb7)
            obtain ⟨_, _, e, -, cy⟩ := (HY.out.below (HBB.out.trans (hb46.mono HBB.out.size))).at hy
            cases e
            rw [hyn] at cy
            have i1 : (0 : Int) ≤ (J : Int) ∧ (J : Int) < (I : Int) := by omega
            have i2 : (0 : Int) ≤ (J : Int) ∧ (J : Int) < (Y : Int) := by omega
            clear ho1 ho1' ho2 ho3 hk1 hk2 hb6 hb7 hat1 hat2 hb46 hap6 hx hy hyd hyn hxd hbw
            go_wp2_with fail
            refine HKR.out.mono ?_
            rintro e wk ⟨rfl, rfl⟩
            go_wp2_with (at_builtin; first | refine wpList_append rfl _ _ _ rfl rfl rfl hap1 ?_ | refine wpList_append rfl _ _ _ rfl rfl rfl hap2 ?_)
            go_roundg (K - (J + 1))
            case measure => omega
            case rel => exact ⟨v1, v2, J + 1, rfl, rfl, by omega, rfl, by go_num, HO1', HO2', HAP', HB7⟩
          · obtain rfl : J = K := by omega
            go_wp2_with fail
            refine HKR.out.mono ?_
            rintro e wk ⟨rfl, rfl⟩
            obtain ⟨wC, rfl⟩ : ∃ wC : World, wC = wr := ⟨_, rfl⟩
            have HBC : Hid (Below w.heap.size w wC) := Lib.hid (HBB.out.trans (HBR.out.mono HBB.out.size))
            have HCC := Lib.hid (HCB.out.below HBR.out)
            have HRIS : Hid (Ris J ps.length (fun j => j)) := Lib.hid (first_ris (by rw [HQ.out]; omega))
            have HDE := Lib.hid (decode_gen wC cb fb J v V1 V2 (pows N) (rowP ps (fun j => j) J) (rowY ys (fun j => j) J) HCC.out HND.out (by omega) (by rw [pows_len]; omega) (by rw [pows_len]; omega) HO1.out.rd HO2.out.rd (.inr (fun c hc hm => by have := (HO1.out.lt c hc).1; simp at hm; omega)) (.inr (fun c hc hm => by have := (HO2.out.lt c hc).1; simp at hm; omega)) (by rw [rowP_len]; omega) (by rw [rowY, rowF_len]; omega))
            clear hlt hJ
            go_wp2_with fail
            refine HDE.out.mono ?_
            rintro e wD ⟨hkD, hfD, haD⟩
            obtain ⟨gD, oth, rfl, hgD, hvD, hfit⟩ : ∃ g m, e = .returned (.tuple #[.slice (some ⟨g, 0, none⟩) J J, .int .i64 0]) ∧ wC.heap.size ≤ g ∧ View wD g J (fun i => m.getD i 0) ∧ Fits (pows N) J (rowP ps (fun j => j) J) (rowY ys (fun j => j) J) m := by
              have hg := ris_good (N := (pows N).length) HGD.out.1 HRIS.out
              have hl : (rowP ps (fun j => j) J).length = (rowY ys (fun j => j) J).length := by rw [rowP_len, rowY, rowF_len]
              rcases haD with ⟨h7, -⟩ | ⟨-, ⟨h7, -⟩ | ⟨-, h7 | ⟨-, h7⟩⟩⟩
              · exact absurd hg (h7 hl)
              · rw [rowP_len] at h7; omega
              · exact h7
              · obtain ⟨m, hm⟩ := fits_ex (ys := ys) HND.out HGD.out.1 HRIS.out
                exact absurd hm (h7 m)
            have HCD := Lib.hid (HCC.out.step hkD hfD)
            have HBD : Hid (Below w.heap.size w wD) := Lib.hid (HBC.out.trans (hkD.below HBC.out.size (fun x hx => by simp at hx; omega)))
            have HOT := Lib.hid (hvD.list hfit.1 (Nat.le_refl _))
            have HOL : Hid (oth.length = J) := Lib.hid hfit.1
            have HKD := Lib.hid hkD
            have hsCD := hkD.size
            have HPT := Lib.hid (codeP_any wD cb fb J v _ HCD.out (by rw [pows_len]; omega))
            clear hkD hfD haD hgD hvD hfit HDE HO1 HO2 HAP
            go_wp2_with fail
            refine HPT.out.mono ?_
            rintro e wE ⟨vE, rfl, hoE, hbE⟩
            have HKE := Lib.hid (codeK_any wE cb fb J v _ (HCD.out.below hbE))
            have HOE := Lib.hid hoE
            have HBE : Hid (Below w.heap.size w wE) := Lib.hid (HBD.out.trans (hbE.mono HBD.out.size))
            have HBDE := Lib.hid hbE
            clear hoE hbE HPT
            go_wp2_with fail
            refine HKE.out.mono ?_
            rintro e wk ⟨rfl, rfl⟩
            have HWRG := Lib.hid (rwrong_any vE (.slice (some ⟨gD, 0, none⟩) J J) _ _ (pows N) oth ys J ps wE HOE.out.rd (HOT.out.below HBDE.out) (HP.out.below HBE.out) (HY.out.below HBE.out) HOL.out (by rw [HQ.out, HYL.out]; omega) (by rw [pows_len]; omega) (by rw [HQ.out]; omega) (by omega))
            clear HKE
            go_wp2_with fail
            refine HWRG.out.mono ?_
            rintro e wF ⟨vF, rfl, hoF, hbF⟩
            rw [rowF_map, wrR_wrS ys oth HGD.out.1] at hoF
            have hzz := RdZ.of_own hoF
            obtain ⟨aF, cF, rfl⟩ := hzz.rd.form
            obtain ⟨L, hL⟩ : ∃ L, (wrS (pows N) ps ys oth).length = L := ⟨_, rfl⟩
            have HL := Lib.hid hL
            rw [hL]
            have HBF : Hid (Below w.heap.size w wF) := Lib.hid (HBE.out.trans (hbF.mono HBE.out.size))
            have HBDF : Hid (Below wD.heap.size wD wF) := Lib.hid (HBDE.out.trans (hbF.mono HBDE.out.size))
            clear hoF hzz hL hbF HWRG
            have HMF : Hid (OwnG wF w1.heap.size v1m m) := Lib.hid ((((HMB.out.below HBR.out).kp HKD.out (fun c hc hm => by have := (HMB.out.lt c hc).1; simp at hm; omega))).below HBDF.out)
            have hiff : L ≤ t ↔ oth = m := by
              constructor
              · intro h
                have := weTells_one HND.out HGD.out.1 HKT.out (r := some oth) (r' := some m) ⟨HOL.out, by rw [HL.out, Int.toNat_natCast]; exact h⟩ HTM.out
                exact Option.some.inj this
              · intro h
                have := HTM.out.2
                rw [← h, HL.out, Int.toNat_natCast] at this
                exact this
            by_cases hom : oth = m
            · have hLt : (L : Int) ≤ (t : Int) := by have := hiff.2 hom; omega
              have hLn : L ≤ t := hiff.2 hom
              have hLd : decide (L ≤ t) = true := decide_eq_true hLn
              have HOM := Lib.hid hom
              clear hiff hom
              go_wp2_with fail
              refine (same_g _ _ oth m _ (HOT.out.below HBDF.out) HMF.out.rd).mono ?_
              rintro e wG ⟨rfl, rfl⟩
              rw [decide_eq_true HOM.out]
              have HBW := HBF
              go_wp2_with fail
              refine (HW.out _).mono ?_
              rintro e w20 ⟨rfl, hb20⟩
              have HB20 : Hid (Below w.heap.size w w20) := Lib.hid (HBW.out.trans (hb20.mono HBW.out.size))
              clear hb20
              go_wp2
              go_ret
              exact ⟨rfl, HB20.out⟩
            · have hLt : ¬ (L : Int) ≤ (t : Int) := fun h => hom (hiff.1 (by omega))
              have hLn : ¬ L ≤ t := fun h => hom (hiff.1 h)
              have hLd : decide (L ≤ t) = false := decide_eq_false hLn
              have HOM := Lib.hid hom
              clear hiff hom
              go_wp2_with fail
              refine (same_g _ _ oth m _ (HOT.out.below HBDF.out) HMF.out.rd).mono ?_
              rintro e wG ⟨rfl, rfl⟩
              rw [decide_eq_false HOM.out]
              have HBW := HBF
              go_wp2_with fail
              refine (HW.out _).mono ?_
              rintro e w20 ⟨rfl, hb20⟩
              have HB20 : Hid (Below w.heap.size w w20) := Lib.hid (HBW.out.trans (hb20.mono HBW.out.size))
              clear hb20
              go_wp2
              go_ret
              exact ⟨rfl, HB20.out⟩
end Go.Proofs.YteeeocianofkfaaGreat
