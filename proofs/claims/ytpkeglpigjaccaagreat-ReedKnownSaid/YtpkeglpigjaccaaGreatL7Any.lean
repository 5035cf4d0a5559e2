/-
  The law ReedAny.
-/
import Derived.Test.YtpkeglpigjaccaaGreatWorks7
import Derived.Test.YtpkeglpigjaccaaGreatKit
import Derived.Test.YtpkeglpigjaccaaGreatAnyPlain
namespace Go.Proofs.YtpkeglpigjaccaaGreat
open Go.RowKit Fld
set_option linter.unusedVariables false
set_option linter.unusedSimpArgs false

theorem GRd.as {w : World} {v : Value} {l m : List GF} (h : GRd w v l) (e : l = m) : GRd w v m := e ▸ h
theorem dec_ne {m m' : List GF} {b : GF} (h : m' = m ↔ b = 0) {x : Bool} (hx : x = decide (b.n = 0)) : decide (m' = m) = x := by
  rw [hx, decide_eq_decide, h]
  exact GF.eq0
set_option maxRecDepth 100000 in
set_option maxHeartbeats 8000000 in
theorem lany_any (n k : Nat) (ub : Value) (B : List GF) (bs wh : Nat) (by_ : GF) (w : World) (hn : n < 256) (hk : k < 256) (hb : GRd w ub B) (hbs : bs < 18446744073709551616) (hwh : wh < 256) :
    Calls Tryz.prog 9 #[.int .u8 n, .int .u8 k, ub, .int .u64 bs, .int .u8 wh, .int .u8 (by_.n : Nat)] w fun e w' => e = .returned (.bool true) ∧ Below w.heap.size w w' := by
  have HW := Lib.hid (fun W => works_any W)
  obtain ⟨ab, cb0, rfl, hcb0⟩ := hb.form
  obtain ⟨N, hN⟩ : ∃ N : Nat, 1 + n % 20 = N := ⟨_, rfl⟩
  obtain ⟨Q, hQ⟩ : ∃ Q : Nat, 1 + k % 20 = Q := ⟨_, rfl⟩
  have en2 : (1 : Int) + (n : Int) % 20 = (N : Int) := by omega
  have ek2 : (1 : Int) + (k : Int) % 20 = (Q : Int) := by omega
  have bn : n % 20 < 20 := Nat.mod_lt _ (by omega)
  have bk : k % 20 < 20 := Nat.mod_lt _ (by omega)
  have hN1 : 1 ≤ N ∧ N ≤ 20 := by omega
  have hQ1 : 1 ≤ Q ∧ Q ≤ 20 := by omega
  have HB := Lib.hid hb
  have HBS := Lib.hid hbs
  obtain ⟨bn_, hbn_⟩ : ∃ x : Nat, by_.n = x := ⟨_, rfl⟩
  have hbl := by_.lt
  rw [hbn_] at hbl ⊢
  have HBY := Lib.hid hbn_
  clear hN hQ hb hbs hbn_
  go_enter Tryz.func9, Tryz.ntmps9
  go_wp2_with fail
  refine (kreed_any N Q w (by omega) (by omega) (by omega) (by omega)).mono ?_
  rintro e w1 ⟨hb1, hr⟩
  rcases hr with ⟨hQN, cb, fb, v, rfl, hcb, hfb, hc, -⟩ | ⟨-, rfl⟩
  · have HC1 := Lib.hid hc
    have HB1 := Lib.hid hb1
    have HND := Lib.hid (pows_nodup (n := N) (by omega))
    have hf1 := hc.ok.lt
    clear hc hb1 en2 ek2 bn bk
    -- the message
    go_wp2_with fail
    refine (codeK_any _ cb fb Q v _ HC1.out).mono ?_
    rintro e wk ⟨rfl, rfl⟩
    go_wp2_with fail
    refine (kfull_any _ B Q w1 (HB.out.below HB1.out) (by omega)).mono ?_
    rintro e w2 ⟨gx, rfl, hgx, hvx, hrx, hb2⟩
    have HC2 := Lib.hid (HC1.out.below hb2)
    have HB2 : Hid (Below w.heap.size w w2) := Lib.hid (HB1.out.trans (hb2.mono HB1.out.size))
    obtain ⟨M, hM⟩ : ∃ M, M = fullG B Q := ⟨_, rfl⟩
    have hml : M.length = Q := by rw [hM, fullG_len]
    rw [← hM] at hrx
    have HM2 := Lib.hid hrx
    have HML := Lib.hid hml
    have hlx := hvx.1
    have hs12 := hb2.size
    have hs01 := HB1.out.size
    clear hvx hrx hb2 HC1 HB hM hml
    -- its word
    go_wp2_with fail
    refine (encode_any w2 cb fb v _ (pows N) M (by rw [HML.out]; exact HC2.out) HM2.out (fun k hk hm => by simp [Value.ownBlock] at hk hm; omega) (by rw [pows_len]; omega) (by rw [pows_len]; omega) (by rw [HML.out]; omega)).mono ?_
    rintro e w3 ⟨gu, rfl, hgu, hvu, hk3, hf3⟩
    rw [pows_len] at hvu
    rw [pows_len]
    have hs23 := hk3.size
    have hlu := hvu.1
    have HC3 := Lib.hid (HC2.out.step hk3 hf3)
    have HM3 := Lib.hid (HM2.out.kp hk3 (fun k hk hm => by simp [Value.ownBlock] at hk hm; omega))
    have HU3 := Lib.hid hvu
    have HB3 : Hid (Below w.heap.size w w3) := Lib.hid (HB2.out.trans (hk3.below (by omega) (fun x hx => by simp at hx; omega)))
    clear hvu hk3 hf3 HC2 HM2 HB2
    -- which symbols
    have HSOME := Lib.hid (ksome_any bs N N w3 HBS.out (by omega) (by omega))
    go_wp2_with fail
    refine HSOME.out.mono ?_
    rintro e w4 ⟨V, ls, rfl, hoz, hrise, hlen, hb4⟩
    have HL4 := Lib.hid hoz.rd
    have HRISE := Lib.hid hrise
    have hs34 := hb4.size
    have HC4 := Lib.hid (HC3.out.below hb4)
    have HM4 := Lib.hid (HM3.out.below hb4)
    have HU4 := Lib.hid (HU3.out.below hb4)
    have HB4 : Hid (Below w.heap.size w w4) := Lib.hid (HB3.out.trans (hb4.mono (by omega)))
    obtain ⟨L, hL⟩ : ∃ L, ls.length = L := ⟨_, rfl⟩
    have hform := hoz.rd.form
    rw [intsOf_len, hL] at hform
    obtain ⟨va, vc, rfl⟩ := hform
    have hlt4 : ∀ kk, (Value.slice va L vc).ownBlock = some kk → kk < w4.heap.size := fun kk hkk => (hoz.lt kk hkk).2
    have HLT4 := Lib.hid hlt4
    have HLL := Lib.hid hL
    rw [hL] at hlen
    clear hoz hrise hb4 HC3 HM3 HU3 HB3 HSOME hlt4 hL
    obtain ⟨U, hU⟩ : ∃ U : Nat → GF, U = fun j => ev M ((pows N).getD (rvN ls j) 0) := ⟨_, rfl⟩
    have HUU := Lib.hid hU
    clear hU
    go_wp2
    go_loopg [18, 19, 20] L (fun gk l y i wr => ∃ (V1 V2 : Value) (J : Nat) (iv : Int), V1 = l ∧ V2 = y ∧ J ≤ L ∧ gk = L - J ∧ i = .int .i64 iv ∧ iv + J + 1 = L ∧ Hid (OwnZ wr w4.heap.size V1 (rvI ls J)) ∧ Hid (OwnG wr w4.heap.size V2 (rowF U J)) ∧ Hid (Apart V2 V1.ownBlock.toList) ∧ Hid (Below w4.heap.size w4 wr))
    case atStart => exact ⟨_, _, 0, (L : Int) - 1, rfl, rfl, by omega, rfl, by go_num, by omega, Lib.hid (OwnZ.nil _ _), Lib.hid (OwnG.nil _ _), Lib.hid (Apart.nil _ _ _), Lib.hid (Below.refl _ _)⟩
    case round =>
      obtain ⟨V1, V2, J, iv, rfl, rfl, hJ, rfl, rfl, hiv, HO1, HO2, HAP, HBR⟩ := hrel
      have hsr := HBR.out.size
      by_cases hlt : J < L
      · obtain ⟨I, rfl⟩ : ∃ I : Nat, iv = (I : Int) := ⟨iv.toNat, by omega⟩
        obtain ⟨x, hx⟩ : ∃ x, rvN ls J = x := ⟨_, rfl⟩
        have hxN : x < N := by rw [← hx]; exact HRISE.out.2 _ (rvN_mem (by rw [HLL.out]; exact hlt))
        have hIx : (intsOf ls)[I]? = some (x : Int) := by
          have hI : I = ls.length - 1 - J := by rw [HLL.out]; omega
          rw [← hx, intsOf, List.getElem?_map, rvN, ← hI, List.getElem?_eq_getElem (by rw [HLL.out]; omega), List.getD_eq_getElem?_getD, List.getElem?_eq_getElem (by rw [HLL.out]; omega)]
          rfl
        obtain ⟨-, -, lb, lo, hva, hlb, hcl⟩ := IRd.cell (HL4.out.below HBR.out) hIx
        subst hva
        have hlb4 : lb < w4.heap.size := HLT4.out lb rfl
        obtain ⟨y, hy⟩ : ∃ y, (U J).n = y := ⟨_, rfl⟩
        have hy2 := hy
        rw [HUU.out] at hy2
        simp only [hx] at hy2
        obtain ⟨v1, w6, hap1, ho1, hk1, hb6, hat1⟩ := app_ints (W := wr) HO1.out (by omega) hsr hx (ad := wr.heap.size) rfl
        have hkb : Below wr.heap.size wr w6 ∨ True := .inr trivial
        have ho2 : OwnG w6 w4.heap.size V2 (rowF U J) := HO2.out.kp hk1 HAP.out
        have hap6 : Apart V2 v1.ownBlock.toList := apart_grow HAP.out (fun kk hkk => (HO2.out.lt kk hkk).2) hat1
        have hs6 := hk1.size
        obtain ⟨v2, w7, hap2, ho3, hk2, hb7, hat2⟩ := app_row (W := w6) ho2 (by omega) (by omega) hy (ad := w6.heap.size) rfl
        have HO1' : Hid (OwnZ w7 w4.heap.size v1 (rvI ls (J + 1))) := Lib.hid (ho1.kp hk2 (apart_swap hap6))
        have HO2' : Hid (OwnG w7 w4.heap.size v2 (rowF U (J + 1))) := Lib.hid ho3
        have HAP' : Hid (Apart v2 v1.ownBlock.toList) := Lib.hid (apart_swap (apart_grow (apart_swap hap6) (fun kk hkk => (ho1.lt kk hkk).2) hat2))
        have hb46 := HBR.out.trans hb6
        have HB7 : Hid (Below w4.heap.size w4 w7) := Lib.hid (hb46.trans hb7)
        have hcl6 := IRd.cells (HL4.out.below hb46) I _ hIx
        have hcu6 := ((HU4.out.below hb46).2 x hxN).1
        simp only [hy2] at hcu6
        have hal : ∀ (o : Obj), (wr.alloc o).heap.size = wr.heap.size + 1 := fun o => by simp
        clear hkb ho1 ho2 ho3 hk1 hk2 hb6 hb7 hat1 hat2 hb46 hap6 hIx hy hy2 hx hlb hal
        go_wp2_with (at_builtin; first | refine wpList_append rfl _ _ _ rfl rfl rfl hap1 ?_ | refine wpList_append rfl _ _ _ rfl rfl rfl hap2 ?_)
        go_roundg (L - (J + 1))
        case measure => omega
        case rel => exact ⟨v1, v2, J + 1, (I : Int) - 1, rfl, rfl, by omega, rfl, by go_num, by omega, HO1', HO2', HAP', HB7⟩
      · obtain rfl : J = L := by omega
        obtain rfl : iv = -1 := by omega
        have HCR := Lib.hid (HC4.out.below HBR.out)
        have HMR := Lib.hid (HM4.out.below HBR.out)
        have HBWR : Hid (Below w.heap.size w wr) := Lib.hid (HB4.out.trans (HBR.out.mono HB4.out.size))
        have ha1 : Apart V1 [fb] := fun b hb hm => by
          have := HO1.out.lt b hb
          simp at hm
          omega
        have ha2 : Apart V2 [fb] := fun b hb hm => by
          have := HO2.out.lt b hb
          simp at hm
          omega
        have hgd : GoodP (pows N).length (rvI ls J) := by
          rw [pows_len, ← HLL.out]
          exact rvI_good HRISE.out
        have HGD := Lib.hid hgd
        have HDEC : Hid (∀ (W : World) (yv : Value) (ys : List GF), Kp [fb] w4 W → FOk W fb → IRd W V1 (rvI ls J) → GRd W yv ys → Apart yv [fb] → ys.length ≤ 256 → Calls Tryz.prog 5 #[.pointer (some ⟨cb, 0, none⟩), V1, yv] W (DecPost fb (pows N) Q (rvI ls J) ys W)) := Lib.hid fun W yv ys h1 h2 h3 h4 h5 h6 =>
          decode_any W cb fb Q v V1 yv (pows N) (rvI ls J) ys (HC4.out.step h1 h2) HND.out (by omega) (by rw [pows_len]; exact hQN) (by rw [pows_len]; omega) h3 h4 ha1 h5 (by rw [rvI_len]; omega) (by omega)
        have HD1 := Lib.hid (HDEC.out wr V2 (rowF U J) (Kp.of_below HBR.out) HCR.out.ok HO1.out.rd HO2.out.rd ha2 (by rw [rowF_len]; omega))
        have HA1 := Lib.hid ha1
        have hV2 := HO2.out.form
        rw [rowF_len] at hV2
        obtain ⟨ya, yc, rfl, -⟩ := hV2
        have HA2 := Lib.hid ha2
        clear ha1 ha2 hgd
        go_wp2_with fail
        refine HD1.out.mono ?_
        rintro e w8 hp
        have hlen2 : (rvI ls J).length = (rowF U J).length := by rw [rvI_len, rowF_len]
        by_cases hfew : J < Q
        · obtain ⟨hk8, hf8, rfl⟩ := dec_few hp HGD.out hlen2 (by rw [rvI_len]; exact hfew)
          have HC8 := Lib.hid (HCR.out.step hk8 hf8)
          have HBW : Hid (Below w.heap.size w w8) := Lib.hid (HBWR.out.trans (hk8.below (by omega) (fun x hx => by simp at hx; omega)))
          clear hp hlen2 hk8 hf8
          go_wp2_with fail
          refine (codeK_any _ cb fb Q v _ HC8.out).mono ?_
          rintro e wk ⟨rfl, rfl⟩
          go_wp2_with fail
          refine (HW.out _).mono ?_
          rintro e w20 ⟨rfl, hb20⟩
          have HB20 : Hid (Below w.heap.size w w20) := Lib.hid (HBW.out.trans (hb20.mono HBW.out.size))
          clear hb20
          go_wp2
          go_ret
          exact ⟨rfl, HB20.out⟩
        · have hfit : Fits (pows N) Q (rvI ls J) (rowF U J) M := fits_row.2 ⟨HML.out, fun i hi => by rw [HUU.out]⟩
          obtain ⟨hk8, hf8, g8, rfl, hg8, hr8⟩ := dec_told hp HND.out HGD.out hlen2 (by rw [rvI_len]; omega) hfit
          have HC8 := Lib.hid (HCR.out.step hk8 hf8)
          have HM8 := Lib.hid (HMR.out.kp hk8 (fun k hk hm => by simp [Value.ownBlock] at hk hm; omega))
          have HR8 := Lib.hid hr8
          have HO8 := Lib.hid (HO2.out.kp hk8 HA2.out)
          have HK8 := Lib.hid hk8
          have hs8 := hk8.size
          clear hp hlen2 hfit hk8 hf8 hr8
          go_wp2_with fail
          refine (codeK_any _ cb fb Q v _ HC8.out).mono ?_
          rintro e wk ⟨rfl, rfl⟩
          have HSAME := Lib.hid (same_g _ _ _ _ w8 HR8.out HM8.out)
          rw [decide_eq_true rfl] at HSAME
          have hfew' : ¬ (J : Int) < (Q : Int) := by omega
          go_wp2_with fail
          refine HSAME.out.mono ?_
          rintro e w8' ⟨rfl, rfl⟩
          -- one of them another one
          obtain ⟨P, hP⟩ : ∃ P : Nat, wh % J = P := ⟨_, rfl⟩
          have hPJ : P < J := by rw [← hP]; exact Nat.mod_lt _ (by omega)
          have hPi : (wh : Int) % (J : Int) = (P : Int) := by rw [← hP]; simp
          have hJ0 : ¬ (J : Int) = 0 := by omega
          obtain ⟨g2, yc', hv2, hg2, hyc, hview⟩ := HO8.out.view (by
            intro h
            have := congrArg List.length h
            rw [rowF_len] at this
            simp at this
            omega)
          rw [rowF_len] at hv2 hview hyc
          obtain ⟨rfl, -, rfl⟩ := (Value.slice.injEq ..).mp hv2
          have hcell := hview.2 P hPJ
          have c1 := hcell.1
          have c2 := hcell.2
          simp only [rowF_get U hPJ] at c1
          have hview2 : View w8 g2 J U := hview.congr fun j hj => rowF_get U hj
          obtain ⟨W9, hW9⟩ : ∃ W9, W9 = w8.setCell ⟨g2, P, none⟩ (.int .u8 (((U P + by_).n : Nat) : Int)) := ⟨_, rfl⟩
          have hview3 : View W9 g2 J (othF U P by_) := by
            rw [hW9]
            exact (hview2.set hPJ (U P + by_)).congr fun j hj => rfl
          have hk89 : Kp [g2] w8 W9 := by
            rw [hW9]
            exact (Kp.refl _ w8).setCell (.inl (by simp)) _
          have hgf : g2 ≠ fb := by omega
          have hk49 : Kp [fb] w4 W9 := ((Kp.of_below HBR.out).trans HK8.out).step hk89 (fun x hx => by simp at hx; right; omega)
          have hf9 : FOk W9 fb := HC8.out.ok.kp hk89 (by simp; omega)
          have hz9 : IRd W9 V1 (rvI ls J) := (HO1.out.rd.kp HK8.out HA1.out).kp hk89 (fun b hb hm => by
            simp at hm
            subst hm
            exact HAP.out b rfl (by simpa using hb))
          have hm9 : GRd W9 (.slice (some ⟨gx, 0, none⟩) Q Q) M := HM8.out.kp hk89 (fun k hk hm => by simp [Value.ownBlock] at hk hm; omega)
          have HD2 := Lib.hid (HDEC.out W9 (.slice (some ⟨g2, 0, none⟩) J yc) (rowF (othF U P by_) J) hk49 hf9 hz9 (hview3.rowF hyc) (fun b hb hm => by simp [Value.ownBlock] at hb hm; omega) (by rw [rowF_len]; omega))
          have HC9 := Lib.hid (HC4.out.step hk49 hf9)
          have HB9 : Hid (Below w.heap.size w W9) := Lib.hid (HB4.out.trans (hk49.below (by omega) (fun x hx => by simp at hx; omega)))
          have HM9 := Lib.hid hm9
          have hs9 := hk89.size
          have hxo := GF.u8_xor (U P) by_
          have HSUM := Lib.hid hW9
          obtain ⟨un, hun⟩ : ∃ x, (U P).n = x := ⟨_, rfl⟩
          obtain ⟨sn, hsn⟩ : ∃ x, (U P + by_).n = x := ⟨_, rfl⟩
          rw [hun] at c1 hxo
          rw [hsn] at HSUM hxo
          rw [HBY.out] at hxo
          clear hview hview2 hview3 hk89 hk49 hf9 hz9 hm9 hcell hP hun hsn hW9 HO8 HSAME
          go_wp2_with fail
          rw [← HSUM.out]
          refine HD2.out.mono ?_
          rintro e w10 hp
          have hp2 : OthPost fb Q J by_ M W9 e w10 := by
            have h := oth_post (i := P) (b := by_) (m := M) (l := ls) (k := Q) (xs := pows N) (fb := fb) (w := W9) (w' := w10) (e := e) HND.out (by rw [pows_len]; exact HRISE.out) HML.out (by rw [HLL.out]; exact hPJ) (by rw [HLL.out]; omega)
            rw [HLL.out] at h
            rw [HUU.out] at hp
            exact h hp
          clear hp HD2 HD1 HDEC
          obtain ⟨hk10, hf10, ⟨hor, g10, m', rfl, hg10, hr10, hiff⟩ | ⟨hor, rfl⟩⟩ := hp2
          · have HBW : Hid (Below w.heap.size w w10) := Lib.hid (HB9.out.trans (hk10.below (by omega) (fun x hx => by simp at hx; omega)))
            have HM10 := Lib.hid (HM9.out.kp hk10 (fun k hk hm => by simp [Value.ownBlock] at hk hm; omega))
            have HC10 := Lib.hid (HC9.out.step hk10 hf10)
            have HSAME := Lib.hid (same_g _ _ _ _ w10 hr10 HM10.out)
            by_cases hb0 : bn_ = 0
            · have hz : by_ = 0 := GF.eq0.2 (by rw [HBY.out]; exact hb0)
              rw [decide_eq_true (hiff.2 hz)] at HSAME
              subst hb0
              clear hor hiff hz hk10 hf10 hr10
              go_wp2_with fail
              refine HSAME.out.mono ?_
              rintro e w10' ⟨rfl, rfl⟩
              go_wp2_with fail
              refine (HW.out _).mono ?_
              rintro e w20 ⟨rfl, hb20⟩
              have HB20 : Hid (Below w.heap.size w w20) := Lib.hid (HBW.out.trans (hb20.mono HBW.out.size))
              clear hb20
              go_wp2
              go_ret
              exact ⟨rfl, HB20.out⟩
            · have hz : by_ ≠ 0 := fun h => hb0 (by rw [← HBY.out, h]; rfl)
              rw [decide_eq_false (fun h => hz (hiff.1 h))] at HSAME
              obtain rfl : J = Q := hor.resolve_left hz
              have hb0' : ((bn_ : Int) == 0) = false := by simp; omega
              clear hor hiff hz hk10 hf10 hr10
              go_wp2_with fail
              refine (codeK_any _ cb fb J v _ HC10.out).mono ?_
              rintro e wk ⟨rfl, rfl⟩
              go_wp2_with fail
              refine HSAME.out.mono ?_
              rintro e w10' ⟨rfl, rfl⟩
              go_wp2_with fail
              refine (HW.out _).mono ?_
              rintro e w20 ⟨rfl, hb20⟩
              have HB20 : Hid (Below w.heap.size w w20) := Lib.hid (HBW.out.trans (hb20.mono HBW.out.size))
              clear hb20
              go_wp2
              go_ret
              exact ⟨rfl, HB20.out⟩
          · have HBW : Hid (Below w.heap.size w w10) := Lib.hid (HB9.out.trans (hk10.below (by omega) (fun x hx => by simp at hx; omega)))
            have HC10 := Lib.hid (HC9.out.step hk10 hf10)
            have hb0 : ¬ bn_ = 0 := fun h => hor (.inl (GF.eq0.2 (by rw [HBY.out]; exact h)))
            have hJQ : ¬ (J : Int) = (Q : Int) := fun h => hor (.inr (by omega))
            have hb0' : ((bn_ : Int) == 0) = false := by simp; omega
            clear hor hk10 hf10
            go_wp2_with fail
            refine (codeK_any _ cb fb Q v _ HC10.out).mono ?_
            rintro e wk ⟨rfl, rfl⟩
            go_wp2_with fail
            refine (HW.out _).mono ?_
            rintro e w20 ⟨rfl, hb20⟩
            have HB20 : Hid (Below w.heap.size w w20) := Lib.hid (HBW.out.trans (hb20.mono HBW.out.size))
            clear hb20
            go_wp2
            go_ret
            exact ⟨rfl, HB20.out⟩
  · have HBW := Lib.hid hb1
    clear hb1
    go_wp2_with fail
    refine (HW.out _).mono ?_
    rintro e w20 ⟨rfl, hb20⟩
    have HB20 : Hid (Below w.heap.size w w20) := Lib.hid (HBW.out.trans (hb20.mono HBW.out.size))
    clear hb20
    go_wp2
    go_ret
    exact ⟨rfl, HB20.out⟩
end Go.Proofs.YtpkeglpigjaccaaGreat
