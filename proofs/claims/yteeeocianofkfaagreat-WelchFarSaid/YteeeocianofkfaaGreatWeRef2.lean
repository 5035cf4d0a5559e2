/-
  The reference's Decode of words some symbols of which are wrong.
-/
import Derived.Test.YteeeocianofkfaaGreatWeTry
import Derived.Test.YteeeocianofkfaaGreatWeDiffer
namespace Go.Proofs.YteeeocianofkfaaGreat
open Go.RowKit Fld
set_option linter.unusedVariables false
set_option linter.unusedSimpArgs false

theorem rowN_succ (J : Nat) (l : Nat → Nat) : rowN (J + 1) l = rowN J l ++ [((l J : Nat) : Int)] := by simp [rowN, List.range_succ]
/-- What a word of which few symbols are wrong is answered with. -/
def WeAns (B : Nat) (xs : List GF) (k : Nat) (ps : List Int) (ys : List GF) (t : Int) (e : Ending) (w' : World) : Prop :=
  (¬ (GoodP xs.length ps ∧ ps.length = ys.length) ∨ t < 0) ∧ e = .returned (.tuple #[.slice none 0 0, .slice none 0 0, .int .i64 2]) ∨
  ((GoodP xs.length ps ∧ ps.length = ys.length) ∧ 0 ≤ t) ∧ ((ps.length : Int) < (k : Int) + 2 * t ∧ e = .returned (.tuple #[.slice none 0 0, .slice none 0 0, .int .i64 70]) ∨
    (k : Int) + 2 * t ≤ (ps.length : Int) ∧ ((∃ m v1 v2, e = .returned (.tuple #[v1, v2, .int .i64 0]) ∧ WeTells xs k ps ys t.toNat (some m) ∧ OwnG w' B v1 m ∧ RdZ w' B v2 (wrS xs ps ys m)) ∨
      e = .returned (.tuple #[.slice none 0 0, .slice none 0 0, .int .i64 80]) ∧ WeTells xs k ps ys t.toNat none))
def RWePost (xs : List GF) (k : Nat) (ps : List Int) (ys : List GF) (t : Int) (w : World) (e : Ending) (w' : World) : Prop := Below w.heap.size w w' ∧ WeAns w.heap.size xs k ps ys t e w'
theorem apart_nil (V : Value) : Apart V (Value.slice none 0 0).ownBlock.toList := fun k _ hm => by simp [Value.ownBlock] at hm
theorem rowF_map (xs m : List GF) : rowF (fun i => ev m (xs.getD i 0)) xs.length = xs.map (ev m) := by
  refine List.ext_getElem (by simp [rowF]) fun i h1 h2 => ?_
  rw [rowF_len] at h1
  simp [rowF, List.getElem?_eq_getElem h1]
set_option maxRecDepth 100000 in
set_option maxHeartbeats 2000000 in
theorem rwdec_any (xv pv yv : Value) (xs : List GF) (k : Nat) (ps : List Int) (ys : List GF) (t : Int) (w : World) (hx : GRd w xv xs) (hp : IRd w pv ps) (hy : GRd w yv ys) (hn : xs.Nodup) (hk0 : 0 < k) (hxl : xs.length ≤ 500) (hpl : ps.length ≤ 500) (hk : k ≤ 500) (ht : -9223372036854775808 ≤ t ∧ t ≤ 9223372036854775807) :
    Calls Tryz.prog 27 #[xv, .int .i64 k, pv, yv, .int .i64 t] w (RWePost xs k ps ys t w) := by
  have HPL := Lib.hid (rplaces_any xv pv yv xs ps ys w hx hp hy (by omega))
  obtain ⟨ax, cx, rfl, hcx⟩ := hx.form
  obtain ⟨ay, cy, rfl, hcy⟩ := hy.form
  obtain ⟨ap, cp, rfl⟩ := hp.form
  have HX := Lib.hid hx
  have HP := Lib.hid hp
  have HY := Lib.hid hy
  have HND := Lib.hid hn
  obtain ⟨Q, hQ⟩ : ∃ Q, ps.length = Q := ⟨_, rfl⟩
  obtain ⟨N, hN⟩ : ∃ N, xs.length = N := ⟨_, rfl⟩
  obtain ⟨Y, hY⟩ : ∃ Y, ys.length = Y := ⟨_, rfl⟩
  have HQ := Lib.hid hQ
  have HNN := Lib.hid hN
  have HYY := Lib.hid hY
  rw [hQ] at HPL HP hpl ⊢
  rw [hN] at HPL HX hxl ⊢
  rw [hY] at HPL HY ⊢
  clear hx hp hy hn hcx hcy hQ hN hY
  go_enter Tryz.func27, Tryz.ntmps27
  go_wp2_with fail
  refine HPL.out.mono ?_
  rintro e w1 ⟨b, rfl, hbi, hb1⟩
  have HB1 := Lib.hid hb1
  have HBI := Lib.hid hbi
  have hs1 := hb1.size
  clear hb1 hbi HPL
  cases b
  · go_wp2
    go_ret3
    refine ⟨HB1.out, .inl ⟨.inl fun h => ?_, rfl⟩⟩
    have := HBI.out.2 ⟨by rw [← HNN.out]; exact h.1, by rw [← HYY.out]; exact h.2⟩
    cases this
  have HGD := Lib.hid (HBI.out.1 (by trivial))
  clear HBI
  obtain rfl : Q = Y := by rw [← HQ.out]; exact HGD.out.2
  by_cases ht0 : t < 0
  · go_wp2
    go_ret3
    exact ⟨HB1.out, .inl ⟨.inr ht0, rfl⟩⟩
  obtain ⟨T, rfl⟩ : ∃ T : Nat, t = (T : Int) := ⟨t.toNat, by omega⟩
  have HGA : Hid ((GoodP xs.length ps ∧ ps.length = ys.length) ∧ (0 : Int) ≤ (T : Int)) := Lib.hid ⟨⟨by rw [HNN.out]; exact HGD.out.1, by rw [HYY.out, HQ.out]⟩, by omega⟩
  by_cases hf : (Q : Int) < (T : Int)
  · go_wp2
    go_ret3
    exact ⟨HB1.out, .inr ⟨HGA.out, .inl ⟨by rw [HQ.out]; omega, rfl⟩⟩⟩
  obtain ⟨T2, hT2⟩ : ∃ T2, 2 * T = T2 := ⟨_, rfl⟩
  obtain ⟨U, hU⟩ : ∃ U, k + T2 = U := ⟨_, rfl⟩
  have x1 : (2 : Int) * (T : Int) = (T2 : Int) := by omega
  have x2 : IntKind.i64.wrap (T2 : Int) = (T2 : Int) := IntWalk.i64_in _ (by omega)
  have x3 : (k : Int) + (T2 : Int) = (U : Int) := by omega
  have x4 : IntKind.i64.wrap (U : Int) = (U : Int) := IntWalk.i64_in _ (by omega)
  by_cases hfew : Q < U
  · have hfew' : (Q : Int) < (U : Int) := by omega
    have HF : Hid (((ps.length : Nat) : Int) < (k : Int) + 2 * (T : Int)) := Lib.hid (by rw [HQ.out]; omega)
    clear hfew hT2 hU
    go_wp2
    go_ret3
    exact ⟨HB1.out, .inr ⟨HGA.out, .inl ⟨HF.out, rfl⟩⟩⟩
  have hfew' : ¬ (Q : Int) < (U : Int) := by omega
  have HFW : Hid (k + 2 * T ≤ Q) := Lib.hid (by omega)
  have hkQ : k ≤ Q := by omega
  have HFZ : Hid ((k : Int) + 2 * (T : Int) ≤ ((ps.length : Nat) : Int)) := Lib.hid (by rw [HQ.out]; omega)
  obtain ⟨E, hE⟩ : ∃ E : (Nat → Nat) → Nat, E = fun r => Q ^ k - encE Q r k := ⟨_, rfl⟩
  have HE := Lib.hid hE
  have hTQ : T ≤ Q := by omega
  have hd1 : decide (Q < T) = false := by simp; omega
  have hd2 : decide (Q < U) = false := by simp; omega
  clear hfew hT2 hU hE ht
  go_wp2
  clear x1 x2 x3 x4 hfew' hf ht0 hd1 hd2
  go_loopg [13, 14] k (fun gk l i wr => ∃ (V : Value) (J : Nat), V = l ∧ J ≤ k ∧ gk = k - J ∧ i = .int .i64 J ∧ Hid (OwnZ wr w1.heap.size V (rowN J (fun j => j))) ∧ Hid (Below w1.heap.size w1 wr))
  case atStart => exact ⟨_, 0, rfl, by omega, rfl, rfl, Lib.hid (OwnZ.nil _ _), Lib.hid (Below.refl _ _)⟩
  case round =>
    obtain ⟨V, J, rfl, hJ, rfl, rfl, HO, HB⟩ := hrel
    have hs := HB.out.size
    by_cases hlt : J < k
    · obtain ⟨v1, w6, hap, ho1, -, hb6, -⟩ := app_int (W := wr) (J : Int) HO.out (by rw [rowN_len]; omega) (by omega) (ad := wr.heap.size) rfl
      have HO6 : Hid (OwnZ w6 w1.heap.size v1 (rowN (J + 1) (fun j => j))) := Lib.hid (by rw [rowN_succ]; exact ho1)
      have HB6 := Lib.hid (HB.out.trans hb6)
      clear ho1 hb6
      go_wp2_with (at_builtin; refine wpList_append rfl _ _ _ rfl rfl rfl hap ?_)
      go_roundg (k - (J + 1))
      case measure => omega
      case rel => exact ⟨_, J + 1, rfl, by omega, rfl, by go_num, HO6, HB6⟩
    · obtain rfl : J = k := by omega
      obtain ⟨g, capg, rfl, hg1, hg2, hgv⟩ := OwnZ.view HO.out hk0
      obtain ⟨w2, rfl⟩ : ∃ w2 : World, w2 = wr := ⟨_, rfl⟩
      have HV2 := Lib.hid hgv
      have HB2 : Hid (Below w.heap.size w w2) := Lib.hid (HB1.out.trans (HB.out.mono HB1.out.size))
      have HGG : Hid (w.heap.size ≤ g) := Lib.hid (by omega)
      clear hgv hg1 HB HO hs hlt hJ
      go_wp2
      go_loopg [15] (E (fun j => j)) (fun gk s wr => ∃ (b : Bool) (r : Nat → Nat), s = .bool b ∧ gk = cond b (E r) 0 ∧ Hid (ViewZ wr g J r) ∧ Hid (Ris J Q r) ∧ Hid (Below w.heap.size w wr) ∧ Hid (b = true → ∀ r', Ris J Q r' → Lx J r' r → FailR xs ps ys J T r') ∧ Hid (b = false → ∀ r', Ris J Q r' → FailR xs ps ys J T r'))
      case atStart => exact ⟨true, fun j => j, rfl, rfl, HV2, Lib.hid (first_ris hkQ), HB2, Lib.hid (fun _ r' h1 h2 => absurd h2 (first_none h1)), Lib.hid (fun h => by cases h)⟩
      case round =>
        clear HV2 HB2
        obtain ⟨b, r, rfl, rfl, HV, HR, HB, HT, HF⟩ := hrel
        have hsr := HB.out.size
        cases b
        · go_wp2
          go_ret3
          refine ⟨HB.out, .inr ⟨HGA.out, .inr ⟨HFZ.out, .inr ⟨rfl, ?_⟩⟩⟩⟩
          rw [Int.toNat_natCast]
          exact all_fail (by rw [HQ.out]; have := HFW.out; omega) (by rw [HQ.out]; exact HF.out (by trivial))
        obtain ⟨wo, rfl⟩ : ∃ wo : World, wo = wr := ⟨_, rfl⟩
        go_wp2
        go_loopg [16, 17, 18] J (fun gk p y i wr => ∃ (V1 V2 : Value) (I : Nat), V1 = p ∧ V2 = y ∧ I ≤ J ∧ gk = J - I ∧ i = .int .i64 I ∧ Hid (OwnZ wr wo.heap.size V1 (rowP ps r I)) ∧ Hid (OwnG wr wo.heap.size V2 (rowY ys r I)) ∧ Hid (Apart V2 V1.ownBlock.toList) ∧ Hid (Below wo.heap.size wo wr))
        case atStart => exact ⟨_, _, 0, rfl, rfl, by omega, rfl, rfl, Lib.hid (OwnZ.nil _ _), Lib.hid (OwnG.nil _ _), Lib.hid (apart_nil _), Lib.hid (Below.refl _ _)⟩
        case round =>
          obtain ⟨V1, V2, I, rfl, rfl, hI, rfl, rfl, HO1, HO2, HAP, HBR⟩ := hrel
          have hsw := HBR.out.size
          by_cases hlt : I < J
          · have hgo := HV.out.1
            have cl := ((HV.out.below HBR.out).2 I hlt).1
            have hRQ := HR.out.1 I hlt
            obtain ⟨R, hRe⟩ : ∃ R, r I = R := ⟨_, rfl⟩
            rw [hRe] at cl hRQ
            obtain ⟨x, hx⟩ : ∃ x, ps[R]? = some x := ⟨_, List.getElem?_eq_getElem (by rw [HQ.out]; exact hRQ)⟩
            obtain ⟨y, hy, hyd⟩ := at_get (l := ys) (i := R) (by rw [HYY.out]; omega)
            have hbw : Below w.heap.size w wr := HB.out.trans (HBR.out.mono HB.out.size)
            obtain ⟨-, -, b0, o0, rfl, hb0, -⟩ := IRd.cell HP.out hx
            obtain ⟨b2, o2, rfl, hb2, -⟩ := HY.out.at hy
            have c0 := IRd.cells (HP.out.below hbw) R x hx
            obtain ⟨yn, hyn⟩ : ∃ t, y.n = t := ⟨_, rfl⟩
            have hxd : ps.getD (r I) 0 = x := by rw [hRe, List.getD_eq_getElem?_getD, hx]; rfl
            obtain ⟨v1, w6, hap1, ho1, hk1, hb6, hat1⟩ := app_int (W := wr) x HO1.out (by rw [rowP_len]; omega) (by omega) (ad := wr.heap.size) rfl
            have ho1' : OwnZ w6 wo.heap.size v1 (rowP ps r (I + 1)) := by rw [rowP_succ, hxd]; exact ho1
            have ho2 : OwnG w6 wo.heap.size V2 (rowY ys r I) := OwnG.kp HO2.out hk1 HAP.out
            have hap6 : Apart V2 v1.ownBlock.toList := apart_grow HAP.out (fun kk hkk => (HO2.out.lt kk hkk).2) hat1
            have hs6 := hk1.size
            obtain ⟨v2, w7, hap2, ho3, hk2, hb7, hat2⟩ := app_row (W := w6) (f := fun j => ys.getD (r j) 0) (J := I) ho2 (by omega) (by omega) (n := yn) (by show (ys.getD (r I) 0).n = yn; rw [hRe, hyd, hyn]) (ad := w6.heap.size) rfl
            have HO1' : Hid (OwnZ w7 wo.heap.size v1 (rowP ps r (I + 1))) := Lib.hid (OwnZ.kp ho1' hk2 (apart_swap hap6))
            have HO2' : Hid (OwnG w7 wo.heap.size v2 (rowY ys r (I + 1))) := Lib.hid ho3
            have HAP' : Hid (Apart v2 v1.ownBlock.toList) := Lib.hid (apart_swap (apart_grow (apart_swap hap6) (fun kk hkk => (ho1.lt kk hkk).2) hat2))
            have hb46 := HBR.out.trans hb6
            have HB7 : Hid (Below wo.heap.size wo w7) := Lib.hid (hb46.trans hb7)
            have cl6 := ((HV.out.below hb46).2 I hlt).1
            rw [hRe] at cl6
            obtain ⟨_, _, e, -, cy⟩ := (HY.out.below (HB.out.trans (hb46.mono HB.out.size))).at hy
            cases e
            rw [hyn] at cy
            have i1 : (0 : Int) ≤ (R : Int) ∧ (R : Int) < (Q : Int) := by omega
            have i3 : (0 : Int) ≤ (I : Int) ∧ (I : Int) < (J : Int) := by omega
            clear ho1 ho1' ho2 ho3 hk1 hk2 hb6 hb7 hat1 hat2 hb46 hap6 hx hy hyd hyn hxd hRe hbw
            go_wp2_with (at_builtin; first | refine wpList_append rfl _ _ _ rfl rfl rfl hap1 ?_ | refine wpList_append rfl _ _ _ rfl rfl rfl hap2 ?_)
            go_roundg (J - (I + 1))
            case measure => omega
            case rel => exact ⟨v1, v2, I + 1, rfl, rfl, by omega, rfl, by go_num, HO1', HO2', HAP', HB7⟩
          · obtain rfl : I = J := by omega
            have hbw : Below w.heap.size w wr := HB.out.trans (HBR.out.mono HB.out.size)
            have HBW := Lib.hid hbw
            have HRG : Hid (Ris I ps.length r) := Lib.hid (by rw [HQ.out]; exact HR.out)
            have HDEC := Lib.hid (rdec_any (.slice ax N cx) V1 V2 xs I (rowP ps r I) (rowY ys r I) wr (HX.out.below hbw) HO1.out.rd HO2.out.rd HND.out (by rw [HNN.out]; omega) (by rw [rowP_len]; omega) (by omega))
            have HV3 := Lib.hid (HV.out.below HBR.out)
            clear hbw
            go_wp2_with fail
            refine HDEC.out.mono ?_
            rintro e w7 ⟨hb7, h7⟩
            obtain ⟨v, m, rfl, hov, hfit⟩ : ∃ v m, e = .returned (.tuple #[v, .int .i64 0]) ∧ OwnG w7 wr.heap.size v m ∧ Fits xs I (rowP ps r I) (rowY ys r I) m := by
              have hg := ris_good (N := xs.length) HGA.out.1.1 HRG.out
              have hl : (rowP ps r I).length = (rowY ys r I).length := by rw [rowP_len, rowY, rowF_len]
              rcases h7 with ⟨h7, -⟩ | ⟨-, ⟨h7, -⟩ | ⟨-, h7 | ⟨-, h7⟩⟩⟩
              · exact absurd hg (h7 hl)
              · rw [rowP_len] at h7; omega
              · exact h7
              · obtain ⟨m, hm⟩ := fits_ex (ys := ys) HND.out HGA.out.1.1 HRG.out
                exact absurd hm (h7 m)
            have HB7 : Hid (Below w.heap.size w w7) := Lib.hid (HBW.out.trans (hb7.mono HBW.out.size))
            have HV7 := Lib.hid (HV3.out.below hb7)
            have HOV := Lib.hid hov
            have HFIT := Lib.hid hfit
            have HBB7 := Lib.hid hb7
            have HWR := Lib.hid (rwrong_any (.slice ax N cx) v (.slice ap Q cp) (.slice ay Q cy) xs m ys I ps w7 (HX.out.below HB7.out) hov.rd (HP.out.below HB7.out) (HY.out.below HB7.out) hfit.1 (by rw [HQ.out, HYY.out]; exact Nat.le_refl _) (by rw [HNN.out]; exact hxl) (by rw [HQ.out]; omega) (by omega))
            clear hb7 hov hfit h7 HDEC HO1 HO2 HAP HBR HV3 HV HB
            go_wp2_with fail
            refine HWR.out.mono ?_
            rintro e w8 ⟨v2, rfl, hoz, hb8⟩
            rw [rowF_map, wrR_wrS ys m HGA.out.1.1] at hoz
            have hs7 := HB7.out.size
            have HB8 : Hid (Below w.heap.size w w8) := Lib.hid (HB7.out.trans (hb8.mono HB7.out.size))
            have HV8 := Lib.hid (HV7.out.below hb8)
            have HOV8 := Lib.hid (OwnG.below HOV.out hb8)
            have hzz := RdZ.of_own hoz
            obtain ⟨av, cv, rfl⟩ := hzz.rd.form
            obtain ⟨L, hL⟩ : ∃ L, (wrS xs ps ys m).length = L := ⟨_, rfl⟩
            have HL := Lib.hid hL
            have HZZ : Hid (RdZ w8 w7.heap.size (.slice av L cv) (wrS xs ps ys m)) := Lib.hid (by rw [← hL]; exact hzz)
            rw [hL]
            have hsw2 := HBW.out.size
            clear hb8 hoz hzz hL HWR HV7 HOV
            by_cases hLT : L ≤ T
            · have hLT' : (L : Int) ≤ (T : Int) := by omega
              have HLT := Lib.hid hLT
              clear hLT
              go_wp2
              go_ret3
              exact ⟨HB8.out, .inr ⟨HGA.out, .inr ⟨HFZ.out, .inl ⟨m, v, _, rfl, ⟨HFIT.out.1, by rw [HL.out, Int.toNat_natCast]; exact HLT.out⟩, HOV8.out.mono hsw2, HZZ.out.mono hs7⟩⟩⟩⟩
            · have hLT' : ¬ (L : Int) ≤ (T : Int) := by omega
              have HFAIL : Hid (FailR xs ps ys I T r) := Lib.hid (fail_one HND.out HGA.out.1.1 HRG.out HFIT.out (by rw [HL.out]; exact hLT))
              have HNX := Lib.hid (rnext_any g capg I Q r w8 HV8.out (fun j hj => HR.out.1 j hj) hkQ (by omega))
              clear hLT
              go_wp2_with fail
              refine HNX.out.mono ?_
              rintro e w9 ⟨hk9, ⟨i, hi, hgi, hti, rfl, hv9⟩ | ⟨hti, rfl, hv9⟩⟩
              · have HB9 : Hid (Below w.heap.size w w9) := Lib.hid (HB8.out.trans (hk9.below HB8.out.size (by simp; exact HGG.out)))
                have HV9 := Lib.hid hv9
                have HR9 := Lib.hid (nxt_ris HR.out hi hgi)
                have HM : Hid (E (nxt r i) < E r) := Lib.hid (by
                  rw [HE.out]
                  have h1 := encE_lx I HR.out.1 (nxt_lx (k := I) (n := Q) (l := r) hi)
                  have h2 := encE_lt I (nxt_ris HR.out hi hgi).1
                  simp only []
                  omega)
                have HT9 : Hid (∀ r', Ris I Q r' → Lx I r' (nxt r i) → FailR xs ps ys I T r') := Lib.hid fun r' h1 h2 => by
                  rcases nxt_next hi hti h1 h2 with h3 | h3
                  · exact fail_congr h3 HFAIL.out
                  · exact HT.out (by trivial) r' h1 h3
                clear hk9 hv9 HNX
                go_wp2
                go_roundg (E (nxt r i))
                case measure => exact HM.out
                case rel => exact ⟨true, nxt r i, rfl, rfl, HV9, HR9, HB9, Lib.hid (fun _ => HT9.out), Lib.hid (fun h => by cases h)⟩
              · have HB9 : Hid (Below w.heap.size w w9) := Lib.hid (HB8.out.trans (hk9.below HB8.out.size (by simp; exact HGG.out)))
                have HV9 := Lib.hid hv9
                have HM : Hid (0 < E r) := Lib.hid (by
                  rw [HE.out]
                  have h2 := encE_lt I HR.out.1
                  simp only []
                  omega)
                have HF9 : Hid (∀ r', Ris I Q r' → FailR xs ps ys I T r') := Lib.hid fun r' h1 => by
                  rcases last_next hti h1 with h3 | h3
                  · exact fail_congr h3 HFAIL.out
                  · exact HT.out (by trivial) r' h1 h3
                clear hk9 hv9 HNX
                go_wp2
                go_roundg 0
                case measure => exact HM.out
                case rel => exact ⟨false, r, rfl, rfl, HV9, HR, HB9, Lib.hid (fun h => by cases h), Lib.hid (fun _ => HF9.out)⟩
end Go.Proofs.YteeeocianofkfaaGreat
