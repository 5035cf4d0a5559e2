/-
  The law WelchMends.
-/
import Derived.Test.YteeeocianofkfaaGreatWork8
import Derived.Test.YteeeocianofkfaaGreatWeMend
import Derived.Test.YteeeocianofkfaaGreatKit
namespace Go.Proofs.YteeeocianofkfaaGreat
open Go.RowKit Fld
set_option linter.unusedVariables false
set_option linter.unusedSimpArgs false

set_option maxRecDepth 100000 in
set_option maxHeartbeats 4000000 in
theorem lmends_any (n k : Nat) (ub ta tb : Value) (B As Bs : List GF) (bs : Nat) (w : World) (hn : n < 256) (hk : k < 256) (hb : GRd w ub B) (hbs : bs < 18446744073709551616) (ha : GRd w ta As) (hbb : GRd w tb Bs) :
    Calls Tryz.prog 8 #[.int .u8 n, .int .u8 k, ub, .int .u64 bs, ta, tb] w fun e w' => e = .returned (.bool true) ∧ Below w.heap.size w w' := by
  have HW := Lib.hid (fun W => works_any W)
  obtain ⟨ab, cb0, rfl, hcb0⟩ := hb.form
  obtain ⟨aa, ca, rfl, hca⟩ := ha.form
  obtain ⟨abb, cbb, rfl, hcbb⟩ := hbb.form
  obtain ⟨LA, hLA⟩ : ∃ LA, As.length = LA := ⟨_, rfl⟩
  obtain ⟨LB, hLB⟩ : ∃ LB, Bs.length = LB := ⟨_, rfl⟩
  rw [hLA] at ha ⊢
  rw [hLB] at hbb ⊢
  obtain ⟨N, hN⟩ : ∃ N : Nat, 1 + n % 20 = N := ⟨_, rfl⟩
  obtain ⟨K, hK⟩ : ∃ K : Nat, 1 + k % 20 = K := ⟨_, rfl⟩
  have en2 : (1 : Int) + (n : Int) % 20 = (N : Int) := by omega
  have ek2 : (1 : Int) + (k : Int) % 20 = (K : Int) := by omega
  have bn : n % 20 < 20 := Nat.mod_lt _ (by omega)
  have bk : k % 20 < 20 := Nat.mod_lt _ (by omega)
  have hN1 : 1 ≤ N ∧ N ≤ 20 := by omega
  have hK1 : 1 ≤ K ∧ K ≤ 20 := by omega
  have HB := Lib.hid hb
  have HTA := Lib.hid ha
  have HTB := Lib.hid hbb
  have HLA := Lib.hid hLA
  have HLB := Lib.hid hLB
  have HBS := Lib.hid hbs
  clear hN hK hb ha hbb hbs hLA hLB hcb0 hca hcbb
  go_enter Tryz.func8, Tryz.ntmps8
  go_wp2_with fail
  refine (kreed_any N K w (by omega) (by omega) (by omega) (by omega)).mono ?_
  rintro e w1 ⟨hb1, hr⟩
  rcases hr with ⟨hQN, cb, fb, v, rfl, hcb, hfb, hc, -⟩ | ⟨-, rfl⟩
  case inr =>
    have HBW := Lib.hid hb1
    clear hb1
    go_wp2_with fail
    refine (HW.out _).mono ?_
    rintro e w20 ⟨rfl, hb20⟩
    have HB20 : Hid (Below w.heap.size w w20) := Lib.hid (HBW.out.trans (hb20.mono HBW.out.size))
    clear hb20
    go_wp2
    go_ret
    exact ⟨rfl, HB20.out⟩
  have HC1 := Lib.hid hc
  have HB1 := Lib.hid hb1
  have HND := Lib.hid (pows_nodup (n := N) (by omega))
  have hf1 := hc.ok.lt
  have hs01 := hb1.size
  clear hc hb1 en2 ek2 bn bk
  by_cases h1 : 10 < LA
  · have h1' : (10 : Int) < (LA : Int) := by omega
    have HBW := HB1
    go_wp2_with fail
    refine (HW.out _).mono ?_
    rintro e w20 ⟨rfl, hb20⟩
    have HB20 : Hid (Below w.heap.size w w20) := Lib.hid (HBW.out.trans (hb20.mono HBW.out.size))
    clear hb20
    go_wp2
    go_ret
    exact ⟨rfl, HB20.out⟩
  have h1' : ¬ (10 : Int) < (LA : Int) := by omega
  clear h1
  -- the message
  go_wp2_with fail
  refine (codeK_any _ cb fb K v _ HC1.out).mono ?_
  rintro e wk ⟨rfl, rfl⟩
  go_wp2_with fail
  refine (kfull_any _ B K w1 (HB.out.below HB1.out) (by omega)).mono ?_
  rintro e w2 ⟨gx, rfl, hgx, hvx, hrx, hb2⟩
  have HC2 := Lib.hid (HC1.out.below hb2)
  have HB2 : Hid (Below w.heap.size w w2) := Lib.hid (HB1.out.trans (hb2.mono HB1.out.size))
  obtain ⟨M, hM⟩ : ∃ M, M = fullG B K := ⟨_, rfl⟩
  have hml : M.length = K := by rw [hM, fullG_len]
  rw [← hM] at hrx
  have HM2 := Lib.hid hrx
  have HML := Lib.hid hml
  have hlx := hvx.1
  have hs12 := hb2.size
  clear hvx hrx hb2 HC1 HB hM hml
  -- its word
  go_wp2_with fail
  refine (encode_any w2 cb fb v _ (pows N) M (by rw [HML.out]; exact HC2.out) HM2.out (fun k hk hm => by simp [Value.ownBlock] at hk hm; omega) (by rw [pows_len]; omega) (by rw [pows_len]; omega) (by rw [HML.out]; omega)).mono ?_
  rintro e w3 ⟨gu, rfl, hgu, hvu, hk3, hf3⟩
  rw [pows_len] at hvu
  rw [pows_len]
  have hs23 := hk3.size
  have hlu := hvu.1
  have HC3 := Lib.hid (HC2.out.step hk3 hf3)
  have HM3 := Lib.hid (HM2.out.kp hk3 (fun k hk hm => by simp [Value.ownBlock] at hk hm; omega))
  have HU3 := Lib.hid hvu
  have HB3 : Hid (Below w.heap.size w w3) := Lib.hid (HB2.out.trans (hk3.below (by omega) (fun x hx => by simp at hx; omega)))
  clear hvu hk3 hf3 HC2 HM2 HB2
  -- which symbols
  have HSOME := Lib.hid (ksome_any bs N N w3 HBS.out (by omega) (by omega))
  go_wp2_with fail
  refine HSOME.out.mono ?_
  rintro e w4 ⟨V, ls, rfl, hoz, hrise, hlen, hb4⟩
  have HRISE := Lib.hid hrise
  have hs34 := hb4.size
  have HC4 := Lib.hid (HC3.out.below hb4)
  have HM4 := Lib.hid (HM3.out.below hb4)
  have HU4 := Lib.hid (HU3.out.below hb4)
  have HB4 : Hid (Below w.heap.size w w4) := Lib.hid (HB3.out.trans (hb4.mono (by omega)))
  obtain ⟨L, hL⟩ : ∃ L, ls.length = L := ⟨_, rfl⟩
  have hform := hoz.rd.form
  rw [intsOf_len, hL] at hform
  obtain ⟨va, vc, rfl⟩ := hform
  have HZ4 := Lib.hid (RdZ.of_own hoz)
  have HLL := Lib.hid hL
  rw [hL] at hlen
  clear hoz hrise hb4 HC3 HM3 HU3 HB3 HSOME hL
  have hLN : L ≤ 20 := by omega
  by_cases hLK : L < K
  · have hLK' : (L : Int) < (K : Int) := by omega
    have x1 : IntKind.i64.wrap ((L : Int) - (K : Int)) = (L : Int) - (K : Int) := IntWalk.i64_in _ (by omega)
    go_wp2_with fail
    refine (codeK_any _ cb fb K v _ HC4.out).mono ?_
    rintro e wk ⟨rfl, rfl⟩
    go_wp2_with fail
    refine (codeK_any _ cb fb K v _ HC4.out).mono ?_
    rintro e wk ⟨rfl, rfl⟩
    have HBW := HB4
    go_wp2_with fail
    refine (HW.out _).mono ?_
    rintro e w20 ⟨rfl, hb20⟩
    have HB20 : Hid (Below w.heap.size w w20) := Lib.hid (HBW.out.trans (hb20.mono HBW.out.size))
    clear hb20
    go_wp2
    go_ret
    exact ⟨rfl, HB20.out⟩
  have hLK' : ¬ (L : Int) < (K : Int) := by omega
  obtain ⟨D, hD⟩ : ∃ D, L - K = D := ⟨_, rfl⟩
  obtain ⟨T, hT⟩ : ∃ T, D / 2 = T := ⟨_, rfl⟩
  have x1 : (L : Int) - (K : Int) = (D : Int) := by omega
  have x2 : IntKind.i64.wrap (D : Int) = (D : Int) := IntWalk.i64_in _ (by omega)
  have x3 : (D : Int) / 2 = (T : Int) := by omega
  have x4 : Int.tdiv (D : Int) 2 = (T : Int) := by rw [Int.tdiv_eq_ediv_of_nonneg (by omega), x3]
  have x5 : IntKind.i64.wrap (T : Int) = (T : Int) := IntWalk.i64_in _ (by omega)
  have HKT : Hid (K + 2 * T ≤ L ∧ L < K + 2 * T + 2) := Lib.hid (by omega)
  have hT20 : T ≤ 20 := by omega
  clear hD hT
  go_wp2_with fail
  refine (codeK_any _ cb fb K v _ HC4.out).mono ?_
  rintro e wk ⟨rfl, rfl⟩
  go_wp2_with fail
  refine (codeK_any _ cb fb K v _ HC4.out).mono ?_
  rintro e wk ⟨rfl, rfl⟩
  obtain ⟨U, hU⟩ : ∃ U : Nat → GF, U = fun j => ev M ((pows N).getD (ls.getD j 0) 0) := ⟨_, rfl⟩
  have HUU := Lib.hid hU
  clear hU
  go_wp2
  clear x1 x2 x3 x4 x5
  go_loopg [19, 21] L (fun gk y i wr => ∃ (V : Value) (J : Nat), V = y ∧ J ≤ L ∧ gk = L - J ∧ i = .int .i64 J ∧ Hid (OwnG wr w4.heap.size V (rowF U J)) ∧ Hid (Below w4.heap.size w4 wr))
  case atStart => exact ⟨_, 0, rfl, by omega, rfl, rfl, Lib.hid (OwnG.nil _ _), Lib.hid (Below.refl _ _)⟩
  case round =>
    obtain ⟨V, J, rfl, hJ, rfl, rfl, HO, HBR⟩ := hrel
    have hsr := HBR.out.size
    by_cases hlt : J < L
    · have hx := ints_at (ls := ls) (i := J) (by rw [HLL.out]; exact hlt)
      have hxN := rise_get HRISE.out (i := J) (by rw [HLL.out]; exact hlt)
      obtain ⟨x, hxe⟩ : ∃ x, ls.getD J 0 = x := ⟨_, rfl⟩
      rw [hxe] at hx hxN
      obtain ⟨-, -, b0, o0, rfl, hb0, -⟩ := IRd.cell HZ4.out.rd hx
      have c0 := IRd.cells ((HZ4.out.below HBR.out).rd) J x hx
      have c1 := ((HU4.out.below HBR.out).2 x hxN).1
      obtain ⟨y, hy⟩ : ∃ y, (U J).n = y := ⟨_, rfl⟩
      have hy2 : (ev M ((pows N).getD x 0)).n = y := by
        rw [← hy, HUU.out]
        show _ = (ev M ((pows N).getD (ls.getD J 0) 0)).n
        rw [hxe]
      simp only [hy2] at c1
      obtain ⟨v1, w6, hap, ho1, -, hb6, -⟩ := app_row (W := wr) HO.out (by omega) hsr hy (ad := wr.heap.size) rfl
      have HO6 := Lib.hid ho1
      have HB6 := Lib.hid (HBR.out.trans hb6)
      have i1 : (0 : Int) ≤ (J : Int) ∧ (J : Int) < (L : Int) := by omega
      have i2 : (0 : Int) ≤ (x : Int) ∧ (x : Int) < (N : Int) := by omega
      clear hx hxN hxe hy hy2 ho1 hb6
      go_wp2_with (at_builtin; refine wpList_append rfl _ _ _ rfl rfl rfl hap ?_)
      go_roundg (L - (J + 1))
      case measure => omega
      case rel => exact ⟨_, J + 1, rfl, by omega, rfl, by go_num, HO6, HB6⟩
    · obtain rfl : J = L := by omega
      obtain ⟨gy, cy, rfl, hgy, hcy, hvy⟩ := HO.out.view (fun e => by have := congrArg List.length e; rw [rowF_len] at this; simp at this; omega)
      rw [rowF_len] at hcy hvy ⊢
      obtain ⟨w5, rfl⟩ : ∃ w5 : World, w5 = wr := ⟨_, rfl⟩
      have hvy2 : View w5 gy J U := hvy.congr fun i hi => rowF_get _ hi
      obtain ⟨vw, w6, hapw, how, hbw⟩ := app_nil (hvy2.rowF hcy) (by rw [rowF_len]; omega)
      obtain ⟨gw, cw, rfl, hgw, hcw, hvw⟩ := how.view (fun e => by have := congrArg List.length e; rw [rowF_len] at this; simp at this; omega)
      rw [rowF_len] at hcw hvw hapw
      have HVW6 : Hid (View w6 gw J U) := Lib.hid (hvw.congr fun i hi => rowF_get _ hi)
      have HVY6 : Hid (View w6 gy J U) := Lib.hid (hvy2.below hbw)
      have HB5 : Hid (Below w.heap.size w w5) := Lib.hid (HB4.out.trans (HBR.out.mono HB4.out.size))
      have HB56 := Lib.hid hbw
      have HB46 : Hid (Below w4.heap.size w4 w6) := Lib.hid (HBR.out.trans (hbw.mono HBR.out.size))
      have hgy5 : gy < w5.heap.size := hvy2.1
      have hs56 := hbw.size
      have hs45 := HBR.out.size
      have hs04 := HB4.out.size
      clear hvy hvy2 how hvw hbw HO hlt hJ
      go_wp2_with (at_builtin; refine wpList_append rfl _ _ _ rfl rfl rfl hapw ?_)
      clear hapw
      -- others are made
      go_loopg [22] T (fun gk i wr => ∃ (I : Nat) (g : Nat → GF), I ≤ T ∧ gk = T - I ∧ i = .int .i64 I ∧ Hid (View wr gy J g) ∧ Hid (cntD g U J ≤ I) ∧ Hid (Kp [gy] w6 wr))
      case atStart => exact ⟨0, U, by omega, rfl, rfl, HVY6, Lib.hid (by rw [cntD_self]; exact Nat.le_refl _), Lib.hid (Kp.refl _ _)⟩
      case round =>
        obtain ⟨I, g, hI, rfl, rfl, HV, HCN, HKR⟩ := hrel
        have hsr := HKR.out.size
        by_cases hall : I < LA ∧ I < T ∧ I < LB
        · obtain ⟨q1, q2, q3⟩ := hall
          have q1' : (I : Int) < (LA : Int) := by omega
          have q2' : (I : Int) < (T : Int) := by omega
          have q3' : (I : Int) < (LB : Int) := by omega
          have hkw : Kp [gy] w wr := (Kp.of_below (HB5.out.trans (HB56.out.mono HB5.out.size))).trans HKR.out
          have hbwr : Below w.heap.size w wr := (HB5.out.trans (HB56.out.mono HB5.out.size)).trans (HKR.out.below (by have := HB46.out.size; omega) (by simp; omega))
          obtain ⟨c, hc, -⟩ := at_get (l := As) (i := I) (by rw [HLA.out]; exact q1)
          obtain ⟨d, hd, -⟩ := at_get (l := Bs) (i := I) (by rw [HLB.out]; exact q3)
          obtain ⟨bA, oA, rfl, hbA, -⟩ := HTA.out.at hc
          obtain ⟨bB, oB, rfl, hbB, -⟩ := HTB.out.at hd
          obtain ⟨_, _, e, -, c1⟩ := (HTA.out.below hbwr).at hc
          cases e
          obtain ⟨_, _, e, -, c2⟩ := (HTB.out.below hbwr).at hd
          cases e
          have hcl := c.lt
          obtain ⟨x, hx⟩ : ∃ t, c.n = t := ⟨_, rfl⟩
          obtain ⟨y, hy⟩ : ∃ t, d.n = t := ⟨_, rfl⟩
          rw [hx] at c1 hcl
          rw [hy] at c2
          obtain ⟨r, hr⟩ : ∃ r, x % J = r := ⟨_, rfl⟩
          have hrJ : r < J := by rw [← hr]; exact Nat.mod_lt _ (by omega)
          have z1 : (x : Int) % (J : Int) = (r : Int) := by rw [← hr]; rfl
          have z2 : Int.tmod (x : Int) (J : Int) = (r : Int) := by rw [Int.tmod_eq_emod_of_nonneg (by omega), z1]
          have z3 : IntKind.i64.wrap (r : Int) = (r : Int) := IntWalk.i64_in _ (by omega)
          have z4 : ¬ (J : Int) = 0 := by omega
          have z5 : ¬ J = 0 := by omega
          have z6 : ((J : Int) == 0) = false := by simp; omega
          have z7 : (J : Int) ≠ 0 := by omega
          have hcv : IntKind.i64.wrap (x : Int) = (x : Int) := IntWalk.i64_in _ (by omega)
          obtain ⟨cg, fg⟩ := HV.out.2 r hrJ
          have hgg := HV.out.1
          have HVN : Hid (View (wr.setCell ⟨gy, r, none⟩ (.int .u8 (y : Nat))) gy J (fun j => if j = r then d else g j)) := Lib.hid (by
            have := HV.out.set hrJ d
            rwa [hy] at this)
          have HCN2 : Hid (cntD (fun j => if j = r then d else g j) U J ≤ I + 1) := Lib.hid (Nat.le_trans (cntD_set g U J r d) (by have := HCN.out; omega))
          have HKN : Hid (Kp [gy] w6 (wr.setCell ⟨gy, r, none⟩ (.int .u8 (y : Nat)))) := Lib.hid (HKR.out.setCell (.inl (by simp)) _)
          obtain ⟨kp, hkp⟩ : ∃ kp : Nat → Bool, ∀ j, kp j = true ↔ j < w.heap.size := ⟨fun j => decide (j < w.heap.size), by simp⟩
          have k1 : kp bA = true := (hkp _).2 hbA
          have k2 : kp bB = true := (hkp _).2 hbB
          have HKP := Lib.hid hkp
          have i1 : (0 : Int) ≤ (I : Int) ∧ (I : Int) < (LA : Int) := by omega
          have i2 : (0 : Int) ≤ (I : Int) ∧ (I : Int) < (LB : Int) := by omega
          have i3 : (0 : Int) ≤ (r : Int) ∧ (r : Int) < (J : Int) := by omega
          clear hkp hc hd hx hy hr hkw hbwr
          go_upto_region 19 with fail
          have hgr := fun (w0 W : World) (p : Addr) (hp : (fun j => kp j = true) p.block) => graft_cell (w0 := w0) (keep := (fun j => kp j = true)) W hp
          refine wp_region_tree (fun j => kp j = true) [14] (.step 0 (.step 1 (.step 2 (.step 3 (.step 4 (.step 5 (.step 6 (.step 7 (.step 8 (.step 9 (.step 10 (.step 11 (.step 12 (.step 13 (.step 14 .done))))))))))))))) (by kernel_rfl) (by kernel_rfl) ?_
          simp only [slimTr, slimStep, Oper.slim, List.contains_cons, List.contains_nil, Option.map_none, Option.map_some, List.getElem?_toArray, List.getElem?_cons_zero, List.getElem?_cons_succ, Option.bind_some, beq_self_eq_true, Bool.or_false, Nat.reduceBEq, Nat.reduceAdd, Nat.zero_add]
          repeat (first | (fail) | ((with_reducible refine wpSlimT_step (fun K hK => ?_)); go_simp; first | (refine hK _ _ ?_; clear hK K) | (refine ⟨by (intro kk hkk; first | (simp (disch := (simp; omega)) only [hp_drew, hp_drewN, hp_alloc, hp_set]; done) | (simp [hp_drew, hp_drewN, hp_alloc_if, hkk]; done) | (have hkk2 := (HKP.out kk).1 hkk; simp (disch := (first | omega | (simp; omega))) only [hp_drew, hp_drewN, hp_alloc, hp_set]; done)), hK _ _ ?_⟩; clear hK K)))
          with_reducible refine wpSlimT_done ?_
          all_goals clear hgr
          all_goals
            go_wp2
            go_roundg (T - (I + 1))
            case measure => omega
            case rel => exact ⟨I + 1, _, by omega, rfl, by go_num, HVN, HCN2, by first | exact HKN | exact Lib.hid HKN.out.drew⟩
        · have HBND : Hid (cntD g U J ≤ T) := Lib.hid (by have := HCN.out; omega)
          obtain ⟨p1, hp1⟩ : ∃ p, decide (I < LA) = p := ⟨_, rfl⟩
          obtain ⟨p2, hp2⟩ : ∃ p, decide (I < T) = p := ⟨_, rfl⟩
          obtain ⟨p3, hp3⟩ : ∃ p, decide (I < LB) = p := ⟨_, rfl⟩
          have hpq : (p1 && p2 && p3) = false := by
            rw [← hp1, ← hp2, ← hp3, ← Bool.decide_and, ← Bool.decide_and]
            exact decide_eq_false (fun h => hall ⟨h.1.1, h.1.2, h.2⟩)
          obtain ⟨w7, rfl⟩ : ∃ w7 : World, w7 = wr := ⟨_, rfl⟩
          have HB67 : Hid (Below w4.heap.size w6 w7) := Lib.hid (HKR.out.below (by have := HB46.out.size; omega) (by simp; omega))
          have HB47 : Hid (Below w4.heap.size w4 w7) := Lib.hid (HB46.out.trans HB67.out)
          have HB07 : Hid (Below w.heap.size w w7) := Lib.hid (HB4.out.trans (HB47.out.mono HB4.out.size))
          have HC7 := Lib.hid (HC4.out.below HB47.out)
          have HM7 := Lib.hid (HM4.out.below HB47.out)
          have HU7 := Lib.hid (HU4.out.below HB47.out)
          have HZ7 := Lib.hid (HZ4.out.below HB47.out)
          have HVW7 := Lib.hid (HVW6.out.kp HKR.out (by simp; omega))
          have hgw7 := HVW7.out.1
          have hgy7 := HV.out.1
          have hs47 := HB47.out.size
          clear hall HVW6 HVY6 HCN HKR
          go_upto_region 17 with fail
          refine wp_region_units (.step 0 (.step 1 (.step 2 (.step 3 (.step 4 (.unit 4 true (.step 5 (.step 6 (.step 7 .done))) 8 7 (.step 9 (.unit 9 true (.step 10 (.step 11 (.step 12 (.step 13 .done)))) 14 13 .done)))))))) (by kernel_rfl) (by kernel_rfl) ?_
          simp only [mkUT, dstOf, bare, Oper.slim, List.contains_cons, List.contains_nil, Option.map_none, Option.map_some, List.getElem?_toArray, List.getElem?_cons_zero, List.getElem?_cons_succ, Option.bind_some, beq_self_eq_true, Bool.or_false, Nat.reduceBEq, Nat.reduceAdd, Nat.zero_add, Option.getD_some, Option.isSome_some, Option.isSome_none, Bool.false_and, Bool.true_and, Bool.false_eq_true, if_false, if_true, Option.some_beq_some, Option.some_beq_none, Option.none_beq_some, reduceCtorEq, ite_true, ite_false]
          repeat ((with_reducible refine wpUT_step (fun K hK => ?_)); go_simp; first | (refine hK _ _ ?_; clear hK K) | (refine ⟨by (intro kk hkk; first | exact hkk.elim | (simp (disch := (simp; omega)) only [hp_drew, hp_drewN, hp_alloc, hp_set]; done) | (simp [hp_drew, hp_drewN, hp_alloc_if, hkk]; done) | (have hkk2 := (HKP.out kk).1 hkk; simp (disch := (first | omega | (simp; omega))) only [hp_drew, hp_drewN, hp_alloc, hp_set]; done)), hK _ _ ?_⟩; clear hK K))
          refine wpUT_unit (x := ?_) (by rfl) ?_ ?_
          rotate_left
          · intro hgd
            repeat ((with_reducible refine wpUT_step (fun K hK => ?_)); go_simp; first | (refine hK _ _ ?_; clear hK K) | (refine ⟨by (intro kk hkk; first | exact hkk.elim | (simp (disch := (simp; omega)) only [hp_drew, hp_drewN, hp_alloc, hp_set]; done) | (simp [hp_drew, hp_drewN, hp_alloc_if, hkk]; done) | (have hkk2 := (HKP.out kk).1 hkk; simp (disch := (first | omega | (simp; omega))) only [hp_drew, hp_drewN, hp_alloc, hp_set]; done)), hK _ _ ?_⟩; clear hK K))
            exact wpUT_done ⟨by rfl, rfl⟩
          intro js
          simp only [UT.dsts, junk, SOp.dst, Option.toList_some, Option.toList_none, List.cons_append, List.nil_append, List.append_nil, cond_true, cond_false]
          repeat ((with_reducible refine wpUT_step (fun K hK => ?_)); go_simp; first | (refine hK _ _ ?_; clear hK K) | (refine ⟨by (intro kk hkk; first | exact hkk.elim | (simp (disch := (simp; omega)) only [hp_drew, hp_drewN, hp_alloc, hp_set]; done) | (simp [hp_drew, hp_drewN, hp_alloc_if, hkk]; done) | (have hkk2 := (HKP.out kk).1 hkk; simp (disch := (first | omega | (simp; omega))) only [hp_drew, hp_drewN, hp_alloc, hp_set]; done)), hK _ _ ?_⟩; clear hK K))
          refine wpUT_unit (x := ?_) (by rfl) ?_ ?_
          rotate_left
          · intro hgd
            repeat ((with_reducible refine wpUT_step (fun K hK => ?_)); go_simp; first | (refine hK _ _ ?_; clear hK K) | (refine ⟨by (intro kk hkk; first | exact hkk.elim | (simp (disch := (simp; omega)) only [hp_drew, hp_drewN, hp_alloc, hp_set]; done) | (simp [hp_drew, hp_drewN, hp_alloc_if, hkk]; done) | (have hkk2 := (HKP.out kk).1 hkk; simp (disch := (first | omega | (simp; omega))) only [hp_drew, hp_drewN, hp_alloc, hp_set]; done)), hK _ _ ?_⟩; clear hK K))
            exact wpUT_done ⟨by rfl, rfl⟩
          intro js
          simp only [UT.dsts, junk, SOp.dst, Option.toList_some, Option.toList_none, List.cons_append, List.nil_append, List.append_nil, cond_true, cond_false]
          try go_simp
          refine wpUT_done ?_
          try go_simp
          go_wp2
          clear hp1 hp2 hp3 hpq
          -- which are others
          go_loopg [23, 24] J (fun gk o i wr => ∃ (V : Value) (E : Nat), V = o ∧ E ≤ J ∧ gk = J - E ∧ i = .int .i64 E ∧ Hid (OwnZ wr w7.heap.size V (othL ls g U E)) ∧ Hid (Below w7.heap.size w7 wr))
          case atStart => exact ⟨_, 0, rfl, by omega, rfl, rfl, Lib.hid (OwnZ.nil _ _), Lib.hid (Below.refl _ _)⟩
          case round =>
            obtain ⟨V, E, rfl, hE, rfl, rfl, HO, HBR2⟩ := hrel
            have hsr2 := HBR2.out.size
            by_cases hltE : E < J
            · have c1 := ((HV.out.below HBR2.out).2 E hltE).1
              have c2 := ((HVW7.out.below HBR2.out).2 E hltE).1
              obtain ⟨xn, hxn⟩ : ∃ t, (g E).n = t := ⟨_, rfl⟩
              obtain ⟨yn, hyn⟩ : ∃ t, (U E).n = t := ⟨_, rfl⟩
              rw [hxn] at c1
              rw [hyn] at c2
              have hiff : g E = U E ↔ xn = yn := ⟨fun e => by rw [← hxn, ← hyn, e], fun e => GF.ext' (by omega)⟩
              have HIF := Lib.hid hiff
              have HBD : Hid (Below w7.heap.size w7 wr.drew) := Lib.hid HBR2.out.drew
              obtain ⟨kp, hkp⟩ : ∃ kp : Nat → Bool, ∀ j, kp j = true ↔ j < wr.heap.size := ⟨fun j => decide (j < wr.heap.size), by simp⟩
              have k1 : kp gy = true := (hkp _).2 (by omega)
              have k2 : kp gw = true := (hkp _).2 (by omega)
              have HKP := Lib.hid hkp
              have i1 : (0 : Int) ≤ (E : Int) ∧ (E : Int) < (J : Int) := by omega
              clear hkp hxn hyn hiff
              by_cases hcc : xn = yn
              · subst hcc
                have HO2 : Hid (OwnZ wr.drew w7.heap.size V (othL ls g U (E + 1))) := Lib.hid (by
                  rw [othL_no (HIF.out.2 rfl)]
                  exact HO.out)
                go_upto_region 24 with fail
                have hgr := fun (w0 W : World) (p : Addr) (hp : (fun j => kp j = true) p.block) => graft_cell (w0 := w0) (keep := (fun j => kp j = true)) W hp
                refine wp_region_tree (fun j => kp j = true) [] (.step 0 (.step 1 (.step 2 (.step 3 (.step 4 (.step 5 (.step 6 (.step 7 (.step 8 .done))))))))) (by kernel_rfl) (by kernel_rfl) ?_
                simp only [slimTr, slimStep, Oper.slim, List.contains_cons, List.contains_nil, Option.map_none, Option.map_some, List.getElem?_toArray, List.getElem?_cons_zero, List.getElem?_cons_succ, Option.bind_some, beq_self_eq_true, Bool.or_false, Nat.reduceBEq, Nat.reduceAdd, Nat.zero_add]
                repeat (first | (fail) | ((with_reducible refine wpSlimT_step (fun K hK => ?_)); go_simp; first | (refine hK _ _ ?_; clear hK K) | (refine ⟨by (intro kk hkk; first | (simp (disch := (simp; omega)) only [hp_drew, hp_drewN, hp_alloc, hp_set]; done) | (simp [hp_drew, hp_drewN, hp_alloc_if, hkk]; done) | (have hkk2 := (HKP.out kk).1 hkk; simp (disch := (first | omega | (simp; omega))) only [hp_drew, hp_drewN, hp_alloc, hp_set]; done)), hK _ _ ?_⟩; clear hK K)))
                refine wpSlimT_done ?_
                clear hgr
                go_wp2
                go_roundg (J - (E + 1))
                case measure => omega
                case rel => exact ⟨_, E + 1, rfl, by omega, rfl, by go_num, HO2, HBD⟩
              · have hne : ¬ (xn : Int) = (yn : Int) := by omega
                have hx := ints_at (ls := ls) (i := E) (by rw [HLL.out]; exact hltE)
                obtain ⟨x, hxe⟩ : ∃ x, ls.getD E 0 = x := ⟨_, rfl⟩
                rw [hxe] at hx
                obtain ⟨-, -, b0, o0, rfl, hb0, -⟩ := IRd.cell HZ4.out.rd hx
                have c0 := IRd.cells ((HZ7.out.below HBR2.out).rd) E x hx
                obtain ⟨v1, w9, hap, ho1, -, hb9, -⟩ := app_int (W := wr.drew) (x : Int) HO.out (by rw [othL_len]; exact Nat.le_trans (cntD_le _ _ _) (by omega)) (by simpa using hsr2) (ad := wr.heap.size) rfl
                have HO6 : Hid (OwnZ w9 w7.heap.size v1 (othL ls g U (E + 1))) := Lib.hid (by
                  rw [othL_yes (fun e => hcc (HIF.out.1 e)), hxe]
                  exact ho1)
                have HB9 : Hid (Below w7.heap.size w7 w9) := Lib.hid (HBD.out.trans hb9)
                clear hcc ho1 hb9 hx hxe
                go_upto_region 24 with fail
                have hgr := fun (w0 W : World) (p : Addr) (hp : (fun j => kp j = true) p.block) => graft_cell (w0 := w0) (keep := (fun j => kp j = true)) W hp
                refine wp_region_tree (fun j => kp j = true) [] (.step 0 (.step 1 (.step 2 (.step 3 (.step 4 (.step 5 (.step 6 (.step 7 (.step 8 .done))))))))) (by kernel_rfl) (by kernel_rfl) ?_
                simp only [slimTr, slimStep, Oper.slim, List.contains_cons, List.contains_nil, Option.map_none, Option.map_some, List.getElem?_toArray, List.getElem?_cons_zero, List.getElem?_cons_succ, Option.bind_some, beq_self_eq_true, Bool.or_false, Nat.reduceBEq, Nat.reduceAdd, Nat.zero_add]
                repeat (first | (fail) | ((with_reducible refine wpSlimT_step (fun K hK => ?_)); go_simp; first | (refine hK _ _ ?_; clear hK K) | (refine ⟨by (intro kk hkk; first | (simp (disch := (simp; omega)) only [hp_drew, hp_drewN, hp_alloc, hp_set]; done) | (simp [hp_drew, hp_drewN, hp_alloc_if, hkk]; done) | (have hkk2 := (HKP.out kk).1 hkk; simp (disch := (first | omega | (simp; omega))) only [hp_drew, hp_drewN, hp_alloc, hp_set]; done)), hK _ _ ?_⟩; clear hK K)))
                refine wpSlimT_done ?_
                clear hgr
                go_wp2_with (at_builtin; refine wpList_append rfl _ _ _ rfl rfl rfl hap ?_)
                go_roundg (J - (E + 1))
                case measure => omega
                case rel => exact ⟨_, E + 1, rfl, by omega, rfl, by go_num, HO6, HB9⟩
            · obtain rfl : E = J := by omega
              obtain ⟨O, hO⟩ : ∃ O, cntD g U E = O := ⟨_, rfl⟩
              have HOO := Lib.hid hO
              have hOT : O ≤ T := by rw [← hO]; exact HBND.out
              have hzo := RdZ.of_own HO.out
              obtain ⟨ao, co, rfl⟩ := hzo.rd.form
              rw [othL_len, hO] at hzo ⊢
              have HZO := Lib.hid hzo
              obtain ⟨w8, rfl⟩ : ∃ w8 : World, w8 = wr := ⟨_, rfl⟩
              have HB08 : Hid (Below w.heap.size w w8) := Lib.hid (HB07.out.trans (HBR2.out.mono HB07.out.size))
              have HC8 := Lib.hid (HC7.out.below HBR2.out)
              have HM8 := Lib.hid (HM7.out.below HBR2.out)
              have HU8 := Lib.hid (HU7.out.below HBR2.out)
              have HZ8 := Lib.hid (HZ7.out.below HBR2.out)
              have HV8 := Lib.hid (HV.out.below HBR2.out)
              have HCN : Hid (cntD g (fun i => ev M ((pows N).getD (ls.getD i 0) 0)) E = O) := Lib.hid (by rw [← hO, HUU.out])
              have HRS : Hid (RiseTo (pows N).length ls) := Lib.hid (by rw [pows_len]; exact HRISE.out)
              have HWRS : Hid (wrS (pows N) (intsOf ls) (rowF g E) M = othL ls g U E) := Lib.hid (by rw [oth_wrS HRS.out HLL.out, HUU.out])
              obtain ⟨T1, hT1⟩ : ∃ T1, T + 1 = T1 := ⟨_, rfl⟩
              have hs08 := HB08.out.size
              have hfw8 : fb < w8.heap.size := HC8.out.ok.lt
              clear hO hzo hltE hE HO HC7 HM7 HU7 HZ7 HV
              go_wp2
              go_loopg [25] T1 (fun gk s wr => ∃ S : Nat, S ≤ T1 ∧ gk = T1 - S ∧ s = .int .i64 S ∧ Hid (Kp [fb] w8 wr) ∧ Hid (FOk wr fb))
              case atStart => exact ⟨0, by omega, rfl, rfl, Lib.hid (Kp.refl _ _), Lib.hid HC8.out.ok⟩
              case round =>
                obtain ⟨S, hS, rfl, rfl, HKR, HFR⟩ := hrel
                have hsr := HKR.out.size
                by_cases hST : S < T1
                · have hST' : (S : Int) ≤ (T : Int) := by omega
                  have HDEC := Lib.hid (wdec_any wr cb fb K v (.slice va E vc) (.slice (some ⟨gy, 0, none⟩) E cy) (pows N) (intsOf ls) (rowF g E) (S : Int) (HC8.out.step HKR.out HFR.out) HND.out (by omega) (by rw [pows_len]; omega) (by rw [pows_len]; omega)
                    ((HZ8.out.kp HKR.out (by simp; omega)).rd) ((HV8.out.kp HKR.out (by simp; omega)).rowF hcy) (.inr (fun c hc hm => by have := (HZ8.out.lo c hc).1; simp at hm; omega)) (.inr (fun k hk hm => by simp [Value.ownBlock] at hk hm; omega)) (by rw [intsOf_len, HLL.out]; omega) (by rw [rowF_len]; omega) (by omega))
                  go_wp2_with fail
                  refine HDEC.out.mono ?_
                  rintro e w9 ⟨hk9, hf9, ha9⟩
                  have HK9 := Lib.hid (HKR.out.trans hk9)
                  have HF9 := Lib.hid hf9
                  have hs9 := hk9.size
                  have hwc := we_cases ha9
                  clear hk9 hf9 ha9 HDEC
                  by_cases hOS : O ≤ S
                  · have hOS' : (O : Int) ≤ (S : Int) := by omega
                    have hOS2 : ¬ (S : Int) < (O : Int) := by omega
                    have hok : WeOk (pows N) K (intsOf ls) (rowF g E) (S : Int) M := oth_ok HRS.out HLL.out HML.out (by rw [HCN.out]; exact hOS) (by have := HKT.out; omega)
                    obtain ⟨v1, v2, rfl, ho1, hz1⟩ : ∃ v1 v2, e = .returned (.tuple #[v1, v2, .int .i64 0]) ∧ OwnG w9 wr.heap.size v1 M ∧ RdZ w9 wr.heap.size v2 (othL ls g U E) := by
                      rcases hwc with ⟨c', hc', rfl⟩ | ⟨m', v1', v2', hok', rfl, ho', hz'⟩
                      · exact (hok.not hc').elim
                      · obtain rfl := hok.one HND.out hok'
                        rw [HWRS.out] at hz'
                        exact ⟨_, _, rfl, ho', hz'⟩
                    have HO1 := Lib.hid ho1
                    have HZ1 := Lib.hid hz1
                    have hol : (othL ls g U E).length ≤ 1000000 := by rw [othL_len]; exact Nat.le_trans (cntD_le _ _ _) (by omega)
                    clear hok hwc ho1 hz1 hOS
                    go_wp2_with fail
                    refine (same_g _ _ M M _ HO1.out.rd (HM8.out.kp HK9.out (fun k hk hm => by simp [Value.ownBlock] at hk hm; omega))).mono ?_
                    rintro e w10 ⟨rfl, rfl⟩
                    rw [decide_eq_true rfl]
                    go_wp2_with fail
                    refine (sameI_any _ _ (othL ls g U E) (othL ls g U E) _ HZ1.out.rd ((HZO.out.kp HK9.out (by simp; omega)).rd) hol hol).mono ?_
                    rintro e w11 ⟨rfl, hb11⟩
                    rw [decide_eq_true rfl]
                    have HK11 := Lib.hid (HK9.out.below_step hb11)
                    have HF11 := Lib.hid (HF9.out.below hb11)
                    clear hb11 hol
                    go_wp2
                    go_roundg (T1 - (S + 1))
                    case measure => omega
                    case rel => exact ⟨S + 1, by omega, rfl, by go_num, HK11, HF11⟩
                  · have hOS' : ¬ (O : Int) ≤ (S : Int) := by omega
                    have hOS2 : (S : Int) < (O : Int) := by omega
                    rcases hwc with ⟨c, hc, rfl⟩ | ⟨m', v1, v2, hok', rfl, ho1, hz1⟩
                    · have hc0 : ((c : Int) == 0) = false := by rcases hc.ne with rfl | rfl | rfl <;> rfl
                      clear hc hOS
                      go_wp2
                      go_roundg (T1 - (S + 1))
                      case measure => omega
                      case rel => exact ⟨S + 1, by omega, rfl, by go_num, HK9, HF9⟩
                    · have HNM : Hid (decide (m' = M) = false) := Lib.hid (decide_eq_false fun e => by
                        have := hok'.2.2.2
                        rw [e, HWRS.out, othL_len, HOO.out, Int.toNat_natCast] at this
                        exact hOS this)
                      have HO1 := Lib.hid ho1
                      clear hok' hz1 ho1 hOS
                      go_wp2_with fail
                      refine (same_g _ _ m' M _ HO1.out.rd (HM8.out.kp HK9.out (fun k hk hm => by simp [Value.ownBlock] at hk hm; omega))).mono ?_
                      rintro e w10 ⟨rfl, rfl⟩
                      rw [HNM.out]
                      go_wp2
                      go_roundg (T1 - (S + 1))
                      case measure => omega
                      case rel => exact ⟨S + 1, by omega, rfl, by go_num, HK9, HF9⟩
                · obtain rfl : S = T1 := by omega
                  have hST' : ¬ (S : Int) ≤ (T : Int) := by omega
                  obtain ⟨w9, rfl⟩ : ∃ w9 : World, w9 = wr := ⟨_, rfl⟩
                  have hok : WeOk (pows N) K (intsOf ls) (rowF g E) (T : Int) M := oth_ok HRS.out HLL.out HML.out (by rw [HCN.out]; exact hOT) HKT.out.1
                  have HOK := Lib.hid hok
                  have HB09 : Hid (Below w.heap.size w w9) := Lib.hid (HB08.out.trans (HKR.out.below (by omega) (fun x hx => by simp at hx; omega)))
                  have HWO := Lib.hid (wword_any w9 cb fb K v (.slice va E vc) (.slice (some ⟨gy, 0, none⟩) E cy) (pows N) (intsOf ls) (rowF g E) (T : Int) (HC8.out.step HKR.out HFR.out) HND.out (by omega) (by rw [pows_len]; omega) (by rw [pows_len]; omega)
                    ((HZ8.out.kp HKR.out (by simp; omega)).rd) ((HV8.out.kp HKR.out (by simp; omega)).rowF hcy) (.inr (fun c hc hm => by have := (HZ8.out.lo c hc).1; simp at hm; omega)) (.inr (fun k hk hm => by simp [Value.ownBlock] at hk hm; omega)) (by rw [intsOf_len, HLL.out]; omega) (by rw [rowF_len]; omega) (by omega))
                  clear hok
                  go_wp2_with fail
                  refine HWO.out.mono ?_
                  rintro e w10 ⟨hk10, hf10, ha10⟩
                  obtain ⟨gz, rfl, hgz, hvz⟩ : ∃ g', e = .returned (.tuple #[.slice (some ⟨g', 0, none⟩) (pows N).length (pows N).length, .int .i64 0]) ∧ w9.heap.size ≤ g' ∧ View w10 g' (pows N).length (fun i => ev M ((pows N).getD i 0)) := by
                    rcases wo_cases ha10 with ⟨c', hc', rfl⟩ | ⟨m', g', hok', rfl, hg', hv'⟩
                    · exact (HOK.out.not hc').elim
                    · obtain rfl := HOK.out.one HND.out hok'
                      exact ⟨g', rfl, hg', hv'⟩
                  rw [pows_len] at hvz ⊢
                  have HK10 := Lib.hid (HKR.out.trans hk10)
                  have HVZ := Lib.hid hvz
                  have hs10 := hk10.size
                  have HB010 : Hid (Below w.heap.size w w10) := Lib.hid (HB09.out.trans (hk10.below (by omega) (fun x hx => by simp at hx; omega)))
                  have x7 : (T : Int) + 1 = (S : Int) := by omega
                  have x8 : IntKind.i64.wrap (S : Int) = (S : Int) := IntWalk.i64_in _ (by omega)
                  have HDEC := Lib.hid (wdec_any w10 cb fb K v (.slice va E vc) (.slice (some ⟨gy, 0, none⟩) E cy) (pows N) (intsOf ls) (rowF g E) (S : Int) (HC8.out.step HK10.out hf10) HND.out (by omega) (by rw [pows_len]; omega) (by rw [pows_len]; omega)
                    ((HZ8.out.kp HK10.out (by simp; omega)).rd) ((HV8.out.kp HK10.out (by simp; omega)).rowF hcy) (.inr (fun c hc hm => by have := (HZ8.out.lo c hc).1; simp at hm; omega)) (.inr (fun k hk hm => by simp [Value.ownBlock] at hk hm; omega)) (by rw [intsOf_len, HLL.out]; omega) (by rw [rowF_len]; omega) (by omega))
                  clear hk10 hf10 ha10 HWO hvz
                  go_wp2_with fail
                  refine HDEC.out.mono ?_
                  rintro e w11 ⟨hk11, hf11, ha11⟩
                  have hcd : WeCode (pows N) K (intsOf ls) (rowF g E) (S : Int) 70 := .inr ⟨⟨HOK.out.1.1, by omega⟩, .inl ⟨rfl, by rw [intsOf_len, HLL.out]; have := HKT.out.2; omega⟩⟩
                  obtain rfl : e = .returned (.tuple #[.slice none 0 0, .slice none 0 0, .int .i64 70]) := by
                    rcases we_cases ha11 with ⟨c', hc', rfl⟩ | ⟨m', v1', v2', hok', rfl, -, -⟩
                    · rw [hcd.one hc']
                    · exact (hok'.not hcd).elim
                  have HB011 : Hid (Below w.heap.size w w11) := Lib.hid (HB010.out.trans (hk11.below (by omega) (fun x hx => by simp at hx; omega)))
                  have HVZ11 := Lib.hid (HVZ.out.kp hk11 (by simp; omega))
                  have HU11 := Lib.hid ((HU8.out.kp HK10.out (by simp; omega)).kp hk11 (by simp; omega))
                  clear hcd hk11 hf11 ha11 HDEC
                  go_wp2_with fail
                  refine (same_g _ _ (rowF (fun i => ev M ((pows N).getD i 0)) N) (rowF (fun i => ev M ((pows N).getD i 0)) N) _ (HVZ11.out.rowF (Nat.le_refl _)) (HU11.out.rowF (Nat.le_refl _))).mono ?_
                  rintro e w12 ⟨rfl, rfl⟩
                  rw [decide_eq_true rfl]
                  have HBW := HB011
                  go_wp2_with fail
                  refine (HW.out _).mono ?_
                  rintro e w20 ⟨rfl, hb20⟩
                  have HB20 : Hid (Below w.heap.size w w20) := Lib.hid (HBW.out.trans (hb20.mono HBW.out.size))
                  clear hb20
                  go_wp2
                  go_ret
                  exact ⟨rfl, HB20.out⟩
end Go.Proofs.YteeeocianofkfaaGreat
