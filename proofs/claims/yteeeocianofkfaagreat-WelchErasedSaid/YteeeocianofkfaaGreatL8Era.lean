/-
  The law WelchErased.
-/
import Derived.Test.YteeeocianofkfaaGreatWork8
import Derived.Test.YteeeocianofkfaaGreatWeMend
import Derived.Test.YteeeocianofkfaaGreatKit
import Derived.Test.YteeeocianofkfaaGreatOwnC
namespace Go.Proofs.YteeeocianofkfaaGreat
open Go.RowKit Fld
set_option linter.unusedVariables false
set_option linter.unusedSimpArgs false

theorem filt_snoc_yes {q : Nat → Bool} {l : List Nat} {i : Nat} (h : q i = true) : (l ++ [i]).filter q = l.filter q ++ [i] := by rw [List.filter_append, List.filter_cons_of_pos h]; rfl
theorem filt_snoc_no {q : Nat → Bool} {l : List Nat} {i : Nat} (h : q i = false) : (l ++ [i]).filter q = l.filter q := by rw [List.filter_append, List.filter_cons_of_neg (by simp [h])]; simp
theorem ints_snoc (l : List Nat) (i : Nat) : intsOf (l ++ [i]) = intsOf l ++ [(i : Int)] := by simp [intsOf]
set_option maxRecDepth 100000 in
set_option maxHeartbeats 4000000 in
theorem lera_any (n k : Nat) (ub ta tb : Value) (B As Bs : List GF) (bs : Nat) (w : World) (hn : n < 256) (hk : k < 256) (hb : GRd w ub B) (ha : GRd w ta As) (hbb : GRd w tb Bs) (hbs : bs < 18446744073709551616) :
    Calls Tryz.prog 5 #[.int .u8 n, .int .u8 k, ub, ta, tb, .int .u64 bs] w fun e w' => e = .returned (.bool true) ∧ Below w.heap.size w w' := by
  have HW := Lib.hid (fun W => works_any W)
  obtain ⟨ab, cb0, rfl, hcb0⟩ := hb.form
  obtain ⟨aa, ca, rfl, hca⟩ := ha.form
  obtain ⟨abb, cbb, rfl, hcbb⟩ := hbb.form
  obtain ⟨LA, hLA⟩ : ∃ LA, As.length = LA := ⟨_, rfl⟩
  obtain ⟨LB, hLB⟩ : ∃ LB, Bs.length = LB := ⟨_, rfl⟩
  rw [hLA] at ha ⊢
  rw [hLB] at hbb ⊢
  obtain ⟨N, hN⟩ : ∃ N : Nat, 1 + n % 16 = N := ⟨_, rfl⟩
  obtain ⟨K, hK⟩ : ∃ K : Nat, 1 + k % 16 = K := ⟨_, rfl⟩
  have en2 : (1 : Int) + (n : Int) % 16 = (N : Int) := by omega
  have ek2 : (1 : Int) + (k : Int) % 16 = (K : Int) := by omega
  have bn : n % 16 < 16 := Nat.mod_lt _ (by omega)
  have bk : k % 16 < 16 := Nat.mod_lt _ (by omega)
  have hN1 : 1 ≤ N ∧ N ≤ 16 := by omega
  have hK1 : 1 ≤ K ∧ K ≤ 16 := by omega
  have HB := Lib.hid hb
  have HTA := Lib.hid ha
  have HTB := Lib.hid hbb
  have HLA := Lib.hid hLA
  have HLB := Lib.hid hLB
  have HBIT := Lib.hid (fun I => u64_bit bs I hbs)
  clear hN hK hb ha hbb hbs hLA hLB hcb0 hca hcbb
  go_enter Tryz.func5, Tryz.ntmps5
  go_wp2_with fail
  refine (kreed_any N K w (by omega) (by omega) (by omega) (by omega)).mono ?_
  rintro e w1 ⟨hb1, hr⟩
  rcases hr with ⟨hQN, cb, fb, v, rfl, hcb, hfb, hc, -⟩ | ⟨-, rfl⟩
  case inr =>
    have HBW := Lib.hid hb1
    clear hb1
    go_wp2_with fail
    refine (HW.out _).mono ?_
    rintro e w20 ⟨rfl, hb20⟩
    have HB20 : Hid (Below w.heap.size w w20) := Lib.hid (HBW.out.trans (hb20.mono HBW.out.size))
    clear hb20
    go_wp2
    go_ret
    exact ⟨rfl, HB20.out⟩
  have HC1 := Lib.hid hc
  have HB1 := Lib.hid hb1
  have HND := Lib.hid (pows_nodup (n := N) (by omega))
  have hf1 := hc.ok.lt
  have hs01 := hb1.size
  clear hc hb1 en2 ek2 bn bk
  by_cases h1 : 3 < LA
  · have h1' : (3 : Int) < (LA : Int) := by omega
    have HBW := HB1
    go_wp2_with fail
    refine (HW.out _).mono ?_
    rintro e w20 ⟨rfl, hb20⟩
    have HB20 : Hid (Below w.heap.size w w20) := Lib.hid (HBW.out.trans (hb20.mono HBW.out.size))
    clear hb20
    go_wp2
    go_ret
    exact ⟨rfl, HB20.out⟩
  have h1' : ¬ (3 : Int) < (LA : Int) := by omega
  clear h1
  -- the message
  go_wp2_with fail
  refine (codeK_any _ cb fb K v _ HC1.out).mono ?_
  rintro e wk ⟨rfl, rfl⟩
  go_wp2_with fail
  refine (kfull_any _ B K w1 (HB.out.below HB1.out) (by omega)).mono ?_
  rintro e w2 ⟨gx, rfl, hgx, hvx, hrx, hb2⟩
  have HC2 := Lib.hid (HC1.out.below hb2)
  have HB2 : Hid (Below w.heap.size w w2) := Lib.hid (HB1.out.trans (hb2.mono HB1.out.size))
  obtain ⟨M, hM⟩ : ∃ M, M = fullG B K := ⟨_, rfl⟩
  have hml : M.length = K := by rw [hM, fullG_len]
  rw [← hM] at hrx
  have HM2 := Lib.hid hrx
  have HML := Lib.hid hml
  have hlx := hvx.1
  have hs12 := hb2.size
  clear hvx hrx hb2 HC1 HB hM hml
  -- its word
  go_wp2_with fail
  refine (encode_any w2 cb fb v _ (pows N) M (by rw [HML.out]; exact HC2.out) HM2.out (fun k hk hm => by simp [Value.ownBlock] at hk hm; omega) (by rw [pows_len]; omega) (by rw [pows_len]; omega) (by rw [HML.out]; omega)).mono ?_
  rintro e w3 ⟨gu, rfl, hgu, hvu, hk3, hf3⟩
  rw [pows_len] at hvu
  rw [pows_len]
  have hs23 := hk3.size
  have hlu := hvu.1
  have HC3 := Lib.hid (HC2.out.step hk3 hf3)
  have HM3 := Lib.hid (HM2.out.kp hk3 (fun k hk hm => by simp [Value.ownBlock] at hk hm; omega))
  obtain ⟨U, hU⟩ : ∃ U : Nat → GF, U = fun j => ev M ((pows N).getD j 0) := ⟨_, rfl⟩
  have HUU := Lib.hid hU
  rw [← hU] at hvu
  have HU3 := Lib.hid hvu
  have HB3 : Hid (Below w.heap.size w w3) := Lib.hid (HB2.out.trans (hk3.below (by omega) (fun x hx => by simp at hx; omega)))
  obtain ⟨s, cap, w4, hcv1, hcv2, hcap, hv4, hb4⟩ := own_copy w3 (hvu.rowF (Nat.le_refl _))
  rw [rowF_len] at hcv2 hcap hv4
  have HV4 : Hid (View w4 w3.heap.size N U) := Lib.hid (hv4.congr fun i hi => rowF_get _ hi)
  have HB4 : Hid (Below w.heap.size w w4) := Lib.hid (HB3.out.trans (hb4.mono HB3.out.size))
  have HB34 := Lib.hid hb4
  have hs34 := hb4.size
  have hs03 := HB3.out.size
  obtain ⟨gy, hgy⟩ : ∃ gy, w3.heap.size = gy := ⟨_, rfl⟩
  rw [hgy] at HV4 hcv2
  have hyw : gy < w4.heap.size := HV4.out.1
  have hgyl : w3.heap.size ≤ gy := by omega
  clear hgy
  clear hvu hk3 hf3 HC2 HM2 HB2 hU hv4 hb4
  go_wp2
  clear hcv1 hcv2
  -- others are made
  go_loopg [18] LA (fun gk i wr => ∃ (I : Nat) (g : Nat → GF), I ≤ LA ∧ gk = LA - I ∧ i = .int .i64 I ∧ Hid (View wr gy N g) ∧ Hid (Kp [gy] w4 wr))
  case atStart => exact ⟨0, U, by omega, rfl, rfl, HV4, Lib.hid (Kp.refl _ _)⟩
  case round =>
    clear HV4
    obtain ⟨I, g, hI, rfl, rfl, HV, HKR⟩ := hrel
    have hsr := HKR.out.size
    by_cases hall : I < LA ∧ I < LB
    · obtain ⟨q1, q3⟩ := hall
      have q1' : (I : Int) < (LA : Int) := by omega
      have q3' : (I : Int) < (LB : Int) := by omega
      have hbwr : Below w.heap.size w wr := HB4.out.trans (HKR.out.below (by omega) (by simp; omega))
      obtain ⟨c, hc, -⟩ := at_get (l := As) (i := I) (by rw [HLA.out]; exact q1)
      obtain ⟨d, hd, -⟩ := at_get (l := Bs) (i := I) (by rw [HLB.out]; exact q3)
      obtain ⟨bA, oA, rfl, hbA, -⟩ := HTA.out.at hc
      obtain ⟨bB, oB, rfl, hbB, -⟩ := HTB.out.at hd
      obtain ⟨_, _, e, -, c1⟩ := (HTA.out.below hbwr).at hc
      cases e
      obtain ⟨_, _, e, -, c2⟩ := (HTB.out.below hbwr).at hd
      cases e
      have hcl := c.lt
      obtain ⟨x, hx⟩ : ∃ t, c.n = t := ⟨_, rfl⟩
      obtain ⟨y, hy⟩ : ∃ t, d.n = t := ⟨_, rfl⟩
      rw [hx] at c1 hcl
      rw [hy] at c2
      obtain ⟨r, hr⟩ : ∃ r, x % N = r := ⟨_, rfl⟩
      have hrJ : r < N := by rw [← hr]; exact Nat.mod_lt _ (by omega)
      have z1 : (x : Int) % (N : Int) = (r : Int) := by rw [← hr]; rfl
      have z2 : Int.tmod (x : Int) (N : Int) = (r : Int) := by rw [Int.tmod_eq_emod_of_nonneg (by omega), z1]
      have z3 : IntKind.i64.wrap (r : Int) = (r : Int) := IntWalk.i64_in _ (by omega)
      have z4 : ¬ (N : Int) = 0 := by omega
      have z5 : ¬ N = 0 := by omega
      obtain ⟨cg, fg⟩ := HV.out.2 r hrJ
      have hxor := GF.u8_xor (g r) d
      obtain ⟨o, ho⟩ : ∃ t, (g r).n = t := ⟨_, rfl⟩
      obtain ⟨z, hz⟩ : ∃ t, (g r + d).n = t := ⟨_, rfl⟩
      have hzl := (g r + d).lt
      rw [ho, hy, hz] at hxor
      rw [hz] at hzl
      rw [ho] at cg
      have hgg := HV.out.1
      have HVN : Hid (View (wr.setCell ⟨gy, r, none⟩ (.int .u8 (z : Nat))) gy N (fun j => if j = r then g r + d else g j)) := Lib.hid (by
        have := HV.out.set hrJ (g r + d)
        rwa [hz] at this)
      have HKN : Hid (Kp [gy] w4 (wr.setCell ⟨gy, r, none⟩ (.int .u8 (z : Nat)))) := Lib.hid (HKR.out.setCell (.inl (by simp)) _)
      obtain ⟨kp, hkp⟩ : ∃ kp : Nat → Bool, ∀ j, kp j = true ↔ j < w.heap.size := ⟨fun j => decide (j < w.heap.size), by simp⟩
      have k1 : kp bA = true := (hkp _).2 hbA
      have k2 : kp bB = true := (hkp _).2 hbB
      have HKP := Lib.hid hkp
      have i1 : (0 : Int) ≤ (I : Int) ∧ (I : Int) < (LA : Int) := by omega
      have i2 : (0 : Int) ≤ (I : Int) ∧ (I : Int) < (LB : Int) := by omega
      have i3 : (0 : Int) ≤ (r : Int) ∧ (r : Int) < (N : Int) := by omega
      clear hkp hc hd hx hy hr hbwr ho hz
      go_upto_region 13 with fail
      have hgr := fun (w0 W : World) (p : Addr) (hp : (fun j => kp j = true) p.block) => graft_cell (w0 := w0) (keep := (fun j => kp j = true)) W hp
      refine wp_region_tree (fun j => kp j = true) [5, 12] (.step 0 (.step 1 (.step 2 (.step 3 (.step 4 (.step 6 (.step 7 (.step 8 (.step 9 (.step 5 (.step 10 (.step 11 (.step 12 .done))))))))))))) (by kernel_rfl) (by kernel_rfl) ?_
      simp only [slimTr, slimStep, Oper.slim, List.contains_cons, List.contains_nil, Option.map_none, Option.map_some, List.getElem?_toArray, List.getElem?_cons_zero, List.getElem?_cons_succ, Option.bind_some, beq_self_eq_true, Bool.or_false, Nat.reduceBEq, Nat.reduceAdd, Nat.zero_add]
      repeat (first | (fail) | ((with_reducible refine wpSlimT_step (fun K hK => ?_)); go_simp; first | (refine hK _ _ ?_; clear hK K) | (refine ⟨by (intro kk hkk; first | (simp (disch := (simp; omega)) only [hp_drew, hp_drewN, hp_alloc, hp_set]; done) | (simp [hp_drew, hp_drewN, hp_alloc_if, hkk]; done) | (have hkk2 := (HKP.out kk).1 hkk; simp (disch := (first | omega | (simp; omega))) only [hp_drew, hp_drewN, hp_alloc, hp_set]; done)), hK _ _ ?_⟩; clear hK K)))
      with_reducible refine wpSlimT_done ?_
      all_goals clear hgr
      all_goals
        go_wp2
        go_roundg (LA - (I + 1))
        case measure => omega
        case rel => exact ⟨I + 1, _, by omega, rfl, by go_num, HVN, by first | exact HKN | exact Lib.hid HKN.out.drew⟩
    · obtain ⟨p1, hp1⟩ : ∃ p, decide (I < LA) = p := ⟨_, rfl⟩
      obtain ⟨p3, hp3⟩ : ∃ p, decide (I < LB) = p := ⟨_, rfl⟩
      have hpq : (p1 && p3) = false := by
        rw [← hp1, ← hp3, ← Bool.decide_and]
        exact decide_eq_false hall
      obtain ⟨w7, rfl⟩ : ∃ w7 : World, w7 = wr := ⟨_, rfl⟩
      have HB37 : Hid (Below w3.heap.size w3 w7) := Lib.hid (HB34.out.trans (HKR.out.below (by omega) (by simp; omega)))
      have HB07 : Hid (Below w.heap.size w w7) := Lib.hid (HB3.out.trans (HB37.out.mono HB3.out.size))
      have HC7 := Lib.hid (HC3.out.below HB37.out)
      have HM7 := Lib.hid (HM3.out.below HB37.out)
      have HU7 := Lib.hid (HU3.out.below HB37.out)
      have hgu7 := HU7.out.1
      have hgy7 := HV.out.1
      clear hall HKR
      go_upto_region 10 with fail
      refine wp_region_units (.step 0 (.step 1 (.step 2 (.step 3 (.step 4 (.unit 4 true (.step 5 (.step 6 (.step 7 (.step 8 .done)))) 9 8 .done)))))) (by kernel_rfl) (by kernel_rfl) ?_
      simp only [mkUT, dstOf, bare, Oper.slim, List.contains_cons, List.contains_nil, Option.map_none, Option.map_some, List.getElem?_toArray, List.getElem?_cons_zero, List.getElem?_cons_succ, Option.bind_some, beq_self_eq_true, Bool.or_false, Nat.reduceBEq, Nat.reduceAdd, Nat.zero_add, Option.getD_some, Option.isSome_some, Option.isSome_none, Bool.false_and, Bool.true_and, Bool.false_eq_true, if_false, if_true, Option.some_beq_some, Option.some_beq_none, Option.none_beq_some, reduceCtorEq, ite_true, ite_false]
      repeat ((with_reducible refine wpUT_step (fun K hK => ?_)); go_simp; first | (refine hK _ _ ?_; clear hK K) | (refine ⟨by (intro kk hkk; first | exact hkk.elim | (simp (disch := (simp; omega)) only [hp_drew, hp_drewN, hp_alloc, hp_set]; done) | (simp [hp_drew, hp_drewN, hp_alloc_if, hkk]; done) | (have hkk2 := (HKP.out kk).1 hkk; simp (disch := (first | omega | (simp; omega))) only [hp_drew, hp_drewN, hp_alloc, hp_set]; done)), hK _ _ ?_⟩; clear hK K))
      refine wpUT_unit (x := ?_) (by rfl) ?_ ?_
      rotate_left
      · intro hgd
        repeat ((with_reducible refine wpUT_step (fun K hK => ?_)); go_simp; first | (refine hK _ _ ?_; clear hK K) | (refine ⟨by (intro kk hkk; first | exact hkk.elim | (simp (disch := (simp; omega)) only [hp_drew, hp_drewN, hp_alloc, hp_set]; done) | (simp [hp_drew, hp_drewN, hp_alloc_if, hkk]; done) | (have hkk2 := (HKP.out kk).1 hkk; simp (disch := (first | omega | (simp; omega))) only [hp_drew, hp_drewN, hp_alloc, hp_set]; done)), hK _ _ ?_⟩; clear hK K))
        exact wpUT_done ⟨by rfl, rfl⟩
      intro js
      simp only [UT.dsts, junk, SOp.dst, Option.toList_some, Option.toList_none, List.cons_append, List.nil_append, List.append_nil, cond_true, cond_false]
      try go_simp
      refine wpUT_done ?_
      try go_simp
      go_wp2
      clear hp1 hp3 hpq
      obtain ⟨q, hq⟩ : ∃ q : Nat → Bool, q = fun i => decide (g i ≠ U i) := ⟨_, rfl⟩
      have HQQ := Lib.hid hq
      clear hq
      go_loopg [20, 21, 22, 23] N (fun gk a b c i wr => ∃ (V1 V2 V3 : Value) (E : Nat) (ls : List Nat), V1 = a ∧ V2 = b ∧ V3 = c ∧ E ≤ N ∧ gk = N - E ∧ i = .int .i64 E ∧ Hid (RiseTo E ls) ∧ Hid (OwnZ wr w7.heap.size V1 (intsOf ls)) ∧ Hid (OwnG wr w7.heap.size V2 (ls.map g)) ∧ Hid (OwnZ wr w7.heap.size V3 (intsOf (ls.filter q))) ∧ Hid (Apart V2 V1.ownBlock.toList) ∧ Hid (Apart V3 V1.ownBlock.toList) ∧ Hid (Apart V3 V2.ownBlock.toList) ∧ Hid (Below w7.heap.size w7 wr))
      case atStart => exact ⟨_, _, _, 0, [], rfl, rfl, rfl, by omega, rfl, rfl, Lib.hid ⟨List.Pairwise.nil, by simp⟩, Lib.hid (OwnZ.nil _ _), Lib.hid (OwnG.nil _ _), Lib.hid (OwnZ.nil _ _), Lib.hid (apart_nil _), Lib.hid (apart_nil _), Lib.hid (apart_nil _), Lib.hid (Below.refl _ _)⟩
      case round =>
        obtain ⟨V1, V2, V3, E, ls, rfl, rfl, rfl, hE, rfl, rfl, HR, HO1, HO2, HO3, HA21, HA31, HA32, HBR⟩ := hrel
        have hsr := HBR.out.size
        by_cases hlt : E < N
        · have hbit := HBIT.out E
          cases ht : bs.testBit E
          · rw [ht] at hbit
            have hll := HR.out.len
            have hfl := List.length_filter_le q ls
            obtain ⟨v1, w8, hap1, ho1, hk1, hb8, hat1⟩ := app_int (W := wr) (E : Int) HO1.out (by rw [intsOf_len]; omega) hsr (ad := wr.heap.size) rfl
            have ho2 : OwnG w8 w7.heap.size V2 (ls.map g) := OwnG.kp HO2.out hk1 HA21.out
            have ho3 : OwnZ w8 w7.heap.size V3 (intsOf (ls.filter q)) := OwnZ.kp HO3.out hk1 HA31.out
            have ap21 : Apart V2 v1.ownBlock.toList := apart_grow HA21.out (fun kk hkk => (HO2.out.lt kk hkk).2) hat1
            have ap31 : Apart V3 v1.ownBlock.toList := apart_grow HA31.out (fun kk hkk => (HO3.out.lt kk hkk).2) hat1
            have hs8 := hb8.size
            have c1 := ((HV.out.below (HBR.out.trans hb8)).2 E hlt).1
            obtain ⟨xn, hxn⟩ : ∃ t, (g E).n = t := ⟨_, rfl⟩
            rw [hxn] at c1
            obtain ⟨v2, w9, hap2, ho4, hk2, hb9, hat2⟩ := app_byte (W := w8) (g E) ho2 (by rw [List.length_map]; omega) (by have := hk1.size; omega) hxn (ad := w8.heap.size) rfl
            have ho1z : OwnZ w9 w7.heap.size v1 (intsOf (ls ++ [E])) := by rw [ints_snoc]; exact OwnZ.kp ho1 hk2 (apart_swap ap21)
            have ho2z : OwnG w9 w7.heap.size v2 ((ls ++ [E]).map g) := by rw [List.map_append]; exact ho4
            have ho3z : OwnZ w9 w7.heap.size V3 (intsOf (ls.filter q)) := OwnZ.kp ho3 hk2 HA32.out
            have ap21z : Apart v2 v1.ownBlock.toList := apart_swap (apart_grow (apart_swap ap21) (fun kk hkk => (ho1.lt kk hkk).2) hat2)
            have ap32z : Apart V3 v2.ownBlock.toList := apart_grow HA32.out (fun kk hkk => (ho3.lt kk hkk).2) hat2
            have hb79 : Below w7.heap.size w7 w9 := (HBR.out.trans hb8).trans hb9
            have hs79 := hb79.size
            have c2 := ((HV.out.below hb79).2 E hlt).1
            have c3 := ((HU7.out.below hb79).2 E hlt).1
            obtain ⟨yn, hyn⟩ : ∃ t, (U E).n = t := ⟨_, rfl⟩
            rw [hxn] at c2
            rw [hyn] at c3
            have hiff : q E = false ↔ xn = yn := by
              rw [HQQ.out]
              simp only [decide_eq_false_iff_not, ne_eq, Decidable.not_not]
              exact ⟨fun e => by rw [← hxn, ← hyn, e], fun e => GF.ext' (by omega)⟩
            have HIF := Lib.hid hiff
            have HRN := Lib.hid HR.out.snoc
            have HB79 := Lib.hid hb79
            obtain ⟨kp, hkp⟩ : ∃ kp : Nat → Bool, ∀ j, kp j = true ↔ j < w9.heap.size := ⟨fun j => decide (j < w9.heap.size), by simp⟩
            have k1 : kp gy = true := (hkp _).2 (by omega)
            have k2 : kp gu = true := (hkp _).2 (by omega)
            have HKP := Lib.hid hkp
            have i1 : (0 : Int) ≤ (E : Int) ∧ (E : Int) < (N : Int) := by omega
            have HO1z := Lib.hid ho1z
            have HO2z := Lib.hid ho2z
            have HO3z := Lib.hid ho3z
            have HP21 := Lib.hid ap21z
            have HP31 := Lib.hid ap31
            have HP32 := Lib.hid ap32z
            clear hkp hxn hyn hiff ho1 ho2 ho3 ho4 hk1 hk2 hb8 hb9 hat1 hat2 ap21 ap31 ap21z ap32z ho1z ho2z ho3z hb79 ht HO1 HO2 HO3 HA21 HA31 HA32
            by_cases hcc : xn = yn
            · subst hcc
              have hqf := HIF.out.2 rfl
              have HO3n : Hid (OwnZ w9 w7.heap.size V3 (intsOf ((ls ++ [E]).filter q))) := Lib.hid (by rw [filt_snoc_no hqf]; exact HO3z.out)
              clear hqf
              go_upto_region 23 with (at_builtin; first | refine wpList_append rfl _ _ _ rfl rfl rfl hap1 ?_ | refine wpList_append rfl _ _ _ rfl rfl rfl hap2 ?_)
              have hgr := fun (w0 W : World) (p : Addr) (hp : (fun j => kp j = true) p.block) => graft_cell (w0 := w0) (keep := (fun j => kp j = true)) W hp
              refine wp_region_tree (fun j => kp j = true) [] (.step 0 (.step 1 (.step 2 (.step 3 (.step 4 (.step 5 (.step 6 (.step 7 (.step 8 .done))))))))) (by kernel_rfl) (by kernel_rfl) ?_
              simp only [slimTr, slimStep, Oper.slim, List.contains_cons, List.contains_nil, Option.map_none, Option.map_some, List.getElem?_toArray, List.getElem?_cons_zero, List.getElem?_cons_succ, Option.bind_some, beq_self_eq_true, Bool.or_false, Nat.reduceBEq, Nat.reduceAdd, Nat.zero_add]
              repeat (first | (fail) | ((with_reducible refine wpSlimT_step (fun K hK => ?_)); go_simp; first | (refine hK _ _ ?_; clear hK K) | (refine ⟨by (intro kk hkk; first | (simp (disch := (simp; omega)) only [hp_drew, hp_drewN, hp_alloc, hp_set]; done) | (simp [hp_drew, hp_drewN, hp_alloc_if, hkk]; done) | (have hkk2 := (HKP.out kk).1 hkk; simp (disch := (first | omega | (simp; omega))) only [hp_drew, hp_drewN, hp_alloc, hp_set]; done)), hK _ _ ?_⟩; clear hK K)))
              refine wpSlimT_done ?_
              clear hgr
              go_wp2
              go_roundg (N - (E + 1))
              case measure => omega
              case rel => exact ⟨_, _, _, E + 1, ls ++ [E], rfl, rfl, rfl, by omega, rfl, by go_num, HRN, HO1z, HO2z, HO3n, HP21, HP31, HP32, Lib.hid HB79.out.drew⟩
            · have hne : ¬ (xn : Int) = (yn : Int) := by omega
              have hqt : q E = true := by
                cases hqe : q E
                · exact absurd (HIF.out.1 hqe) hcc
                · rfl
              obtain ⟨v3, w10, hap3, ho5, hk3', hb10, hat3⟩ := app_int (W := w9.drew) (E : Int) HO3z.out (by rw [intsOf_len]; omega) (by simpa using hs79) (ad := w9.heap.size) rfl
              have HO3n : Hid (OwnZ w10 w7.heap.size v3 (intsOf ((ls ++ [E]).filter q))) := Lib.hid (by rw [filt_snoc_yes hqt, ints_snoc]; exact ho5)
              have HO1n : Hid (OwnZ w10 w7.heap.size v1 (intsOf (ls ++ [E]))) := Lib.hid (OwnZ.kp (w := w9.drew) HO1z.out hk3' (apart_swap HP31.out))
              have HO2n : Hid (OwnG w10 w7.heap.size v2 ((ls ++ [E]).map g)) := Lib.hid (OwnG.kp (w := w9.drew) HO2z.out hk3' (apart_swap HP32.out))
              have HP31n : Hid (Apart v3 v1.ownBlock.toList) := Lib.hid (apart_swap (apart_grow (n := w9.heap.size) (apart_swap HP31.out) (fun kk hkk => (HO1z.out.lt kk hkk).2) hat3))
              have HP32n : Hid (Apart v3 v2.ownBlock.toList) := Lib.hid (apart_swap (apart_grow (n := w9.heap.size) (apart_swap HP32.out) (fun kk hkk => (HO2z.out.lt kk hkk).2) hat3))
              have HBN : Hid (Below w7.heap.size w7 w10) := Lib.hid (HB79.out.drew.trans hb10)
              clear hqt ho5 hk3' hb10 hat3 hcc
              go_upto_region 23 with (at_builtin; first | refine wpList_append rfl _ _ _ rfl rfl rfl hap1 ?_ | refine wpList_append rfl _ _ _ rfl rfl rfl hap2 ?_)
              have hgr := fun (w0 W : World) (p : Addr) (hp : (fun j => kp j = true) p.block) => graft_cell (w0 := w0) (keep := (fun j => kp j = true)) W hp
              refine wp_region_tree (fun j => kp j = true) [] (.step 0 (.step 1 (.step 2 (.step 3 (.step 4 (.step 5 (.step 6 (.step 7 (.step 8 .done))))))))) (by kernel_rfl) (by kernel_rfl) ?_
              simp only [slimTr, slimStep, Oper.slim, List.contains_cons, List.contains_nil, Option.map_none, Option.map_some, List.getElem?_toArray, List.getElem?_cons_zero, List.getElem?_cons_succ, Option.bind_some, beq_self_eq_true, Bool.or_false, Nat.reduceBEq, Nat.reduceAdd, Nat.zero_add]
              repeat (first | (fail) | ((with_reducible refine wpSlimT_step (fun K hK => ?_)); go_simp; first | (refine hK _ _ ?_; clear hK K) | (refine ⟨by (intro kk hkk; first | (simp (disch := (simp; omega)) only [hp_drew, hp_drewN, hp_alloc, hp_set]; done) | (simp [hp_drew, hp_drewN, hp_alloc_if, hkk]; done) | (have hkk2 := (HKP.out kk).1 hkk; simp (disch := (first | omega | (simp; omega))) only [hp_drew, hp_drewN, hp_alloc, hp_set]; done)), hK _ _ ?_⟩; clear hK K)))
              refine wpSlimT_done ?_
              clear hgr
              go_wp2_with (at_builtin; refine wpList_append rfl _ _ _ rfl rfl rfl hap3 ?_)
              go_roundg (N - (E + 1))
              case measure => omega
              case rel => exact ⟨_, _, _, E + 1, ls ++ [E], rfl, rfl, rfl, by omega, rfl, by go_num, HRN, HO1n, HO2n, HO3n, HP21, HP31n, HP32n, HBN⟩
          · rw [ht] at hbit
            clear ht
            go_wp2
            go_roundg (N - (E + 1))
            case measure => omega
            case rel => exact ⟨_, _, _, E + 1, ls, rfl, rfl, rfl, by omega, rfl, by go_num, Lib.hid (HR.out.mono (by omega)), HO1, HO2, HO3, HA21, HA31, HA32, HBR⟩
        · obtain rfl : E = N := by omega
          have hll := HR.out.len
          obtain ⟨L, hL⟩ : ∃ L, ls.length = L := ⟨_, rfl⟩
          obtain ⟨O, hO⟩ : ∃ O, (ls.filter q).length = O := ⟨_, rfl⟩
          have hOL : O ≤ L := by rw [← hO, ← hL]; exact List.length_filter_le q ls
          have hLE : L ≤ E := by rw [← hL]; exact hll
          have HLL := Lib.hid hL
          have HOO := Lib.hid hO
          have hz1 := RdZ.of_own HO1.out
          have hz3 := RdZ.of_own HO3.out
          obtain ⟨a1, d1, rfl⟩ := hz1.rd.form
          obtain ⟨a3, d3, rfl⟩ := hz3.rd.form
          rw [intsOf_len, hL] at hz1 ⊢
          rw [intsOf_len, hO] at hz3 ⊢
          have HZ1 := Lib.hid hz1
          have HZ3 := Lib.hid hz3
          obtain ⟨w8, rfl⟩ : ∃ w8 : World, w8 = wr := ⟨_, rfl⟩
          have HB08 : Hid (Below w.heap.size w w8) := Lib.hid (HB07.out.trans (HBR.out.mono HB07.out.size))
          have HC8 := Lib.hid (HC7.out.below HBR.out)
          have HM8 := Lib.hid (HM7.out.below HBR.out)
          have hf8 := HC8.out.ok.lt
          have hs07 := HB07.out.size
          obtain ⟨T2, hT2⟩ : ∃ T2, 2 * O = T2 := ⟨_, rfl⟩
          obtain ⟨X, hX⟩ : ∃ X, K + T2 = X := ⟨_, rfl⟩
          have x1 : (2 : Int) * (O : Int) = (T2 : Int) := by omega
          have x2 : IntKind.i64.wrap (T2 : Int) = (T2 : Int) := IntWalk.i64_in _ (by omega)
          have x3 : (K : Int) + (T2 : Int) = (X : Int) := by omega
          have x4 : IntKind.i64.wrap (X : Int) = (X : Int) := IntWalk.i64_in _ (by omega)
          clear hL hO hz1 hz3 HO1 HO3 HC7 HM7 hlt hE
          by_cases hfew : L < X
          · have hfew' : (L : Int) < (X : Int) := by omega
            clear hT2 hX
            go_wp2_with fail
            refine (codeK_any _ cb fb K v _ HC8.out).mono ?_
            rintro e wk ⟨rfl, rfl⟩
            have HBW := HB08
            go_wp2_with fail
            refine (HW.out _).mono ?_
            rintro e w20 ⟨rfl, hb20⟩
            have HB20 : Hid (Below w.heap.size w w20) := Lib.hid (HBW.out.trans (hb20.mono HBW.out.size))
            clear hb20
            go_wp2
            go_ret
            exact ⟨rfl, HB20.out⟩
          have hfew' : ¬ (L : Int) < (X : Int) := by omega
          have hkl : K + 2 * O ≤ L := by omega
          have HRS : Hid (RiseTo (pows E).length ls) := Lib.hid (by rw [pows_len]; exact HR.out)
          have hrow := left_row ls g
          have hoth := left_oth ls g U
          have hUU : (fun j => U (ls.getD j 0)) = fun i => ev M ((pows E).getD (ls.getD i 0) 0) := by rw [HUU.out]
          rw [hUU] at hoth
          have hoth2 : othL ls (fun j => g (ls.getD j 0)) (fun i => ev M ((pows E).getD (ls.getD i 0) 0)) ls.length = intsOf (ls.filter q) := by rw [HQQ.out]; exact hoth
          have hcnt : cntD (fun j => g (ls.getD j 0)) (fun i => ev M ((pows E).getD (ls.getD i 0) 0)) ls.length = O := by
            rw [← othL_len ls, hoth2, intsOf_len, HOO.out]
          have hok : WeOk (pows E) K (intsOf ls) (ls.map g) (O : Int) M := by
            rw [← hrow]
            exact oth_ok HRS.out rfl HML.out (by rw [hcnt]; exact Nat.le_refl _) (by rw [HLL.out]; exact hkl)
          have hwr : wrS (pows E) (intsOf ls) (ls.map g) M = intsOf (ls.filter q) := by
            rw [← hrow, oth_wrS HRS.out rfl, hoth2]
          have HOK := Lib.hid hok
          have HWR := Lib.hid hwr
          have HDEC := Lib.hid (wdec_any w8 cb fb K v (.slice a1 L d1) V2 (pows E) (intsOf ls) (ls.map g) (O : Int) HC8.out HND.out (by omega) (by rw [pows_len]; omega) (by rw [pows_len]; omega)
            HZ1.out.rd HO2.out.rd (.inr (fun c hc hm => by have := (HZ1.out.lo c hc).1; simp at hm; omega)) (.inr (fun c hc hm => by have := (HO2.out.lt c hc).1; simp at hm; omega)) (by rw [intsOf_len, HLL.out]; omega) (by rw [List.length_map, HLL.out]; omega) (by omega))
          clear hrow hoth hUU hoth2 hcnt hok hwr hT2 hX hfew
          go_wp2_with fail
          refine (codeK_any _ cb fb K v _ HC8.out).mono ?_
          rintro e wk ⟨rfl, rfl⟩
          go_wp2_with fail
          refine HDEC.out.mono ?_
          rintro e w9 ⟨hk9, hf9, ha9⟩
          obtain ⟨u1, u2, rfl, ho1, hz1⟩ : ∃ v1 v2, e = .returned (.tuple #[v1, v2, .int .i64 0]) ∧ OwnG w9 w8.heap.size v1 M ∧ RdZ w9 w8.heap.size v2 (intsOf (ls.filter q)) := by
            rcases we_cases ha9 with ⟨c', hc', rfl⟩ | ⟨m', v1', v2', hok', rfl, ho', hz'⟩
            · exact (HOK.out.not hc').elim
            · obtain rfl := HOK.out.one HND.out hok'
              rw [HWR.out] at hz'
              exact ⟨_, _, rfl, ho', hz'⟩
          have HB09 : Hid (Below w.heap.size w w9) := Lib.hid (HB08.out.trans (hk9.below HB08.out.size (fun x hx => by simp at hx; omega)))
          have HU1 := Lib.hid ho1
          have HU2 := Lib.hid hz1
          have HM9 := Lib.hid (HM8.out.kp hk9 (fun k hk hm => by simp [Value.ownBlock] at hk hm; omega))
          have HZ39 := Lib.hid (HZ3.out.kp hk9 (by simp; omega))
          have hlen : (intsOf (ls.filter q)).length ≤ 1000000 := by rw [intsOf_len, HOO.out]; omega
          clear hk9 hf9 ha9 ho1 hz1 HDEC
          go_wp2_with fail
          refine (same_g _ _ M M _ HU1.out.rd HM9.out).mono ?_
          rintro e w10 ⟨rfl, rfl⟩
          rw [decide_eq_true rfl]
          go_wp2_with fail
          refine (sameI_any _ _ (intsOf (ls.filter q)) (intsOf (ls.filter q)) _ HU2.out.rd HZ39.out.rd hlen hlen).mono ?_
          rintro e w11 ⟨rfl, hb11⟩
          rw [decide_eq_true rfl]
          have HBW : Hid (Below w.heap.size w w11) := Lib.hid (HB09.out.trans (hb11.mono HB09.out.size))
          clear hb11 hlen
          go_wp2_with fail
          refine (HW.out _).mono ?_
          rintro e w20 ⟨rfl, hb20⟩
          have HB20 : Hid (Below w.heap.size w w20) := Lib.hid (HBW.out.trans (hb20.mono HBW.out.size))
          clear hb20
          go_wp2
          go_ret
          exact ⟨rfl, HB20.out⟩
end Go.Proofs.YteeeocianofkfaaGreat
