/-
  The law ReedApart.
-/
import Derived.Test.YtpkeglpigjaccaaGreatWorks7
import Derived.Test.YtpkeglpigjaccaaGreatKit
namespace Go.Proofs.YtpkeglpigjaccaaGreat
open Go.RowKit Fld
set_option linter.unusedVariables false
set_option linter.unusedSimpArgs false

/-- A sum of rows, as far as it has come. -/
noncomputable def sumG (A B : List GF) (I : Nat) : List GF := (List.range I).map fun i => A.getD i 0 + B.getD i 0
theorem sumG_len (A B : List GF) (I : Nat) : (sumG A B I).length = I := by simp [sumG]
theorem sumG_succ (A B : List GF) (I : Nat) : sumG A B (I + 1) = sumG A B I ++ [A.getD I 0 + B.getD I 0] := by simp [sumG, List.range_succ]
theorem sumG_ev (A B : List GF) (K : Nat) (x : GF) : ev (sumG A B K) x = ev (fullG A K) x + ev (fullG B K) x := by
  rw [ev_sm, ev_sm, ev_sm, sumG_len, fullG_len, fullG_len, ← sm_add]
  refine sm_congr fun i hi => ?_
  rw [fullG_get A hi, fullG_get B hi, sumG, List.getD_eq_getElem?_getD, List.getElem?_map, List.getElem?_range hi]
  exact dam _ _ _
/-- At how many of the first places two words are alike. -/
noncomputable def alikeN (u v : Nat → GF) (I : Nat) : Nat := ((List.range I).filter fun i => decide (u i = v i)).length
theorem alikeN_succ (u v : Nat → GF) (I : Nat) : alikeN u v (I + 1) = if u I = v I then alikeN u v I + 1 else alikeN u v I := by
  unfold alikeN
  rw [List.range_succ, List.filter_append, List.length_append]
  by_cases h : u I = v I <;> simp [h]
theorem alikeN_le (u v : Nat → GF) (I : Nat) : alikeN u v I ≤ I := by
  unfold alikeN
  have := List.length_filter_le (fun i => decide (u i = v i)) (List.range I)
  rwa [List.length_range] at this
/-- Words of unlike messages are alike at few places. -/
theorem alike_few {xs x y : List GF} (hn : xs.Nodup) (hl : x.length = y.length) (h : x.length ≤ alikeN (fun i => ev x (xs.getD i 0)) (fun i => ev y (xs.getD i 0)) xs.length) : x = y := by
  have hp : (((List.range xs.length).filter fun i => decide (ev x (xs.getD i 0) = ev y (xs.getD i 0))).map fun i => xs.getD i 0).Nodup := by
    refine List.pairwise_map.2 ((List.nodup_range.filter _).imp_of_mem fun {a b} ha hb hne e => hne ?_)
    have ha' := List.mem_range.1 (List.mem_filter.1 ha).1
    have hb' := List.mem_range.1 (List.mem_filter.1 hb).1
    exact getD_inj hn ha' hb' e
  refine ev_inj hp hl (by rw [List.length_map]; exact h) fun z hz => ?_
  obtain ⟨i, hi, rfl⟩ := List.mem_map.1 hz
  exact of_decide_eq_true (List.mem_filter.1 hi).2
set_option maxRecDepth 100000 in
set_option maxHeartbeats 8000000 in
theorem apart_any (n k : Nat) (ua ub : Value) (A B : List GF) (w : World) (hn : n < 256) (hk : k < 256) (ha : GRd w ua A) (hb : GRd w ub B) :
    Calls Tryz.prog 10 #[.int .u8 n, .int .u8 k, ua, ub] w fun e w' => e = .returned (.bool true) ∧ Below w.heap.size w w' := by
  have HW := Lib.hid (fun W => works_any W)
  obtain ⟨aa, ca, rfl, hca⟩ := ha.form
  obtain ⟨ab, cb0, rfl, hcb0⟩ := hb.form
  obtain ⟨i0, hi, hz0, hz1, hz2⟩ := info_parts u8_info
  obtain ⟨N, hN⟩ : ∃ N : Nat, 1 + n % 30 = N := ⟨_, rfl⟩
  obtain ⟨Q, hQ⟩ : ∃ Q : Nat, 1 + k % 30 = Q := ⟨_, rfl⟩
  have en2 : (1 : Int) + (n : Int) % 30 = (N : Int) := by omega
  have ek2 : (1 : Int) + (k : Int) % 30 = (Q : Int) := by omega
  have bn : n % 30 < 30 := Nat.mod_lt _ (by omega)
  have bk : k % 30 < 30 := Nat.mod_lt _ (by omega)
  have hN1 : 1 ≤ N ∧ N ≤ 30 := by omega
  have hQ1 : 1 ≤ Q ∧ Q ≤ 30 := by omega
  have HA := Lib.hid ha
  have HB := Lib.hid hb
  clear hN hQ ha hb
  go_enter Tryz.func10, Tryz.ntmps10
  go_wp2_with fail
  refine (kreed_any N Q w (by omega) (by omega) (by omega) (by omega)).mono ?_
  rintro e w1 ⟨hb1, hr⟩
  rcases hr with ⟨hQN, cb, fb, v, rfl, hcb, hfb, hc, -⟩ | ⟨-, rfl⟩
  · have HC1 := Lib.hid hc
    have HB1 := Lib.hid hb1
    have hnd : (pows N).Nodup := pows_nodup (by omega)
    have HND := Lib.hid hnd
    have hf1 := hc.ok.lt
    clear hc hb1 en2 ek2 bn bk hnd
    -- the messages
    go_wp2_with fail
    refine (codeK_any _ cb fb Q v _ HC1.out).mono ?_
    rintro e w1' ⟨rfl, rfl⟩
    go_wp2_with fail
    refine (kfull_any _ A Q w1 (HA.out.below HB1.out) (by omega)).mono ?_
    rintro e w2 ⟨gx, rfl, hgx, hvx, hrx, hb2⟩
    have HC2 := Lib.hid (HC1.out.below hb2)
    have HB2 : Hid (Below w.heap.size w w2) := Lib.hid (HB1.out.trans (hb2.mono HB1.out.size))
    have HX := Lib.hid hvx
    have HRX := Lib.hid hrx
    have hlx := hvx.1
    have hs12 := hb2.size
    have hs01 := HB1.out.size
    clear hvx hrx hb2 HC1
    go_wp2_with fail
    refine (codeK_any _ cb fb Q v _ HC2.out).mono ?_
    rintro e w2' ⟨rfl, rfl⟩
    go_wp2_with fail
    refine (kfull_any _ B Q w2 (HB.out.below HB2.out) (by omega)).mono ?_
    rintro e w3 ⟨gy, rfl, hgy, hvy, hry, hb3⟩
    have HC3 := Lib.hid (HC2.out.below hb3)
    have HBB3 : Hid (Below w.heap.size w w3) := Lib.hid (HB2.out.trans (hb3.mono HB2.out.size))
    have HX3 := Lib.hid (HX.out.below hb3)
    have HRX3 := Lib.hid (HRX.out.below hb3)
    have HY3 := Lib.hid hvy
    have HRY3 := Lib.hid hry
    have hs23 := hb3.size
    have hly := hvy.1
    clear hvy hry hb3 HC2 HB2 HX HRX HA HB
    -- the words
    go_wp2_with fail
    refine (encode_any w3 cb fb v _ (pows N) (fullG A Q) (by rw [fullG_len]; exact HC3.out) HRX3.out (fun k hk hm => by simp [Value.ownBlock] at hk hm; omega) (by rw [pows_len]; omega) (by rw [pows_len]; omega) (by rw [fullG_len]; omega)).mono ?_
    rintro e w4 ⟨gu, rfl, hgu, hvu, hk4, hf4⟩
    rw [pows_len] at hvu
    rw [pows_len]
    have hs34 := hk4.size
    have hlu := hvu.1
    have HC4 := Lib.hid (HC3.out.step hk4 hf4)
    have HX4 := Lib.hid (HX3.out.kp hk4 (by simp; omega))
    have HY4 := Lib.hid (HY3.out.kp hk4 (by simp; omega))
    have HRY4 := Lib.hid (HRY3.out.kp hk4 (fun k hk hm => by simp [Value.ownBlock] at hk hm; omega))
    have HU4 := Lib.hid hvu
    have HB4 : Hid (Below w.heap.size w w4) := Lib.hid (HBB3.out.trans (hk4.below (by omega) (fun x hx => by simp at hx; omega)))
    have hf4' := hf4.lt
    clear hvu hk4 hf4 HC3 HX3 HY3 HRY3 HBB3 HRX3
    go_wp2_with fail
    refine (encode_any w4 cb fb v _ (pows N) (fullG B Q) (by rw [fullG_len]; exact HC4.out) HRY4.out (fun k hk hm => by simp [Value.ownBlock] at hk hm; omega) (by rw [pows_len]; omega) (by rw [pows_len]; omega) (by rw [fullG_len]; omega)).mono ?_
    rintro e w5 ⟨gq, rfl, hgq, hvv, hk5, hf5⟩
    rw [pows_len] at hvv
    rw [pows_len]
    have hs45 := hk5.size
    have hlv := hvv.1
    have HC5 := Lib.hid (HC4.out.step hk5 hf5)
    have HX5 := Lib.hid (HX4.out.kp hk5 (by simp; omega))
    have HY5 := Lib.hid (HY4.out.kp hk5 (by simp; omega))
    have HU5 := Lib.hid (HU4.out.kp hk5 (by simp; omega))
    have HV5 := Lib.hid hvv
    have HB5 : Hid (Below w.heap.size w w5) := Lib.hid (HB4.out.trans (hk5.below (by omega) (fun x hx => by simp at hx; omega)))
    have hf5' := hf5.lt
    clear hvv hk5 hf5 HC4 HX4 HY4 HRY4 HB4 HU4
    -- the sum of the messages
    go_wp2
    go_loopg [16, 17] Q (fun gk l i wr => ∃ (V : Value) (I : Nat), V = l ∧ I ≤ Q ∧ gk = Q - I ∧ i = .int .i64 I ∧ Hid (OwnG wr w5.heap.size V (sumG A B I)) ∧ Hid (Below w5.heap.size w5 wr))
    case atStart => exact ⟨_, 0, rfl, by omega, rfl, rfl, Lib.hid (OwnG.nil _ _), Lib.hid (Below.refl _ _)⟩
    case round =>
      obtain ⟨V, I, rfl, hI, rfl, rfl, HO, HBR⟩ := hrel
      have hsr := HBR.out.size
      by_cases hlt : I < Q
      · have hxr := (HX5.out.below HBR.out).2 I hlt
        have hyr := (HY5.out.below HBR.out).2 I hlt
        have c1 := hxr.1
        have c2 := hyr.1
        obtain ⟨x, hx⟩ : ∃ x, A.getD I 0 = x := ⟨_, rfl⟩
        obtain ⟨y, hy⟩ : ∃ y, B.getD I 0 = y := ⟨_, rfl⟩
        simp only [hx] at c1
        simp only [hy] at c2
        have HXY := Lib.hid (And.intro hx hy)
        have HADD := Lib.hid (fun W => gadd_any x y W)
        obtain ⟨xn, hxn⟩ : ∃ xn, x.n = xn := ⟨_, rfl⟩
        obtain ⟨yn, hyn⟩ : ∃ yn, y.n = yn := ⟨_, rfl⟩
        obtain ⟨s, hs⟩ : ∃ s, (x + y).n = s := ⟨_, rfl⟩
        rw [hxn] at c1 HADD
        rw [hyn] at c2 HADD
        rw [hs] at HADD
        have HS := Lib.hid hs
        clear hxr hyr hx hy hxn hyn hs
        obtain ⟨v1, w6, hap, ho6, -, hb6, -⟩ := app_byte (W := wr.drew) (x + y) HO.out (by rw [sumG_len]; omega) (by exact hsr) HS.out (ad := wr.heap.size) rfl
        have HO6 : Hid (OwnG w6 w5.heap.size v1 (sumG A B (I + 1))) := Lib.hid (by rw [sumG_succ, HXY.out.1, HXY.out.2]; exact ho6)
        have HB6 := Lib.hid (((Below.refl w5.heap.size wr).drew).trans hb6)
        have HBR6 := Lib.hid (HBR.out.trans HB6.out)
        obtain ⟨kp, hkp⟩ : ∃ kp : Nat → Bool, ∀ j, kp j = true ↔ j < w5.heap.size := ⟨fun j => decide (j < w5.heap.size), by simp⟩
        have hkx : kp gx = true := (hkp _).2 (by omega)
        have hky : kp gy = true := (hkp _).2 (by omega)
        have HKP := Lib.hid hkp
        clear hkp ho6 hb6
        go_upto_region 11 with fail
        have hgr := fun (w0 W : World) (p : Addr) (hp : (fun j => kp j = true) p.block) => graft_cell (w0 := w0) (keep := (fun j => kp j = true)) W hp
        refine wp_region_tree (fun j => kp j = true) [9, 10, 11] (.step 0 (.step 1 (.step 2 (.step 3 (.step 4 (.step 5 (.step 6 (.step 7 (.step 8 (.step 9 (.step 10 (.step 11 (.step 12 .done))))))))))))) (by kernel_rfl) (by kernel_rfl) ?_
        simp only [slimTr, slimStep, Oper.slim, List.contains_cons, List.contains_nil, Option.map_none, Option.map_some, List.getElem?_toArray, List.getElem?_cons_zero, List.getElem?_cons_succ, Option.bind_some, beq_self_eq_true, Bool.or_false, Nat.reduceBEq, Nat.reduceAdd, Nat.zero_add]
        repeat (first | (refine wpSlimT_append _ _ _ rfl rfl rfl rfl rfl hap (fun kk hkk => HB6.out.block kk ((HKP.out kk).1 hkk)) ?_) | ((with_reducible refine wpSlimT_step (fun K hK => ?_)); go_simp; first | (refine hK _ _ ?_; clear hK K) | (refine ⟨by (intro kk hkk; first | (simp (disch := (simp; omega)) only [hp_drew, hp_drewN, hp_alloc, hp_set]; done) | (simp [hp_drew, hp_drewN, hp_alloc_if, hkk]; done) | (have hkk2 := (HKP.out kk).1 hkk; simp (disch := (simp; omega)) only [hp_drew, hp_drewN, hp_alloc, hp_set]; done)), hK _ _ ?_⟩; clear hK K)| (go_at_call 26; (with_reducible refine (HADD.out _).mono ?_); rintro e w7 ⟨rfl, rfl⟩; refine ⟨_, rfl, (fun kk hkk => rfl), hK _ _ ?_⟩; clear hK K)))
        refine wpSlimT_done ?_
        clear hgr
        go_wp2
        go_roundg (Q - (I + 1))
        case measure => omega
        case rel => exact ⟨_, I + 1, rfl, by omega, rfl, by go_num, HO6, HBR6⟩
      · obtain rfl : I = Q := by omega
        have hne : Apart V [fb] := fun b hb hm => by
          have := HO.out.lt b hb
          simp at hm
          omega
        have HENC := Lib.hid (encode_any wr cb fb v V (pows N) (sumG A B I) (by rw [sumG_len]; exact HC5.out.below HBR.out) HO.out.rd hne (by rw [pows_len]; omega) (by rw [pows_len]; omega) (by rw [sumG_len]; omega))
        clear hne
        go_wp2_with fail
        refine HENC.out.mono ?_
        rintro e w8 ⟨gs, rfl, hgs, hvs, hk8, hf8⟩
        rw [pows_len] at hvs
        rw [pows_len]
        have hk58 : Kp [fb] w5 w8 := (Kp.of_below HBR.out).trans hk8
        have hs58 := hk58.size
        have hls := hvs.1
        have HC8 := Lib.hid (HC5.out.step hk58 hf8)
        have HX8 := Lib.hid (HX5.out.kp hk58 (by simp; omega))
        have HY8 := Lib.hid (HY5.out.kp hk58 (by simp; omega))
        have HU8 := Lib.hid (HU5.out.kp hk58 (by simp; omega))
        have HV8 := Lib.hid (HV5.out.kp hk58 (by simp; omega))
        have HS8 := Lib.hid hvs
        have HB8 : Hid (Below w.heap.size w w8) := Lib.hid (HB5.out.trans (hk58.below (by omega) (fun x hx => by simp at hx; omega)))
        clear hvs hk8 hf8 hk58 HC5 HX5 HY5 HU5 HV5 HB5 HO HBR HENC hsr
        obtain ⟨U, hU⟩ : ∃ U : Nat → GF, U = fun i => ev (fullG A I) ((pows N).getD i 0) := ⟨_, rfl⟩
        obtain ⟨Z, hZ⟩ : ∃ Z : Nat → GF, Z = fun i => ev (fullG B I) ((pows N).getD i 0) := ⟨_, rfl⟩
        obtain ⟨S, hS⟩ : ∃ S : Nat → GF, S = fun i => ev (sumG A B I) ((pows N).getD i 0) := ⟨_, rfl⟩
        rw [← hU] at HU8
        rw [← hZ] at HV8
        rw [← hS] at HS8
        have HSUM : Hid (∀ i, S i = U i + Z i) := Lib.hid fun i => by rw [hS, hU, hZ]; exact sumG_ev A B I _
        have HFEW : Hid (fullG A I ≠ fullG B I → alikeN U Z N < I) := Lib.hid fun hne => by
          refine Nat.lt_of_not_le fun hle => hne (alike_few (xs := pows N) HND.out (by rw [fullG_len, fullG_len]) ?_)
          rw [fullG_len, pows_len]
          rw [hU, hZ] at hle
          exact hle
        clear hU hZ hS
        go_wp2
        go_loopg [20, 21] N (fun gk al i wr => ∃ (J C : Nat), J ≤ N ∧ gk = N - J ∧ al = .int .i64 C ∧ C ≤ J ∧ i = .int .i64 J ∧ Hid (C = alikeN U Z J) ∧ Hid (Below w8.heap.size w8 wr))
        case atStart => exact ⟨0, 0, by omega, rfl, rfl, by omega, rfl, Lib.hid rfl, Lib.hid (Below.refl _ _)⟩
        case round =>
          obtain ⟨J, C, hJ, rfl, rfl, hCJ, rfl, HC, HBR⟩ := hrel
          have hsr := HBR.out.size
          by_cases hlt2 : J < N
          · have c1 := ((HU8.out.below HBR.out).2 J hlt2).1
            have c2 := ((HV8.out.below HBR.out).2 J hlt2).1
            have c3 := ((HS8.out.below HBR.out).2 J hlt2).1
            have hsu := HSUM.out J
            have HNX := Lib.hid (alikeN_succ U Z J)
            obtain ⟨x, hx⟩ : ∃ x, U J = x := ⟨_, rfl⟩
            obtain ⟨y, hy⟩ : ∃ y, Z J = y := ⟨_, rfl⟩
            rw [hx] at c1 hsu HNX
            rw [hy] at c2 hsu HNX
            rw [hsu] at c3
            have HADD := Lib.hid (fun W => gadd_any x y W)
            have hxy : x.n = y.n ↔ x = y := ⟨GF.ext', fun e => by rw [e]⟩
            have HXY := Lib.hid hxy
            obtain ⟨xn, hxn⟩ : ∃ xn, x.n = xn := ⟨_, rfl⟩
            obtain ⟨yn, hyn⟩ : ∃ yn, y.n = yn := ⟨_, rfl⟩
            obtain ⟨s, hs⟩ : ∃ s, (x + y).n = s := ⟨_, rfl⟩
            rw [hxn] at c1 HADD HXY
            rw [hyn] at c2 HADD HXY
            rw [hs] at c3 HADD
            obtain ⟨kp, hkp⟩ : ∃ kp : Nat → Bool, ∀ j, kp j = true ↔ j < w8.heap.size := ⟨fun j => decide (j < w8.heap.size), by simp⟩
            have hku : kp gu = true := (hkp _).2 (by omega)
            have hkz : kp gq = true := (hkp _).2 (by omega)
            have hks : kp gs = true := (hkp _).2 (by omega)
            have HKP := Lib.hid hkp
            have HBD : Hid (Below w8.heap.size w8 wr.drew.drew) := Lib.hid HBR.out.drew.drew
            clear hkp hxy hx hy hxn hyn hs hsu
            by_cases e : xn = yn
            · subst e
              have HC2 : Hid (C + 1 = alikeN U Z (J + 1)) := Lib.hid (by rw [HNX.out, if_pos (HXY.out.1 rfl), HC.out])
              go_upto_region 19 with fail
              have hgr := fun (w0 W : World) (p : Addr) (hp : (fun j => kp j = true) p.block) => graft_cell (w0 := w0) (keep := (fun j => kp j = true)) W hp
              refine wp_region_tree (fun j => kp j = true) [] (.step 0 (.step 1 (.step 2 (.step 3 (.step 4 (.step 5 (.step 6 (.step 7 (.step 8 .done))))))))) (by kernel_rfl) (by kernel_rfl) ?_
              simp only [slimTr, slimStep, Oper.slim, List.contains_cons, List.contains_nil, Option.map_none, Option.map_some, List.getElem?_toArray, List.getElem?_cons_zero, List.getElem?_cons_succ, Option.bind_some, beq_self_eq_true, Bool.or_false, Nat.reduceBEq, Nat.reduceAdd, Nat.zero_add]
              repeat (first | (refine wpSlimT_append _ _ _ rfl rfl rfl rfl rfl hap (fun kk hkk => HB6.out.block kk ((HKP.out kk).1 hkk)) ?_) | ((with_reducible refine wpSlimT_step (fun K hK => ?_)); go_simp; first | (refine hK _ _ ?_; clear hK K) | (refine ⟨by (intro kk hkk; first | (simp (disch := (simp; omega)) only [hp_drew, hp_drewN, hp_alloc, hp_set]; done) | (simp [hp_drew, hp_drewN, hp_alloc_if, hkk]; done) | (have hkk2 := (HKP.out kk).1 hkk; simp (disch := (simp; omega)) only [hp_drew, hp_drewN, hp_alloc, hp_set]; done)), hK _ _ ?_⟩; clear hK K)))
              refine wpSlimT_done ?_
              clear hgr
              go_upto_region 21 with fail
              have hgr := fun (w0 W : World) (p : Addr) (hp : (fun j => kp j = true) p.block) => graft_cell (w0 := w0) (keep := (fun j => kp j = true)) W hp
              refine wp_region_tree (fun j => kp j = true) [12] (.step 0 (.step 1 (.step 2 (.step 3 (.step 4 (.step 5 (.step 6 (.step 7 (.step 8 (.step 9 (.step 10 (.step 11 (.step 12 (.step 13 .done)))))))))))))) (by kernel_rfl) (by kernel_rfl) ?_
              simp only [slimTr, slimStep, Oper.slim, List.contains_cons, List.contains_nil, Option.map_none, Option.map_some, List.getElem?_toArray, List.getElem?_cons_zero, List.getElem?_cons_succ, Option.bind_some, beq_self_eq_true, Bool.or_false, Nat.reduceBEq, Nat.reduceAdd, Nat.zero_add]
              repeat (first | (refine wpSlimT_append _ _ _ rfl rfl rfl rfl rfl hap (fun kk hkk => HB6.out.block kk ((HKP.out kk).1 hkk)) ?_) | ((with_reducible refine wpSlimT_step (fun K hK => ?_)); go_simp; first | (refine hK _ _ ?_; clear hK K) | (refine ⟨by (intro kk hkk; first | (simp (disch := (simp; omega)) only [hp_drew, hp_drewN, hp_alloc, hp_set]; done) | (simp [hp_drew, hp_drewN, hp_alloc_if, hkk]; done) | (have hkk2 := (HKP.out kk).1 hkk; simp (disch := (simp; omega)) only [hp_drew, hp_drewN, hp_alloc, hp_set]; done)), hK _ _ ?_⟩; clear hK K)| (go_at_call 26; (with_reducible refine (HADD.out _).mono ?_); rintro e w7 ⟨rfl, rfl⟩; refine ⟨_, rfl, (fun kk hkk => rfl), hK _ _ ?_⟩; clear hK K)))
              refine wpSlimT_done ?_
              clear hgr
              go_wp2
              go_roundg (N - (J + 1))
              case measure => omega
              case rel => exact ⟨J + 1, C + 1, by omega, rfl, by go_num, by omega, by go_num, HC2, HBD⟩
            · have hne : ¬ (xn : Int) = (yn : Int) := by omega
              have HC2 : Hid (C = alikeN U Z (J + 1)) := Lib.hid (by rw [HNX.out, if_neg (fun h => e (HXY.out.2 h)), HC.out])
              go_upto_region 19 with fail
              have hgr := fun (w0 W : World) (p : Addr) (hp : (fun j => kp j = true) p.block) => graft_cell (w0 := w0) (keep := (fun j => kp j = true)) W hp
              refine wp_region_tree (fun j => kp j = true) [] (.step 0 (.step 1 (.step 2 (.step 3 (.step 4 (.step 5 (.step 6 (.step 7 (.step 8 .done))))))))) (by kernel_rfl) (by kernel_rfl) ?_
              simp only [slimTr, slimStep, Oper.slim, List.contains_cons, List.contains_nil, Option.map_none, Option.map_some, List.getElem?_toArray, List.getElem?_cons_zero, List.getElem?_cons_succ, Option.bind_some, beq_self_eq_true, Bool.or_false, Nat.reduceBEq, Nat.reduceAdd, Nat.zero_add]
              repeat (first | (refine wpSlimT_append _ _ _ rfl rfl rfl rfl rfl hap (fun kk hkk => HB6.out.block kk ((HKP.out kk).1 hkk)) ?_) | ((with_reducible refine wpSlimT_step (fun K hK => ?_)); go_simp; first | (refine hK _ _ ?_; clear hK K) | (refine ⟨by (intro kk hkk; first | (simp (disch := (simp; omega)) only [hp_drew, hp_drewN, hp_alloc, hp_set]; done) | (simp [hp_drew, hp_drewN, hp_alloc_if, hkk]; done) | (have hkk2 := (HKP.out kk).1 hkk; simp (disch := (simp; omega)) only [hp_drew, hp_drewN, hp_alloc, hp_set]; done)), hK _ _ ?_⟩; clear hK K)))
              refine wpSlimT_done ?_
              clear hgr
              go_upto_region 21 with fail
              have hgr := fun (w0 W : World) (p : Addr) (hp : (fun j => kp j = true) p.block) => graft_cell (w0 := w0) (keep := (fun j => kp j = true)) W hp
              refine wp_region_tree (fun j => kp j = true) [12] (.step 0 (.step 1 (.step 2 (.step 3 (.step 4 (.step 5 (.step 6 (.step 7 (.step 8 (.step 9 (.step 10 (.step 11 (.step 12 (.step 13 .done)))))))))))))) (by kernel_rfl) (by kernel_rfl) ?_
              simp only [slimTr, slimStep, Oper.slim, List.contains_cons, List.contains_nil, Option.map_none, Option.map_some, List.getElem?_toArray, List.getElem?_cons_zero, List.getElem?_cons_succ, Option.bind_some, beq_self_eq_true, Bool.or_false, Nat.reduceBEq, Nat.reduceAdd, Nat.zero_add]
              repeat (first | (refine wpSlimT_append _ _ _ rfl rfl rfl rfl rfl hap (fun kk hkk => HB6.out.block kk ((HKP.out kk).1 hkk)) ?_) | ((with_reducible refine wpSlimT_step (fun K hK => ?_)); go_simp; first | (refine hK _ _ ?_; clear hK K) | (refine ⟨by (intro kk hkk; first | (simp (disch := (simp; omega)) only [hp_drew, hp_drewN, hp_alloc, hp_set]; done) | (simp [hp_drew, hp_drewN, hp_alloc_if, hkk]; done) | (have hkk2 := (HKP.out kk).1 hkk; simp (disch := (simp; omega)) only [hp_drew, hp_drewN, hp_alloc, hp_set]; done)), hK _ _ ?_⟩; clear hK K)| (go_at_call 26; (with_reducible refine (HADD.out _).mono ?_); rintro e w7 ⟨rfl, rfl⟩; refine ⟨_, rfl, (fun kk hkk => rfl), hK _ _ ?_⟩; clear hK K)))
              refine wpSlimT_done ?_
              clear hgr
              go_wp2
              go_roundg (N - (J + 1))
              case measure => omega
              case rel => exact ⟨J + 1, C, by omega, rfl, rfl, by omega, by go_num, HC2, HBD⟩
          · obtain rfl : J = N := by omega
            have HSAME := Lib.hid (same_g _ _ _ _ wr (HX8.out.below HBR.out).full (HY8.out.below HBR.out).full)
            have HCR := Lib.hid (HC8.out.below HBR.out)
            have HBW : Hid (Below w.heap.size w wr) := Lib.hid (HB8.out.trans (HBR.out.mono HB8.out.size))
            by_cases hxy : fullG A I = fullG B I
            · rw [decide_eq_true hxy] at HSAME
              clear hxy
              go_wp2_with fail
              refine HSAME.out.mono ?_
              rintro e w9 ⟨rfl, rfl⟩
              go_wp2_with fail
              refine (HW.out _).mono ?_
              rintro e w10 ⟨rfl, hb10⟩
              have HB10 : Hid (Below w.heap.size w w10) := Lib.hid (HBW.out.trans (hb10.mono HBW.out.size))
              clear hb10
              go_wp2
              go_ret
              exact ⟨rfl, HB10.out⟩
            · have hfew := HFEW.out hxy
              rw [← HC.out] at hfew
              rw [decide_eq_false hxy] at HSAME
              clear hxy
              go_wp2_with fail
              refine HSAME.out.mono ?_
              rintro e w9 ⟨rfl, rfl⟩
              go_wp2_with fail
              refine (codeK_any _ cb fb I v _ HCR.out).mono ?_
              rintro e w9' ⟨rfl, rfl⟩
              go_wp2_with fail
              refine (HW.out _).mono ?_
              rintro e w10 ⟨rfl, hb10⟩
              have HB10 : Hid (Below w.heap.size w w10) := Lib.hid (HBW.out.trans (hb10.mono HBW.out.size))
              clear hb10
              go_wp2
              go_ret
              exact ⟨rfl, HB10.out⟩
  · go_wp2_with fail
    refine (HW.out _).mono ?_
    rintro e w2 ⟨rfl, hb2⟩
    have HB2 : Hid (Below w.heap.size w w2) := Lib.hid (hb1.trans (hb2.mono hb1.size))
    go_wp2
    go_ret
    exact ⟨rfl, HB2.out⟩
end Go.Proofs.YtpkeglpigjaccaaGreat
