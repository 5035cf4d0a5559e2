/-
  The program's Decode of words some symbols of which are wrong.
-/
import Derived.Test.YteeeocianofkfaaGreatWeEx1
import Derived.Test.YteeeocianofkfaaGreatWeRefs
import Derived.WalkMore
import Derived.Lib.SliceRun
namespace Go.Proofs.YteeeocianofkfaaGreat
open Go.RowKit Fld
set_option linter.unusedVariables false
set_option linter.unusedSimpArgs false

/-- What is asked, while its points are laid. -/
structure AskI (fb A0 k : Nat) (yv : Value) (w : World) (V : Value) (a : List GF) (W : World) : Prop where
  hA : W.heap[A0]? = some (.cells #[.pointer (some ⟨fb, 0, none⟩), .int .i64 k, V, yv] 59 (0, 0))
  ov : OwnG W (A0 + 1) V a
  bel : Below w.heap.size w W
  sz : A0 + 1 ≤ W.heap.size
theorem AskI.drew {fb A0 k : Nat} {yv : Value} {w W : World} {V : Value} {a : List GF} (h : AskI fb A0 k yv w V a W) : AskI fb A0 k yv w V a W.drew := ⟨h.hA, h.ov, h.bel.drew, h.sz⟩
theorem AskI.push {fb A0 k : Nat} {yv : Value} {w W : World} {V : Value} {a : List GF} (h : AskI fb A0 k yv w V a W) (ho : w.heap.size ≤ A0) (x : GF) {n : Nat} (hn : x.n = n) (hl : a.length ≤ 1000000) :
    ∃ a1 m1 c1 w6, (Builtin.append_ #[22, 22] 22 #[V, .slice (some ⟨W.heap.size, 0, none⟩) 1 1]).run Tryz.prog (W.alloc (.cells #[.int .u8 (n : Int)] 5)) = .ok (.slice a1 m1 c1) w6 ∧
      (∀ kk, kk < A0 + 1 → w6.heap[kk]? = W.heap[kk]?) ∧ AskI fb A0 k yv w (.slice a1 m1 c1) (a ++ [x]) (w6.setCell ⟨A0, 2, none⟩ (.slice a1 m1 c1)) := by
  obtain ⟨v1, w6, hap, ho6, hk6, hb6, hat⟩ := app_byte x h.ov hl h.sz hn (ad := W.heap.size) rfl
  obtain ⟨a1, c1, rfl, -⟩ := ho6.form
  have hk7 : Kp [A0] w6 (w6.setCell ⟨A0, 2, none⟩ (.slice a1 (a ++ [x]).length c1)) := (Kp.refl _ _).setCell (.inl (by simp)) _
  have hbw : w.heap.size ≤ W.heap.size := h.bel.size
  refine ⟨a1, (a ++ [x]).length, c1, w6, hap, fun kk hkk => hb6.block kk hkk, ?_, ho6.kp hk7 (fun c hc hm => by have := (ho6.lt c hc).1; simp at hm; omega), ?_, ?_⟩
  · have := heap_set_same ((hb6.block A0 (by omega)).trans h.hA) 2 (.slice a1 (a ++ [x]).length c1)
    simpa using this
  · exact (h.bel.trans (hb6.mono (by omega))).trans (hk7.below (by have := hb6.size; omega) (by simp; omega))
  · have h1 := hk7.size
    have h2 := hb6.size
    have := h.sz
    omega
theorem ec_of {fb k : Nat} {xs ys : List GF} {ps : List Int} {w w1 : World} {e : Ending} (h : DecPost fb xs k ps ys w e w1) :
    ∃ va ec, e = .returned (.tuple #[va, .int .i64 ec]) ∧ ((ec = 2 ∧ ¬ (GoodP xs.length ps ∧ ps.length = ys.length)) ∨ ((ec == 1) = false ∧ (ec == 2) = false) ∧ GoodP xs.length ps ∧ ps.length = ys.length) := by
  obtain ⟨-, -, ⟨h1, rfl⟩ | ⟨⟨h1, h2⟩, ⟨-, rfl⟩ | ⟨-, ⟨g, m, rfl, -⟩ | ⟨rfl, -⟩⟩⟩⟩ := h
  · exact ⟨_, 2, rfl, .inl ⟨rfl, fun h => h1 h.2 h.1⟩⟩
  · exact ⟨_, 70, rfl, .inr ⟨by decide, h2, h1⟩⟩
  · exact ⟨_, 0, rfl, .inr ⟨by decide, h2, h1⟩⟩
  · exact ⟨_, 71, rfl, .inr ⟨by decide, h2, h1⟩⟩
def WDecPost (fb : Nat) (xs : List GF) (k : Nat) (ps : List Int) (ys : List GF) (t : Int) (w : World) (e : Ending) (w' : World) : Prop := Kp [fb] w w' ∧ FOk w' fb ∧ WeAns w.heap.size xs k ps ys t e w'
set_option maxRecDepth 100000 in
set_option maxHeartbeats 2000000 in
theorem wdec_any (w : World) (cb fb k : Nat) (v pv yv : Value) (xs : List GF) (ps : List Int) (ys : List GF) (t : Int) (h : CodeAt w cb fb k v xs) (hn : xs.Nodup) (hk0 : 0 < k) (hkn : k ≤ xs.length) (hxl : xs.length ≤ 256)
    (hp : IRd w pv ps) (hy : GRd w yv ys) (hpa : ps = [] ∨ Apart pv [fb]) (hya : ys = [] ∨ Apart yv [fb]) (hpl : ps.length ≤ 256) (hyl : ys.length ≤ 1000000000) (ht : -9223372036854775808 ≤ t ∧ t ≤ 9223372036854775807) :
    Calls Tryz.prog 15 #[.pointer (some ⟨cb, 0, none⟩), pv, yv, .int .i64 t] w (WDecPost fb xs k ps ys t w) := by
  have HDEC := Lib.hid (decode_gen w cb fb k v pv yv xs ps ys h hn hk0 hkn hxl hp hy hpa hya hpl hyl)
  obtain ⟨ay, cy, rfl, hcy⟩ := hy.form
  obtain ⟨ap, cp, rfl⟩ := hp.form
  have hcw := lt_of_heap h.box
  have hfw := h.ok.lt
  have HC := Lib.hid h
  have HP := Lib.hid hp
  have HY := Lib.hid hy
  have HPA := Lib.hid hpa
  have HYA := Lib.hid hya
  have HND := Lib.hid hn
  obtain ⟨Q, hQ⟩ : ∃ Q, ps.length = Q := ⟨_, rfl⟩
  obtain ⟨N, hN⟩ : ∃ N, xs.length = N := ⟨_, rfl⟩
  obtain ⟨Y, hY⟩ : ∃ Y, ys.length = Y := ⟨_, rfl⟩
  have HQ := Lib.hid hQ
  have HNN := Lib.hid hN
  have HYY := Lib.hid hY
  rw [hQ] at HDEC HP HPA hpl ⊢
  rw [hN] at hxl hkn
  rw [hY] at HDEC HY HYA hyl ⊢
  clear h hp hy hpa hya hn hcy hQ hN hY
  have hnil : ∀ (W : World) (a : Option Addr) (n c : Nat), (binOp .eql 22 (.slice a n c) (.slice none 0 0)).run Tryz.prog W = .ok (.bool a.isNone) W := fun W a n c => Lib.run_eql_slice_nil W _ _ a n c 0 0 Tryz.underlying22
  go_enter Tryz.func15, Tryz.ntmps15
  go_wp2
  go_step3
  go_wp2_with fail
  refine HDEC.out.mono ?_
  intro e w1 hpost
  have hk1 := hpost.1
  have hf1 := hpost.2.1
  obtain ⟨va, ec, rfl, hcs⟩ := ec_of hpost
  have HK1 := Lib.hid hk1
  have HF1 := Lib.hid hf1
  clear hk1 hf1 hpost HDEC
  rcases hcs with ⟨rfl, hbad⟩ | ⟨⟨hec1, hec2⟩, hgd⟩
  · have HBAD := Lib.hid hbad
    clear hbad
    go_wp2
    rw [Exit.noGoto_ret]
    go_ret3
    exact ⟨HK1.out, HF1.out, .inl ⟨.inl HBAD.out, rfl⟩⟩
  have HGD := Lib.hid hgd
  obtain rfl : Q = Y := by rw [← HQ.out, ← HYY.out]; exact hgd.2
  clear hgd
  by_cases ht0 : t < 0
  · go_wp2
    rw [Exit.noGoto_ret]
    go_ret3
    exact ⟨HK1.out, HF1.out, .inl ⟨.inr ht0, rfl⟩⟩
  obtain ⟨T, rfl⟩ : ∃ T : Nat, t = (T : Int) := ⟨t.toNat, by omega⟩
  have HGA : Hid ((GoodP xs.length ps ∧ ps.length = ys.length) ∧ (0 : Int) ≤ (T : Int)) := Lib.hid ⟨HGD.out, by omega⟩
  by_cases hf : (Q : Int) < (T : Int)
  · go_wp2
    rw [Exit.noGoto_ret]
    go_ret3
    exact ⟨HK1.out, HF1.out, .inr ⟨HGA.out, .inl ⟨by rw [HQ.out]; omega, rfl⟩⟩⟩
  obtain ⟨T2, hT2⟩ : ∃ T2, 2 * T = T2 := ⟨_, rfl⟩
  obtain ⟨U, hU⟩ : ∃ U, k + T2 = U := ⟨_, rfl⟩
  have x1 : (2 : Int) * (T : Int) = (T2 : Int) := by omega
  have x2 : IntKind.i64.wrap (T2 : Int) = (T2 : Int) := IntWalk.i64_in _ (by omega)
  have x3 : (k : Int) + (T2 : Int) = (U : Int) := by omega
  have x4 : IntKind.i64.wrap (U : Int) = (U : Int) := IntWalk.i64_in _ (by omega)
  have HC1 := Lib.hid (HC.out.step HK1.out HF1.out)
  have HKK := Lib.hid (codeK_any w1 cb fb k v xs HC1.out)
  by_cases hfew : Q < U
  · have hfew' : (Q : Int) < (U : Int) := by omega
    have HF : Hid (((ps.length : Nat) : Int) < (k : Int) + 2 * (T : Int)) := Lib.hid (by rw [HQ.out]; omega)
    clear hfew hT2 hU
    go_wp2_with fail
    refine HKK.out.mono ?_
    rintro e w' ⟨rfl, rfl⟩
    go_wp2
    rw [Exit.noGoto_ret]
    go_ret3
    exact ⟨HK1.out, HF1.out, .inr ⟨HGA.out, .inl ⟨HF.out, rfl⟩⟩⟩
  have hfew' : ¬ (Q : Int) < (U : Int) := by omega
  have HFW : Hid (k + 2 * T ≤ Q) := Lib.hid (by omega)
  have hkQ : k ≤ Q := by omega
  have hTQ : T ≤ Q := by omega
  have HFZ : Hid ((k : Int) + 2 * (T : Int) ≤ ((ps.length : Nat) : Int)) := Lib.hid (by rw [HQ.out]; omega)
  have HPT := Lib.hid (codeP_any w1 cb fb k v xs HC1.out (by rw [HNN.out]; omega))
  have hd1 : decide (Q < T) = false := by simp; omega
  have hd2 : decide (Q < U) = false := by simp; omega
  have hd3 : decide (T < 0) = false := by simp
  have hs1 := HK1.out.size
  clear hfew hT2 hU ht
  go_wp2_with fail
  refine HKK.out.mono ?_
  rintro e w' ⟨rfl, rfl⟩
  go_wp2_with fail
  refine HPT.out.mono ?_
  rintro e w2 ⟨v2, rfl, ho2, hb2⟩
  obtain ⟨gp, capp, rfl, hgp1, hgp2, hgv⟩ := ho2.view (fun e => by have := HNN.out; rw [e] at this; simp at this; omega)
  rw [HNN.out] at hgv hgp2 ⊢
  have HB2 := Lib.hid hb2
  have HGV := Lib.hid hgv
  have HC2 := Lib.hid (HC1.out.below hb2)
  have HKF := Lib.hid (codeF_any w2 cb fb k v xs HC2.out)
  have HKK2 := Lib.hid (codeK_any w2 cb fb k v xs HC2.out)
  have hs2 := hb2.size
  clear ho2 hb2 hgv HKK HPT
  go_wp2_with fail
  refine HKF.out.mono ?_
  rintro e w' ⟨rfl, rfl⟩
  go_wp2_with fail
  refine HKK2.out.mono ?_
  rintro e w' ⟨rfl, rfl⟩
  clear HKF HKK2
  go_wp2
  have HK2 : Hid (Kp [fb] w w2) := Lib.hid (HK1.out.below_step HB2.out)
  obtain ⟨f, hfe⟩ : ∃ f : Nat → GF, f = fun i => xs.getD (ps.getD i 0).toNat 0 := ⟨_, rfl⟩
  have HFE := Lib.hid hfe
  have HA0 : Hid (AskI fb w2.heap.size k (.slice ay Q cy) w2 (.slice none 0 0) (rowF f 0) (w2.alloc (.cells #[.pointer (some ⟨fb, 0, none⟩), .int .i64 k, .slice none 0 0, .slice ay Q cy] 59))) := Lib.hid
    ⟨heap_newA _ _, OwnG.nil _ _, (Below.refl _ _).alloc (Nat.le_refl _) _, by simp⟩
  clear hfe x1 x2 x3 x4 hfew' hf ht0 hec1 hec2 hd1 hd2 hd3
  go_loopg [65] Q (fun gk i wr => ∃ (av : Option Addr) (mv cv I : Nat), I ≤ Q ∧ gk = Q - I ∧ i = .int .i64 I ∧ Hid (AskI fb w2.heap.size k (.slice ay Q cy) w2 (.slice av mv cv) (rowF f I) wr))
  case atStart => exact ⟨none, 0, 0, 0, by omega, rfl, rfl, HA0⟩
  case round =>
    clear HA0
    obtain ⟨av, mv, cv, I, hI, rfl, rfl, HA⟩ := hrel
    have hsz := HA.out.sz
    by_cases hlt : I < Q
    · obtain ⟨x, hx⟩ : ∃ x, ps[I]? = some x := ⟨_, List.getElem?_eq_getElem (by rw [HQ.out]; exact hlt)⟩
      have hxr := HGD.out.1.1 x (List.mem_of_getElem? hx)
      obtain ⟨p, rfl⟩ : ∃ p : Nat, x = (p : Int) := ⟨x.toNat, by omega⟩
      rw [HNN.out] at hxr
      have hpN : p < N := by omega
      have hpa2 : Apart (.slice ap Q cp) [fb] := by
        rcases HPA.out with e | e
        · rw [e] at hx; cases hx
        · exact e
      have hpr := IRd.kp HP.out (HK2.out.below_step HA.out.bel) hpa2
      obtain ⟨-, -, b0, o0, rfl, hb0, -⟩ := IRd.cell HP.out hx
      have c0 := IRd.cells hpr I p hx
      have cg := ((HGV.out.below HA.out.bel).2 p hpN).1
      obtain ⟨z, hz⟩ : ∃ z, (xs.getD p 0).n = z := ⟨_, rfl⟩
      rw [hz] at cg
      have hfz : f I = xs.getD p 0 := by
        rw [HFE.out]
        show xs.getD (ps.getD I 0).toNat 0 = _
        rw [List.getD_eq_getElem?_getD (l := ps), hx]
        rfl
      have hzf : (f I).n = z := by rw [hfz, hz]
      have y2 := cell_of_heap HA.out.hA (j := 2) rfl
      have z2 := free_of_heap HA.out.hA 2
      have g2 := lt_of_heap HA.out.hA
      obtain ⟨a1, m1, c1, w6, hap, hke, ha6⟩ := HA.out.drew.push (Nat.le_refl _) (f I) hzf (by rw [rowF_len]; omega)
      have m26 := cell_of_heap ((hke _ (by omega)).trans HA.out.hA) (j := 2) rfl
      have z26 := free_of_heap ((hke _ (by omega)).trans HA.out.hA) 2
      have g26 := lt_of_heap ((hke _ (by omega)).trans HA.out.hA)
      have HKE : Hid (∀ kk, kk < w2.heap.size → w6.heap[kk]? = wr.heap[kk]?) := Lib.hid fun kk hkk => hke kk (by omega)
      have HA6 : Hid (AskI fb w2.heap.size k (.slice ay Q cy) w2 (.slice a1 m1 c1) (rowF f (I + 1)) (w6.setCell ⟨w2.heap.size, 2, none⟩ (.slice a1 m1 c1))) := Lib.hid (by rw [rowF_succ]; exact ha6)
      obtain ⟨kp, hkp⟩ : ∃ kp : Nat → Bool, ∀ j, kp j = true ↔ j < w2.heap.size := ⟨fun j => decide (j < w2.heap.size), by simp⟩
      have k1 : kp b0 = true := (hkp _).2 (by omega)
      have k2 : kp gp = true := (hkp _).2 HGV.out.1
      have HKP := Lib.hid hkp
      have i1 : (0 : Int) ≤ (I : Int) ∧ (I : Int) < (Q : Int) := by omega
      have i2 : (0 : Int) ≤ (p : Int) ∧ (p : Int) < (N : Int) := by omega
      clear hkp hke ha6 hx hxr hpr hz hfz hzf
      go_upto_region 13 with fail
      have hgr := fun (w0 W : World) (p : Addr) (hp : (fun j => kp j = true) p.block) => graft_cell (w0 := w0) (keep := (fun j => kp j = true)) W hp
      refine wp_region_tree (fun j => kp j = true) [1, 6, 7, 9] (.step 0 (.step 2 (.step 3 (.step 4 (.step 5 (.fork 1 (.step 6 (.step 7 (.step 8 (.step 9 .done)))) 6 (.step 1 (.step 7 (.step 8 (.step 9 .done)))))))))) (by kernel_rfl) (by kernel_rfl) ?_
      simp only [slimTr, slimStep, Oper.slim, List.contains_cons, List.contains_nil, Option.map_none, Option.map_some, List.getElem?_toArray, List.getElem?_cons_zero, List.getElem?_cons_succ, Option.bind_some, beq_self_eq_true, Bool.or_false, Nat.reduceBEq, Nat.reduceAdd, Nat.zero_add]
      repeat (first | (refine wpSlimT_append _ _ _ rfl rfl rfl rfl rfl hap (fun kk hkk => HKE.out kk ((HKP.out kk).1 hkk)) ?_) | ((with_reducible refine wpSlimT_step (fun K hK => ?_)); go_simp; first | (refine hK _ _ ?_; clear hK K) | (refine ⟨by (intro kk hkk; first | (simp (disch := (simp; omega)) only [hp_drew, hp_drewN, hp_alloc, hp_set]; done) | (simp [hp_drew, hp_drewN, hp_alloc_if, hkk]; done) | (have hkk2 := (HKP.out kk).1 hkk; first | exact (hp_alloc _ _ _ (by first | omega | (simp; omega))) | exact (hp_set _ _ _ _ (by simp; omega)).trans (HKE.out kk hkk2))), hK _ _ ?_⟩; clear hK K)))
      first
        | with_reducible refine wpSlimT_done ?_
        | refine wpSlimT_fork ?_ ?_
          all_goals
            repeat (first | (refine wpSlimT_append _ _ _ rfl rfl rfl rfl rfl hap (fun kk hkk => HKE.out kk ((HKP.out kk).1 hkk)) ?_) | ((with_reducible refine wpSlimT_step (fun K hK => ?_)); go_simp; first | (refine hK _ _ ?_; clear hK K) | (refine ⟨by (intro kk hkk; first | (simp (disch := (simp; omega)) only [hp_drew, hp_drewN, hp_alloc, hp_set]; done) | (simp [hp_drew, hp_drewN, hp_alloc_if, hkk]; done) | (have hkk2 := (HKP.out kk).1 hkk; first | exact (hp_alloc _ _ _ (by first | omega | (simp; omega))) | exact (hp_set _ _ _ _ (by simp; omega)).trans (HKE.out kk hkk2))), hK _ _ ?_⟩; clear hK K)))
            with_reducible refine wpSlimT_done ?_
      all_goals clear hgr
      all_goals
        go_wp2
        go_roundg (Q - (I + 1))
        case measure => omega
        case rel => exact ⟨a1, m1, c1, I + 1, by omega, rfl, by go_num, HA6⟩
    · obtain rfl : I = Q := by omega
      obtain ⟨w3, rfl⟩ : ∃ w3 : World, w3 = wr := ⟨_, rfl⟩
      have hfX : rowF f I = ptsOf xs ps := by
        rw [HFE.out, ← HQ.out]
        exact ptsRow xs ps
      rw [hfX] at HA
      have hlv := (GRd.len HA.out.ov.rd).1
      rw [pts_len, HQ.out] at hlv
      obtain rfl : I = mv := hlv
      have hXN := pts_nodup HND.out HGD.out.1
      obtain ⟨X, hX⟩ : ∃ X, ptsOf xs ps = X := ⟨_, rfl⟩
      have HXE := Lib.hid hX
      have HXL : Hid (X.length = I) := Lib.hid (by rw [← hX, pts_len, HQ.out])
      rw [hX] at HA hXN
      have HXN := Lib.hid hXN
      have HK3 : Hid (Kp [fb] w w3) := Lib.hid (HK2.out.below_step HA.out.bel)
      have HC3 := Lib.hid (HC2.out.below HA.out.bel)
      have HXA : Hid (Apart (.slice av I cv) [fb]) := Lib.hid fun c hc hm => by
        have := (HA.out.ov.lt c hc).1
        simp at hm
        omega
      have HPA2 : Hid (Apart (.slice ap I cp) [fb]) := Lib.hid (by
        rcases HPA.out with e | e
        · have := HQ.out
          rw [e] at this
          simp at this
          omega
        · exact e)
      have HYA2 : Hid (Apart (.slice ay I cy) [fb]) := Lib.hid (by
        rcases HYA.out with e | e
        · have := HYY.out
          rw [e] at this
          simp at this
          omega
        · exact e)
      obtain ⟨T1, hT1⟩ : ∃ T1, T + 1 = T1 := ⟨_, rfl⟩
      have x5 : (T : Int) + 1 = (T1 : Int) := by omega
      have x6 : IntKind.i64.wrap (T1 : Int) = (T1 : Int) := IntWalk.i64_in _ (by omega)
      have HT1 := Lib.hid hT1
      have hs3 := HK3.out.size
      clear hfX hX hXN hlt hI hT1
      go_wp2
      go_step3
      go_wp2
      clear x5 x6
      go_loopg [8, 9, 81] T1 (fun gk p q i wr => ∃ J : Nat, p = .slice none 0 0 ∧ q = .slice none 0 0 ∧ J ≤ T1 ∧ gk = T1 - J ∧ i = .int .i64 J ∧ Hid (Kp [fb] w3 wr) ∧ Hid (FOk wr fb) ∧ Hid (∀ m0 : List GF, m0.length = k → (wrI X ys m0).length < J → False))
      case atStart => exact ⟨0, rfl, rfl, by omega, rfl, rfl, Lib.hid (Kp.refl _ _), Lib.hid HC3.out.ok, Lib.hid (fun m0 _ h => by omega)⟩
      case round =>
        obtain ⟨J, rfl, rfl, hJ, rfl, rfl, HKR, HFR, HT⟩ := hrel
        have hsr := HKR.out.size
        by_cases hlt2 : J < T1
        · have hJT : J ≤ T := by have := HT1.out; omega
          have hA4 := HKR.out.heap HA.out.hA (by simp; omega)
          have a0 := cell_of_heap hA4 (j := 0) rfl
          have a1 := cell_of_heap hA4 (j := 1) rfl
          have a2 := cell_of_heap hA4 (j := 2) rfl
          have a3 := cell_of_heap hA4 (j := 3) rfl
          have HEX := Lib.hid (exactly_any fb k J (.slice av I cv) (.slice ay I cy) X ys wr HFR.out (HA.out.ov.rd.kp HKR.out HXA.out) ((HY.out.kp HK3.out HYA2.out).kp HKR.out HYA2.out) HXA.out HYA2.out hk0 (by rw [HXL.out]; omega) (by rw [HXL.out, HYY.out]; exact Nat.le_refl _) (by rw [HXL.out]; omega) (by omega) (by omega) HXN.out)
          clear hA4
          go_wp2_with fail
          refine HEX.out.mono ?_
          rintro e w5 ⟨hk5, hf5, h5⟩
          have HK5 := Lib.hid (HKR.out.trans hk5)
          have HF5 := Lib.hid hf5
          have hs5 := hk5.size
          clear a0 a1 a2 a3 hk5 hf5 HEX
          rcases h5 with ⟨rfl, hno⟩ | ⟨u, m, rfl, hml, hou, hm0⟩
          · have HT5 : Hid (∀ m0 : List GF, m0.length = k → (wrI X ys m0).length < J + 1 → False) := Lib.hid fun m0 h1 h2 => by
              by_cases e : (wrI X ys m0).length = J
              · exact hno m0 h1 e (by rw [HXL.out]; have := HFW.out; omega)
              · exact HT.out m0 h1 (by omega)
            clear hno
            go_wp2
            go_roundg (T1 - (J + 1))
            case measure => omega
            case rel => exact ⟨J + 1, rfl, rfl, by omega, rfl, by go_num, HK5, HF5, HT5⟩
          · obtain ⟨gu, cu, rfl, hgu, hcu, hguv⟩ := hou.view (fun e => by rw [e] at hml; simp at hml; omega)
            have HENC := Lib.hid (encode_any w5 cb fb v (.slice (some ⟨gu, 0, none⟩) m.length cu) xs m (by rw [hml]; exact HC3.out.step HK5.out HF5.out) hou.rd (fun c hc hm => by have := (hou.lt c hc).1; simp at hm; omega) (by rw [HNN.out]; omega) (by rw [HNN.out]; omega) (by omega))
            have HOU := Lib.hid hou
            have HML := Lib.hid hml
            have HM0 := Lib.hid hm0
            rw [hml] at HENC HOU ⊢
            clear hou hml hm0 hgu hcu hguv
            go_wp2_with fail
            refine HENC.out.mono ?_
            rintro e w6 ⟨g, rfl, hg6, hv6, hk6, hf6⟩
            rw [HNN.out] at hv6 ⊢
            have hGW : GRd w6 (.slice (some ⟨g, 0, none⟩) N N) (xs.map (ev m)) := View.list (hv6.congr fun i hi => (map_getD m (by rw [HNN.out]; exact hi)).symm) (by rw [List.length_map, HNN.out]) (Nat.le_refl _)
            have HK6 : Hid (Kp [fb] w3 w6) := Lib.hid (HK5.out.trans hk6)
            have HF6 := Lib.hid hf6
            have hKW := HK3.out.trans HK6.out
            have HDIF := Lib.hid (differ_any (.slice (some ⟨g, 0, none⟩) N N) (.slice ap I cp) (.slice ay I cy) (xs.map (ev m)) ys ps w6 hGW (IRd.kp HP.out hKW HPA2.out) (HY.out.kp hKW HYA2.out) (by rw [List.length_map]; exact HGD.out.1.1) (by rw [HQ.out, HYY.out]; exact Nat.le_refl _) (by rw [HQ.out]; omega))
            have HOU6 := Lib.hid (HOU.out.kp hk6 (fun c hc hm => by have := (HOU.out.lt c hc).1; simp at hm; omega))
            have hs6 := hk6.size
            clear hGW hv6 hk6 hf6 hKW HENC HOU hg6
            go_wp2_with fail
            refine HDIF.out.mono ?_
            rintro e w7 ⟨v7, rfl, hr7, hb7⟩
            rw [difL_wrP ys m HGD.out.1.1] at hr7
            have hr8 : RdZ w7 w6.heap.size v7 (wrS xs ps ys m) := hr7
            obtain ⟨a7, c7, rfl⟩ := hr8.rd.form
            obtain ⟨L, hL⟩ : ∃ L, (wrS xs ps ys m).length = L := ⟨_, rfl⟩
            have HL := Lib.hid hL
            have HR8 : Hid (RdZ w7 w6.heap.size (.slice a7 L c7) (wrS xs ps ys m)) := Lib.hid (by rw [← hL]; exact hr8)
            rw [hL]
            have HK7 : Hid (Kp [fb] w3 w7) := Lib.hid (HK6.out.below_step hb7)
            have HF7 := Lib.hid (HF6.out.below hb7)
            have HOU7 := Lib.hid (OwnG.below HOU6.out hb7)
            clear hr7 hr8 hL hb7 HDIF
            by_cases hLT : L ≤ T
            · have hLT' : (L : Int) ≤ (T : Int) := by omega
              have HLT := Lib.hid hLT
              clear hLT
              go_wp2
              rw [Exit.noGoto_ret]
              go_ret3
              exact ⟨HK3.out.trans HK7.out, HF7.out, .inr ⟨HGA.out, .inr ⟨HFZ.out, .inl ⟨m, _, _, rfl, ⟨HML.out, by rw [HL.out, Int.toNat_natCast]; exact HLT.out⟩, HOU7.out.mono (by omega), HR8.out.mono (by omega)⟩⟩⟩⟩
            · have hLT' : ¬ (L : Int) ≤ (T : Int) := by omega
              have HT5 : Hid (∀ m0 : List GF, m0.length = k → (wrI X ys m0).length < J + 1 → False) := Lib.hid fun m0 h1 h2 => by
                by_cases e : (wrI X ys m0).length = J
                · have e2 := HM0.out m0 h1 e (by rw [HXL.out]; have := HFW.out; omega)
                  have e3 := wrS_len xs ps ys m
                  rw [HL.out, HXE.out, e2, e] at e3
                  omega
                · exact HT.out m0 h1 (by omega)
              clear hLT
              go_wp2
              go_roundg (T1 - (J + 1))
              case measure => omega
              case rel => exact ⟨J + 1, rfl, rfl, by omega, rfl, by go_num, HK7, HF7, HT5⟩
        · obtain rfl : J = T1 := by omega
          go_wp2
          rw [Exit.noGoto_ret]
          go_ret3
          refine ⟨HK3.out.trans HKR.out, HFR.out, .inr ⟨HGA.out, .inr ⟨HFZ.out, .inr ⟨rfl, ?_⟩⟩⟩⟩
          rw [Int.toNat_natCast]
          intro m hm hle
          rw [wrS_len, HXE.out] at hle
          exact HT.out m hm (by have := HT1.out; omega)
end Go.Proofs.YteeeocianofkfaaGreat
