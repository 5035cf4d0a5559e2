/-
  Rows of a matrix picked.
-/
import Derived.Test.YteeeocianofkfaaGreatAts
import Derived.Test.YteeeocianofkfaaGreatKit
import Derived.Test.YteeeocianofkfaaGreatBase
namespace Go.Proofs.YteeeocianofkfaaGreat
open Go.RowKit Fld Go.Shelf
set_option linter.unusedVariables false
set_option linter.unusedSimpArgs false

/-- The rows that are named, so far. -/
noncomputable def pkM (ps : List Int) (A : Nat → Nat → GF) (I : Nat) : Nat → Nat → GF := fun i c => if i < I then A (ps.getD i 0).toNat c else 0
/-- What 'Pick' leaves. -/
def MPickPost (C : Nat) (ps : List Int) (A : Nat → Nat → GF) (w : World) (e : Ending) (w' : World) : Prop :=
  ∃ g, e = .returned (.tuple #[.agg #[.int .i64 ps.length, .int .i64 C, .slice (some ⟨g, 0, none⟩) (ps.length * C) (ps.length * C)], .int .i64 0]) ∧ w.heap.size ≤ g ∧ View w' g (ps.length * C) (flat C (fun i c => A (ps.getD i 0).toNat c)) ∧ Below w.heap.size w w'
structure PickB (R C M N sb capm gb b6 : Nat) (w W : World) : Prop where
  b2 : W.heap[w.heap.size]? = some (.cells #[.int .i64 R, .int .i64 C, .slice (some ⟨sb, 0, none⟩) M capm] 72 (0, 0))
  b4 : W.heap[w.heap.size + 1]? = some (.cells #[.int .i64 0, .int .i64 0, .slice none 0 0] 72 (0, 0))
  bm : W.heap[b6]? = some (.cells #[.int .i64 N, .int .i64 C, .slice (some ⟨gb, 0, none⟩) (N * C) (N * C)] 72 (0, 0))
  be : Below w.heap.size w W
  lt : w.heap.size + 1 < gb ∧ gb < b6
theorem PickB.step {R C M N sb capm gb b6 : Nat} {w W W' : World} (h : PickB R C M N sb capm gb b6 w W) (hk : Kp [gb] W W') : PickB R C M N sb capm gb b6 w W' := by
  obtain ⟨l1, l2⟩ := h.lt
  exact ⟨hk.heap h.b2 (by simp; omega), hk.heap h.b4 (by simp; omega), hk.heap h.bm (by simp; omega), h.be.trans (hk.below (B := w.heap.size) h.be.size (fun x hx => by rw [List.mem_singleton] at hx; omega)), h.lt⟩
theorem row_in {N C I : Nat} (h : I < N) : I * C + C ≤ N * C := by
  have := rows_le (C := C) (Nat.le_refl (N * C)) h
  rwa [Nat.add_mul, Nat.one_mul] at this
theorem src_at {W : World} {sb M R C p : Nat} {A : Nat → Nat → GF} (h : View W sb M (flat C A)) (hM : R * C = M) (hp : p < R) : ∀ k, k < C → W.cell? ⟨sb, p * C + k, none⟩ = some (.int .u8 (((A p k).n : Nat) : Int)) := fun k hk => by
  have := (h.2 (p * C + k) (by rw [← hM]; exact off_lt hp hk)).1
  rwa [flat_at (by omega) _ _ _ hk] at this
set_option maxRecDepth 100000 in
set_option maxHeartbeats 4000000 in
theorem mpick_any (R C M sb capm : Nat) (v : Value) (ps : List Int) (A : Nat → Nat → GF) (w : World) (hV : View w sb M (flat C A)) (hM : R * C = M) (hcm : M ≤ capm) (hG : IRd w v ps) (hp : ∀ (i : Nat) (x : Int), ps[i]? = some x → 0 ≤ x ∧ x < (R : Int))
    (hC0 : 0 < C) (hC : C ≤ 256) (hR : R ≤ 256) (hn : ps.length ≤ 256) :
    Calls Tryz.prog 38 #[.agg #[.int .i64 R, .int .i64 C, .slice (some ⟨sb, 0, none⟩) M capm], v] w (MPickPost C ps A w) := by
  obtain ⟨a, cap, rfl⟩ := hG.form
  obtain ⟨N, hN⟩ : ∃ N, ps.length = N := ⟨_, rfl⟩
  have hVl := hV.1
  have HV := Lib.hid hV
  have HG := Lib.hid hG
  have HP := Lib.hid hp
  have HN := Lib.hid hN
  have HM := Lib.hid hM
  have HRT : Hid (∀ W, Calls Tryz.prog 57 #[.agg #[.int .i64 R, .int .i64 C, .slice (some ⟨sb, 0, none⟩) M capm]] W fun e w' => e = .returned (.bool true) ∧ Below W.heap.size W w') := Lib.hid fun W => right_true R C _ M capm W (by omega) (by omega) hM.symm
  rw [hN] at hn ⊢
  have hNC : N * C ≤ 65536 := by have := Nat.mul_le_mul hn hC; omega
  have HNONE := Lib.hid (fun W => none_any N C (N * C) W rfl (by omega) (by omega) (by omega))
  obtain ⟨q, hq⟩ : ∃ q, (16777216 : Int).tdiv (C : Int) = q := ⟨_, rfl⟩
  have hq1 : (256 : Int) ≤ q ∧ q ≤ 16777216 := by
    rw [← hq, Int.tdiv_eq_ediv_of_nonneg (by omega)]
    refine ⟨(Int.le_ediv_iff_mul_le (by omega)).2 (by omega), Int.ediv_le_self _ (by omega)⟩
  have hq2 : IntKind.i64.wrap q = q := IntWalk.i64_in _ (by omega)
  have hq3 : (N : Int) ≤ q := by omega
  have hn0 : ¬ (C : Int) = 0 := by omega
  clear hV hG hp hN hM
  go_enter Tryz.func38, Tryz.ntmps38
  go_wp2_with fail
  refine (HRT.out _).mono ?_
  rintro e w1 ⟨rfl, hb1⟩
  have b2 : w1.heap[w.heap.size]? = some (.cells #[.int .i64 R, .int .i64 C, .slice (some ⟨sb, 0, none⟩) M capm] 72 (0, 0)) := keepB hb1 (by (repeat (refine Eq.trans (hp_alloc _ _ _ ?_) ?_; (· first | (simp; done) | (simp; omega)))); exact heap_newE _ _ _ (by simp))
  have b4 : w1.heap[w.heap.size + 1]? = some (.cells #[.int .i64 0, .int .i64 0, .slice none 0 0] 72 (0, 0)) := keepB hb1 (by (repeat (refine Eq.trans (hp_alloc _ _ _ ?_) ?_; (· first | (simp; done) | (simp; omega)))); exact heap_newE _ _ _ (by simp))
  have HB1 : Hid (Below w.heap.size w w1) := Lib.hid ((((Below.refl _ _).alloc (Nat.le_refl _) _).alloc (by simp) _).trans (hb1.mono (by simp; omega)))
  have y1 := cell_of_heap b2 (j := 1) rfl
  have g1 := lt_of_heap b4
  have B2 := Lib.hid b2
  have B4 := Lib.hid b4
  clear b2 b4 hb1
  go_wp2_with fail
  refine (HNONE.out _).mono ?_
  rintro e w2 ⟨gb, rfl, hg1, hv2, hb2⟩
  have hgb : w.heap.size + 1 < gb := by omega
  have HPB : Hid (∀ W, Below w2.heap.size w2 W → W.heap[w2.heap.size]? = some (.cells #[.int .i64 N, .int .i64 C, .slice (some ⟨gb, 0, none⟩) (N * C) (N * C)] 72 (0, 0)) → PickB R C M N sb capm gb w2.heap.size w W) := Lib.hid fun W hW hm =>
    ⟨keepB hW (keepB hb2 B2.out), keepB hW (keepB hb2 B4.out), hm, (HB1.out.trans (hb2.mono HB1.out.size)).trans (hW.mono (Nat.le_trans HB1.out.size hb2.size)), hgb, hv2.1⟩
  have HV2 := Lib.hid hv2
  clear hg1 hv2 hb2 y1 g1 B2 B4 HB1
  go_upto_region 4 with fail
  have HB : Hid (PickB R C M N sb capm gb w2.heap.size w (w2.alloc (.cells #[.int .i64 N, .int .i64 C, .slice (some ⟨gb, 0, none⟩) (N * C) (N * C)] 72))) := Lib.hid (HPB.out _ ((Below.refl _ _).alloc (Nat.le_refl _) _) (heap_newA _ _))
  have HVG : Hid (View (w2.alloc (.cells #[.int .i64 N, .int .i64 C, .slice (some ⟨gb, 0, none⟩) (N * C) (N * C)] 72)) gb (N * C) (flat C (pkM ps A 0))) := Lib.hid ((HV2.out.below ((Below.refl _ _).alloc (Nat.le_refl _) _)).congr fun j hj => by simp [flat, pkM])
  have hu : Tryz.prog.underlying 22 = some (.slice 5) := Tryz.underlying22
  have hz : (Tryz.prog.info? 5).map (·.size) = some 1 := by kernel_rfl
  have HUZ := Lib.hid (And.intro hu hz)
  generalize w2.alloc (.cells #[.int .i64 N, .int .i64 C, .slice (some ⟨gb, 0, none⟩) (N * C) (N * C)] 72) = w3 at *
  generalize w2.heap.size = b6 at *
  clear HPB HV2 HNONE HRT hu hz
  go_wp2
  go_loopg [38] N (fun gk i wr => ∃ I : Nat, I ≤ N ∧ gk = N - I ∧ i = .int .i64 I ∧ Hid (PickB R C M N sb capm gb b6 w wr) ∧ Hid (View wr gb (N * C) (flat C (pkM ps A I))))
  case atStart => exact ⟨0, by omega, rfl, rfl, HB, HVG⟩
  case round =>
    clear HB HVG
    obtain ⟨I, hI, rfl, rfl, HB, HVG⟩ := hrel
    by_cases hlt : I < N
    · obtain ⟨x, hx⟩ : ∃ x, ps[I]? = some x := ⟨_, List.getElem?_eq_getElem (by rw [HN.out]; exact hlt)⟩
      obtain ⟨hx0, hx1⟩ := HP.out I x hx
      obtain ⟨p, rfl⟩ : ∃ p : Nat, x = (p : Int) := ⟨x.toNat, by omega⟩
      obtain ⟨-, -, b, o, rfl, hb, c0⟩ := IRd.cell (HG.out.below HB.out.be) hx
      have hpR : p < R := by omega
      have HROWK : Hid (∀ W', Calls Tryz.prog 59 #[.agg #[.int .i64 N, .int .i64 C, .slice (some ⟨gb, 0, none⟩) (N * C) (N * C)], .int .i64 I] W' fun e w' => e = .returned (.slice (some ⟨gb, I * C, none⟩) C C) ∧ Below W'.heap.size W' w') := Lib.hid (fun W' => (row_any N C I gb 0 (N * C) (N * C) W' hC0 (rows_le (Nat.le_refl _) hlt) (by have := rows_le (C := C) (Nat.le_refl (N * C)) hlt; omega)).mono fun e w' h => by simpa using h)
      have HROWP : Hid (∀ W', Calls Tryz.prog 59 #[.agg #[.int .i64 R, .int .i64 C, .slice (some ⟨sb, 0, none⟩) M capm], .int .i64 p] W' fun e w' => e = .returned (.slice (some ⟨sb, p * C, none⟩) C C) ∧ Below W'.heap.size W' w') := Lib.hid (fun W' => (row_any R C p sb 0 M capm W' hC0 (rows_le (by rw [HM.out]; exact hcm) hpR) (by have h1 := rows_le (C := C) (Nat.le_refl (R * C)) hpR; have h2 := Nat.mul_le_mul hR hC; omega)).mono fun e w' h => by simpa using h)
      have z0 := cell_of_heap HB.out.b2 (j := 0) rfl
      have z1 := cell_of_heap HB.out.b2 (j := 1) rfl
      have z2 := cell_of_heap HB.out.b2 (j := 2) rfl
      have m0 := cell_of_heap HB.out.bm (j := 0) rfl
      have m1 := cell_of_heap HB.out.bm (j := 1) rfl
      have m2 := cell_of_heap HB.out.bm (j := 2) rfl
      have g2 := lt_of_heap HB.out.b2
      have gm := lt_of_heap HB.out.bm
      obtain ⟨l1, l2⟩ := HB.out.lt
      have HSRC : Hid (View wr sb M (flat C A)) := Lib.hid (HV.out.below HB.out.be)
      have hpd : (ps.getD I 0).toNat = p := by rw [List.getD_eq_getElem?_getD, hx]; rfl
      have HPD := Lib.hid hpd
      obtain ⟨kp, hkp⟩ : ∃ kp : Nat → Bool, ∀ k, kp k = true ↔ k < wr.heap.size ∧ k ≠ gb := ⟨fun k => decide (k < wr.heap.size ∧ k ≠ gb), by simp⟩
      have k1 : kp w.heap.size = true := (hkp _).2 ⟨by omega, by omega⟩
      have k2 : kp b6 = true := (hkp _).2 ⟨by omega, by omega⟩
      have HKP := Lib.hid hkp
      have HPRR := Lib.hid hpR
      have q1 : (0 : Int) ≤ (I : Int) ∧ (I : Int) < (N : Int) := by omega
      clear hkp hpd hx hpR
      go_upto_region 9 with fail
      have hgr := fun (w0 W : World) (p : Addr) (hp : (fun k => kp k = true) p.block) => graft_cell (w0 := w0) (keep := (fun k => kp k = true)) W hp
      refine wp_region_tree (fun k => kp k = true) [2, 5, 6] (.step 0 (.step 1 (.step 3 (.step 4 (.step 2 (.step 5 (.step 6 .done))))))) (by kernel_rfl) (by kernel_rfl) ?_
      simp only [slimTr, slimStep, Oper.slim, List.contains_cons, List.contains_nil, Option.map_none, Option.map_some, List.getElem?_toArray, List.getElem?_cons_zero, List.getElem?_cons_succ, Option.bind_some, beq_self_eq_true, Bool.or_false, Nat.reduceBEq, Nat.reduceAdd, Nat.zero_add]
      repeat (first | (fail) | ((with_reducible refine wpSlimT_step (fun K hK => ?_)); go_simp; first | (refine hK _ _ ?_; clear hK K) | (refine ⟨by (intro kk hkk; first | (simp (disch := (simp; omega)) only [hp_drew, hp_drewN, hp_alloc, hp_set]; done) | (simp [hp_drew, hp_drewN, hp_alloc_if, hkk]; done) | (have hkk2 := (HKP.out kk).1 hkk; simp (disch := (first | exact hkk2 | (simp; done) | (simp; omega))) only [hp_drew, hp_drewN, hp_alloc, hp_set]; first | done | exact (HCP.out.2.block kk (Nat.lt_of_lt_of_le hkk2.1 HB8.out.size) (by simpa using hkk2.2)).trans (HB8.out.block kk hkk2.1))), hK _ _ ?_⟩; clear hK K)| (go_at_call 59; (with_reducible refine (HROWK.out _).mono ?_); rintro e w7 ⟨rfl, hb7⟩; refine ⟨_, rfl, (fun kk hkk => hb7.block kk ((HKP.out kk).1 hkk).1), hK _ _ ?_⟩; clear hK K) | (go_at_call 59; (with_reducible refine (HROWP.out _).mono ?_); rintro e w8 ⟨rfl, hb8⟩; have hb38 : Below wr.heap.size wr w8 := (((Below.refl _ _).drew).trans hb7).trans (hb8.mono hb7.size); have HB8 := Lib.hid hb38; have hcp := run_copy_view (P := Tryz.prog) (HVG.out.below hb38) (o := I * C) (C := C) (row_in hlt) (sb := sb) (so := p * C) (c1 := C) (c2 := C) (fun k => A p k) (src_at (HSRC.out.below hb38) HM.out HPRR.out) 22 22 3 5 HUZ.out.1 HUZ.out.2; have hrc := hcp.1; have HCP := Lib.hid hcp.2; clear hcp hb8 hb38; refine ⟨_, rfl, (fun kk hkk => HB8.out.block kk ((HKP.out kk).1 hkk).1), hK _ _ ?_⟩; clear hK K) | (refine ⟨(fun kk hkk => (HCP.out.2.block kk (Nat.lt_of_lt_of_le ((HKP.out kk).1 hkk).1 HB8.out.size) (by simpa using ((HKP.out kk).1 hkk).2)).trans (HB8.out.block kk ((HKP.out kk).1 hkk).1)), hK _ _ ?_⟩; clear hK K)))
      refine wpSlimT_done ?_
      clear hgr
      have hk9 : Kp [gb] wr (w8.setCells gb (I * C) (rowV C fun k => A p k)) := (Kp.of_below HB8.out).trans HCP.out.2
      have HB9 := Lib.hid (HB.out.step hk9)
      have HV9 : Hid (View (w8.setCells gb (I * C) (rowV C fun k => A p k)) gb (N * C) (flat C (pkM ps A (I + 1)))) := Lib.hid (HCP.out.1.congr fun j hj => by
        obtain ⟨r, k, hr, hk, rfl⟩ := off_ex (R := N) hC0 hj
        rw [flat_at hC0 _ _ _ hk, flat_at hC0 _ _ _ hk]
        by_cases e : r = I
        · rw [if_pos ((off_in (a := I) hk).2 e), e, Nat.add_sub_cancel_left]
          simp only [pkM]
          rw [if_pos (by omega), HPD.out]
        · rw [if_neg (fun h => e ((off_in (a := I) hk).1 h))]
          simp only [pkM]
          by_cases e2 : r < I
          · rw [if_pos e2, if_pos (by omega)]
          · rw [if_neg e2, if_neg (by omega)])
      clear hk9
      go_wp2
      go_roundg (N - (I + 1))
      case measure => omega
      case rel => exact ⟨I + 1, by omega, rfl, by go_num, HB9, HV9⟩
    · obtain rfl : I = N := by omega
      have m0 := cell_of_heap HB.out.bm (j := 0) rfl
      have m1 := cell_of_heap HB.out.bm (j := 1) rfl
      have m2 := cell_of_heap HB.out.bm (j := 2) rfl
      have y0 := cell_of_heap HB.out.b4 (j := 0) rfl
      have y1 := cell_of_heap HB.out.b4 (j := 1) rfl
      have y2 := cell_of_heap HB.out.b4 (j := 2) rfl
      have x0 := free_of_heap HB.out.b4 0
      have x1 := free_of_heap HB.out.b4 1
      have x2 := free_of_heap HB.out.b4 2
      have g4 := lt_of_heap HB.out.b4
      go_wp2
      refine bodyPost_ret (v := .tuple #[.agg #[.int .i64 I, .int .i64 C, .slice (some ⟨gb, 0, none⟩) (I * C) (I * C)], .int .i64 0]) (by simp [results, Tryz.results38, go_sem, y0, y1, y2, x0, x1, x2]) rfl ?_
      obtain ⟨l1, l2⟩ := HB.out.lt
      have hk : Kp [w.heap.size + 1] wr (((wr.setCell ⟨w.heap.size + 1, 0, none⟩ (.int .i64 I)).setCell ⟨w.heap.size + 1, 1, none⟩ (.int .i64 C)).setCell ⟨w.heap.size + 1, 2, none⟩ (.slice (some ⟨gb, 0, none⟩) (I * C) (I * C))) :=
        (((Kp.refl _ _).setCell (.inl (by simp)) _).setCell (.inl (by simp)) _).setCell (.inl (by simp)) _
      refine ⟨gb, by rw [HN.out], by omega, ?_, HB.out.be.trans (hk.below (B := w.heap.size) HB.out.be.size (fun x hx => by rw [List.mem_singleton] at hx; omega))⟩
      rw [HN.out]
      refine (HVG.out.kp hk (by simp; omega)).congr fun j hj => ?_
      obtain ⟨r, k, hr, hk, rfl⟩ := off_ex (R := I) hC0 hj
      rw [flat_at hC0 _ _ _ hk, flat_at hC0 _ _ _ hk]
      simp only [pkM]
      rw [if_pos hr]
end Go.Proofs.YteeeocianofkfaaGreat
