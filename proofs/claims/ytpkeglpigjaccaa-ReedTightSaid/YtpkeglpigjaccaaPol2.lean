/-
  The program's Mul and Roots of polynomials.
-/
import Derived.Test.YtpkeglpigjaccaaPol1
import Derived.Test.YtpkeglpigjaccaaRefPlain
import Derived.Test.YtpkeglpigjaccaaRef3
namespace Go.Proofs.Ytpkeglpigjaccaa
open Go.RowKit Fld
set_option linter.unusedVariables false
set_option linter.unusedSimpArgs false

theorem rowF_congr {f g : Nat → GF} {n : Nat} (h : ∀ j, j < n → f j = g j) : rowF f n = rowF g n := by
  unfold rowF
  exact List.map_congr_left fun i hi => h i (List.mem_range.1 hi)
/-- A row added at some place: its value. -/
theorem addTo_ev (o n N : Nat) (r g : Nat → GF) (t x : GF) (h : o + n ≤ N) : ev (rowF (addTo o n r t g) N) x = ev (rowF g N) x + pw x o * (ev (rowF r n) x * t) := by
  obtain ⟨m, rfl⟩ : ∃ m, N = o + n + m := ⟨N - (o + n), by omega⟩
  rw [rowF_ev, rowF_ev, rowF_ev]
  rw [sm_split (o + n) m, sm_split o n, sm_split (o + n) m (fun i => g i * pw x i), sm_split o n (fun i => g i * pw x i)]
  have e1 : sm o (fun i => addTo o n r t g i * pw x i) = sm o (fun i => g i * pw x i) := sm_congr fun i hi => by rw [addTo, if_neg (by omega)]
  have e3 : sm m (fun i => addTo o n r t g (o + n + i) * pw x (o + n + i)) = sm m (fun i => g (o + n + i) * pw x (o + n + i)) := sm_congr fun i hi => by rw [addTo, if_neg (by omega)]
  have e2 : sm n (fun i => addTo o n r t g (o + i) * pw x (o + i)) = sm n (fun i => g (o + i) * pw x (o + i)) + pw x o * (sm n (fun i => r i * pw x i) * t) := by
    rw [← sm_mulr, ← sm_mul, ← sm_add]
    refine sm_congr fun i hi => ?_
    rw [addTo, if_pos (by omega), show o + i - o = i by omega, dam, pw_add]
    congr 1
    rw [mulC (r i * t), Fld.mulA, ← Fld.mulA (pw x i), mulC (pw x i) (r i)]
  rw [e1, e2, e3, Fld.addA, Fld.addA, Fld.addA, Fld.addA, addC (pw x o * _)]
/-- What 'more' leaves. -/
def PMorePost (fb bt N : Nat) (g : Nat → GF) (w : World) (e : Ending) (w' : World) : Prop := e = .returned (.tuple #[]) ∧ Kp [fb, bt] w w' ∧ FOk w' fb ∧ View w' bt N g
theorem addTo_row0 (o : Nat) (r : Nat → GF) (t : GF) (g : Nat → GF) : addTo o 0 r t g = g := addTo_zero o r t g
set_option maxRecDepth 100000 in
set_option maxHeartbeats 2000000 in
theorem pmore_any (fb bt ot n N ct : Nat) (br orr cr : Nat) (g r : Nat → GF) (t : GF) (w : World) (hF : FOk w fb) (hV : View w bt N g) (hR : RowAt w br orr n r) (hN : ot + n ≤ N)
    (hn : N ≤ 1000000000) (hfb : fb ≠ bt) (hfr : fb ≠ br) (hd : bt ≠ br) :
    Calls Try.prog 67 #[.pointer (some ⟨fb, 0, none⟩), .slice (some ⟨bt, 0, none⟩) N ct, .slice (some ⟨br, orr, none⟩) n cr, .int .u8 (t.n : Nat), .int .i64 ot] w (PMorePost fb bt N (addTo ot n r t g) w) := by
  have HF := Lib.hid hF
  have HV := Lib.hid hV
  have HR := Lib.hid hR
  have HD := Lib.hid hd
  obtain ⟨T, hT⟩ : ∃ T, t.n = T := ⟨_, rfl⟩
  rw [hT]
  have HT := Lib.hid hT
  clear hF hV hR hd hT
  go_enter Try.func67, Try.ntmps67
  go_wp2
  go_loopg [14] n (fun gk i wr => ∃ I : Nat, I ≤ n ∧ gk = n - I ∧ i = .int .i64 I ∧ Hid (FOk wr fb) ∧ Hid (View wr bt N (addTo ot I r t g)) ∧ Hid (RowAt wr br orr n r) ∧ Hid (Kp [fb, bt] w wr))
  case atStart => exact ⟨0, by omega, rfl, rfl, HF, by rw [addTo_zero]; exact HV, HR, Lib.hid (Kp.refl _ _)⟩
  case round =>
    clear HF HV HR
    obtain ⟨I, hI, rfl, rfl, HF, HV, HR, HK⟩ := hrel
    by_cases hlt : I < n
    · have c1 := HR.out.2 I hlt
      obtain ⟨P, hP⟩ : ∃ P, I + ot = P := ⟨_, rfl⟩
      have hPN : P < N := by omega
      have cv := HV.out.2 P hPN
      have hgo : addTo ot I r t g P = g P := by rw [addTo, if_neg (by omega)]
      rw [hgo] at cv
      obtain ⟨c2, f2⟩ := cv
      obtain ⟨y, hy⟩ : ∃ y, (r I).n = y := ⟨_, rfl⟩
      obtain ⟨z, hz2⟩ : ∃ z, (g P).n = z := ⟨_, rfl⟩
      have HM : Hid (∀ W, FOk W fb → Calls Try.prog 26 #[.pointer (some ⟨fb, 0, none⟩), .int .u8 (y : Nat), .int .u8 (T : Nat)] W (FPost fb (r I * t) W)) := Lib.hid (fun W hW => by rw [← hy, ← HT.out]; exact fmul_any _ _ _ _ hW)
      have HA : Hid (∀ W, Calls Try.prog 22 #[.int .u8 (z : Nat), .int .u8 ((r I * t).n : Nat)] W fun e w' => e = .returned (.int .u8 ((g P + r I * t).n : Nat)) ∧ W = w') := Lib.hid (fun W => by rw [← hz2]; exact gadd_any _ _ _)
      rw [hy] at c1
      rw [hz2] at c2
      clear hgo hy hz2
      have HV2 : Hid (∀ W, View W bt N (addTo ot I r t g) → View (W.setCell ⟨bt, P, none⟩ (.int .u8 ((g P + r I * t).n : Nat))) bt N (addTo ot (I + 1) r t g)) := Lib.hid (fun W hW => by
        rw [← addTo_succ, show P = ot + I by omega]
        exact hW.set (by omega) _)
      obtain ⟨p, hp⟩ : ∃ p, (r I * t).n = p := ⟨_, rfl⟩
      obtain ⟨q, hq⟩ : ∃ q, (g P + r I * t).n = q := ⟨_, rfl⟩
      rw [hp, hq] at HA
      rw [hq] at HV2
      unfold FPost at HM
      rw [hp] at HM
      have hPi : (I : Int) + (ot : Int) = (P : Int) := by omega
      have hPw : IntKind.i64.wrap (P : Int) = (P : Int) := IntWalk.i64_in _ (by omega)
      clear hp hq hP
      obtain ⟨kp, hkp⟩ : ∃ kp : Nat → Bool, ∀ k, kp k = true ↔ k < wr.heap.size ∧ k ≠ fb ∧ k ≠ bt := ⟨fun k => decide (k < wr.heap.size ∧ k ≠ fb ∧ k ≠ bt), by simp⟩
      have HKP := Lib.hid hkp
      clear hkp
      have hbl : bt < wr.heap.size := HV.out.1
      have HNF : Hid (fb ≠ bt) := Lib.hid hfb
      have q1 : (0 : Int) ≤ (I : Int) ∧ (I : Int) < (n : Int) := by omega
      have q2 : (0 : Int) ≤ (P : Int) ∧ (P : Int) < (N : Int) := by omega
      go_upto_region 3 with fail
      have hgr := fun (w0 W : World) (p : Addr) (hp : (fun k => kp k = true) p.block) => graft_cell (w0 := w0) (keep := (fun k => kp k = true)) W hp
      refine wp_region_tree (fun k => kp k = true) [9, 13, 14, 16] (.step 0 (.step 1 (.step 2 (.step 3 (.step 4 (.step 5 (.step 6 (.step 7 (.step 8 (.step 10 (.step 11 (.step 12 (.fork 9 (.step 13 (.step 14 (.step 15 (.step 16 .done)))) 13 (.step 9 (.step 14 (.step 15 (.step 16 .done))))))))))))))))) (by kernel_rfl) (by kernel_rfl) ?_
      simp only [slimTr, slimStep, Oper.slim, List.contains_cons, List.contains_nil, Option.map_none, Option.map_some, List.getElem?_toArray, List.getElem?_cons_zero, List.getElem?_cons_succ, Option.bind_some, beq_self_eq_true, Bool.or_false, Nat.reduceBEq, Nat.reduceAdd, Nat.zero_add]
      repeat (first | (fail) | ((with_reducible refine wpSlimT_step (fun K hK => ?_)); go_simp; first | (refine hK _ _ ?_; clear hK K) | (refine ⟨by (intro kk hkk; first | (simp (disch := (simp; omega)) only [hp_drew, hp_drewN, hp_alloc, hp_set]; done) | (simp [hp_drew, hp_drewN, hp_alloc_if, hkk]; done) | fail), hK _ _ ?_⟩; clear hK K)| (go_at_call 26; (with_reducible refine (HM.out _ (HF.out.kp ((Kp.refl [] _).drew) (by simp))).mono ?_); rintro e w1 ⟨rfl, hk, hm⟩; have c3 := (hk.cell (p := ⟨bt, P, none⟩) hbl (by simpa using HNF.out.symm)).trans c2; have f3 := (hk.frozen (p := ⟨bt, P, none⟩) hbl (by simpa using HNF.out.symm)).trans f2; have HK1 := Lib.hid hk; have HM1 := Lib.hid hm; clear hk hm; refine ⟨_, rfl, (fun kk hkk => HK1.out.block kk ((HKP.out kk).1 hkk).1 (by have := ((HKP.out kk).1 hkk).2; simpa using this.1)), hK _ _ ?_⟩; clear hK K) | (go_at_call 22; (with_reducible refine (HA.out _).mono ?_); rintro e w2 ⟨rfl, rfl⟩; refine ⟨_, rfl, (fun kk hkk => HK1.out.block kk ((HKP.out kk).1 hkk).1 (by have := ((HKP.out kk).1 hkk).2; simpa using this.1)), hK _ _ ?_⟩; clear hK K) | (refine ⟨(fun kk hkk => rfl), hK _ _ ?_⟩; clear hK K) | (refine ⟨(fun kk hkk => HK1.out.block kk ((HKP.out kk).1 hkk).1 (by have := ((HKP.out kk).1 hkk).2; simpa using this.1)), hK _ _ ?_⟩; clear hK K) | (refine ⟨(fun kk hkk => (hp_set _ _ _ _ (by have := ((HKP.out kk).1 hkk).2; simpa using this.2)).trans (HK1.out.block kk ((HKP.out kk).1 hkk).1 (by have := ((HKP.out kk).1 hkk).2; simpa using this.1))), hK _ _ ?_⟩; clear hK K)))
      refine wpSlimT_fork ?_ ?_
      all_goals
        repeat (first | (fail) | ((with_reducible refine wpSlimT_step (fun K hK => ?_)); go_simp; first | (refine hK _ _ ?_; clear hK K) | (refine ⟨by (intro kk hkk; first | (simp (disch := (simp; omega)) only [hp_drew, hp_drewN, hp_alloc, hp_set]; done) | (simp [hp_drew, hp_drewN, hp_alloc_if, hkk]; done) | fail), hK _ _ ?_⟩; clear hK K)| (go_at_call 26; (with_reducible refine (HM.out _ (HF.out.kp ((Kp.refl [] _).drew) (by simp))).mono ?_); rintro e w1 ⟨rfl, hk, hm⟩; have c3 := (hk.cell (p := ⟨bt, P, none⟩) hbl (by simpa using HNF.out.symm)).trans c2; have f3 := (hk.frozen (p := ⟨bt, P, none⟩) hbl (by simpa using HNF.out.symm)).trans f2; have HK1 := Lib.hid hk; have HM1 := Lib.hid hm; clear hk hm; refine ⟨_, rfl, (fun kk hkk => HK1.out.block kk ((HKP.out kk).1 hkk).1 (by have := ((HKP.out kk).1 hkk).2; simpa using this.1)), hK _ _ ?_⟩; clear hK K) | (go_at_call 22; (with_reducible refine (HA.out _).mono ?_); rintro e w2 ⟨rfl, rfl⟩; refine ⟨_, rfl, (fun kk hkk => HK1.out.block kk ((HKP.out kk).1 hkk).1 (by have := ((HKP.out kk).1 hkk).2; simpa using this.1)), hK _ _ ?_⟩; clear hK K) | (refine ⟨(fun kk hkk => rfl), hK _ _ ?_⟩; clear hK K) | (refine ⟨(fun kk hkk => HK1.out.block kk ((HKP.out kk).1 hkk).1 (by have := ((HKP.out kk).1 hkk).2; simpa using this.1)), hK _ _ ?_⟩; clear hK K) | (refine ⟨(fun kk hkk => (hp_set _ _ _ _ (by have := ((HKP.out kk).1 hkk).2; simpa using this.2)).trans (HK1.out.block kk ((HKP.out kk).1 hkk).1 (by have := ((HKP.out kk).1 hkk).2; simpa using this.1))), hK _ _ ?_⟩; clear hK K)))
        refine wpSlimT_done ?_
      all_goals clear hgr
      all_goals
        have HF2 := Lib.hid (HM1.out.kp ((Kp.refl [bt] w1).setCell (p := ⟨bt, P, none⟩) (.inl (by simp)) (.int .u8 (q : Nat))) (by simpa using HNF.out))
        have HVN := Lib.hid (HV2.out w1 ((HV.out.drew).kp HK1.out (by simpa using HNF.out.symm)))
        have HRN := Lib.hid (((HR.out.kp ((Kp.refl [] _).drew) (by simp)).kp HK1.out (by simpa using (fun e => hfr e.symm))).set (c := bt) (k := P) (.inl HD.out) (.int .u8 (q : Nat)))
        have HKN : Hid (Kp [fb, bt] w (w1.setCell ⟨bt, P, none⟩ (.int .u8 (q : Nat)))) := Lib.hid (((HK.out.drew.step HK1.out (by simp))).setCell (.inl (by simp)) _)
        go_wp2
        go_roundg (n - (I + 1))
        case measure => omega
        case rel => exact ⟨I + 1, by omega, rfl, by go_num, HF2, HVN, HRN, HKN⟩
    · obtain rfl : I = n := by omega
      go_wp2
      go_end0
      exact ⟨rfl, HK.out, HF.out, HV.out⟩
theorem GRd.rowAt {w : World} {b o n cap : Nat} {l : List GF} (h : GRd w (.slice (some ⟨b, o, none⟩) n cap) l) (hne : l ≠ []) : RowAt w b o n (fun i => l.getD i 0) := by
  have hn : n = l.length := by
    obtain ⟨a', c', e, _⟩ := h.form
    cases e
    rfl
  obtain ⟨x, hx⟩ : ∃ x, l[0]? = some x := ⟨_, List.getElem?_eq_getElem (List.length_pos_iff.2 hne)⟩
  obtain ⟨b', o', e, hb, -⟩ := h.at hx
  cases e
  refine ⟨hb, fun i hi => ?_⟩
  obtain ⟨c, hc, hd⟩ := at_get (l := l) (i := i) (by omega)
  obtain ⟨b', o', e, -, hcc⟩ := h.at hc
  cases e
  simp only [hd]
  exact hcc
/-- A product, as far as it has come. -/
structure PMulI (fb ob N : Nat) (a b : List GF) (w wr : World) (I : Nat) (g : Nat → GF) : Prop where
  view : View wr ob N g
  eval : ∀ x, ev (rowF g N) x = ev (a.take I) x * ev b x
  nul : ∀ j, I + b.length ≤ j + 1 → g j = 0
  ok : FOk wr fb
  kp : Kp [fb] w wr
/-- What 'Mul' leaves. -/
def PMulPost (fb : Nat) (a b : List GF) (w : World) (e : Ending) (w' : World) : Prop :=
  ∃ v p, e = .returned v ∧ OwnG w' w.heap.size v p ∧ Trimd p ∧ (∀ x, ev p x = ev a x * ev b x) ∧ p.length ≤ a.length + b.length - 1 ∧ Kp [fb] w w' ∧ FOk w' fb
set_option maxRecDepth 100000 in
set_option maxHeartbeats 2000000 in
theorem pmul_any (fb : Nat) (u v : Value) (a b : List GF) (w : World) (hF : FOk w fb) (hu : GRd w u a) (hv : GRd w v b) (hua : Apart u [fb]) (hva : Apart v [fb]) (hal : a.length ≤ 100000) (hbl : b.length ≤ 100000) (hb0 : b ≠ []) :
    Calls Try.prog 45 #[.pointer (some ⟨fb, 0, none⟩), u, v] w (PMulPost fb a b w) := by
  obtain ⟨au, cu, rfl, hcu⟩ := hu.form
  obtain ⟨av, cv, rfl, hcv⟩ := hv.form
  obtain ⟨i0, hi, hz0, hz1, hz2⟩ := info_parts u8_info
  obtain ⟨L, hL⟩ : ∃ L, a.length = L := ⟨_, rfl⟩
  obtain ⟨M, hM⟩ : ∃ M, b.length = M := ⟨_, rfl⟩
  obtain ⟨N, hN⟩ : ∃ N, L + M = N := ⟨_, rfl⟩
  have hM0 : 0 < M := by rw [← hM]; exact List.length_pos_iff.2 hb0
  have hNi : (L : Int) + (M : Int) = (N : Int) := by omega
  have hNb : N ≤ 200000 := by omega
  have hmk : ∀ W, (Instr.makeSlice 22 (.int .i64 N) (.int .i64 N)).run Try.prog W = .ok (.slice (some ⟨W.heap.size, 0, none⟩) N N) (W.alloc (.cells (Array.replicate N (.int .u8 0)) 5)) := fun W =>
    run_row W 22 5 i0 (.int .u8 0) Try.underlying22 hi hz0 hz1 rfl N (by rw [hz2]; omega) (by unfold maxLen; omega)
  obtain ⟨x0, hx0⟩ : ∃ x, b[0]? = some x := ⟨_, List.getElem?_eq_getElem (by omega)⟩
  obtain ⟨vb, vo, rfl, hvb, -⟩ := hv.at hx0
  have hvf : vb ≠ fb := by have := hva vb rfl; simpa using this
  have hfl := hF.lt
  obtain ⟨w1, hw1⟩ : ∃ w1, w1 = w.alloc (.cells (Array.replicate N (.int .u8 0)) 5) := ⟨_, rfl⟩
  have hh : w1.heap[w.heap.size]? = some (.cells (Array.replicate N (.int .u8 0)) 5 (0, 0)) := by rw [hw1]; exact heap_newA _ _
  have hb1 : Below w.heap.size w w1 := by rw [hw1]; exact (Below.refl _ _).alloc (Nat.le_refl _) _
  have HI1 : Hid (PMulI fb w.heap.size N a b w w1 0 (fun _ => 0)) := Lib.hid ⟨⟨lt_of_heap hh, fun j hj => ⟨by
    rw [cell_of_row _ _ _ _ _ (0, 0) hh]
    simp [hj]
    rfl, free_of_heap hh j⟩⟩, fun x => by
      rw [List.take_zero, ev_nil, zmul, ev_zeros]
      intro c hc
      obtain ⟨i, _, rfl⟩ := List.mem_map.1 hc
      rfl, fun _ _ => rfl, hF.below hb1, Kp.of_below hb1⟩
  have HU := Lib.hid hu
  have HV := Lib.hid (hv.rowAt hb0)
  have HUA := Lib.hid hua
  have HLL := Lib.hid hL
  have HMM := Lib.hid hM
  have HW1 := Lib.hid hw1
  rw [hL] at HU HUA hcu ⊢
  rw [hM] at HV hcv ⊢
  clear hF hu hv hua hva hi hz0 hz1 hz2 hL hM hb0 hx0 hh hb1 hw1 hN
  go_enter Try.func45, Try.ntmps45
  go_wp2
  rw [← HW1.out]
  go_loopg [18] L (fun gk i wr => ∃ I : Nat, I ≤ L ∧ gk = L - I ∧ i = .int .i64 I ∧ Hid (∃ g, PMulI fb w.heap.size N a b w wr I g))
  case atStart => exact ⟨0, by omega, rfl, rfl, Lib.hid ⟨_, HI1.out⟩⟩
  case round =>
    clear HI1 HW1
    obtain ⟨I, hI, rfl, rfl, HPI⟩ := hrel
    obtain ⟨g, hg⟩ := HPI.out
    have HG := Lib.hid hg
    clear hg HPI
    by_cases hlt : I < L
    · obtain ⟨c, hc, hd⟩ := at_get (l := a) (i := I) (by rw [HLL.out]; exact hlt)
      obtain ⟨ub, uo, rfl, hub, cx⟩ := (HU.out.kp HG.out.kp HUA.out).at hc
      have HMORE := Lib.hid (pmore_any fb w.heap.size I M N N vb vo cv g (fun i => b.getD i 0) c wr HG.out.ok HG.out.view (HV.out.kp HG.out.kp (by simpa using hvf)) (by omega) (by omega) (by omega) (fun e => hvf e.symm) (by omega))
      have HNX : Hid (∀ w2, Kp [fb, w.heap.size] wr w2 → FOk w2 fb → View w2 w.heap.size N (addTo I M (fun i => b.getD i 0) c g) → PMulI fb w.heap.size N a b w w2 (I + 1) (addTo I M (fun i => b.getD i 0) c g)) := Lib.hid fun w2 hk hf hv => by
        refine ⟨hv, fun x => ?_, fun j hj => ?_, hf, HG.out.kp.step hk (fun x hx => by
          rcases List.mem_cons.1 hx with rfl | hx
          · exact .inl (by simp)
          · rw [List.mem_singleton] at hx
            exact .inr (by omega))⟩
        · rw [addTo_ev _ _ _ _ _ _ _ (by omega), HG.out.eval, take_ev a (by rw [HLL.out]; exact hlt), dam, hd]
          congr 1
          rw [rowF_ev, Fld.mulA, mulC c, ev_sm b, HMM.out]
        · rw [HMM.out] at hj
          rw [addTo, if_neg (by omega)]
          exact HG.out.nul j (by rw [HMM.out]; omega)
      obtain ⟨cn, hcn⟩ : ∃ t, c.n = t := ⟨_, rfl⟩
      rw [hcn] at cx HMORE
      clear hc hd hcn
      go_wp2_with fail
      refine HMORE.out.mono ?_
      rintro e w2 ⟨rfl, hk2, hf2, hv2⟩
      have HN2 : Hid (∃ g, PMulI fb w.heap.size N a b w w2 (I + 1) g) := Lib.hid ⟨_, HNX.out w2 hk2 hf2 hv2⟩
      clear hk2 hf2 hv2
      go_wp2
      go_roundg (L - (I + 1))
      case measure => omega
      case rel => exact ⟨I + 1, by omega, rfl, by go_num, HN2⟩
    · obtain rfl : I = L := by omega
      have hrow : GRd wr (.slice (some ⟨w.heap.size, 0, none⟩) N N) (rowF g N) := HG.out.view.rowF (Nat.le_refl _)
      have HTR := Lib.hid (ptrim_any _ _ wr hrow (by rw [rowF_len]; omega))
      clear hrow
      go_wp2_with fail
      refine HTR.out.mono ?_
      rintro e w2 ⟨v2, p, rfl, htr, ho2, hb2⟩
      have hP : PMulPost fb a b w (.returned v2) w2 := by
        have hs := HG.out.kp.size
        refine ⟨v2, p, rfl, ho2.mono hs, htr.trimd, fun x => ?_, ?_, HG.out.kp.below_step hb2, HG.out.ok.below hb2⟩
        · rw [htr.ev, HG.out.eval, List.take_of_length_le (by rw [HLL.out]; exact Nat.le_refl _)]
        · rw [HLL.out, HMM.out]
          refine Nat.le_of_not_lt fun hlt => ?_
          obtain ⟨n, hn, hp, ht, hz⟩ := htr
          have hpl : p.length = n := by
            rw [hp, List.length_take, Nat.min_eq_left hn]
          rw [rowF_len] at hn
          rcases ht with rfl | ht
          · simp at hpl
            subst hpl
            simp at hlt
          · refine ht ?_
            rw [hpl, hp, List.getD_eq_getElem?_getD, List.getElem?_take, if_pos (by omega), ← List.getD_eq_getElem?_getD, rowF_get g (by omega)]
            exact HG.out.nul _ (by rw [HMM.out]; omega)
      have HP := Lib.hid hP
      clear hP htr ho2 hb2
      go_wp2
      go_ret
      exact HP.out
/-- What 'Roots' leaves. -/
def PRootsPost (fb : Nat) (xs : List GF) (w : World) (e : Ending) (w' : World) : Prop :=
  ∃ v p, e = .returned v ∧ OwnG w' w.heap.size v p ∧ Trimd p ∧ (∀ y, ev p y = prodN (fun i => xs.getD i 0) y xs.length) ∧ p.length ≤ xs.length + 1 ∧ Kp [fb] w w' ∧ FOk w' fb
set_option maxRecDepth 100000 in
set_option maxHeartbeats 4000000 in
theorem proots_any (fb : Nat) (u : Value) (xs : List GF) (w : World) (hF : FOk w fb) (hu : GRd w u xs) (hua : Apart u [fb]) (hl : xs.length ≤ 10000) :
    Calls Try.prog 27 #[.pointer (some ⟨fb, 0, none⟩), u] w (PRootsPost fb xs w) := by
  obtain ⟨a, cap, rfl, hcap⟩ := hu.form
  obtain ⟨L, hL⟩ : ∃ L, xs.length = L := ⟨_, rfl⟩
  have HL := Lib.hid hL
  have hfl := hF.lt
  rw [hL] at hl hcap hu hua ⊢
  have HU := Lib.hid hu
  have HUA := Lib.hid hua
  have hb0 : Below w.heap.size w (w.alloc (.cells #[.int .u8 1] 5)) := (Below.refl _ _).alloc (Nat.le_refl _) _
  have h0 : OwnG (w.alloc (.cells #[.int .u8 1] 5)) w.heap.size (.slice (some ⟨w.heap.size, 0, none⟩) 1 1) [1] := by
    have := own_lit w [(1 : GF)] (n := 1) rfl (by simp)
    exact this
  have H0 := Lib.hid h0
  have HF0 := Lib.hid (hF.below hb0)
  have HK0 : Hid (Kp [fb] w (w.alloc (.cells #[.int .u8 1] 5))) := Lib.hid (Kp.of_below hb0)
  have HT0 : Hid (Trimd [(1 : GF)]) := Lib.hid (.inr (by simpa using one_ne0 (F := GF)))
  clear h0 hb0 hF hu hua hL
  go_enter Try.func27, Try.ntmps27
  go_wp2
  go_loopg [5, 11] L (fun gk y i wr => ∃ (V : Value) (I : Nat) (p : List GF), V = y ∧ I ≤ L ∧ gk = L - I ∧ i = .int .i64 I ∧ Hid (OwnG wr w.heap.size V p) ∧ Hid (Trimd p) ∧ Hid (∀ y, ev p y = prodN (fun i => xs.getD i 0) y I) ∧ Hid (p.length ≤ I + 1) ∧ Hid (Kp [fb] w wr) ∧ Hid (FOk wr fb))
  case atStart => exact ⟨_, 0, [1], rfl, by omega, rfl, rfl, H0, HT0, Lib.hid (fun y => ev_one1 1 y), Lib.hid (by simp), HK0, HF0⟩
  case round =>
    clear H0 HT0 HF0 HK0
    obtain ⟨V, I, p, rfl, hI, rfl, rfl, HG, HT, HE, HLEN, HK, HF⟩ := hrel
    have hs := HK.out.size
    by_cases hlt : I < L
    · obtain ⟨c, hc, hd⟩ := at_get (l := xs) (i := I) (by rw [HL.out]; omega)
      obtain ⟨b1, o1, rfl, hb1, cx⟩ := (HU.out.kp HK.out HUA.out).at hc
      have hb2 : Below wr.heap.size wr (wr.alloc (.cells #[.int .u8 (c.n : Nat), .int .u8 1] 5)) := (Below.refl _ _).alloc (Nat.le_refl _) _
      have hva : Apart V [fb] := fun b hb hm => by
        have := HG.out.lt b hb
        simp at hm
        omega
      have HMUL := Lib.hid (pmul_any fb V (.slice (some ⟨wr.heap.size, 0, none⟩) 2 2) p [c, 1] (wr.alloc (.cells #[.int .u8 (c.n : Nat), .int .u8 1] 5)) (HF.out.below hb2) (HG.out.rd.below hb2) (GRd.lit [c, 1] (heap_newA _ _) rfl) hva (fun b hb hm => by
        simp [Value.ownBlock] at hb hm
        omega) (by have := HLEN.out; omega) (by simp) (by simp))
      have HB2 := Lib.hid hb2
      have HC := Lib.hid hd
      obtain ⟨cn, hcn⟩ : ∃ t, c.n = t := ⟨_, rfl⟩
      rw [hcn] at cx HMUL HB2
      clear hb2 hc hd hcn hva
      go_wp2_with fail
      refine HMUL.out.mono ?_
      rintro e w9 ⟨v9, q, rfl, ho9, ht9, hev, hlq, hk9, hf9⟩
      have HG2 : Hid (OwnG w9 w.heap.size v9 q) := Lib.hid (ho9.mono (by simp; omega))
      have HT2 := Lib.hid ht9
      have HE2 : Hid (∀ y, ev q y = prodN (fun i => xs.getD i 0) y (I + 1)) := Lib.hid fun y => by rw [hev, HE.out, ev_two, prodN, HC.out]
      have HLEN2 : Hid (q.length ≤ I + 1 + 1) := Lib.hid (by have := HLEN.out; simp at hlq; omega)
      have HK9 : Hid (Kp [fb] w w9) := Lib.hid ((HK.out.below_step HB2.out).trans hk9)
      have HF9 := Lib.hid hf9
      clear ho9 ht9 hev hlq hk9 hf9
      go_wp2
      go_roundg (L - (I + 1))
      case measure => omega
      case rel => exact ⟨v9, I + 1, q, rfl, by omega, rfl, by go_num, HG2, HT2, HE2, HLEN2, HK9, HF9⟩
    · obtain rfl : I = L := by omega
      have HP : Hid (PRootsPost fb xs w (.returned V) wr) := Lib.hid ⟨V, p, rfl, HG.out, HT.out, by rw [HL.out]; exact HE.out, by rw [HL.out]; exact HLEN.out, HK.out, HF.out⟩
      go_wp2
      go_ret
      exact HP.out
end Go.Proofs.Ytpkeglpigjaccaa
