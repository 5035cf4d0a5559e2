/-
  One polynomial added to another one, so many places higher.
-/
import Derived.Test.YteeeocianofkfaaGreatPol1
import Derived.Test.YteeeocianofkfaaGreatRefPlain
namespace Go.Proofs.YteeeocianofkfaaGreat
open Go.RowKit Fld
set_option linter.unusedVariables false
set_option linter.unusedSimpArgs false

theorem rowF_congr {f g : Nat → GF} {n : Nat} (h : ∀ j, j < n → f j = g j) : rowF f n = rowF g n := by
  unfold rowF
  exact List.map_congr_left fun i hi => h i (List.mem_range.1 hi)
/-- A row added at some place: its value. -/
theorem addTo_ev (o n N : Nat) (r g : Nat → GF) (t x : GF) (h : o + n ≤ N) : ev (rowF (addTo o n r t g) N) x = ev (rowF g N) x + pw x o * (ev (rowF r n) x * t) := by
  obtain ⟨m, rfl⟩ : ∃ m, N = o + n + m := ⟨N - (o + n), by omega⟩
  rw [rowF_ev, rowF_ev, rowF_ev]
  rw [sm_split (o + n) m, sm_split o n, sm_split (o + n) m (fun i => g i * pw x i), sm_split o n (fun i => g i * pw x i)]
  have e1 : sm o (fun i => addTo o n r t g i * pw x i) = sm o (fun i => g i * pw x i) := sm_congr fun i hi => by rw [addTo, if_neg (by omega)]
  have e3 : sm m (fun i => addTo o n r t g (o + n + i) * pw x (o + n + i)) = sm m (fun i => g (o + n + i) * pw x (o + n + i)) := sm_congr fun i hi => by rw [addTo, if_neg (by omega)]
  have e2 : sm n (fun i => addTo o n r t g (o + i) * pw x (o + i)) = sm n (fun i => g (o + i) * pw x (o + i)) + pw x o * (sm n (fun i => r i * pw x i) * t) := by
    rw [← sm_mulr, ← sm_mul, ← sm_add]
    refine sm_congr fun i hi => ?_
    rw [addTo, if_pos (by omega), show o + i - o = i by omega, dam, pw_add]
    congr 1
    rw [mulC (r i * t), Fld.mulA, ← Fld.mulA (pw x i), mulC (pw x i) (r i)]
  rw [e1, e2, e3, Fld.addA, Fld.addA, Fld.addA, Fld.addA, addC (pw x o * _)]
/-- What 'more' leaves. -/
def PMorePost (fb bt N : Nat) (g : Nat → GF) (w : World) (e : Ending) (w' : World) : Prop := e = .returned (.tuple #[]) ∧ Kp [fb, bt] w w' ∧ FOk w' fb ∧ View w' bt N g
theorem addTo_row0 (o : Nat) (r : Nat → GF) (t : GF) (g : Nat → GF) : addTo o 0 r t g = g := addTo_zero o r t g
set_option maxRecDepth 100000 in
set_option maxHeartbeats 2000000 in
theorem pmore_any (fb bt ot n N ct : Nat) (br orr cr : Nat) (g r : Nat → GF) (t : GF) (w : World) (hF : FOk w fb) (hV : View w bt N g) (hR : RowAt w br orr n r) (hN : ot + n ≤ N)
    (hn : N ≤ 1000000000) (hfb : fb ≠ bt) (hfr : fb ≠ br) (hd : bt ≠ br) :
    Calls Tryz.prog 76 #[.pointer (some ⟨fb, 0, none⟩), .slice (some ⟨bt, 0, none⟩) N ct, .slice (some ⟨br, orr, none⟩) n cr, .int .u8 (t.n : Nat), .int .i64 ot] w (PMorePost fb bt N (addTo ot n r t g) w) := by
  have HF := Lib.hid hF
  have HV := Lib.hid hV
  have HR := Lib.hid hR
  have HD := Lib.hid hd
  obtain ⟨T, hT⟩ : ∃ T, t.n = T := ⟨_, rfl⟩
  rw [hT]
  have HT := Lib.hid hT
  clear hF hV hR hd hT
  go_enter Tryz.func76, Tryz.ntmps76
  go_wp2
  go_loopg [14] n (fun gk i wr => ∃ I : Nat, I ≤ n ∧ gk = n - I ∧ i = .int .i64 I ∧ Hid (FOk wr fb) ∧ Hid (View wr bt N (addTo ot I r t g)) ∧ Hid (RowAt wr br orr n r) ∧ Hid (Kp [fb, bt] w wr))
  case atStart => exact ⟨0, by omega, rfl, rfl, HF, by rw [addTo_zero]; exact HV, HR, Lib.hid (Kp.refl _ _)⟩
  case round =>
    clear HF HV HR
    obtain ⟨I, hI, rfl, rfl, HF, HV, HR, HK⟩ := hrel
    by_cases hlt : I < n
    · have c1 := HR.out.2 I hlt
      obtain ⟨P, hP⟩ : ∃ P, I + ot = P := ⟨_, rfl⟩
      have hPN : P < N := by omega
      have cv := HV.out.2 P hPN
      have hgo : addTo ot I r t g P = g P := by rw [addTo, if_neg (by omega)]
      rw [hgo] at cv
      obtain ⟨c2, f2⟩ := cv
      obtain ⟨y, hy⟩ : ∃ y, (r I).n = y := ⟨_, rfl⟩
      obtain ⟨z, hz2⟩ : ∃ z, (g P).n = z := ⟨_, rfl⟩
      have HM : Hid (∀ W, FOk W fb → Calls Tryz.prog 51 #[.pointer (some ⟨fb, 0, none⟩), .int .u8 (y : Nat), .int .u8 (T : Nat)] W (FPost fb (r I * t) W)) := Lib.hid (fun W hW => by rw [← hy, ← HT.out]; exact fmul_any _ _ _ _ hW)
      have HA : Hid (∀ W, Calls Tryz.prog 55 #[.int .u8 (z : Nat), .int .u8 ((r I * t).n : Nat)] W fun e w' => e = .returned (.int .u8 ((g P + r I * t).n : Nat)) ∧ W = w') := Lib.hid (fun W => by rw [← hz2]; exact gadd_any _ _ _)
      rw [hy] at c1
      rw [hz2] at c2
      clear hgo hy hz2
      have HV2 : Hid (∀ W, View W bt N (addTo ot I r t g) → View (W.setCell ⟨bt, P, none⟩ (.int .u8 ((g P + r I * t).n : Nat))) bt N (addTo ot (I + 1) r t g)) := Lib.hid (fun W hW => by
        rw [← addTo_succ, show P = ot + I by omega]
        exact hW.set (by omega) _)
      obtain ⟨p, hp⟩ : ∃ p, (r I * t).n = p := ⟨_, rfl⟩
      obtain ⟨q, hq⟩ : ∃ q, (g P + r I * t).n = q := ⟨_, rfl⟩
      rw [hp, hq] at HA
      rw [hq] at HV2
      unfold FPost at HM
      rw [hp] at HM
      have hPi : (I : Int) + (ot : Int) = (P : Int) := by omega
      have hPw : IntKind.i64.wrap (P : Int) = (P : Int) := IntWalk.i64_in _ (by omega)
      clear hp hq hP
      obtain ⟨kp, hkp⟩ : ∃ kp : Nat → Bool, ∀ k, kp k = true ↔ k < wr.heap.size ∧ k ≠ fb ∧ k ≠ bt := ⟨fun k => decide (k < wr.heap.size ∧ k ≠ fb ∧ k ≠ bt), by simp⟩
      have HKP := Lib.hid hkp
      clear hkp
      have hbl : bt < wr.heap.size := HV.out.1
      have HNF : Hid (fb ≠ bt) := Lib.hid hfb
      have q1 : (0 : Int) ≤ (I : Int) ∧ (I : Int) < (n : Int) := by omega
      have q2 : (0 : Int) ≤ (P : Int) ∧ (P : Int) < (N : Int) := by omega
      go_upto_region 3 with fail
      have hgr := fun (w0 W : World) (p : Addr) (hp : (fun k => kp k = true) p.block) => graft_cell (w0 := w0) (keep := (fun k => kp k = true)) W hp
      refine wp_region_tree (fun k => kp k = true) [9, 13, 14, 16] (.step 0 (.step 1 (.step 2 (.step 3 (.step 4 (.step 5 (.step 6 (.step 7 (.step 8 (.step 10 (.step 11 (.step 12 (.fork 9 (.step 13 (.step 14 (.step 15 (.step 16 .done)))) 13 (.step 9 (.step 14 (.step 15 (.step 16 .done))))))))))))))))) (by kernel_rfl) (by kernel_rfl) ?_
      simp only [slimTr, slimStep, Oper.slim, List.contains_cons, List.contains_nil, Option.map_none, Option.map_some, List.getElem?_toArray, List.getElem?_cons_zero, List.getElem?_cons_succ, Option.bind_some, beq_self_eq_true, Bool.or_false, Nat.reduceBEq, Nat.reduceAdd, Nat.zero_add]
      repeat (first | (fail) | ((with_reducible refine wpSlimT_step (fun K hK => ?_)); go_simp; first | (refine hK _ _ ?_; clear hK K) | (refine ⟨by (intro kk hkk; first | (simp (disch := (simp; omega)) only [hp_drew, hp_drewN, hp_alloc, hp_set]; done) | (simp [hp_drew, hp_drewN, hp_alloc_if, hkk]; done) | fail), hK _ _ ?_⟩; clear hK K)| (go_at_call 51; (with_reducible refine (HM.out _ (HF.out.kp ((Kp.refl [] _).drew) (by simp))).mono ?_); rintro e w1 ⟨rfl, hk, hm⟩; have c3 := (hk.cell (p := ⟨bt, P, none⟩) hbl (by simpa using HNF.out.symm)).trans c2; have f3 := (hk.frozen (p := ⟨bt, P, none⟩) hbl (by simpa using HNF.out.symm)).trans f2; have HK1 := Lib.hid hk; have HM1 := Lib.hid hm; clear hk hm; refine ⟨_, rfl, (fun kk hkk => HK1.out.block kk ((HKP.out kk).1 hkk).1 (by have := ((HKP.out kk).1 hkk).2; simpa using this.1)), hK _ _ ?_⟩; clear hK K) | (go_at_call 55; (with_reducible refine (HA.out _).mono ?_); rintro e w2 ⟨rfl, rfl⟩; refine ⟨_, rfl, (fun kk hkk => HK1.out.block kk ((HKP.out kk).1 hkk).1 (by have := ((HKP.out kk).1 hkk).2; simpa using this.1)), hK _ _ ?_⟩; clear hK K) | (refine ⟨(fun kk hkk => rfl), hK _ _ ?_⟩; clear hK K) | (refine ⟨(fun kk hkk => HK1.out.block kk ((HKP.out kk).1 hkk).1 (by have := ((HKP.out kk).1 hkk).2; simpa using this.1)), hK _ _ ?_⟩; clear hK K) | (refine ⟨(fun kk hkk => (hp_set _ _ _ _ (by have := ((HKP.out kk).1 hkk).2; simpa using this.2)).trans (HK1.out.block kk ((HKP.out kk).1 hkk).1 (by have := ((HKP.out kk).1 hkk).2; simpa using this.1))), hK _ _ ?_⟩; clear hK K)))
      refine wpSlimT_fork ?_ ?_
      all_goals
        repeat (first | (fail) | ((with_reducible refine wpSlimT_step (fun K hK => ?_)); go_simp; first | (refine hK _ _ ?_; clear hK K) | (refine ⟨by (intro kk hkk; first | (simp (disch := (simp; omega)) only [hp_drew, hp_drewN, hp_alloc, hp_set]; done) | (simp [hp_drew, hp_drewN, hp_alloc_if, hkk]; done) | fail), hK _ _ ?_⟩; clear hK K)| (go_at_call 51; (with_reducible refine (HM.out _ (HF.out.kp ((Kp.refl [] _).drew) (by simp))).mono ?_); rintro e w1 ⟨rfl, hk, hm⟩; have c3 := (hk.cell (p := ⟨bt, P, none⟩) hbl (by simpa using HNF.out.symm)).trans c2; have f3 := (hk.frozen (p := ⟨bt, P, none⟩) hbl (by simpa using HNF.out.symm)).trans f2; have HK1 := Lib.hid hk; have HM1 := Lib.hid hm; clear hk hm; refine ⟨_, rfl, (fun kk hkk => HK1.out.block kk ((HKP.out kk).1 hkk).1 (by have := ((HKP.out kk).1 hkk).2; simpa using this.1)), hK _ _ ?_⟩; clear hK K) | (go_at_call 55; (with_reducible refine (HA.out _).mono ?_); rintro e w2 ⟨rfl, rfl⟩; refine ⟨_, rfl, (fun kk hkk => HK1.out.block kk ((HKP.out kk).1 hkk).1 (by have := ((HKP.out kk).1 hkk).2; simpa using this.1)), hK _ _ ?_⟩; clear hK K) | (refine ⟨(fun kk hkk => rfl), hK _ _ ?_⟩; clear hK K) | (refine ⟨(fun kk hkk => HK1.out.block kk ((HKP.out kk).1 hkk).1 (by have := ((HKP.out kk).1 hkk).2; simpa using this.1)), hK _ _ ?_⟩; clear hK K) | (refine ⟨(fun kk hkk => (hp_set _ _ _ _ (by have := ((HKP.out kk).1 hkk).2; simpa using this.2)).trans (HK1.out.block kk ((HKP.out kk).1 hkk).1 (by have := ((HKP.out kk).1 hkk).2; simpa using this.1))), hK _ _ ?_⟩; clear hK K)))
        refine wpSlimT_done ?_
      all_goals clear hgr
      all_goals
        have HF2 := Lib.hid (HM1.out.kp ((Kp.refl [bt] w1).setCell (p := ⟨bt, P, none⟩) (.inl (by simp)) (.int .u8 (q : Nat))) (by simpa using HNF.out))
        have HVN := Lib.hid (HV2.out w1 ((HV.out.drew).kp HK1.out (by simpa using HNF.out.symm)))
        have HRN := Lib.hid (((HR.out.kp ((Kp.refl [] _).drew) (by simp)).kp HK1.out (by simpa using (fun e => hfr e.symm))).set (c := bt) (k := P) (.inl HD.out) (.int .u8 (q : Nat)))
        have HKN : Hid (Kp [fb, bt] w (w1.setCell ⟨bt, P, none⟩ (.int .u8 (q : Nat)))) := Lib.hid (((HK.out.drew.step HK1.out (by simp))).setCell (.inl (by simp)) _)
        go_wp2
        go_roundg (n - (I + 1))
        case measure => omega
        case rel => exact ⟨I + 1, by omega, rfl, by go_num, HF2, HVN, HRN, HKN⟩
    · obtain rfl : I = n := by omega
      go_wp2
      go_end0
      exact ⟨rfl, HK.out, HF.out, HV.out⟩
theorem GRd.rowAt {w : World} {b o n cap : Nat} {l : List GF} (h : GRd w (.slice (some ⟨b, o, none⟩) n cap) l) (hne : l ≠ []) : RowAt w b o n (fun i => l.getD i 0) := by
  have hn : n = l.length := by
    obtain ⟨a', c', e, _⟩ := h.form
    cases e
    rfl
  obtain ⟨x, hx⟩ : ∃ x, l[0]? = some x := ⟨_, List.getElem?_eq_getElem (List.length_pos_iff.2 hne)⟩
  obtain ⟨b', o', e, hb, -⟩ := h.at hx
  cases e
  refine ⟨hb, fun i hi => ?_⟩
  obtain ⟨c, hc, hd⟩ := at_get (l := l) (i := i) (by omega)
  obtain ⟨b', o', e, -, hcc⟩ := h.at hc
  cases e
  simp only [hd]
  exact hcc
end Go.Proofs.YteeeocianofkfaaGreat
