/-
  A word's symbols decoded.
-/
import Derived.Test.YteeeocianofkfaaGreatDecA
import Derived.Test.YteeeocianofkfaaGreatMPick
import Derived.Test.YteeeocianofkfaaGreatPowers
import Derived.Test.YteeeocianofkfaaGreatSol
import Derived.Deep.DeepCutAuto
import Derived.Deep.CutBlock
namespace Go.Proofs.YteeeocianofkfaaGreat
open Go.RowKit Fld Go.Shelf
set_option linter.unusedVariables false
set_option linter.unusedSimpArgs false

/-- What 'Decode' answers. -/
def DecPost (fb : Nat) (xs : List GF) (k : Nat) (ps : List Int) (ys : List GF) (w : World) (e : Ending) (w' : World) : Prop :=
  Kp [fb] w w' ∧ FOk w' fb ∧
  ((ps.length = ys.length → ¬ GoodP xs.length ps) ∧ e = .returned (.tuple #[.slice none 0 0, .int .i64 2]) ∨
   (ps.length = ys.length ∧ GoodP xs.length ps) ∧ (ps.length < k ∧ e = .returned (.tuple #[.slice none 0 0, .int .i64 70]) ∨
    k ≤ ps.length ∧ ((∃ g m, e = .returned (.tuple #[.slice (some ⟨g, 0, none⟩) k k, .int .i64 0]) ∧ w.heap.size ≤ g ∧ View w' g k (fun i => m.getD i 0) ∧ Fits xs k ps ys m) ∨
      e = .returned (.tuple #[.slice none 0 0, .int .i64 71]) ∧ ∀ m, ¬ Fits xs k ps ys m)))
theorem IRd.kp0 {S : List Nat} {w w' : World} {v : Value} {l : List Int} (h : IRd w v l) (hk : Kp S w w') (hn : l = [] ∨ Apart v S) : IRd w' v l := by
  rcases hn with rfl | hn
  · obtain ⟨a, cap, h1, h2, h3⟩ := h
    exact ⟨a, cap, h1, h2, fun hne => absurd rfl hne⟩
  · exact h.kp hk hn
/-- What 'Solve' answers here. -/
def SolR (n R C : Nat) (A B : Nat → Nat → GF) (sv : Value) (ec : Int) (w' : World) : Prop :=
  (ec = 0 ∧ ∃ g X, sv = .slice (some ⟨g, 0, none⟩) C C ∧ n ≤ g ∧ View w' g C (fun j => X j) ∧ MetS R C 1 A B X (dlt 0)) ∨
   (ec = 51 ∧ ((∃ x : Nat → GF, (∃ k, k < C ∧ x k ≠ 0) ∧ ∀ i, i < R → sm C (fun k => A i k * x k) = 0) ∨ ∀ x, ¬ MetS R C 1 A B x (dlt 0)))
theorem SolR.kp {n R C : Nat} {A B : Nat → Nat → GF} {sv : Value} {ec : Int} {w w' : World} (h : SolR n R C A B sv ec w) {S : List Nat} (hk : Kp S w w') (hS : ∀ x ∈ S, x < n) {m : Nat} (hm : m ≤ n) : SolR m R C A B sv ec w' := by
  rcases h with ⟨h1, g, X, h2, h3, h4, h5⟩ | h
  · exact .inl ⟨h1, g, X, h2, by omega, h4.kp hk (fun hx => by have := hS g hx; omega), h5⟩
  · exact .inr h
def SolD (fb R C : Nat) (A B : Nat → Nat → GF) (w : World) (e : Ending) (w' : World) : Prop :=
  ∃ (a b : Nat) (sa : Option Addr) (sn sc : Nat) (ec : Int), e = .returned (.tuple #[.agg #[.int .i64 a, .int .i64 b, .slice sa sn sc], .int .i64 ec]) ∧ Kp [fb] w w' ∧ FOk w' fb ∧ SolR w.heap.size R C A B (.slice sa sn sc) ec w'
theorem sold_of {fb R C : Nat} {A B : Nat → Nat → GF} {w : World} {e : Ending} {w' : World} (h : SolPost fb R C 1 A B w e w') : SolD fb R C A B w e w' := by
  obtain ⟨h1, h2, h3⟩ := h
  rcases h3 with ⟨g, X, rfl, hg, hv, hm⟩ | ⟨rfl, h4⟩
  · refine ⟨C, 1, _, _, _, 0, rfl, h1, h2, .inl ⟨rfl, g, fun j => X j 0, by rw [Nat.mul_one], hg, ?_, ?_⟩⟩
    · rw [Nat.mul_one] at hv
      exact hv.congr fun j hj => by have := flat_at (by omega : 0 < 1) X j 0 (by omega); simpa using this
    · refine (hm _ _).2 fun k hk => ?_
      rw [sm_dlt (by omega : 0 < 1) (fun l => X k l)]
  · refine ⟨0, 0, _, _, _, 51, rfl, h1, h2, .inr ⟨rfl, ?_⟩⟩
    rcases h4 with h | ⟨l, hl, h⟩
    · exact .inl h
    · obtain rfl : l = 0 := by omega
      exact .inr h
/-- Three cells stored into a block. -/
theorem store3_kp (w : World) (b : Nat) (v0 v1 v2 : Value) : Kp [b] w (((w.setCell ⟨b, 0, none⟩ v0).setCell ⟨b, 1, none⟩ v1).setCell ⟨b, 2, none⟩ v2) :=
  (((Kp.refl _ _).setCell (.inl (by simp)) _).setCell (.inl (by simp)) _).setCell (.inl (by simp)) _
theorem store3_heap {w : World} {b : Nat} {c0 c1 c2 : Value} {t : TypeId} (h : w.heap[b]? = some (.cells #[c0, c1, c2] t (0, 0))) (v0 v1 v2 : Value) :
    (((w.setCell ⟨b, 0, none⟩ v0).setCell ⟨b, 1, none⟩ v1).setCell ⟨b, 2, none⟩ v2).heap[b]? = some (.cells #[v0, v1, v2] t (0, 0)) :=
  heap_set_same (heap_set_same (heap_set_same h 0 v0) 1 v1) 2 v2
theorem bool_info : (Tryz.prog.info? 4).map (fun i => (i.zero, i.size, i.bytes)) = some (some (.bool false), 1, 1) := by kernel_rfl
set_option maxRecDepth 100000 in
set_option maxHeartbeats 4000000 in
theorem decode_gen (w : World) (cb fb k : Nat) (v pv yv : Value) (xs : List GF) (ps : List Int) (ys : List GF) (h : CodeAt w cb fb k v xs) (hn : xs.Nodup) (hk0 : 0 < k) (hkn : k ≤ xs.length) (hxl : xs.length ≤ 256)
    (hp : IRd w pv ps) (hy : GRd w yv ys) (hpa : ps = [] ∨ Apart pv [fb]) (hya : ys = [] ∨ Apart yv [fb]) (hpl : ps.length ≤ 256) (hyl : ys.length ≤ 1000000000) :
    Calls Tryz.prog 19 #[.pointer (some ⟨cb, 0, none⟩), pv, yv] w (DecPost fb xs k ps ys w) := by
  obtain ⟨av, capv, rfl, hcapv⟩ := h.rd.form
  obtain ⟨ay, capy, rfl, hcapy⟩ := hy.form
  obtain ⟨ap, capp, rfl⟩ := hp.form
  obtain ⟨i0, hi, hz0, hz1, hz2⟩ := info_parts bool_info
  obtain ⟨N, hN⟩ : ∃ N, xs.length = N := ⟨_, rfl⟩
  have hmk : ∀ W, (Instr.makeSlice 68 (.int .i64 N) (.int .i64 N)).run Tryz.prog W = .ok (.slice (some ⟨W.heap.size, 0, none⟩) N N) (W.alloc (.cells (Array.replicate N (.bool false)) 4)) := fun W =>
    run_row W 68 4 i0 (.bool false) Tryz.underlying68 hi hz0 hz1 rfl N (by rw [hz2]; omega) (by unfold maxLen; omega)
  have hmf : ∀ (fn : Fn) (first cap : Array Value) (w : World), (Instr.makeFunc fn first cap).run Tryz.prog w = .ok (.func fn first cap) w := fun _ _ _ _ => rfl
  rw [hN] at hkn hxl h
  have c0 := cell_of_heap h.box (j := 0) rfl
  have c1 := cell_of_heap h.box (j := 1) rfl
  have c2 := cell_of_heap h.box (j := 2) rfl
  have hcw := lt_of_heap h.box
  have hfw := h.ok.lt
  have HC := Lib.hid h
  have HP := Lib.hid hp
  have HY := Lib.hid hy
  have HPA := Lib.hid hpa
  have HYA := Lib.hid hya
  have HN := Lib.hid hN
  have HND := Lib.hid hn
  -- the row of marks and its box
  obtain ⟨W1, hW1⟩ : ∃ W1, W1 = (w.alloc (.cells (Array.replicate N (.bool false)) 4)).alloc (.cells #[.slice (some ⟨w.heap.size, 0, none⟩) N N] 68) := ⟨_, rfl⟩
  have hb1 : Below w.heap.size w W1 := by rw [hW1]; exact ((Below.refl _ _).alloc (Nat.le_refl _) _).alloc (by simp) _
  have hs1 : SeenP W1 (w.heap.size + 1) w.heap.size N (fun _ => false) := by
    rw [hW1]
    have hh : ((w.alloc (.cells (Array.replicate N (.bool false)) 4)).alloc (.cells #[.slice (some ⟨w.heap.size, 0, none⟩) N N] 68)).heap[w.heap.size]? = some (.cells (Array.replicate N (.bool false)) 4 (0, 0)) := keepA (heap_newA _ _) _
    refine ⟨heap_newE _ _ _ (by simp), lt_of_heap hh, by omega, fun j hj => ⟨?_, free_of_heap hh j⟩⟩
    rw [cell_of_row _ _ _ _ _ (0, 0) hh]
    simp [hj]
  have HCON : Hid (Calls Tryz.prog 37 #[.slice ap ps.length capp, .func (.func 36) #[] #[.pointer (some ⟨w.heap.size + 1, 0, none⟩)]] W1 (ConD N w.heap.size (fun _ => false) ps W1)) := Lib.hid
    (contains_dec _ _ N _ _ ps W1 hs1 (hp.below hb1) (by omega) (fun hne b o n c e => by
      obtain ⟨x, hx⟩ : ∃ x, ps[0]? = some x := ⟨_, List.getElem?_eq_getElem (Nat.pos_of_ne_zero fun e => hne (List.eq_nil_of_length_eq_zero e))⟩
      obtain ⟨_, _, b', o', e', hb, _⟩ := hp.cell hx
      cases e
      cases e'
      omega))
  have HB1 := Lib.hid hb1
  clear h hp hy hpa hya hN hn hb1 hs1
  obtain ⟨Q, hQ⟩ : ∃ Q, ps.length = Q := ⟨_, rfl⟩
  obtain ⟨Y, hY⟩ : ∃ Y, ys.length = Y := ⟨_, rfl⟩
  have HQ := Lib.hid hQ
  have HYL := Lib.hid hY
  rw [hQ] at HCON hpl
  rw [hQ, hY]
  rw [hY] at hyl
  by_cases hQY : Q = Y
  · subst hQY
    go_enter Tryz.func19, Tryz.ntmps19
    go_wp2_with fail
    rw [← hW1]
    refine HCON.out.mono ?_
    rintro e w5 ⟨b, rfl, hk5, hb0, hb1⟩
    have hk5w : Below w.heap.size w w5 := HB1.out.trans (hk5.below HB1.out.size (fun x hx => by rw [List.mem_singleton] at hx; omega))
    have HK5 := Lib.hid hk5w
    have HC5 := Lib.hid (HC.out.below hk5w)
    have HB0 := Lib.hid hb0
    have HB2 := Lib.hid hb1
    have cc0 := cell_of_heap HC5.out.box (j := 0) rfl
    have cc1 := cell_of_heap HC5.out.box (j := 1) rfl
    have cc2 := cell_of_heap HC5.out.box (j := 2) rfl
    clear hk5 hb0 hb1 hk5w c0 c1 c2
    cases b
    · by_cases hlt : Q < k
      · have hlt' : (Q : Int) < (k : Int) := by omega
        go_wp2
        go_ret2
        exact ⟨(Kp.refl _ _).below_step HK5.out, HC5.out.ok, .inr ⟨⟨by rw [HQ.out, HYL.out], by rw [HN.out]; exact (good_iff _ _).1 (HB0.out (by trivial))⟩, .inl ⟨by rw [HQ.out]; exact hlt, rfl⟩⟩⟩
      · have hkQ : k ≤ Q := by omega
        have hlt' : ¬ (Q : Int) < (k : Int) := by omega
        have hgood : GoodP N ps := (good_iff _ _).1 (HB0.out (by trivial))
        have HGOOD := Lib.hid hgood
        have HPOW : Hid (∀ W, Below w5.heap.size w5 W → Calls Tryz.prog 39 #[.pointer (some ⟨fb, 0, none⟩), .slice av N capv, .int .i64 k] W (PowPost fb k xs W)) := Lib.hid fun W hW => by
          have h5 := HC5.out.below hW
          exact powers_any fb k _ xs W h5.ok h5.rd h5.apart (by rw [HN.out]; omega) (by rw [HN.out]; omega) hk0 (by omega)
        have HPICK : Hid (∀ W sb, Kp [fb] w5 W → View W sb (N * k) (flat k (fun i c => pw (xs.getD i 0) c)) → Calls Tryz.prog 38 #[.agg #[.int .i64 N, .int .i64 k, .slice (some ⟨sb, 0, none⟩) (N * k) (N * k)], .slice ap Q capp] W (MPickPost k ps (fun i c => pw (xs.getD i 0) c) W)) := Lib.hid fun W sb hk hv => by
          have h1 : IRd W (.slice ap ps.length capp) ps := IRd.kp0 HP.out ((Kp.of_below HK5.out).trans hk) HPA.out
          rw [HQ.out] at h1
          exact mpick_any N k (N * k) sb (N * k) _ ps _ W hv rfl (Nat.le_refl _) h1 (fun i x hx => HGOOD.out.1 x (List.mem_of_getElem? hx)) hk0 (by omega) hxl (by rw [HQ.out]; exact hpl)
        obtain ⟨kp, hkp⟩ : ∃ kp : Nat → Bool, ∀ j, kp j = true ↔ j < w5.heap.size ∧ j ≠ fb := ⟨fun j => decide (j < w5.heap.size ∧ j ≠ fb), by simp⟩
        have hcb : kp cb = true := (hkp _).2 ⟨lt_of_heap HC5.out.box, HC5.out.ne⟩
        have HKP := Lib.hid hkp
        have hf5 : fb < w5.heap.size := HC5.out.ok.lt
        clear hkp hgood
        go_upto_region 9 with fail
        go_cut [10, 11] (fun s10 s11 wx => ∃ rb rg : Nat, s10 = .pointer (some ⟨rb, 0, none⟩) ∧ s11 = .int .i64 0 ∧ w5.heap.size ≤ rb ∧ w5.heap.size ≤ rg ∧ Hid (wx.heap[rb]? = some (.cells #[.int .i64 Q, .int .i64 k, .slice (some ⟨rg, 0, none⟩) (Q * k) (Q * k)] 72 (0, 0))) ∧ Hid (View wx rg (Q * k) (flat k (fun i c => pw (xs.getD (ps.getD i 0).toNat 0) c))) ∧ Hid (Kp [fb] w5 wx) ∧ Hid (FOk wx fb))
        case first =>
          have hgr := fun (w0 W : World) (p : Addr) (hp : (fun j => kp j = true) p.block) => graft_cell (w0 := w0) (keep := (fun j => kp j = true)) W hp
          refine wp_region_tree (fun j => kp j = true) [15, 17, 21, 22] (.step 0 (.step 1 (.step 2 (.step 3 (.step 4 (.step 5 (.step 6 (.step 7 (.step 8 (.step 9 (.step 10 (.step 11 (.step 12 (.step 13 (.step 14 (.step 16 (.fork 15 (.fork 17 (.step 18 (.step 19 (.step 20 (.step 21 (.step 22 (.step 23 .done)))))) 21 (.step 17 (.step 18 (.step 19 (.step 20 (.step 22 (.step 23 .done))))))) 21 (.step 15 (.step 17 (.step 18 (.step 19 (.step 20 (.step 22 (.step 23 .done)))))))))))))))))))))))) (by kernel_rfl) (by kernel_rfl) ?_
          simp only [slimTr, slimStep, Oper.slim, List.contains_cons, List.contains_nil, Option.map_none, Option.map_some, List.getElem?_toArray, List.getElem?_cons_zero, List.getElem?_cons_succ, Option.bind_some, beq_self_eq_true, Bool.or_false, Nat.reduceBEq, Nat.reduceAdd, Nat.zero_add]
          repeat (first | (fail) | ((with_reducible refine wpSlimT_step (fun K hK => ?_)); go_simp; first | (refine hK _ _ ?_; clear hK K) | (refine ⟨by (intro kk hkk; first | (simp (disch := (simp; omega)) only [hp_drew, hp_drewN, hp_alloc, hp_set]; done) | (simp [hp_drew, hp_drewN, hp_alloc_if, hkk]; done) | first | exact (show Kp [fb] wc _ from by (repeat' (first | exact HK13.out | exact Kp.refl _ _ | refine Kp.alloc ?_ _ | refine Kp.drew ?_ | refine Kp.setCell ?_ (.inr (by first | (simp; done) | (simp; omega) | (have := HK13.out.size; simp; omega))) _))).block kk ((HKP9.out kk).1 hkk).1 (by simpa using ((HKP9.out kk).1 hkk).2) | exact (show Kp [fb] w5 _ from by (repeat' (first | exact HK8.out | exact HK7.out | exact Kp.refl _ _ | refine Kp.alloc ?_ _ | refine Kp.drew ?_ | refine Kp.setCell ?_ (.inr (by first | (simp; done) | (simp; omega) | (have := HK7.out.size; simp; omega))) _))).block kk ((HKP.out kk).1 hkk).1 (by simpa using ((HKP.out kk).1 hkk).2)), hK _ _ ?_⟩; clear hK K)| (go_at_call 39; (with_reducible refine (HPOW.out _ (by first | exact Below.refl _ _ | exact (Below.refl _ _).drew | exact ((Below.refl _ _).drew).alloc (Nat.le_refl _) _ | exact ((Below.refl _ _).alloc (Nat.le_refl _) _).drew)).mono ?_); rintro e w7 ⟨rg0, rfl, hrg0, hv7, hk7, hf7⟩; have hk57 := (Kp.of_below (S := [fb]) (a := w5) (by first | exact Below.refl _ _ | exact (Below.refl _ _).drew | exact ((Below.refl _ _).drew).alloc (Nat.le_refl _) _ | exact ((Below.refl _ _).alloc (Nat.le_refl _) _).drew)).trans hk7; have HK7 := Lib.hid hk57; rw [HN.out] at hv7; have HV7 := Lib.hid hv7; have HF7 := Lib.hid hf7; rw [HN.out]; have HRG0 : Hid (w5.heap.size ≤ rg0) := Lib.hid (Nat.le_trans (by simp) hrg0); (try (have hx7 := hk7.heap (heap_newA _ _) (by simp; omega); have HX7 := Lib.hid hx7; clear hx7)); clear hk57 hk7 hv7 hf7 hrg0; refine ⟨_, rfl, (fun kk hkk => HK7.out.block kk ((HKP.out kk).1 hkk).1 (by simpa using ((HKP.out kk).1 hkk).2)), hK _ _ ?_⟩; clear hK K) | (go_at_call 38; (with_reducible refine (HPICK.out _ rg0 (by first | exact HK7.out | exact HK7.out.alloc _) (by first | exact HV7.out | exact HV7.out.below ((Below.refl _ _).alloc (Nat.le_refl _) _))).mono ?_); rintro e w8 ⟨rg, rfl, hrg, hv8, hb8⟩; have hk58 : Kp [fb] w5 w8 := Kp.below_step (by first | exact HK7.out | exact HK7.out.alloc _) hb8; have hf8 : FOk w8 fb := FOk.below (by first | exact HF7.out | exact HF7.out.below ((Below.refl _ _).alloc (Nat.le_refl _) _)) hb8; rw [HQ.out] at hv8; rw [HQ.out]; have HV8 := Lib.hid hv8; have HK8 := Lib.hid hk58; have HF8 := Lib.hid hf8; have HRGW := Lib.hid hrg; have HRG : Hid (w5.heap.size ≤ rg) := Lib.hid (Nat.le_trans HK7.out.size (Nat.le_trans (by simp) hrg)); (try (have hx8 := keepB hb8 (heap_newA _ _); have HX8 := Lib.hid hx8; have y0 := cell_of_heap hx8 (j := 0) rfl; have y1 := cell_of_heap hx8 (j := 1) rfl; have y2 := cell_of_heap hx8 (j := 2) rfl; have z0 := free_of_heap hx8 0; have z1 := free_of_heap hx8 1; have z2 := free_of_heap hx8 2; clear hx8)); (try (have hx8 := keepB hb8 HX7.out; have HX8 := Lib.hid hx8; have y0 := cell_of_heap hx8 (j := 0) rfl; have y1 := cell_of_heap hx8 (j := 1) rfl; have y2 := cell_of_heap hx8 (j := 2) rfl; have z0 := free_of_heap hx8 0; have z1 := free_of_heap hx8 1; have z2 := free_of_heap hx8 2; clear hx8)); clear hv8 hk58 hf8 hrg hb8; refine ⟨_, rfl, (fun kk hkk => HK8.out.block kk ((HKP.out kk).1 hkk).1 (by simpa using ((HKP.out kk).1 hkk).2)), hK _ _ ?_⟩; clear hK K)))
          first
            | with_reducible refine wpSlimT_done ?_
            | refine wpSlimT_fork ?_ ?_
              all_goals
                repeat (first | (fail) | ((with_reducible refine wpSlimT_step (fun K hK => ?_)); go_simp; first | (refine hK _ _ ?_; clear hK K) | (refine ⟨by (intro kk hkk; first | (simp (disch := (simp; omega)) only [hp_drew, hp_drewN, hp_alloc, hp_set]; done) | (simp [hp_drew, hp_drewN, hp_alloc_if, hkk]; done) | first | exact (show Kp [fb] wc _ from by (repeat' (first | exact HK13.out | exact Kp.refl _ _ | refine Kp.alloc ?_ _ | refine Kp.drew ?_ | refine Kp.setCell ?_ (.inr (by first | (simp; done) | (simp; omega) | (have := HK13.out.size; simp; omega))) _))).block kk ((HKP9.out kk).1 hkk).1 (by simpa using ((HKP9.out kk).1 hkk).2) | exact (show Kp [fb] w5 _ from by (repeat' (first | exact HK8.out | exact HK7.out | exact Kp.refl _ _ | refine Kp.alloc ?_ _ | refine Kp.drew ?_ | refine Kp.setCell ?_ (.inr (by first | (simp; done) | (simp; omega) | (have := HK7.out.size; simp; omega))) _))).block kk ((HKP.out kk).1 hkk).1 (by simpa using ((HKP.out kk).1 hkk).2)), hK _ _ ?_⟩; clear hK K)| (go_at_call 39; (with_reducible refine (HPOW.out _ (by first | exact Below.refl _ _ | exact (Below.refl _ _).drew | exact ((Below.refl _ _).drew).alloc (Nat.le_refl _) _ | exact ((Below.refl _ _).alloc (Nat.le_refl _) _).drew)).mono ?_); rintro e w7 ⟨rg0, rfl, hrg0, hv7, hk7, hf7⟩; have hk57 := (Kp.of_below (S := [fb]) (a := w5) (by first | exact Below.refl _ _ | exact (Below.refl _ _).drew | exact ((Below.refl _ _).drew).alloc (Nat.le_refl _) _ | exact ((Below.refl _ _).alloc (Nat.le_refl _) _).drew)).trans hk7; have HK7 := Lib.hid hk57; rw [HN.out] at hv7; have HV7 := Lib.hid hv7; have HF7 := Lib.hid hf7; rw [HN.out]; have HRG0 : Hid (w5.heap.size ≤ rg0) := Lib.hid (Nat.le_trans (by simp) hrg0); (try (have hx7 := hk7.heap (heap_newA _ _) (by simp; omega); have HX7 := Lib.hid hx7; clear hx7)); clear hk57 hk7 hv7 hf7 hrg0; refine ⟨_, rfl, (fun kk hkk => HK7.out.block kk ((HKP.out kk).1 hkk).1 (by simpa using ((HKP.out kk).1 hkk).2)), hK _ _ ?_⟩; clear hK K) | (go_at_call 38; (with_reducible refine (HPICK.out _ rg0 (by first | exact HK7.out | exact HK7.out.alloc _) (by first | exact HV7.out | exact HV7.out.below ((Below.refl _ _).alloc (Nat.le_refl _) _))).mono ?_); rintro e w8 ⟨rg, rfl, hrg, hv8, hb8⟩; have hk58 : Kp [fb] w5 w8 := Kp.below_step (by first | exact HK7.out | exact HK7.out.alloc _) hb8; have hf8 : FOk w8 fb := FOk.below (by first | exact HF7.out | exact HF7.out.below ((Below.refl _ _).alloc (Nat.le_refl _) _)) hb8; rw [HQ.out] at hv8; rw [HQ.out]; have HV8 := Lib.hid hv8; have HK8 := Lib.hid hk58; have HF8 := Lib.hid hf8; have HRGW := Lib.hid hrg; have HRG : Hid (w5.heap.size ≤ rg) := Lib.hid (Nat.le_trans HK7.out.size (Nat.le_trans (by simp) hrg)); (try (have hx8 := keepB hb8 (heap_newA _ _); have HX8 := Lib.hid hx8; have y0 := cell_of_heap hx8 (j := 0) rfl; have y1 := cell_of_heap hx8 (j := 1) rfl; have y2 := cell_of_heap hx8 (j := 2) rfl; have z0 := free_of_heap hx8 0; have z1 := free_of_heap hx8 1; have z2 := free_of_heap hx8 2; clear hx8)); (try (have hx8 := keepB hb8 HX7.out; have HX8 := Lib.hid hx8; have y0 := cell_of_heap hx8 (j := 0) rfl; have y1 := cell_of_heap hx8 (j := 1) rfl; have y2 := cell_of_heap hx8 (j := 2) rfl; have z0 := free_of_heap hx8 0; have z1 := free_of_heap hx8 1; have z2 := free_of_heap hx8 2; clear hx8)); clear hv8 hk58 hf8 hrg hb8; refine ⟨_, rfl, (fun kk hkk => HK8.out.block kk ((HKP.out kk).1 hkk).1 (by simpa using ((HKP.out kk).1 hkk).2)), hK _ _ ?_⟩; clear hK K)))
                first
                  | with_reducible refine wpSlimT_done ?_
                  | refine wpSlimT_fork ?_ ?_
                    all_goals
                      repeat (first | (fail) | ((with_reducible refine wpSlimT_step (fun K hK => ?_)); go_simp; first | (refine hK _ _ ?_; clear hK K) | (refine ⟨by (intro kk hkk; first | (simp (disch := (simp; omega)) only [hp_drew, hp_drewN, hp_alloc, hp_set]; done) | (simp [hp_drew, hp_drewN, hp_alloc_if, hkk]; done) | first | exact (show Kp [fb] wc _ from by (repeat' (first | exact HK13.out | exact Kp.refl _ _ | refine Kp.alloc ?_ _ | refine Kp.drew ?_ | refine Kp.setCell ?_ (.inr (by first | (simp; done) | (simp; omega) | (have := HK13.out.size; simp; omega))) _))).block kk ((HKP9.out kk).1 hkk).1 (by simpa using ((HKP9.out kk).1 hkk).2) | exact (show Kp [fb] w5 _ from by (repeat' (first | exact HK8.out | exact HK7.out | exact Kp.refl _ _ | refine Kp.alloc ?_ _ | refine Kp.drew ?_ | refine Kp.setCell ?_ (.inr (by first | (simp; done) | (simp; omega) | (have := HK7.out.size; simp; omega))) _))).block kk ((HKP.out kk).1 hkk).1 (by simpa using ((HKP.out kk).1 hkk).2)), hK _ _ ?_⟩; clear hK K)| (go_at_call 39; (with_reducible refine (HPOW.out _ (by first | exact Below.refl _ _ | exact (Below.refl _ _).drew | exact ((Below.refl _ _).drew).alloc (Nat.le_refl _) _ | exact ((Below.refl _ _).alloc (Nat.le_refl _) _).drew)).mono ?_); rintro e w7 ⟨rg0, rfl, hrg0, hv7, hk7, hf7⟩; have hk57 := (Kp.of_below (S := [fb]) (a := w5) (by first | exact Below.refl _ _ | exact (Below.refl _ _).drew | exact ((Below.refl _ _).drew).alloc (Nat.le_refl _) _ | exact ((Below.refl _ _).alloc (Nat.le_refl _) _).drew)).trans hk7; have HK7 := Lib.hid hk57; rw [HN.out] at hv7; have HV7 := Lib.hid hv7; have HF7 := Lib.hid hf7; rw [HN.out]; have HRG0 : Hid (w5.heap.size ≤ rg0) := Lib.hid (Nat.le_trans (by simp) hrg0); (try (have hx7 := hk7.heap (heap_newA _ _) (by simp; omega); have HX7 := Lib.hid hx7; clear hx7)); clear hk57 hk7 hv7 hf7 hrg0; refine ⟨_, rfl, (fun kk hkk => HK7.out.block kk ((HKP.out kk).1 hkk).1 (by simpa using ((HKP.out kk).1 hkk).2)), hK _ _ ?_⟩; clear hK K) | (go_at_call 38; (with_reducible refine (HPICK.out _ rg0 (by first | exact HK7.out | exact HK7.out.alloc _) (by first | exact HV7.out | exact HV7.out.below ((Below.refl _ _).alloc (Nat.le_refl _) _))).mono ?_); rintro e w8 ⟨rg, rfl, hrg, hv8, hb8⟩; have hk58 : Kp [fb] w5 w8 := Kp.below_step (by first | exact HK7.out | exact HK7.out.alloc _) hb8; have hf8 : FOk w8 fb := FOk.below (by first | exact HF7.out | exact HF7.out.below ((Below.refl _ _).alloc (Nat.le_refl _) _)) hb8; rw [HQ.out] at hv8; rw [HQ.out]; have HV8 := Lib.hid hv8; have HK8 := Lib.hid hk58; have HF8 := Lib.hid hf8; have HRGW := Lib.hid hrg; have HRG : Hid (w5.heap.size ≤ rg) := Lib.hid (Nat.le_trans HK7.out.size (Nat.le_trans (by simp) hrg)); (try (have hx8 := keepB hb8 (heap_newA _ _); have HX8 := Lib.hid hx8; have y0 := cell_of_heap hx8 (j := 0) rfl; have y1 := cell_of_heap hx8 (j := 1) rfl; have y2 := cell_of_heap hx8 (j := 2) rfl; have z0 := free_of_heap hx8 0; have z1 := free_of_heap hx8 1; have z2 := free_of_heap hx8 2; clear hx8)); (try (have hx8 := keepB hb8 HX7.out; have HX8 := Lib.hid hx8; have y0 := cell_of_heap hx8 (j := 0) rfl; have y1 := cell_of_heap hx8 (j := 1) rfl; have y2 := cell_of_heap hx8 (j := 2) rfl; have z0 := free_of_heap hx8 0; have z1 := free_of_heap hx8 1; have z2 := free_of_heap hx8 2; clear hx8)); clear hv8 hk58 hf8 hrg hb8; refine ⟨_, rfl, (fun kk hkk => HK8.out.block kk ((HKP.out kk).1 hkk).1 (by simpa using ((HKP.out kk).1 hkk).2)), hK _ _ ?_⟩; clear hK K)))
                      with_reducible refine wpSlimT_done ?_
          all_goals clear hgr
          all_goals
            go_wp2
            go_meet
            have hrg := HRGW.out
            have hs7 := HK7.out.size
            have hs8 := HK8.out.size
            (try simp at hrg)
            (try (have hl7 := lt_of_heap HX7.out))
            (try simp at hl7)
            first
              | exact ⟨_, rg, rfl, rfl, by omega, HRG.out, Lib.hid (heap_newA _ _), Lib.hid (HV8.out.below ((Below.refl _ _).alloc (Nat.le_refl _) _)), Lib.hid (HK8.out.alloc _), Lib.hid (HF8.out.below ((Below.refl _ _).alloc (Nat.le_refl _) _))⟩
              | exact ⟨_, rg, rfl, rfl, by omega, HRG.out, Lib.hid (store3_heap HX8.out _ _ _), Lib.hid (HV8.out.kp (store3_kp _ _ _ _ _) (by simp; omega)), Lib.hid (HK8.out.step (store3_kp _ _ _ _ _) (fun x hx => by simp at hx; right; omega)), Lib.hid (HF8.out.kp (store3_kp _ _ _ _ _) (by simp; omega))⟩
        case rest =>
          obtain ⟨rb, rg, rfl, rfl, hrb, hrg, HR9, HV9, HK9, HF9⟩ := hcut
          obtain ⟨A, hA⟩ : ∃ A, A = fun i c => pw (xs.getD (ps.getD i 0).toNat 0) c := ⟨_, rfl⟩
          rw [← hA] at HV9
          have HA := Lib.hid hA
          have HSOL : Hid (∀ W, Kp [fb] wc W → FOk W fb → Calls Tryz.prog 40 #[.pointer (some ⟨fb, 0, none⟩), .agg #[.int .i64 Q, .int .i64 k, .slice (some ⟨rg, 0, none⟩) (Q * k) (Q * k)], .agg #[.int .i64 Q, .int .i64 1, .slice ay Q capy]] W (SolD fb Q k A (fun i _ => ys.getD i 0) W)) := Lib.hid fun W hk hf => by
            have hg1 := (HV9.out.kp hk (by simp; omega)).rd (o := 0) (m := Q * k) (cap := Q * k) (by omega) (Nat.le_refl _)
            have hya2 : Apart (.slice ay ys.length capy) [fb] := by
              rcases HYA.out with e | e
              · have h0 := HYL.out
                rw [e] at h0
                simp at h0
                omega
              · exact e
            have hg2 : GRd W (.slice ay ys.length capy) ys := HY.out.kp (((Kp.of_below HK5.out).trans HK9.out).trans hk) hya2
            rw [HYL.out] at hg2
            have hm := Nat.mul_le_mul hpl (show k ≤ 256 by omega)
            refine (solve_any fb Q k 1 (Q * k) Q _ _ _ _ _ _ A (fun i _ => ys.getD i 0) W hf hg1 hg2 rfl (Nat.mul_one _) (fun j hj => ?_) (fun j hj => ?_) (by omega) hk0 (by omega) (by omega) (by omega) (by omega) (by omega) (by omega)).mono fun e w' h => sold_of h
            · rw [getD_rangeMap _ hj, Nat.zero_add]
            · have := flat_at (by omega : 0 < 1) (fun i (_ : Nat) => ys.getD i 0) j 0 (by omega)
              simpa using this.symm
          have HC9 := Lib.hid (HC5.out.step HK9.out HF9.out)
          have HKW := Lib.hid ((Kp.of_below (S := [fb]) HK5.out).trans HK9.out)
          clear hA
          have d0 := cell_of_heap HC9.out.box (j := 0) rfl
          have m0 := cell_of_heap HR9.out (j := 0) rfl
          have m1 := cell_of_heap HR9.out (j := 1) rfl
          have m2 := cell_of_heap HR9.out (j := 2) rfl
          have hcb9 := lt_of_heap HC9.out.box
          have hrb9 := lt_of_heap HR9.out
          have hfb9 := HF9.out.lt
          obtain ⟨kp9, hkp9⟩ : ∃ kp : Nat → Bool, ∀ j, kp j = true ↔ j < wc.heap.size ∧ j ≠ fb := ⟨fun j => decide (j < wc.heap.size ∧ j ≠ fb), by simp⟩
          have k91 : kp9 cb = true := (hkp9 _).2 ⟨hcb9, HC9.out.ne⟩
          have k92 : kp9 rb = true := (hkp9 _).2 ⟨hrb9, by omega⟩
          have HKP9 := Lib.hid hkp9
          clear hkp9 cc0 cc1 cc2 hcb
          go_upto_region 12 with fail
          go_cut [11, 12] (fun s11 s12 wx => ∃ (xb a b : Nat) (sa : Option Addr) (sn sc : Nat) (ec : Int), s12 = .pointer (some ⟨xb, 0, none⟩) ∧ s11 = .int .i64 ec ∧ Hid (wx.heap[xb]? = some (.cells #[.int .i64 a, .int .i64 b, .slice sa sn sc] 72 (0, 0))) ∧ Hid (Kp [fb] wc wx) ∧ Hid (FOk wx fb) ∧ Hid (SolR wc.heap.size Q k A (fun i _ => ys.getD i 0) (.slice sa sn sc) ec wx))
          case first =>
            have hgr := fun (w0 W : World) (p : Addr) (hp : (fun j => kp9 j = true) p.block) => graft_cell (w0 := w0) (keep := (fun j => kp9 j = true)) W hp
            refine wp_region_tree (fun j => kp9 j = true) [10, 14, 15] (.step 0 (.step 1 (.step 2 (.step 3 (.step 4 (.step 5 (.step 6 (.step 7 (.step 8 (.step 9 (.fork 10 (.step 11 (.step 12 (.step 13 (.step 14 (.step 15 (.step 16 .done)))))) 14 (.step 10 (.step 11 (.step 12 (.step 13 (.step 15 (.step 16 .done))))))))))))))))) (by kernel_rfl) (by kernel_rfl) ?_
            simp only [slimTr, slimStep, Oper.slim, List.contains_cons, List.contains_nil, Option.map_none, Option.map_some, List.getElem?_toArray, List.getElem?_cons_zero, List.getElem?_cons_succ, Option.bind_some, beq_self_eq_true, Bool.or_false, Nat.reduceBEq, Nat.reduceAdd, Nat.zero_add]
            repeat (first | (fail) | ((with_reducible refine wpSlimT_step (fun K hK => ?_)); go_simp; first | (refine hK _ _ ?_; clear hK K) | (refine ⟨by (intro kk hkk; first | (simp (disch := (simp; omega)) only [hp_drew, hp_drewN, hp_alloc, hp_set]; done) | (simp [hp_drew, hp_drewN, hp_alloc_if, hkk]; done) | first | exact (show Kp [fb] wc _ from by (repeat' (first | exact HK13.out | exact Kp.refl _ _ | refine Kp.alloc ?_ _ | refine Kp.drew ?_ | refine Kp.setCell ?_ (.inr (by first | (simp; done) | (simp; omega) | (have := HK13.out.size; simp; omega))) _))).block kk ((HKP9.out kk).1 hkk).1 (by simpa using ((HKP9.out kk).1 hkk).2) | exact (show Kp [fb] w5 _ from by (repeat' (first | exact HK8.out | exact HK7.out | exact Kp.refl _ _ | refine Kp.alloc ?_ _ | refine Kp.drew ?_ | refine Kp.setCell ?_ (.inr (by first | (simp; done) | (simp; omega) | (have := HK7.out.size; simp; omega))) _))).block kk ((HKP.out kk).1 hkk).1 (by simpa using ((HKP.out kk).1 hkk).2)), hK _ _ ?_⟩; clear hK K)| (go_at_call 40; (with_reducible refine (HSOL.out _ (by (repeat' (first | exact HK13.out | exact Kp.refl _ _ | refine Kp.alloc ?_ _ | refine Kp.drew ?_ | refine Kp.setCell ?_ (.inr (by first | (simp; done) | (simp; omega) | (have := HK13.out.size; simp; omega))) _))) (HF9.out.below (by first | exact Below.refl _ _ | exact (Below.refl _ _).drew | exact ((Below.refl _ _).drew).alloc (Nat.le_refl _) _ | exact ((Below.refl _ _).alloc (Nat.le_refl _) _).drew))).mono ?_); rintro e w13 ⟨a, b, sa, sn, sc, ec, rfl, hk13, hf13, hs13⟩; have HK13 : Hid (Kp [fb] wc w13) := Lib.hid (Kp.trans (by (repeat' (first | exact HK13.out | exact Kp.refl _ _ | refine Kp.alloc ?_ _ | refine Kp.drew ?_ | refine Kp.setCell ?_ (.inr (by first | (simp; done) | (simp; omega) | (have := HK13.out.size; simp; omega))) _))) hk13); have HF13 := Lib.hid hf13; have HS13 := Lib.hid hs13; (try (have hx13 := hk13.heap (heap_newA _ _) (by simp; omega); have HX13 := Lib.hid hx13; have y0 := cell_of_heap hx13 (j := 0) rfl; have y1 := cell_of_heap hx13 (j := 1) rfl; have y2 := cell_of_heap hx13 (j := 2) rfl; have z0 := free_of_heap hx13 0; have z1 := free_of_heap hx13 1; have z2 := free_of_heap hx13 2; clear hx13)); clear hk13 hf13 hs13; refine ⟨_, rfl, (fun kk hkk => HK13.out.block kk ((HKP9.out kk).1 hkk).1 (by simpa using ((HKP9.out kk).1 hkk).2)), hK _ _ ?_⟩; clear hK K)))
            first
              | with_reducible refine wpSlimT_done ?_
              | refine wpSlimT_fork ?_ ?_
                all_goals
                  repeat (first | (fail) | ((with_reducible refine wpSlimT_step (fun K hK => ?_)); go_simp; first | (refine hK _ _ ?_; clear hK K) | (refine ⟨by (intro kk hkk; first | (simp (disch := (simp; omega)) only [hp_drew, hp_drewN, hp_alloc, hp_set]; done) | (simp [hp_drew, hp_drewN, hp_alloc_if, hkk]; done) | first | exact (show Kp [fb] wc _ from by (repeat' (first | exact HK13.out | exact Kp.refl _ _ | refine Kp.alloc ?_ _ | refine Kp.drew ?_ | refine Kp.setCell ?_ (.inr (by first | (simp; done) | (simp; omega) | (have := HK13.out.size; simp; omega))) _))).block kk ((HKP9.out kk).1 hkk).1 (by simpa using ((HKP9.out kk).1 hkk).2) | exact (show Kp [fb] w5 _ from by (repeat' (first | exact HK8.out | exact HK7.out | exact Kp.refl _ _ | refine Kp.alloc ?_ _ | refine Kp.drew ?_ | refine Kp.setCell ?_ (.inr (by first | (simp; done) | (simp; omega) | (have := HK7.out.size; simp; omega))) _))).block kk ((HKP.out kk).1 hkk).1 (by simpa using ((HKP.out kk).1 hkk).2)), hK _ _ ?_⟩; clear hK K)| (go_at_call 40; (with_reducible refine (HSOL.out _ (by (repeat' (first | exact HK13.out | exact Kp.refl _ _ | refine Kp.alloc ?_ _ | refine Kp.drew ?_ | refine Kp.setCell ?_ (.inr (by first | (simp; done) | (simp; omega) | (have := HK13.out.size; simp; omega))) _))) (HF9.out.below (by first | exact Below.refl _ _ | exact (Below.refl _ _).drew | exact ((Below.refl _ _).drew).alloc (Nat.le_refl _) _ | exact ((Below.refl _ _).alloc (Nat.le_refl _) _).drew))).mono ?_); rintro e w13 ⟨a, b, sa, sn, sc, ec, rfl, hk13, hf13, hs13⟩; have HK13 : Hid (Kp [fb] wc w13) := Lib.hid (Kp.trans (by (repeat' (first | exact HK13.out | exact Kp.refl _ _ | refine Kp.alloc ?_ _ | refine Kp.drew ?_ | refine Kp.setCell ?_ (.inr (by first | (simp; done) | (simp; omega) | (have := HK13.out.size; simp; omega))) _))) hk13); have HF13 := Lib.hid hf13; have HS13 := Lib.hid hs13; (try (have hx13 := hk13.heap (heap_newA _ _) (by simp; omega); have HX13 := Lib.hid hx13; have y0 := cell_of_heap hx13 (j := 0) rfl; have y1 := cell_of_heap hx13 (j := 1) rfl; have y2 := cell_of_heap hx13 (j := 2) rfl; have z0 := free_of_heap hx13 0; have z1 := free_of_heap hx13 1; have z2 := free_of_heap hx13 2; clear hx13)); clear hk13 hf13 hs13; refine ⟨_, rfl, (fun kk hkk => HK13.out.block kk ((HKP9.out kk).1 hkk).1 (by simpa using ((HKP9.out kk).1 hkk).2)), hK _ _ ?_⟩; clear hK K)))
                  with_reducible refine wpSlimT_done ?_
            all_goals clear hgr
            all_goals
              go_wp2
              go_meet
              have hs13 := HK13.out.size
              first
                | exact ⟨_, a, b, sa, sn, sc, ec, rfl, rfl, Lib.hid (heap_newA _ _), Lib.hid (HK13.out.alloc _), Lib.hid (HF13.out.below ((Below.refl _ _).alloc (Nat.le_refl _) _)), Lib.hid (HS13.out.kp (Kp.of_below (S := []) ((Below.refl _ _).alloc (Nat.le_refl _) _)) (by simp) (by simp))⟩
                | exact ⟨_, a, b, sa, sn, sc, ec, rfl, rfl, Lib.hid (store3_heap HX13.out _ _ _), Lib.hid (HK13.out.step (store3_kp _ _ _ _ _) (fun x hx => by simp at hx; right; omega)), Lib.hid (HF13.out.kp (store3_kp _ _ _ _ _) (by simp; omega)), Lib.hid (HS13.out.kp (store3_kp _ _ _ _ _) (fun x hx => by simp at hx ⊢; omega) (by simp))⟩
          case rest =>
            obtain ⟨xb, a, b, sa, sn, sc, ec, rfl, rfl, HX14, HK14, HF14, HS14⟩ := hcut
            have hps : GoodP xs.length ps := by rw [HN.out]; exact HGOOD.out
            have hkps : k ≤ ps.length := by rw [HQ.out]; exact hkQ
            have HPS := Lib.hid (And.intro hps hkps)
            clear hps hkps
            rcases HS14.out with ⟨rfl, g, X, h2, h3, h4, h5⟩ | ⟨rfl, h6⟩
            · obtain ⟨rfl, rfl, rfl⟩ := (Value.slice.injEq ..).mp h2
              have HV14 := Lib.hid h4
              have HMET := Lib.hid h5
              have n2 := cell_of_heap HX14.out (j := 2) rfl
              clear h2 h4 h5 d0 m0 m1 m2 k91 k92
              go_wp2
              go_ret2
              have hle : w.heap.size ≤ g := by have := HKW.out.size; omega
              refine ⟨HKW.out.trans HK14.out, HF14.out, .inr ⟨⟨by rw [HQ.out, HYL.out], HPS.out.1⟩, .inr ⟨HPS.out.2, .inl ⟨g, (List.range sc).map X, rfl, hle, HV14.out.congr fun j hj => (getD_rangeMap X hj).symm, ?_⟩⟩⟩⟩
              refine (met_fits (by simp)).1 fun i hi => ?_
              have := HMET.out i (by rw [← HQ.out]; exact hi)
              rw [HA.out, eqn_iff] at this
              rw [eqn_iff, ← this]
              exact sm_congr fun c hc => by rw [getD_rangeMap X hc]
            · have HH := Lib.hid h6
              clear h6 d0 m0 m1 m2 k91 k92
              go_wp2
              go_ret2
              refine ⟨HKW.out.trans HK14.out, HF14.out, .inr ⟨⟨by rw [HQ.out, HYL.out], HPS.out.1⟩, .inr ⟨HPS.out.2, .inr ⟨rfl, fun m hm => ?_⟩⟩⟩⟩
              rcases HH.out with ⟨x, ⟨c, hc, hne⟩, hz⟩ | h
              · refine hne (no_kernel HND.out HPS.out.1 HPS.out.2 (fun i hi => ?_) c hc)
                have := hz i (by rw [← HQ.out]; exact hi)
                rwa [HA.out] at this
              · refine h (fun c => m.getD c 0) ?_
                rw [HA.out, ← HQ.out]
                exact (met_fits hm.1).2 hm
    · go_wp2
      go_ret2
      exact ⟨(Kp.refl _ _).below_step HK5.out, HC5.out.ok, .inl ⟨fun _ hg => (by
        obtain ⟨i, x, hx, hbad⟩ := HB2.out (by trivial)
        rw [HN.out] at hg
        rw [(good_iff _ _).2 hg i x hx] at hbad
        cases hbad), rfl⟩⟩
  · have hQY' : ¬ (Q : Int) = (Y : Int) := by omega
    go_enter Tryz.func19, Tryz.ntmps19
    go_wp2_with fail
    rw [← hW1]
    go_ret2
    exact ⟨(Kp.refl _ _).below_step HB1.out, HC.out.ok.below HB1.out, .inl ⟨fun e => by rw [HQ.out, HYL.out] at e; exact absurd e hQY, rfl⟩⟩
theorem decode_any (w : World) (cb fb k : Nat) (v pv yv : Value) (xs : List GF) (ps : List Int) (ys : List GF) (h : CodeAt w cb fb k v xs) (hn : xs.Nodup) (hk0 : 0 < k) (hkn : k ≤ xs.length) (hxl : xs.length ≤ 256)
    (hp : IRd w pv ps) (hy : GRd w yv ys) (hpa : Apart pv [fb]) (hya : Apart yv [fb]) (hpl : ps.length ≤ 256) (hyl : ys.length ≤ 1000000000) :
    Calls Tryz.prog 19 #[.pointer (some ⟨cb, 0, none⟩), pv, yv] w (DecPost fb xs k ps ys w) :=
  decode_gen w cb fb k v pv yv xs ps ys h hn hk0 hkn hxl hp hy (.inr hpa) (.inr hya) hpl hyl
end Go.Proofs.YteeeocianofkfaaGreat
