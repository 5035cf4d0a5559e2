/-
  The closures of config.shape: what each kind of code amounts to.
-/
import Derived.Test.YtpfhejodjpgliaaRows
import Derived.Test.YtpfhejodjpgliaaRegion
import Derived.Test.YtpfhejodjpgliaaCfgPlain
import Derived.Test.YtpfhejodjpgliaaCommon
import Derived.WalkKit
import Derived.WalkSpells
import Derived.WalkLawsBesides
import Derived.Deep.QuietTactic
import Derived.BigQuiet
import Derived.Lib.Hide
import Derived.Handy
namespace Go.Proofs.Ytpfhejodjpgliaa
open Go.RowKit
set_option linter.unusedSimpArgs false
set_option linter.unusedVariables false
set_option maxHeartbeats 8000000 in
theorem msr_any (b : Nat) (n k d r t : Int) (w : World) (hb : b < w.heap.size)
  (h1 : w.cell? ⟨b, 1, none⟩ = some (.int .i64 n)) (h2 : w.cell? ⟨b, 2, none⟩ = some (.int .i64 k)) (h3 : w.cell? ⟨b, 3, none⟩ = some (.int .i64 d)) (h4 : w.cell? ⟨b, 4, none⟩ = some (.int .i64 r)) (h5 : w.cell? ⟨b, 5, none⟩ = some (.int .i64 t))
  (hn : 1 ≤ n ∧ n ≤ 255) (hk : 1 ≤ k ∧ k ≤ 255) (hd : 0 ≤ d ∧ d ≤ 255) (hr : 0 ≤ r ∧ r ≤ 255) (ht : 0 ≤ t ∧ t ≤ 255) :
    Calls Try.prog 19 #[.pointer (some ⟨b, 0, none⟩)] w fun e w' => e = .returned (.tuple #[(shMsr k d t).v, .bool (okMsr n k d r)]) ∧ Below w.heap.size w w' := by
  obtain ⟨al, hal⟩ : ∃ al, d - k + 1 = al := ⟨_, rfl⟩
  have qa : -254 ≤ al ∧ al ≤ 255 := by omega
  have q1 : -64770 ≤ k * al ∧ k * al ≤ 65025 := by
    rcases Int.le_total 0 al with h | h
    · have := mul_bd (a := k) (b := al) (by omega) hk.2 h qa.2
      omega
    · have := mul_bd (a := k) (b := - al) (by omega) hk.2 (by omega) (show - al ≤ 254 by omega)
      rw [Int.mul_neg] at this
      omega
  have e1 : IntKind.i64.wrap (2 * t) = 2 * t := IntWalk.i64_in _ (by omega)
  have e2 : IntKind.i64.wrap (d + 2 * t) = d + 2 * t := IntWalk.i64_in _ (by omega)
  have e5 : IntKind.i64.wrap (k * al) = k * al := IntWalk.i64_in _ (by omega)
  have e6 : IntKind.i64.wrap (n + d) = n + d := IntWalk.i64_in _ (by omega)
  have e7 : IntKind.i64.wrap (2 * k) = 2 * k := IntWalk.i64_in _ (by omega)
  have e8 : IntKind.i64.wrap (n + d - 2 * k) = n + d - 2 * k := IntWalk.i64_in _ (by omega)
  have e9 : IntKind.i64.wrap (n + d - 2 * k + 2) = n + d - 2 * k + 2 := IntWalk.i64_in _ (by omega)
  by_cases c1 : r = 0
  · by_cases c2 : 1 < k
    · by_cases c3 : 2 * k - 2 ≤ d
      · by_cases c4 : d < n
        · by_cases c5 : al ≤ 16
          · obtain ⟨g, hg⟩ : ∃ g : Int, g = (Int.gcd al 255 : Nat) := ⟨_, rfl⟩
            have hcall : ∀ w, Calls Try.prog 20 #[.int .i64 al, .int .i64 255] w fun e w' => e = .returned (.int .i64 g) ∧ ∃ n, w' = w.drewN n := fun w => by
              rw [hg]; exact common_any _ _ w (by omega) (by omega) (by omega) (by omega)
            have g1 : 1 ≤ g := by
              have : Int.gcd al 255 ≠ 0 := by simp [Int.gcd_eq_zero_iff]
              omega
            have g2 : g ≤ 255 := by
              have : Int.gcd al 255 ≤ 255 := Nat.le_of_dvd (by omega) (Nat.gcd_dvd_right _ _)
              omega
            have hok : okMsr n k d r = (((((decide (r = 0) && decide (1 < k)) && decide (2 * k - 2 ≤ d)) && decide (d < n)) && decide (al ≤ 16)) && decide (n + d - 2 * k + 2 ≤ 255 / g)) := by unfold okMsr; rw [hal, ← hg]
            have HC := Lib.hid hcall
            have HO := Lib.hid hok
            clear hcall hg hok
            have g3 : ¬ g = 0 := by omega
            have g4 : Int.tdiv 255 g = 255 / g := Int.tdiv_eq_ediv_of_nonneg (by omega)
            have g6 : 0 ≤ 255 / g ∧ 255 / g ≤ 255 := ⟨Int.ediv_nonneg (by omega) (by omega), Int.ediv_le_self _ (by omega)⟩
            have g5 : IntKind.i64.wrap (255 / g) = 255 / g := IntWalk.i64_in _ (by omega)
            go_enter Try.func19, Try.ntmps19
            go_wp2
            have hgr := fun (w0 W : World) (p : Addr) (hp : (fun k => k < w.heap.size) p.block) => graft_cell (w0 := w0) (keep := (fun k => k < w.heap.size)) W hp
            refine wp_region_here (fun k => k < w.heap.size) [27, 31] (by kernel_rfl) (by kernel_rfl) ?_
            simp only [slimAll, Oper.slim, List.contains_cons, List.contains_nil, Option.map_none, Option.map_some, List.getElem?_toArray, List.getElem?_cons_zero, List.getElem?_cons_succ, Option.bind_some, beq_self_eq_true, Bool.or_false, Nat.reduceBEq, Nat.reduceAdd, Nat.zero_add]
            repeat ((with_reducible refine wpSlim_step (fun K hK => ?_)); go_simp; first | (refine hK _ _ ?_; clear hK K) | (refine ⟨by (intro kk hkk; first | (simp (disch := (simp; omega)) only [hp_drew, hp_drewN, hp_alloc, hp_set]; done) | (simp [hp_drew, hp_drewN, hp_alloc_if, hkk]; done)), hK _ _ ?_⟩; clear hK K)| (refine (HC.out _).mono ?_; rintro e w' ⟨rfl, nn, rfl⟩; refine ⟨_, rfl, by (intro kk hkk; first | (simp (disch := (simp; omega)) only [hp_drew, hp_drewN, hp_alloc, hp_set]; done) | (simp [hp_drew, hp_drewN, hp_alloc_if, hkk]; done)), hK _ _ ?_⟩; clear hK K))
            refine wpSlim_nil ?_
            clear hgr
            go_wp2
            go_returns
            refine ⟨by first | (rw [HO.out]; simp [shMsr, Sh.v, *]) | (simp [okMsr, shMsr, Sh.v, *]), by (repeat' (first | (with_reducible exact Below.refl _ _) | (with_reducible assumption) | (with_reducible refine bel_drewN ?_ _) | (with_reducible refine Below.drew ?_) | (with_reducible refine Below.alloc ?_ ?_ _) | (with_reducible refine Below.setCell ?_ ?_ _) | (simp; done) | (simp; omega)))⟩
          · have c5f0 : decide (al ≤ 16) = false := decide_eq_false c5
            go_enter Try.func19, Try.ntmps19
            go_wp2
            have hgr := fun (w0 W : World) (p : Addr) (hp : (fun k => k < w.heap.size) p.block) => graft_cell (w0 := w0) (keep := (fun k => k < w.heap.size)) W hp
            refine wp_region_here (fun k => k < w.heap.size) [27, 31] (by kernel_rfl) (by kernel_rfl) ?_
            simp only [slimAll, Oper.slim, List.contains_cons, List.contains_nil, Option.map_none, Option.map_some, List.getElem?_toArray, List.getElem?_cons_zero, List.getElem?_cons_succ, Option.bind_some, beq_self_eq_true, Bool.or_false, Nat.reduceBEq, Nat.reduceAdd, Nat.zero_add]
            repeat ((with_reducible refine wpSlim_step (fun K hK => ?_)); go_simp; first | (refine hK _ _ ?_; clear hK K) | (refine ⟨by (intro kk hkk; first | (simp (disch := (simp; omega)) only [hp_drew, hp_drewN, hp_alloc, hp_set]; done) | (simp [hp_drew, hp_drewN, hp_alloc_if, hkk]; done)), hK _ _ ?_⟩; clear hK K))
            refine wpSlim_nil ?_
            clear hgr
            go_wp2
            go_returns
            refine ⟨by simp [okMsr, shMsr, Sh.v, *], by (repeat' (first | (with_reducible exact Below.refl _ _) | (with_reducible assumption) | (with_reducible refine bel_drewN ?_ _) | (with_reducible refine Below.drew ?_) | (with_reducible refine Below.alloc ?_ ?_ _) | (with_reducible refine Below.setCell ?_ ?_ _) | (simp; done) | (simp; omega)))⟩
        · have c4f0 : decide (d < n) = false := decide_eq_false c4
          go_enter Try.func19, Try.ntmps19
          go_wp2
          have hgr := fun (w0 W : World) (p : Addr) (hp : (fun k => k < w.heap.size) p.block) => graft_cell (w0 := w0) (keep := (fun k => k < w.heap.size)) W hp
          refine wp_region_here (fun k => k < w.heap.size) [27, 31] (by kernel_rfl) (by kernel_rfl) ?_
          simp only [slimAll, Oper.slim, List.contains_cons, List.contains_nil, Option.map_none, Option.map_some, List.getElem?_toArray, List.getElem?_cons_zero, List.getElem?_cons_succ, Option.bind_some, beq_self_eq_true, Bool.or_false, Nat.reduceBEq, Nat.reduceAdd, Nat.zero_add]
          repeat ((with_reducible refine wpSlim_step (fun K hK => ?_)); go_simp; first | (refine hK _ _ ?_; clear hK K) | (refine ⟨by (intro kk hkk; first | (simp (disch := (simp; omega)) only [hp_drew, hp_drewN, hp_alloc, hp_set]; done) | (simp [hp_drew, hp_drewN, hp_alloc_if, hkk]; done)), hK _ _ ?_⟩; clear hK K))
          refine wpSlim_nil ?_
          clear hgr
          go_wp2
          go_returns
          refine ⟨by simp [okMsr, shMsr, Sh.v, *], by (repeat' (first | (with_reducible exact Below.refl _ _) | (with_reducible assumption) | (with_reducible refine bel_drewN ?_ _) | (with_reducible refine Below.drew ?_) | (with_reducible refine Below.alloc ?_ ?_ _) | (with_reducible refine Below.setCell ?_ ?_ _) | (simp; done) | (simp; omega)))⟩
      · have c3f0 : decide (2 * k - 2 ≤ d) = false := decide_eq_false c3
        go_enter Try.func19, Try.ntmps19
        go_wp2
        have hgr := fun (w0 W : World) (p : Addr) (hp : (fun k => k < w.heap.size) p.block) => graft_cell (w0 := w0) (keep := (fun k => k < w.heap.size)) W hp
        refine wp_region_here (fun k => k < w.heap.size) [27, 31] (by kernel_rfl) (by kernel_rfl) ?_
        simp only [slimAll, Oper.slim, List.contains_cons, List.contains_nil, Option.map_none, Option.map_some, List.getElem?_toArray, List.getElem?_cons_zero, List.getElem?_cons_succ, Option.bind_some, beq_self_eq_true, Bool.or_false, Nat.reduceBEq, Nat.reduceAdd, Nat.zero_add]
        repeat ((with_reducible refine wpSlim_step (fun K hK => ?_)); go_simp; first | (refine hK _ _ ?_; clear hK K) | (refine ⟨by (intro kk hkk; first | (simp (disch := (simp; omega)) only [hp_drew, hp_drewN, hp_alloc, hp_set]; done) | (simp [hp_drew, hp_drewN, hp_alloc_if, hkk]; done)), hK _ _ ?_⟩; clear hK K))
        refine wpSlim_nil ?_
        clear hgr
        go_wp2
        go_returns
        refine ⟨by simp [okMsr, shMsr, Sh.v, *], by (repeat' (first | (with_reducible exact Below.refl _ _) | (with_reducible assumption) | (with_reducible refine bel_drewN ?_ _) | (with_reducible refine Below.drew ?_) | (with_reducible refine Below.alloc ?_ ?_ _) | (with_reducible refine Below.setCell ?_ ?_ _) | (simp; done) | (simp; omega)))⟩
    · have c2f0 : decide (1 < k) = false := decide_eq_false c2
      go_enter Try.func19, Try.ntmps19
      go_wp2
      have hgr := fun (w0 W : World) (p : Addr) (hp : (fun k => k < w.heap.size) p.block) => graft_cell (w0 := w0) (keep := (fun k => k < w.heap.size)) W hp
      refine wp_region_here (fun k => k < w.heap.size) [27, 31] (by kernel_rfl) (by kernel_rfl) ?_
      simp only [slimAll, Oper.slim, List.contains_cons, List.contains_nil, Option.map_none, Option.map_some, List.getElem?_toArray, List.getElem?_cons_zero, List.getElem?_cons_succ, Option.bind_some, beq_self_eq_true, Bool.or_false, Nat.reduceBEq, Nat.reduceAdd, Nat.zero_add]
      repeat ((with_reducible refine wpSlim_step (fun K hK => ?_)); go_simp; first | (refine hK _ _ ?_; clear hK K) | (refine ⟨by (intro kk hkk; first | (simp (disch := (simp; omega)) only [hp_drew, hp_drewN, hp_alloc, hp_set]; done) | (simp [hp_drew, hp_drewN, hp_alloc_if, hkk]; done)), hK _ _ ?_⟩; clear hK K))
      refine wpSlim_nil ?_
      clear hgr
      go_wp2
      go_returns
      refine ⟨by simp [okMsr, shMsr, Sh.v, *], by (repeat' (first | (with_reducible exact Below.refl _ _) | (with_reducible assumption) | (with_reducible refine bel_drewN ?_ _) | (with_reducible refine Below.drew ?_) | (with_reducible refine Below.alloc ?_ ?_ _) | (with_reducible refine Below.setCell ?_ ?_ _) | (simp; done) | (simp; omega)))⟩
  · have c1f0 : decide (r = 0) = false := decide_eq_false c1
    have c1f1 : (r == 0) = false := by simpa using c1
    go_enter Try.func19, Try.ntmps19
    go_wp2
    have hgr := fun (w0 W : World) (p : Addr) (hp : (fun k => k < w.heap.size) p.block) => graft_cell (w0 := w0) (keep := (fun k => k < w.heap.size)) W hp
    refine wp_region_here (fun k => k < w.heap.size) [27, 31] (by kernel_rfl) (by kernel_rfl) ?_
    simp only [slimAll, Oper.slim, List.contains_cons, List.contains_nil, Option.map_none, Option.map_some, List.getElem?_toArray, List.getElem?_cons_zero, List.getElem?_cons_succ, Option.bind_some, beq_self_eq_true, Bool.or_false, Nat.reduceBEq, Nat.reduceAdd, Nat.zero_add]
    repeat ((with_reducible refine wpSlim_step (fun K hK => ?_)); go_simp; first | (refine hK _ _ ?_; clear hK K) | (refine ⟨by (intro kk hkk; first | (simp (disch := (simp; omega)) only [hp_drew, hp_drewN, hp_alloc, hp_set]; done) | (simp [hp_drew, hp_drewN, hp_alloc_if, hkk]; done)), hK _ _ ?_⟩; clear hK K))
    refine wpSlim_nil ?_
    clear hgr
    go_wp2
    go_returns
    refine ⟨by simp [okMsr, shMsr, Sh.v, *], by (repeat' (first | (with_reducible exact Below.refl _ _) | (with_reducible assumption) | (with_reducible refine bel_drewN ?_ _) | (with_reducible refine Below.drew ?_) | (with_reducible refine Below.alloc ?_ ?_ _) | (with_reducible refine Below.setCell ?_ ?_ _) | (simp; done) | (simp; omega)))⟩
end Go.Proofs.Ytpfhejodjpgliaa
