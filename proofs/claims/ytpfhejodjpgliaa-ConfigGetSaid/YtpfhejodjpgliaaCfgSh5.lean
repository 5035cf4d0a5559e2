/-
  The closures of config.shape: what each kind of code amounts to.
-/
import Derived.Test.YtpfhejodjpgliaaRows
import Derived.Test.YtpfhejodjpgliaaRegion
import Derived.Test.YtpfhejodjpgliaaCfgPlain
import Derived.Test.YtpfhejodjpgliaaCommon
import Derived.WalkKit
import Derived.WalkSpells
import Derived.WalkLawsBesides
import Derived.Deep.QuietTactic
import Derived.BigQuiet
import Derived.Lib.Hide
import Derived.Handy
namespace Go.Proofs.Ytpfhejodjpgliaa
open Go.RowKit
set_option linter.unusedSimpArgs false
set_option linter.unusedVariables false
set_option maxHeartbeats 8000000 in
theorem loc_any (b : Nat) (n k d r t : Int) (w : World) (hb : b < w.heap.size)
  (h1 : w.cell? ⟨b, 1, none⟩ = some (.int .i64 n)) (h2 : w.cell? ⟨b, 2, none⟩ = some (.int .i64 k)) (h3 : w.cell? ⟨b, 3, none⟩ = some (.int .i64 d)) (h4 : w.cell? ⟨b, 4, none⟩ = some (.int .i64 r)) (h5 : w.cell? ⟨b, 5, none⟩ = some (.int .i64 t))
  (hn : 1 ≤ n ∧ n ≤ 255) (hk : 1 ≤ k ∧ k ≤ 255) (hd : 0 ≤ d ∧ d ≤ 255) (hr : 0 ≤ r ∧ r ≤ 255) (ht : 0 ≤ t ∧ t ≤ 255) :
    Calls Try.prog 23 #[.pointer (some ⟨b, 0, none⟩)] w fun e w' => e = .returned (.tuple #[(locSh n k d r t).v, .bool (okLoc n k d r)]) ∧ Below w.heap.size w w' := by
  by_cases c1 : d = 0
  · by_cases c2 : 1 ≤ r
    · by_cases c3 : 255 % (r + 1) = 0
      · by_cases c4 : n % (r + 1) = 0
        · by_cases c5 : k % r = 0
          · have hbne : ¬ b = w.heap.size := by omega
            have hr1 : decide (r < 1) = false := decide_eq_false (by omega)
            have r3 : ¬ r = 0 := by omega
            have q1 : 0 ≤ k / r ∧ k / r ≤ k := ⟨Int.ediv_nonneg (by omega) (by omega), Int.ediv_le_self _ (by omega)⟩
            have e0 : k.tdiv r = k / r := Int.tdiv_eq_ediv_of_nonneg (by omega)
            have e1 : IntKind.i64.wrap (k / r) = k / r := IntWalk.i64_in _ (by omega)
            have e2 : IntKind.i64.wrap (k + k / r) = k + k / r := IntWalk.i64_in _ (by omega)
            have e3 : IntKind.i64.wrap (k + k / r - 1) = k + k / r - 1 := IntWalk.i64_in _ (by omega)
            have e4 : IntKind.i64.wrap (2 * t) = 2 * t := IntWalk.i64_in _ (by omega)
            have e5 : IntKind.i64.wrap (k + k / r - 1 + 2 * t) = k + k / r - 1 + 2 * t := IntWalk.i64_in _ (by omega)
            have c6 : 0 < t ∨ t = 0 := by omega
            rcases c6 with c6 | c6
            · skip
              go_enter Try.func23, Try.ntmps23
              go_wp2
              have hgr := fun (w0 W : World) (p : Addr) (hp : (fun k => k < w.heap.size + 1) p.block) => graft_cell (w0 := w0) (keep := (fun k => k < w.heap.size + 1)) W hp
              refine wp_region_here (fun k => k < w.heap.size + 1) [14, 15] (by kernel_rfl) (by kernel_rfl) ?_
              simp only [slimAll, Oper.slim, List.contains_cons, List.contains_nil, Option.map_none, Option.map_some, List.getElem?_toArray, List.getElem?_cons_zero, List.getElem?_cons_succ, Option.bind_some, beq_self_eq_true, Bool.or_false, Nat.reduceBEq, Nat.reduceAdd, Nat.zero_add]
              repeat ((with_reducible refine wpSlim_step (fun K hK => ?_)); go_simp; first | (refine hK _ _ ?_; clear hK K) | (refine ⟨by (intro kk hkk; first | (simp (disch := (simp; omega)) only [hp_drew, hp_drewN, hp_alloc, hp_set]; done) | (simp [hp_drew, hp_drewN, hp_alloc_if, hkk]; done)), hK _ _ ?_⟩; clear hK K))
              refine wpSlim_nil ?_
              clear hgr
              go_wp2
              have hgr := fun (w0 W : World) (p : Addr) (hp : (fun k => k ≠ w.heap.size) p.block) => graft_cell (w0 := w0) (keep := (fun k => k ≠ w.heap.size)) W hp
              refine wp_region_here (fun k => k ≠ w.heap.size) [6] (by kernel_rfl) (by kernel_rfl) ?_
              simp only [slimAll, Oper.slim, List.contains_cons, List.contains_nil, Option.map_none, Option.map_some, List.getElem?_toArray, List.getElem?_cons_zero, List.getElem?_cons_succ, Option.bind_some, beq_self_eq_true, Bool.or_false, Nat.reduceBEq, Nat.reduceAdd, Nat.zero_add]
              repeat ((with_reducible refine wpSlim_step (fun K hK => ?_)); go_simp; first | (refine hK _ _ ?_; clear hK K) | (refine ⟨by (intro kk hkk; first | (simp (disch := (simp; omega)) only [hp_drew, hp_drewN, hp_alloc, hp_set]; done) | (simp [hp_drew, hp_drewN, hp_alloc_if, hkk]; done)), hK _ _ ?_⟩; clear hK K))
              refine wpSlim_nil ?_
              clear hgr
              go_wp2
              go_returns
              refine ⟨by simp [locSh, okLoc0, okLoc, shLoc, Sh.v, *], by (repeat' (first | (with_reducible exact Below.refl _ _) | (with_reducible assumption) | (with_reducible refine bel_drewN ?_ _) | (with_reducible refine Below.drew ?_) | (with_reducible refine Below.alloc ?_ ?_ _) | (with_reducible refine Below.setCell ?_ ?_ _) | (simp; done) | (simp; omega)))⟩
            · subst c6
              go_enter Try.func23, Try.ntmps23
              go_wp2
              have hgr := fun (w0 W : World) (p : Addr) (hp : (fun k => k < w.heap.size + 1) p.block) => graft_cell (w0 := w0) (keep := (fun k => k < w.heap.size + 1)) W hp
              refine wp_region_here (fun k => k < w.heap.size + 1) [14, 15] (by kernel_rfl) (by kernel_rfl) ?_
              simp only [slimAll, Oper.slim, List.contains_cons, List.contains_nil, Option.map_none, Option.map_some, List.getElem?_toArray, List.getElem?_cons_zero, List.getElem?_cons_succ, Option.bind_some, beq_self_eq_true, Bool.or_false, Nat.reduceBEq, Nat.reduceAdd, Nat.zero_add]
              repeat ((with_reducible refine wpSlim_step (fun K hK => ?_)); go_simp; first | (refine hK _ _ ?_; clear hK K) | (refine ⟨by (intro kk hkk; first | (simp (disch := (simp; omega)) only [hp_drew, hp_drewN, hp_alloc, hp_set]; done) | (simp [hp_drew, hp_drewN, hp_alloc_if, hkk]; done)), hK _ _ ?_⟩; clear hK K))
              refine wpSlim_nil ?_
              clear hgr
              go_wp2
              have hgr := fun (w0 W : World) (p : Addr) (hp : (fun k => k ≠ w.heap.size) p.block) => graft_cell (w0 := w0) (keep := (fun k => k ≠ w.heap.size)) W hp
              refine wp_region_here (fun k => k ≠ w.heap.size) [6] (by kernel_rfl) (by kernel_rfl) ?_
              simp only [slimAll, Oper.slim, List.contains_cons, List.contains_nil, Option.map_none, Option.map_some, List.getElem?_toArray, List.getElem?_cons_zero, List.getElem?_cons_succ, Option.bind_some, beq_self_eq_true, Bool.or_false, Nat.reduceBEq, Nat.reduceAdd, Nat.zero_add]
              repeat ((with_reducible refine wpSlim_step (fun K hK => ?_)); go_simp; first | (refine hK _ _ ?_; clear hK K) | (refine ⟨by (intro kk hkk; first | (simp (disch := (simp; omega)) only [hp_drew, hp_drewN, hp_alloc, hp_set]; done) | (simp [hp_drew, hp_drewN, hp_alloc_if, hkk]; done)), hK _ _ ?_⟩; clear hK K))
              refine wpSlim_nil ?_
              clear hgr
              go_wp2
              go_returns
              refine ⟨by simp [locSh, okLoc0, okLoc, shLoc, Sh.v, *], by (repeat' (first | (with_reducible exact Below.refl _ _) | (with_reducible assumption) | (with_reducible refine bel_drewN ?_ _) | (with_reducible refine Below.drew ?_) | (with_reducible refine Below.alloc ?_ ?_ _) | (with_reducible refine Below.setCell ?_ ?_ _) | (simp; done) | (simp; omega)))⟩
          · have c5f0 : (k % r != 0) = true := by simpa using c5
            go_enter Try.func23, Try.ntmps23
            go_wp2
            go_returns
            refine ⟨by simp [locSh, okLoc0, okLoc, Sh.zero, Sh.v, *], by (repeat' (first | (with_reducible exact Below.refl _ _) | (with_reducible assumption) | (with_reducible refine bel_drewN ?_ _) | (with_reducible refine Below.drew ?_) | (with_reducible refine Below.alloc ?_ ?_ _) | (with_reducible refine Below.setCell ?_ ?_ _) | (simp; done) | (simp; omega)))⟩
        · have c4f0 : (n % (r + 1) != 0) = true := by simpa using c4
          go_enter Try.func23, Try.ntmps23
          go_wp2
          go_returns
          refine ⟨by simp [locSh, okLoc0, okLoc, Sh.zero, Sh.v, *], by (repeat' (first | (with_reducible exact Below.refl _ _) | (with_reducible assumption) | (with_reducible refine bel_drewN ?_ _) | (with_reducible refine Below.drew ?_) | (with_reducible refine Below.alloc ?_ ?_ _) | (with_reducible refine Below.setCell ?_ ?_ _) | (simp; done) | (simp; omega)))⟩
      · have c3f0 : (255 % (r + 1) != 0) = true := by simpa using c3
        go_enter Try.func23, Try.ntmps23
        go_wp2
        go_returns
        refine ⟨by simp [locSh, okLoc0, okLoc, Sh.zero, Sh.v, *], by (repeat' (first | (with_reducible exact Below.refl _ _) | (with_reducible assumption) | (with_reducible refine bel_drewN ?_ _) | (with_reducible refine Below.drew ?_) | (with_reducible refine Below.alloc ?_ ?_ _) | (with_reducible refine Below.setCell ?_ ?_ _) | (simp; done) | (simp; omega)))⟩
    · have c2f0 : (r < 1) := by omega
      have c2f1 : decide (1 ≤ r) = false := decide_eq_false c2
      go_enter Try.func23, Try.ntmps23
      go_wp2
      go_returns
      refine ⟨by simp [locSh, okLoc0, okLoc, Sh.zero, Sh.v, *], by (repeat' (first | (with_reducible exact Below.refl _ _) | (with_reducible assumption) | (with_reducible refine bel_drewN ?_ _) | (with_reducible refine Below.drew ?_) | (with_reducible refine Below.alloc ?_ ?_ _) | (with_reducible refine Below.setCell ?_ ?_ _) | (simp; done) | (simp; omega)))⟩
  · have c1f0 : (d != 0) = true := by simpa using c1
    have c1f1 : decide (d = 0) = false := decide_eq_false c1
    go_enter Try.func23, Try.ntmps23
    go_wp2
    go_returns
    refine ⟨by simp [locSh, okLoc0, okLoc, Sh.zero, Sh.v, *], by (repeat' (first | (with_reducible exact Below.refl _ _) | (with_reducible assumption) | (with_reducible refine bel_drewN ?_ _) | (with_reducible refine Below.drew ?_) | (with_reducible refine Below.alloc ?_ ?_ _) | (with_reducible refine Below.setCell ?_ ?_ _) | (simp; done) | (simp; omega)))⟩
end Go.Proofs.Ytpfhejodjpgliaa
