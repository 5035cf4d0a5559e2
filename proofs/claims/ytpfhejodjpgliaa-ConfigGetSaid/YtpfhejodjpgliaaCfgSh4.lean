/-
  The closures of config.shape: what each kind of code amounts to.
-/
import Derived.Test.YtpfhejodjpgliaaRows
import Derived.Test.YtpfhejodjpgliaaRegion
import Derived.Test.YtpfhejodjpgliaaCfgPlain
import Derived.Test.YtpfhejodjpgliaaCommon
import Derived.WalkKit
import Derived.WalkSpells
import Derived.WalkLawsBesides
import Derived.Deep.QuietTactic
import Derived.BigQuiet
import Derived.Lib.Hide
import Derived.Handy
namespace Go.Proofs.Ytpfhejodjpgliaa
open Go.RowKit
set_option linter.unusedSimpArgs false
set_option linter.unusedVariables false
set_option maxHeartbeats 8000000 in
theorem tr_any (b : Nat) (n k d r t : Int) (w : World) (hb : b < w.heap.size)
  (h1 : w.cell? ⟨b, 1, none⟩ = some (.int .i64 n)) (h2 : w.cell? ⟨b, 2, none⟩ = some (.int .i64 k)) (h3 : w.cell? ⟨b, 3, none⟩ = some (.int .i64 d)) (h4 : w.cell? ⟨b, 4, none⟩ = some (.int .i64 r)) (h5 : w.cell? ⟨b, 5, none⟩ = some (.int .i64 t))
  (hn : 1 ≤ n ∧ n ≤ 255) (hk : 1 ≤ k ∧ k ≤ 255) (hd : 0 ≤ d ∧ d ≤ 255) (hr : 0 ≤ r ∧ r ≤ 255) (ht : 0 ≤ t ∧ t ≤ 255) :
    Calls Try.prog 22 #[.pointer (some ⟨b, 0, none⟩)] w fun e w' => e = .returned (.tuple #[(shTr n k).v, .bool (okTr n k d r t)]) ∧ Below w.heap.size w w' := by
  have q1 := mul_bd (a := k) (b := k - 1) (by omega) hk.2 (by omega) (show k - 1 ≤ 254 by omega)
  have e3 : IntKind.i64.wrap (k - 1) = k - 1 := IntWalk.i64_in _ (by omega)
  have e4 : IntKind.i64.wrap (k * (k - 1)) = k * (k - 1) := IntWalk.i64_in _ (by omega)
  have e6 : (k * (k - 1)).tdiv 2 = k * (k - 1) / 2 := Int.tdiv_eq_ediv_of_nonneg (by omega)
  have e7 : IntKind.i64.wrap (k * (k - 1) / 2) = k * (k - 1) / 2 := IntWalk.i64_in _ (by omega)
  have q2 := mul_bd (a := k) (b := n - 1) (by omega) hk.2 (by omega) (show n - 1 ≤ 254 by omega)
  have e1 : IntKind.i64.wrap (n - 1) = n - 1 := IntWalk.i64_in _ (by omega)
  have e5 : IntKind.i64.wrap (k * (n - 1)) = k * (n - 1) := IntWalk.i64_in _ (by omega)
  have e8 : IntKind.i64.wrap (k * (n - 1) - k * (k - 1) / 2) = k * (n - 1) - k * (k - 1) / 2 := IntWalk.i64_in _ (by omega)
  by_cases c1 : d = 0
  · by_cases c2 : r = 0
    · by_cases c3 : t = 0
      · by_cases c4 : k < n
        · by_cases c5 : n ≤ 23
          · go_enter Try.func22, Try.ntmps22
            go_wp2
            have hgr := fun (w0 W : World) (p : Addr) (hp : (fun k => k < w.heap.size) p.block) => graft_cell (w0 := w0) (keep := (fun k => k < w.heap.size)) W hp
            refine wp_region_here (fun k => k < w.heap.size) [48] (by kernel_rfl) (by kernel_rfl) ?_
            simp only [slimAll, Oper.slim, List.contains_cons, List.contains_nil, Option.map_none, Option.map_some, List.getElem?_toArray, List.getElem?_cons_zero, List.getElem?_cons_succ, Option.bind_some, beq_self_eq_true, Bool.or_false, Nat.reduceBEq, Nat.reduceAdd, Nat.zero_add]
            repeat ((with_reducible refine wpSlim_step (fun K hK => ?_)); go_simp; first | (refine hK _ _ ?_; clear hK K) | (refine ⟨by (intro kk hkk; first | (simp (disch := (simp; omega)) only [hp_drew, hp_drewN, hp_alloc, hp_set]; done) | (simp [hp_drew, hp_drewN, hp_alloc_if, hkk]; done)), hK _ _ ?_⟩; clear hK K))
            refine wpSlim_nil ?_
            clear hgr
            go_wp2
            go_returns
            refine ⟨by simp [okTr, shTr, Sh.v, *], by (repeat' (first | (with_reducible exact Below.refl _ _) | (with_reducible assumption) | (with_reducible refine bel_drewN ?_ _) | (with_reducible refine Below.drew ?_) | (with_reducible refine Below.alloc ?_ ?_ _) | (with_reducible refine Below.setCell ?_ ?_ _) | (simp; done) | (simp; omega)))⟩
          · have c5f0 : decide (n ≤ 23) = false := decide_eq_false c5
            go_enter Try.func22, Try.ntmps22
            go_wp2
            have hgr := fun (w0 W : World) (p : Addr) (hp : (fun k => k < w.heap.size) p.block) => graft_cell (w0 := w0) (keep := (fun k => k < w.heap.size)) W hp
            refine wp_region_here (fun k => k < w.heap.size) [48] (by kernel_rfl) (by kernel_rfl) ?_
            simp only [slimAll, Oper.slim, List.contains_cons, List.contains_nil, Option.map_none, Option.map_some, List.getElem?_toArray, List.getElem?_cons_zero, List.getElem?_cons_succ, Option.bind_some, beq_self_eq_true, Bool.or_false, Nat.reduceBEq, Nat.reduceAdd, Nat.zero_add]
            repeat ((with_reducible refine wpSlim_step (fun K hK => ?_)); go_simp; first | (refine hK _ _ ?_; clear hK K) | (refine ⟨by (intro kk hkk; first | (simp (disch := (simp; omega)) only [hp_drew, hp_drewN, hp_alloc, hp_set]; done) | (simp [hp_drew, hp_drewN, hp_alloc_if, hkk]; done)), hK _ _ ?_⟩; clear hK K))
            refine wpSlim_nil ?_
            clear hgr
            go_wp2
            go_returns
            refine ⟨by simp [okTr, shTr, Sh.v, *], by (repeat' (first | (with_reducible exact Below.refl _ _) | (with_reducible assumption) | (with_reducible refine bel_drewN ?_ _) | (with_reducible refine Below.drew ?_) | (with_reducible refine Below.alloc ?_ ?_ _) | (with_reducible refine Below.setCell ?_ ?_ _) | (simp; done) | (simp; omega)))⟩
        · have c4f0 : decide (k < n) = false := decide_eq_false c4
          go_enter Try.func22, Try.ntmps22
          go_wp2
          have hgr := fun (w0 W : World) (p : Addr) (hp : (fun k => k < w.heap.size) p.block) => graft_cell (w0 := w0) (keep := (fun k => k < w.heap.size)) W hp
          refine wp_region_here (fun k => k < w.heap.size) [48] (by kernel_rfl) (by kernel_rfl) ?_
          simp only [slimAll, Oper.slim, List.contains_cons, List.contains_nil, Option.map_none, Option.map_some, List.getElem?_toArray, List.getElem?_cons_zero, List.getElem?_cons_succ, Option.bind_some, beq_self_eq_true, Bool.or_false, Nat.reduceBEq, Nat.reduceAdd, Nat.zero_add]
          repeat ((with_reducible refine wpSlim_step (fun K hK => ?_)); go_simp; first | (refine hK _ _ ?_; clear hK K) | (refine ⟨by (intro kk hkk; first | (simp (disch := (simp; omega)) only [hp_drew, hp_drewN, hp_alloc, hp_set]; done) | (simp [hp_drew, hp_drewN, hp_alloc_if, hkk]; done)), hK _ _ ?_⟩; clear hK K))
          refine wpSlim_nil ?_
          clear hgr
          go_wp2
          go_returns
          refine ⟨by simp [okTr, shTr, Sh.v, *], by (repeat' (first | (with_reducible exact Below.refl _ _) | (with_reducible assumption) | (with_reducible refine bel_drewN ?_ _) | (with_reducible refine Below.drew ?_) | (with_reducible refine Below.alloc ?_ ?_ _) | (with_reducible refine Below.setCell ?_ ?_ _) | (simp; done) | (simp; omega)))⟩
      · have c3f0 : decide (t = 0) = false := decide_eq_false c3
        have c3f1 : (t == 0) = false := by simpa using c3
        go_enter Try.func22, Try.ntmps22
        go_wp2
        have hgr := fun (w0 W : World) (p : Addr) (hp : (fun k => k < w.heap.size) p.block) => graft_cell (w0 := w0) (keep := (fun k => k < w.heap.size)) W hp
        refine wp_region_here (fun k => k < w.heap.size) [48] (by kernel_rfl) (by kernel_rfl) ?_
        simp only [slimAll, Oper.slim, List.contains_cons, List.contains_nil, Option.map_none, Option.map_some, List.getElem?_toArray, List.getElem?_cons_zero, List.getElem?_cons_succ, Option.bind_some, beq_self_eq_true, Bool.or_false, Nat.reduceBEq, Nat.reduceAdd, Nat.zero_add]
        repeat ((with_reducible refine wpSlim_step (fun K hK => ?_)); go_simp; first | (refine hK _ _ ?_; clear hK K) | (refine ⟨by (intro kk hkk; first | (simp (disch := (simp; omega)) only [hp_drew, hp_drewN, hp_alloc, hp_set]; done) | (simp [hp_drew, hp_drewN, hp_alloc_if, hkk]; done)), hK _ _ ?_⟩; clear hK K))
        refine wpSlim_nil ?_
        clear hgr
        go_wp2
        go_returns
        refine ⟨by simp [okTr, shTr, Sh.v, *], by (repeat' (first | (with_reducible exact Below.refl _ _) | (with_reducible assumption) | (with_reducible refine bel_drewN ?_ _) | (with_reducible refine Below.drew ?_) | (with_reducible refine Below.alloc ?_ ?_ _) | (with_reducible refine Below.setCell ?_ ?_ _) | (simp; done) | (simp; omega)))⟩
    · have c2f0 : decide (r = 0) = false := decide_eq_false c2
      have c2f1 : (r == 0) = false := by simpa using c2
      go_enter Try.func22, Try.ntmps22
      go_wp2
      have hgr := fun (w0 W : World) (p : Addr) (hp : (fun k => k < w.heap.size) p.block) => graft_cell (w0 := w0) (keep := (fun k => k < w.heap.size)) W hp
      refine wp_region_here (fun k => k < w.heap.size) [48] (by kernel_rfl) (by kernel_rfl) ?_
      simp only [slimAll, Oper.slim, List.contains_cons, List.contains_nil, Option.map_none, Option.map_some, List.getElem?_toArray, List.getElem?_cons_zero, List.getElem?_cons_succ, Option.bind_some, beq_self_eq_true, Bool.or_false, Nat.reduceBEq, Nat.reduceAdd, Nat.zero_add]
      repeat ((with_reducible refine wpSlim_step (fun K hK => ?_)); go_simp; first | (refine hK _ _ ?_; clear hK K) | (refine ⟨by (intro kk hkk; first | (simp (disch := (simp; omega)) only [hp_drew, hp_drewN, hp_alloc, hp_set]; done) | (simp [hp_drew, hp_drewN, hp_alloc_if, hkk]; done)), hK _ _ ?_⟩; clear hK K))
      refine wpSlim_nil ?_
      clear hgr
      go_wp2
      go_returns
      refine ⟨by simp [okTr, shTr, Sh.v, *], by (repeat' (first | (with_reducible exact Below.refl _ _) | (with_reducible assumption) | (with_reducible refine bel_drewN ?_ _) | (with_reducible refine Below.drew ?_) | (with_reducible refine Below.alloc ?_ ?_ _) | (with_reducible refine Below.setCell ?_ ?_ _) | (simp; done) | (simp; omega)))⟩
  · have c1f0 : decide (d = 0) = false := decide_eq_false c1
    have c1f1 : (d == 0) = false := by simpa using c1
    go_enter Try.func22, Try.ntmps22
    go_wp2
    have hgr := fun (w0 W : World) (p : Addr) (hp : (fun k => k < w.heap.size) p.block) => graft_cell (w0 := w0) (keep := (fun k => k < w.heap.size)) W hp
    refine wp_region_here (fun k => k < w.heap.size) [48] (by kernel_rfl) (by kernel_rfl) ?_
    simp only [slimAll, Oper.slim, List.contains_cons, List.contains_nil, Option.map_none, Option.map_some, List.getElem?_toArray, List.getElem?_cons_zero, List.getElem?_cons_succ, Option.bind_some, beq_self_eq_true, Bool.or_false, Nat.reduceBEq, Nat.reduceAdd, Nat.zero_add]
    repeat ((with_reducible refine wpSlim_step (fun K hK => ?_)); go_simp; first | (refine hK _ _ ?_; clear hK K) | (refine ⟨by (intro kk hkk; first | (simp (disch := (simp; omega)) only [hp_drew, hp_drewN, hp_alloc, hp_set]; done) | (simp [hp_drew, hp_drewN, hp_alloc_if, hkk]; done)), hK _ _ ?_⟩; clear hK K))
    refine wpSlim_nil ?_
    clear hgr
    go_wp2
    go_returns
    refine ⟨by simp [okTr, shTr, Sh.v, *], by (repeat' (first | (with_reducible exact Below.refl _ _) | (with_reducible assumption) | (with_reducible refine bel_drewN ?_ _) | (with_reducible refine Below.drew ?_) | (with_reducible refine Below.alloc ?_ ?_ _) | (with_reducible refine Below.setCell ?_ ?_ _) | (simp; done) | (simp; omega)))⟩
end Go.Proofs.Ytpfhejodjpgliaa
