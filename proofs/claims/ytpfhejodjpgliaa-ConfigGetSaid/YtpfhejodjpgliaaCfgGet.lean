/-
  config.Get and the reference's Get.
-/
import Derived.Test.YtpfhejodjpgliaaCfgLaw
import Derived.Test.YtpfhejodjpgliaaRegion2
import Derived.Test.YtpfhejodjpgliaaPut2
import Derived.Deep.Cut
namespace Go.Proofs.Ytpfhejodjpgliaa
open Go.RowKit
set_option linter.unusedSimpArgs false
set_option linter.unusedVariables false

def cfgV (c n k d r t q : Int) : Value := .agg #[.int .u8 c, .int .i64 n, .int .i64 k, .int .i64 d, .int .i64 r, .int .i64 t, .int .i64 q]
/-- A code in a row of bytes, or none. -/
def RetCfg (c n k d r t q code : Int) (w : World) (e : Ending) (w' : World) : Prop := e = .returned (.tuple #[cfgV c n k d r t q, .int .i64 code]) ∧ Below w.heap.size w w'

theorem rd_len {w : World} {v : Value} {l : List Nat} (h : BytesRd w v l) : ∃ a cap, v = .slice a l.length cap := by
  obtain ⟨_, a, cap, h1, _⟩ := h
  exact ⟨a, cap, h1⟩

set_option maxHeartbeats 1000000 in
theorem get_short (v : Value) (l : List Nat) (w : World) (hv : BytesRd w v l) (h : l.length ≠ 7) :
    Calls Try.prog 13 #[v] w (RetCfg 0 0 0 0 0 0 0 130 w) := by
  obtain ⟨a, cap, rfl⟩ := rd_len hv
  have hne : ((l.length : Int) != 7) = true := by simp; omega
  have hne2 : ((l.length : Int) == 7) = false := by simp; omega
  clear hv
  generalize l.length = m at *
  go_enter Try.func13, Try.ntmps13
  go_wp2_with fail
  refine bodyPost_ret (by simp [results, Try.results13, go_sem] <;> rfl) rfl ⟨rfl, ?_⟩
  (repeat' (first | (with_reducible exact Below.refl _ _) | (with_reducible assumption) | (with_reducible refine bel_drewN ?_ _) | (with_reducible refine Below.drew ?_) | (with_reducible refine Below.alloc ?_ ?_ _) | (with_reducible refine bel_putBlk ?_ ?_ _) | (with_reducible refine Below.setCell ?_ ?_ _) | omega | (simp [size_putBlk]; done) | (simp [size_putBlk]; omega)))
set_option maxHeartbeats 1000000 in
theorem rget_short (v : Value) (l : List Nat) (w : World) (hv : BytesRd w v l) (h : l.length ≠ 7) :
    Calls Try.prog 14 #[v] w (RetCfg 0 0 0 0 0 0 0 130 w) := by
  obtain ⟨a, cap, rfl⟩ := rd_len hv
  have hne : ((l.length : Int) != 7) = true := by simp; omega
  have hne2 : ((l.length : Int) == 7) = false := by simp; omega
  clear hv
  generalize l.length = m at *
  go_enter Try.func14, Try.ntmps14
  go_wp2_with fail
  refine bodyPost_ret (by simp [results, Try.results14, go_sem] <;> rfl) rfl ⟨rfl, ?_⟩
  (repeat' (first | (with_reducible exact Below.refl _ _) | (with_reducible assumption) | (with_reducible refine bel_drewN ?_ _) | (with_reducible refine Below.drew ?_) | (with_reducible refine Below.alloc ?_ ?_ _) | (with_reducible refine bel_putBlk ?_ ?_ _) | (with_reducible refine Below.setCell ?_ ?_ _) | omega | (simp [size_putBlk]; done) | (simp [size_putBlk]; omega)))

theorem known2 {w w1 : World} {A B : Obj} (h : Below ((w.alloc A).alloc B).drew.heap.size ((w.alloc A).alloc B).drew w1) :
    w1.heap[w.heap.size]? = some A ∧ w1.heap[w.heap.size + 1]? = some B ∧ w.heap.size + 2 ≤ w1.heap.size ∧ Below w.heap.size w w1 := by
  have h1 := heap_two' w A B
  have hs : ((w.alloc A).alloc B).drew.heap.size = w.heap.size + 2 := by simp
  have hz := h.size
  rw [hs] at hz
  refine ⟨(h.block _ (by omega)).trans h1.1, (h.block _ (by omega)).trans h1.2, hz, ?_⟩
  exact ((((Below.refl _ w).alloc (Nat.le_refl _) A).alloc (by simp) B).drew).trans (h.mono (by omega))

set_option maxHeartbeats 2000000 in
theorem rget_some (v : Value) (c n k d r t q : Nat) (w : World) (hv : BytesRd w v [c, n, k, d, r, t, q]) (s : Sh) (h : checkF c n k d r t q = some s) :
    Calls Try.prog 14 #[v] w (RetCfg c n k d r t q 0 w) := by
  have HR := Lib.hid (fun w => rcheck_any c n k d r t q w)
  rw [h] at HR
  clear h
  obtain ⟨hb, a, cap, rfl, hcap, hc⟩ := hv
  obtain ⟨b, o, rfl, hlt, hcell⟩ := hc (by simp)
  simp only [List.length_cons, List.length_nil, Nat.reduceAdd] at hcap hcell
  have x0 : w.cell? ⟨b, o, none⟩ = some (.int .u8 (c : Nat)) := by simpa using hcell 0 (by omega)
  have x1 : w.cell? ⟨b, o + 1, none⟩ = some (.int .u8 (n : Nat)) := by simpa using hcell 1 (by omega)
  have x2 : w.cell? ⟨b, o + 2, none⟩ = some (.int .u8 (k : Nat)) := by simpa using hcell 2 (by omega)
  have x3 : w.cell? ⟨b, o + 3, none⟩ = some (.int .u8 (d : Nat)) := by simpa using hcell 3 (by omega)
  have x4 : w.cell? ⟨b, o + 4, none⟩ = some (.int .u8 (r : Nat)) := by simpa using hcell 4 (by omega)
  have x5 : w.cell? ⟨b, o + 5, none⟩ = some (.int .u8 (t : Nat)) := by simpa using hcell 5 (by omega)
  have x6 : w.cell? ⟨b, o + 6, none⟩ = some (.int .u8 (q : Nat)) := by simpa using hcell 6 (by omega)
  have y0 : c < 256 := hb c (by simp)
  have y1 : n < 256 := hb n (by simp)
  have y2 : k < 256 := hb k (by simp)
  have y3 : d < 256 := hb d (by simp)
  have y4 : r < 256 := hb r (by simp)
  have y5 : t < 256 := hb t (by simp)
  have y6 : q < 256 := hb q (by simp)
  clear hc hcell hb
  have hl0 : ¬ b = w.heap.size := by omega
  go_enter Try.func14, Try.ntmps14
  go_wp2_with fail
  have hgr := fun (w0 W : World) (p : Addr) (hp : (fun k => k < w.heap.size) p.block) => graft_cell (w0 := w0) (keep := (fun k => k < w.heap.size)) W hp
  refine wp_region_tree (fun k => k < w.heap.size) [28, 29] (.step 0 (.step 1 (.step 2 (.step 3 (.step 4 (.step 5 (.step 6 (.step 7 (.step 8 (.step 9 (.step 10 (.step 11 (.step 12 (.step 13 (.step 14 (.step 15 (.step 16 (.step 17 (.step 18 (.step 19 (.step 20 (.step 21 (.step 22 (.step 23 (.step 24 (.step 25 (.step 26 (.step 27 (.step 28 (.step 29 .done)))))))))))))))))))))))))))))) (by kernel_rfl) (by kernel_rfl) ?_
  simp only [slimTr, slimStep, Oper.slim, List.contains_cons, List.contains_nil, Option.map_none, Option.map_some, List.getElem?_toArray, List.getElem?_cons_zero, List.getElem?_cons_succ, Option.bind_some, beq_self_eq_true, Bool.or_false, Nat.reduceBEq, Nat.reduceAdd, Nat.zero_add]
  repeat ((with_reducible refine wpSlimT_step (fun K hK => ?_)); go_simp; first | (refine hK _ _ ?_; clear hK K) | (refine ⟨by (intro kk hkk; first | (simp (disch := (simp; omega)) only [hp_drew, hp_drewN, hp_alloc, hp_set]; done) | (simp [hp_drew, hp_drewN, hp_alloc_if, hkk]; done) | fail), hK _ _ ?_⟩; clear hK K))
  refine wpSlimT_done ?_
  clear hgr
  go_wp2_with fail
  refine (HR.out _).mono ?_
  rintro e w1 ⟨rfl, hb1⟩
  obtain ⟨hA, hB, hs1, b1⟩ := known2 hb1
  obtain ⟨w2, rfl, hz2, hp⟩ := put_of hA
  have hB := hp (fun W => W.heap[w.heap.size + 1]? = _) hB
  have b2 := hp (fun W => Below w.heap.size w W) b1
  rw [size_putBlk] at hs1
  obtain ⟨u0, u1, u2, u3, u4, u5, u6⟩ := cells7 hB
  have n1 : ¬ w.heap.size + 1 = w.heap.size := by omega
  have hz3 : w.heap.size + 1 < w2.heap.size := by omega
  clear hp hA hB hb1 b1 x0 x1 x2 x3 x4 x5 x6
  simp only [checkV, Sh.v, Sh.zero]
  go_wp2_with fail
  refine bodyPost_ret (by simp [results, Try.results14, go_sem, hz2] <;> rfl) rfl ⟨rfl, ?_⟩
  (repeat' (first | (with_reducible exact Below.refl _ _) | (with_reducible assumption) | (with_reducible refine bel_drewN ?_ _) | (with_reducible refine Below.drew ?_) | (with_reducible refine Below.alloc ?_ ?_ _) | (with_reducible refine bel_putBlk ?_ ?_ _) | (with_reducible refine Below.setCell ?_ ?_ _) | omega | (simp [size_putBlk]; done) | (simp [size_putBlk]; omega)))
set_option maxHeartbeats 2000000 in
theorem rget_none (v : Value) (c n k d r t q : Nat) (w : World) (hv : BytesRd w v [c, n, k, d, r, t, q]) (h : checkF c n k d r t q = none) :
    Calls Try.prog 14 #[v] w (RetCfg 0 0 0 0 0 0 0 130 w) := by
  have HR := Lib.hid (fun w => rcheck_any c n k d r t q w)
  rw [h] at HR
  clear h
  obtain ⟨hb, a, cap, rfl, hcap, hc⟩ := hv
  obtain ⟨b, o, rfl, hlt, hcell⟩ := hc (by simp)
  simp only [List.length_cons, List.length_nil, Nat.reduceAdd] at hcap hcell
  have x0 : w.cell? ⟨b, o, none⟩ = some (.int .u8 (c : Nat)) := by simpa using hcell 0 (by omega)
  have x1 : w.cell? ⟨b, o + 1, none⟩ = some (.int .u8 (n : Nat)) := by simpa using hcell 1 (by omega)
  have x2 : w.cell? ⟨b, o + 2, none⟩ = some (.int .u8 (k : Nat)) := by simpa using hcell 2 (by omega)
  have x3 : w.cell? ⟨b, o + 3, none⟩ = some (.int .u8 (d : Nat)) := by simpa using hcell 3 (by omega)
  have x4 : w.cell? ⟨b, o + 4, none⟩ = some (.int .u8 (r : Nat)) := by simpa using hcell 4 (by omega)
  have x5 : w.cell? ⟨b, o + 5, none⟩ = some (.int .u8 (t : Nat)) := by simpa using hcell 5 (by omega)
  have x6 : w.cell? ⟨b, o + 6, none⟩ = some (.int .u8 (q : Nat)) := by simpa using hcell 6 (by omega)
  have y0 : c < 256 := hb c (by simp)
  have y1 : n < 256 := hb n (by simp)
  have y2 : k < 256 := hb k (by simp)
  have y3 : d < 256 := hb d (by simp)
  have y4 : r < 256 := hb r (by simp)
  have y5 : t < 256 := hb t (by simp)
  have y6 : q < 256 := hb q (by simp)
  clear hc hcell hb
  have hl0 : ¬ b = w.heap.size := by omega
  go_enter Try.func14, Try.ntmps14
  go_wp2_with fail
  have hgr := fun (w0 W : World) (p : Addr) (hp : (fun k => k < w.heap.size) p.block) => graft_cell (w0 := w0) (keep := (fun k => k < w.heap.size)) W hp
  refine wp_region_tree (fun k => k < w.heap.size) [28, 29] (.step 0 (.step 1 (.step 2 (.step 3 (.step 4 (.step 5 (.step 6 (.step 7 (.step 8 (.step 9 (.step 10 (.step 11 (.step 12 (.step 13 (.step 14 (.step 15 (.step 16 (.step 17 (.step 18 (.step 19 (.step 20 (.step 21 (.step 22 (.step 23 (.step 24 (.step 25 (.step 26 (.step 27 (.step 28 (.step 29 .done)))))))))))))))))))))))))))))) (by kernel_rfl) (by kernel_rfl) ?_
  simp only [slimTr, slimStep, Oper.slim, List.contains_cons, List.contains_nil, Option.map_none, Option.map_some, List.getElem?_toArray, List.getElem?_cons_zero, List.getElem?_cons_succ, Option.bind_some, beq_self_eq_true, Bool.or_false, Nat.reduceBEq, Nat.reduceAdd, Nat.zero_add]
  repeat ((with_reducible refine wpSlimT_step (fun K hK => ?_)); go_simp; first | (refine hK _ _ ?_; clear hK K) | (refine ⟨by (intro kk hkk; first | (simp (disch := (simp; omega)) only [hp_drew, hp_drewN, hp_alloc, hp_set]; done) | (simp [hp_drew, hp_drewN, hp_alloc_if, hkk]; done) | fail), hK _ _ ?_⟩; clear hK K))
  refine wpSlimT_done ?_
  clear hgr
  go_wp2_with fail
  refine (HR.out _).mono ?_
  rintro e w1 ⟨rfl, hb1⟩
  obtain ⟨hA, hB, hs1, b1⟩ := known2 hb1
  obtain ⟨w2, rfl, hz2, hp⟩ := put_of hA
  have hB := hp (fun W => W.heap[w.heap.size + 1]? = _) hB
  have b2 := hp (fun W => Below w.heap.size w W) b1
  rw [size_putBlk] at hs1
  obtain ⟨u0, u1, u2, u3, u4, u5, u6⟩ := cells7 hB
  have n1 : ¬ w.heap.size + 1 = w.heap.size := by omega
  have hz3 : w.heap.size + 1 < w2.heap.size := by omega
  clear hp hA hB hb1 b1 x0 x1 x2 x3 x4 x5 x6
  simp only [checkV, Sh.v, Sh.zero]
  go_wp2_with fail
  refine bodyPost_ret (by simp [results, Try.results14, go_sem, hz2] <;> rfl) rfl ⟨rfl, ?_⟩
  (repeat' (first | (with_reducible exact Below.refl _ _) | (with_reducible assumption) | (with_reducible refine bel_drewN ?_ _) | (with_reducible refine Below.drew ?_) | (with_reducible refine Below.alloc ?_ ?_ _) | (with_reducible refine bel_putBlk ?_ ?_ _) | (with_reducible refine Below.setCell ?_ ?_ _) | omega | (simp [size_putBlk]; done) | (simp [size_putBlk]; omega)))

theorem sixp (a b c d e f : Addr) (j : Nat) (hj : j < 6) : ∃ x, (∀ w, (Instr.index 47 (.agg #[.pointer (some a), .pointer (some b), .pointer (some c), .pointer (some d), .pointer (some e), .pointer (some f)]) (.int .i64 (j : Int))).run Try.prog w = .ok (.pointer (some x)) w) ∧
    [a, b, c, d, e, f][j]? = some x := by
  obtain rfl | rfl | rfl | rfl | rfl | rfl : j = 0 ∨ j = 1 ∨ j = 2 ∨ j = 3 ∨ j = 4 ∨ j = 5 := by omega
  · exact ⟨a, fun _ => by kernel_rfl, rfl⟩
  · exact ⟨b, fun _ => by kernel_rfl, rfl⟩
  · exact ⟨c, fun _ => by kernel_rfl, rfl⟩
  · exact ⟨d, fun _ => by kernel_rfl, rfl⟩
  · exact ⟨e, fun _ => by kernel_rfl, rfl⟩
  · exact ⟨f, fun _ => by kernel_rfl, rfl⟩

/-- The code's cells, when j numbers are read. -/
def mixC (l : List Nat) (j : Nat) : Array Value := ((List.range 7).map fun i => if i = 0 then Value.int .u8 ((l.getD 0 0 : Nat) : Int) else if i ≤ j then .int .i64 ((l.getD i 0 : Nat) : Int) else .int .i64 0).toArray
theorem mixC_size (l : List Nat) (j : Nat) : (mixC l j).size = 7 := by simp [mixC]
theorem mixC_at (l : List Nat) (j : Nat) (h : j < 6) : (mixC l j)[j + 1]? = some (.int .i64 0) := by
  simp [mixC, show j + 1 < 7 by omega]
  omega
theorem mixC_set (l : List Nat) (j : Nat) (h : j < 6) : (mixC l j).setIfInBounds (j + 1) (.int .i64 ((l.getD (j + 1) 0 : Nat) : Int)) = mixC l (j + 1) := by
  apply Array.ext_getElem?
  intro i
  rw [Array.getElem?_setIfInBounds, mixC_size]
  simp only [mixC, List.getElem?_toArray, List.getElem?_map, List.getElem?_range]
  by_cases hi : j + 1 = i
  · subst hi
    simp [show j + 1 < 7 by omega]
  · rw [if_neg hi]
    by_cases h7 : i < 7
    · simp only [List.getElem?_range h7, Option.map_some]
      by_cases h0 : i = 0
      · simp [h0]
      · simp only [h0, if_false]
        by_cases hj : i ≤ j
        · rw [if_pos hj, if_pos (by omega)]
        · rw [if_neg hj, if_neg (by omega)]
    · rw [List.getElem?_eq_none (by simp; omega)]; rfl

theorem cells6 {W : World} {B : Nat} {a b c d e f : Value} {ty : TypeId} (h : W.heap[B]? = some (.cells #[a, b, c, d, e, f] ty)) :
    W.cell? ⟨B, 0, none⟩ = some a ∧ W.cell? ⟨B, 1, none⟩ = some b ∧ W.cell? ⟨B, 2, none⟩ = some c ∧ W.cell? ⟨B, 3, none⟩ = some d ∧ W.cell? ⟨B, 4, none⟩ = some e ∧ W.cell? ⟨B, 5, none⟩ = some f :=
  ⟨cell_of_row W _ 0 _ _ (0, 0) h, cell_of_row W _ 1 _ _ (0, 0) h, cell_of_row W _ 2 _ _ (0, 0) h, cell_of_row W _ 3 _ _ (0, 0) h, cell_of_row W _ 4 _ _ (0, 0) h, cell_of_row W _ 5 _ _ (0, 0) h⟩
set_option maxHeartbeats 4000000 in
theorem get_some (v : Value) (c n k d r t q : Nat) (w : World) (hv : BytesRd w v [c, n, k, d, r, t, q]) (s : Sh) (h : checkF c n k d r t q = some s) :
    Calls Try.prog 13 #[v] w (RetCfg c n k d r t q 0 w) := by
  have HR := Lib.hid (fun w => check_any c n k d r t q w)
  rw [h] at HR
  clear h
  obtain ⟨hb, a, cap, rfl, hcap, hc⟩ := hv
  obtain ⟨b, o, rfl, hlt, hcell⟩ := hc (by simp)
  simp only [List.length_cons, List.length_nil, Nat.reduceAdd] at hcap hcell
  have HB := Lib.hid hb
  have HCELL := Lib.hid hcell
  clear hc hb hcell
  go_enter Try.func13, Try.ntmps13
  go_upto_region 5 with fail
  generalize hw0 : (((w.alloc (.cells #[.int .u8 0, .int .i64 0, .int .i64 0, .int .i64 0, .int .i64 0, .int .i64 0, .int .i64 0] 23)).alloc (.cells #[.int .u8 0, .int .i64 0, .int .i64 0, .int .i64 0, .int .i64 0, .int .i64 0, .int .i64 0] 23)).alloc (.cells #[.pointer (some ⟨w.heap.size + 1, 1, none⟩), .pointer (some ⟨w.heap.size + 1, 2, none⟩), .pointer (some ⟨w.heap.size + 1, 3, none⟩), .pointer (some ⟨w.heap.size + 1, 4, none⟩), .pointer (some ⟨w.heap.size + 1, 5, none⟩), .pointer (some ⟨w.heap.size + 1, 6, none⟩)] 47)) = w0
  have hA : w0.heap[w.heap.size]? = some (.cells #[.int .u8 0, .int .i64 0, .int .i64 0, .int .i64 0, .int .i64 0, .int .i64 0, .int .i64 0] 23) := by rw [← hw0]; exact (heap_three w _ _ _).1
  have hB : w0.heap[w.heap.size + 1]? = some (.cells #[.int .u8 0, .int .i64 0, .int .i64 0, .int .i64 0, .int .i64 0, .int .i64 0, .int .i64 0] 23) := by rw [← hw0]; exact (heap_three w _ _ _).2.1
  have hP : w0.heap[w.heap.size + 2]? = some (.cells #[.pointer (some ⟨w.heap.size + 1, 1, none⟩), .pointer (some ⟨w.heap.size + 1, 2, none⟩), .pointer (some ⟨w.heap.size + 1, 3, none⟩), .pointer (some ⟨w.heap.size + 1, 4, none⟩), .pointer (some ⟨w.heap.size + 1, 5, none⟩), .pointer (some ⟨w.heap.size + 1, 6, none⟩)] 47) := by rw [← hw0]; exact (heap_three w _ _ _).2.2
  have hb0 : Below w.heap.size w w0 := by rw [← hw0]; exact ((((Below.refl _ w).alloc (Nat.le_refl _) _).alloc (by simp) _).alloc (by simp; omega) _)
  clear hw0
  obtain ⟨w1, rfl, hz1, hp⟩ := put_of hB
  have hA := hp (fun W => W.heap[w.heap.size]? = _) hA
  have hP := hp (fun W => W.heap[w.heap.size + 2]? = _) hP
  have hb1 := hp (fun W => Below w.heap.size w W) hb0
  clear hp hB hb0
  obtain ⟨w2, rfl, hz2, hp⟩ := put_of hA
  have hP := hp (fun W => W.heap[w.heap.size + 2]? = _) hP
  have hb2 := hp (fun W => Below w.heap.size w W) hb1
  rw [size_putBlk] at hz1
  clear hp hA hb1
  obtain ⟨p0, p1, p2, p3, p4, p5⟩ := cells6 hP
  have hz3 := lt_of_heap hP
  have hcell : ∀ i, i < 7 → w2.cell? ⟨b, o + i, none⟩ = some (.int .u8 (([c, n, k, d, r, t, q].getD i 0 : Nat) : Int)) := fun i hi => (hb2.cell (p := ⟨b, o + i, none⟩) hlt).trans (HCELL.out i hi)
  have x0 : w2.cell? ⟨b, o, none⟩ = some (.int .u8 (c : Nat)) := by simpa using hcell 0 (by omega)
  have HC2 := Lib.hid hcell
  have hl0 : ¬ b = w.heap.size := by omega
  have hl1 : ¬ b = w.heap.size + 1 := by omega
  have hl3 : ¬ w.heap.size + 2 = w.heap.size := by omega
  have hl4 : ¬ w.heap.size + 2 = w.heap.size + 1 := by omega
  have hl5 : ¬ w.heap.size = w.heap.size + 1 := by omega
  have hl6 : ¬ w.heap.size + 1 = w.heap.size := by omega
  clear hP hcell HCELL
  go_wp2_with fail
  have hm0 : (#[.int .u8 (c : Int), .int .i64 0, .int .i64 0, .int .i64 0, .int .i64 0, .int .i64 0, .int .i64 0] : Array Value) = mixC [c, n, k, d, r, t, q] 0 := rfl
  rw [hm0]
  clear hm0
  go_loopw [26] (fun i wr => ∃ j : Nat, j ≤ 6 ∧ i = .int .i64 j ∧ wr = putBlk (putBlk w2 w.heap.size (.cells #[.int .u8 0, .int .i64 0, .int .i64 0, .int .i64 0, .int .i64 0, .int .i64 0, .int .i64 0] 23)) (w.heap.size + 1) (.cells (mixC [c, n, k, d, r, t, q] j) 23)) (fun i _ => 6 - (intOf i).toNat)
  case atStart => exact ⟨0, by omega, rfl, rfl⟩
  case round =>
    obtain ⟨j, hj, rfl, rfl⟩ := hrel
    by_cases hlt6 : j < 6
    · obtain ⟨x, hx, hx2⟩ := sixp ⟨w.heap.size + 1, 1, none⟩ ⟨w.heap.size + 1, 2, none⟩ ⟨w.heap.size + 1, 3, none⟩ ⟨w.heap.size + 1, 4, none⟩ ⟨w.heap.size + 1, 5, none⟩ ⟨w.heap.size + 1, 6, none⟩ j hlt6
      have hxa : x = ⟨w.heap.size + 1, j + 1, none⟩ := by
        obtain rfl | rfl | rfl | rfl | rfl | rfl : j = 0 ∨ j = 1 ∨ j = 2 ∨ j = 3 ∨ j = 4 ∨ j = 5 := by omega
        all_goals (simp at hx2; exact hx2.symm)
      subst hxa
      have hxc := HC2.out (1 + j) (by omega)
      have hat := mixC_at [c, n, k, d, r, t, q] j hlt6
      have hst := mixC_set [c, n, k, d, r, t, q] j hlt6
      rw [show 1 + j = j + 1 by omega] at hxc
      have hxb : [c, n, k, d, r, t, q].getD (j + 1) 0 < 256 := HB.out _ (by rw [List.getD, List.getElem?_eq_getElem (by simp; omega)]; exact List.getElem_mem _)
      generalize [c, n, k, d, r, t, q].getD (j + 1) 0 = y at hxc hst hxb
      have HST := Lib.hid hst
      have hidx : (1 + (j : Int)).toNat = j + 1 := by omega
      have hxc' : w2.cell? ⟨b, o + (1 + j), none⟩ = some (.int .u8 (y : Int)) := by rw [show 1 + j = j + 1 by omega]; exact hxc
      clear hst hx2
      go_wp2_with fail
      rw [HST.out]
      go_roundw
      case rel => exact ⟨j + 1, by omega, by go_num, rfl⟩
      case measure => simp [intOf]; omega
    · obtain rfl : j = 6 := by omega
      have hm6 : mixC [c, n, k, d, r, t, q] 6 = #[.int .u8 (c : Int), .int .i64 n, .int .i64 k, .int .i64 d, .int .i64 r, .int .i64 t, .int .i64 q] := rfl
      rw [hm6]
      clear hm6
      go_wp2_with fail
      refine (HR.out _).mono ?_
      rintro e w3 ⟨rfl, hb3⟩
      have hs3 := hb3.size
      have hB := (hb3.block (w.heap.size + 1) (by simp [size_putBlk]; omega)).trans (heap_putBlk _ (by rw [size_putBlk]; omega))
      have hA := (hb3.block w.heap.size (by simp [size_putBlk]; omega)).trans ((heap_putBlk_ne _ (by omega)).trans (heap_putBlk _ hz2))
      have hb4 : Below w.heap.size w w3 := (bel_putBlk (bel_putBlk hb2 (Nat.le_refl _) _) (by omega) _).trans (hb3.mono (by simp [size_putBlk]; omega))
      clear hb3 hb2 hz1 hz2 hz3 x0 p0 p1 p2 p3 p4 p5 HC2 hs3
      obtain ⟨w4, rfl, hz2, hp⟩ := put_of hA
      have hB := hp (fun W => W.heap[w.heap.size + 1]? = _) hB
      have b2 := hp (fun W => Below w.heap.size w W) hb4
      obtain ⟨u0, u1, u2, u3, u4, u5, u6⟩ := cells7 hB
      have hz5 := lt_of_heap hB
      clear hp hA hB hb4
      simp only [checkV, Sh.v, Sh.zero]
      go_wp2_with fail
      refine bodyPost_ret (by simp [results, Try.results13, go_sem, hz2] <;> rfl) rfl ⟨rfl, ?_⟩
      (repeat' (first | (with_reducible exact Below.refl _ _) | (with_reducible assumption) | (with_reducible refine bel_drewN ?_ _) | (with_reducible refine Below.drew ?_) | (with_reducible refine Below.alloc ?_ ?_ _) | (with_reducible refine bel_putBlk ?_ ?_ _) | (with_reducible refine Below.setCell ?_ ?_ _) | omega | (simp [size_putBlk]; done) | (simp [size_putBlk]; omega)))
set_option maxHeartbeats 4000000 in
theorem get_none (v : Value) (c n k d r t q : Nat) (w : World) (hv : BytesRd w v [c, n, k, d, r, t, q]) (h : checkF c n k d r t q = none) :
    Calls Try.prog 13 #[v] w (RetCfg 0 0 0 0 0 0 0 130 w) := by
  have HR := Lib.hid (fun w => check_any c n k d r t q w)
  rw [h] at HR
  clear h
  obtain ⟨hb, a, cap, rfl, hcap, hc⟩ := hv
  obtain ⟨b, o, rfl, hlt, hcell⟩ := hc (by simp)
  simp only [List.length_cons, List.length_nil, Nat.reduceAdd] at hcap hcell
  have HB := Lib.hid hb
  have HCELL := Lib.hid hcell
  clear hc hb hcell
  go_enter Try.func13, Try.ntmps13
  go_upto_region 5 with fail
  generalize hw0 : (((w.alloc (.cells #[.int .u8 0, .int .i64 0, .int .i64 0, .int .i64 0, .int .i64 0, .int .i64 0, .int .i64 0] 23)).alloc (.cells #[.int .u8 0, .int .i64 0, .int .i64 0, .int .i64 0, .int .i64 0, .int .i64 0, .int .i64 0] 23)).alloc (.cells #[.pointer (some ⟨w.heap.size + 1, 1, none⟩), .pointer (some ⟨w.heap.size + 1, 2, none⟩), .pointer (some ⟨w.heap.size + 1, 3, none⟩), .pointer (some ⟨w.heap.size + 1, 4, none⟩), .pointer (some ⟨w.heap.size + 1, 5, none⟩), .pointer (some ⟨w.heap.size + 1, 6, none⟩)] 47)) = w0
  have hA : w0.heap[w.heap.size]? = some (.cells #[.int .u8 0, .int .i64 0, .int .i64 0, .int .i64 0, .int .i64 0, .int .i64 0, .int .i64 0] 23) := by rw [← hw0]; exact (heap_three w _ _ _).1
  have hB : w0.heap[w.heap.size + 1]? = some (.cells #[.int .u8 0, .int .i64 0, .int .i64 0, .int .i64 0, .int .i64 0, .int .i64 0, .int .i64 0] 23) := by rw [← hw0]; exact (heap_three w _ _ _).2.1
  have hP : w0.heap[w.heap.size + 2]? = some (.cells #[.pointer (some ⟨w.heap.size + 1, 1, none⟩), .pointer (some ⟨w.heap.size + 1, 2, none⟩), .pointer (some ⟨w.heap.size + 1, 3, none⟩), .pointer (some ⟨w.heap.size + 1, 4, none⟩), .pointer (some ⟨w.heap.size + 1, 5, none⟩), .pointer (some ⟨w.heap.size + 1, 6, none⟩)] 47) := by rw [← hw0]; exact (heap_three w _ _ _).2.2
  have hb0 : Below w.heap.size w w0 := by rw [← hw0]; exact ((((Below.refl _ w).alloc (Nat.le_refl _) _).alloc (by simp) _).alloc (by simp; omega) _)
  clear hw0
  obtain ⟨w1, rfl, hz1, hp⟩ := put_of hB
  have hA := hp (fun W => W.heap[w.heap.size]? = _) hA
  have hP := hp (fun W => W.heap[w.heap.size + 2]? = _) hP
  have hb1 := hp (fun W => Below w.heap.size w W) hb0
  clear hp hB hb0
  obtain ⟨w2, rfl, hz2, hp⟩ := put_of hA
  have hP := hp (fun W => W.heap[w.heap.size + 2]? = _) hP
  have hb2 := hp (fun W => Below w.heap.size w W) hb1
  rw [size_putBlk] at hz1
  clear hp hA hb1
  obtain ⟨p0, p1, p2, p3, p4, p5⟩ := cells6 hP
  have hz3 := lt_of_heap hP
  have hcell : ∀ i, i < 7 → w2.cell? ⟨b, o + i, none⟩ = some (.int .u8 (([c, n, k, d, r, t, q].getD i 0 : Nat) : Int)) := fun i hi => (hb2.cell (p := ⟨b, o + i, none⟩) hlt).trans (HCELL.out i hi)
  have x0 : w2.cell? ⟨b, o, none⟩ = some (.int .u8 (c : Nat)) := by simpa using hcell 0 (by omega)
  have HC2 := Lib.hid hcell
  have hl0 : ¬ b = w.heap.size := by omega
  have hl1 : ¬ b = w.heap.size + 1 := by omega
  have hl3 : ¬ w.heap.size + 2 = w.heap.size := by omega
  have hl4 : ¬ w.heap.size + 2 = w.heap.size + 1 := by omega
  have hl5 : ¬ w.heap.size = w.heap.size + 1 := by omega
  have hl6 : ¬ w.heap.size + 1 = w.heap.size := by omega
  clear hP hcell HCELL
  go_wp2_with fail
  have hm0 : (#[.int .u8 (c : Int), .int .i64 0, .int .i64 0, .int .i64 0, .int .i64 0, .int .i64 0, .int .i64 0] : Array Value) = mixC [c, n, k, d, r, t, q] 0 := rfl
  rw [hm0]
  clear hm0
  go_loopw [26] (fun i wr => ∃ j : Nat, j ≤ 6 ∧ i = .int .i64 j ∧ wr = putBlk (putBlk w2 w.heap.size (.cells #[.int .u8 0, .int .i64 0, .int .i64 0, .int .i64 0, .int .i64 0, .int .i64 0, .int .i64 0] 23)) (w.heap.size + 1) (.cells (mixC [c, n, k, d, r, t, q] j) 23)) (fun i _ => 6 - (intOf i).toNat)
  case atStart => exact ⟨0, by omega, rfl, rfl⟩
  case round =>
    obtain ⟨j, hj, rfl, rfl⟩ := hrel
    by_cases hlt6 : j < 6
    · obtain ⟨x, hx, hx2⟩ := sixp ⟨w.heap.size + 1, 1, none⟩ ⟨w.heap.size + 1, 2, none⟩ ⟨w.heap.size + 1, 3, none⟩ ⟨w.heap.size + 1, 4, none⟩ ⟨w.heap.size + 1, 5, none⟩ ⟨w.heap.size + 1, 6, none⟩ j hlt6
      have hxa : x = ⟨w.heap.size + 1, j + 1, none⟩ := by
        obtain rfl | rfl | rfl | rfl | rfl | rfl : j = 0 ∨ j = 1 ∨ j = 2 ∨ j = 3 ∨ j = 4 ∨ j = 5 := by omega
        all_goals (simp at hx2; exact hx2.symm)
      subst hxa
      have hxc := HC2.out (1 + j) (by omega)
      have hat := mixC_at [c, n, k, d, r, t, q] j hlt6
      have hst := mixC_set [c, n, k, d, r, t, q] j hlt6
      rw [show 1 + j = j + 1 by omega] at hxc
      have hxb : [c, n, k, d, r, t, q].getD (j + 1) 0 < 256 := HB.out _ (by rw [List.getD, List.getElem?_eq_getElem (by simp; omega)]; exact List.getElem_mem _)
      generalize [c, n, k, d, r, t, q].getD (j + 1) 0 = y at hxc hst hxb
      have HST := Lib.hid hst
      have hidx : (1 + (j : Int)).toNat = j + 1 := by omega
      have hxc' : w2.cell? ⟨b, o + (1 + j), none⟩ = some (.int .u8 (y : Int)) := by rw [show 1 + j = j + 1 by omega]; exact hxc
      clear hst hx2
      go_wp2_with fail
      rw [HST.out]
      go_roundw
      case rel => exact ⟨j + 1, by omega, by go_num, rfl⟩
      case measure => simp [intOf]; omega
    · obtain rfl : j = 6 := by omega
      have hm6 : mixC [c, n, k, d, r, t, q] 6 = #[.int .u8 (c : Int), .int .i64 n, .int .i64 k, .int .i64 d, .int .i64 r, .int .i64 t, .int .i64 q] := rfl
      rw [hm6]
      clear hm6
      go_wp2_with fail
      refine (HR.out _).mono ?_
      rintro e w3 ⟨rfl, hb3⟩
      have hs3 := hb3.size
      have hB := (hb3.block (w.heap.size + 1) (by simp [size_putBlk]; omega)).trans (heap_putBlk _ (by rw [size_putBlk]; omega))
      have hA := (hb3.block w.heap.size (by simp [size_putBlk]; omega)).trans ((heap_putBlk_ne _ (by omega)).trans (heap_putBlk _ hz2))
      have hb4 : Below w.heap.size w w3 := (bel_putBlk (bel_putBlk hb2 (Nat.le_refl _) _) (by omega) _).trans (hb3.mono (by simp [size_putBlk]; omega))
      clear hb3 hb2 hz1 hz2 hz3 x0 p0 p1 p2 p3 p4 p5 HC2 hs3
      obtain ⟨w4, rfl, hz2, hp⟩ := put_of hA
      have hB := hp (fun W => W.heap[w.heap.size + 1]? = _) hB
      have b2 := hp (fun W => Below w.heap.size w W) hb4
      obtain ⟨u0, u1, u2, u3, u4, u5, u6⟩ := cells7 hB
      have hz5 := lt_of_heap hB
      clear hp hA hB hb4
      simp only [checkV, Sh.v, Sh.zero]
      go_wp2_with fail
      refine bodyPost_ret (by simp [results, Try.results13, go_sem, hz2] <;> rfl) rfl ⟨rfl, ?_⟩
      (repeat' (first | (with_reducible exact Below.refl _ _) | (with_reducible assumption) | (with_reducible refine bel_drewN ?_ _) | (with_reducible refine Below.drew ?_) | (with_reducible refine Below.alloc ?_ ?_ _) | (with_reducible refine bel_putBlk ?_ ?_ _) | (with_reducible refine Below.setCell ?_ ?_ _) | omega | (simp [size_putBlk]; done) | (simp [size_putBlk]; omega)))
end Go.Proofs.Ytpfhejodjpgliaa
