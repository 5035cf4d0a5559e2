/-
  config.Put and the reference's Put.
-/
import Derived.Test.YtpfhejodjpgliaaCfgRef13b
import Derived.Test.YtpfhejodjpgliaaCfgCheck2
import Derived.Test.YtpfhejodjpgliaaBytes
import Derived.Test.YtpfhejodjpgliaaOf
namespace Go.Proofs.Ytpfhejodjpgliaa
open Go.RowKit
set_option linter.unusedSimpArgs false
set_option linter.unusedVariables false

def ints (l : List Int) : List Value := l.map (Value.int .u8)
/-- A row of bytes in new memory, and a code. -/
def RetInts (w : World) (l : List Int) (code : Int) (e : Ending) (w' : World) : Prop :=
  ∃ v, e = .returned (.tuple #[v, .int .i64 code]) ∧ w'.ownsRow w.heap.size 5 1 v l.length (ints l) ∧ Below w.heap.size w w'

theorem check_in {c n k d r t q : Int} {s : Sh} (h : checkF c n k d r t q = some s) : inRange n k d r t ∧ 0 ≤ q ∧ q ≤ n := by
  unfold checkF at h
  split at h
  · rename_i hh
    obtain ⟨h1, hf1, hf2, hf3, hf4, hf5⟩ := hh
    obtain ⟨b1, b2, b3, b4, b5, b6, b7, b8, b9, b10⟩ := h1
    refine ⟨⟨b1, b2, b3, b4, b5, b6, b7, b8, b9, b10⟩, ?_, hf3⟩
    rcases shapeF_ok (c := c) (n := n) (k := k) (d := d) (r := r) (t := t) ⟨b1, b2⟩ ⟨b3, b4⟩ ⟨b5, b6⟩ ⟨b7, b8⟩ ⟨b9, b10⟩ with hz | ⟨c1, c2, c3, c4, c5, c6, c7⟩
    · exact absurd hz hf1
    · omega
  · cases h

set_option maxHeartbeats 1000000 in
theorem rput_none (c n k d r t q : Int) (w : World) (h : checkF c n k d r t q = none) :
    Calls Try.prog 11 #[.agg #[.int .u8 c, .int .i64 n, .int .i64 k, .int .i64 d, .int .i64 r, .int .i64 t, .int .i64 q]] w (RetInts w [] 130) := by
  have hs := fun w => rcheck_any c n k d r t q w
  rw [h] at hs
  have HK := Lib.hid hs
  clear hs h
  go_enter Try.func11, Try.ntmps11
  go_wp2_with fail
  generalize hw0 : (w.alloc (.cells #[.int .u8 c, .int .i64 n, .int .i64 k, .int .i64 d, .int .i64 r, .int .i64 t, .int .i64 q] 23)) = w0
  have hs0 : w0.heap.size = w.heap.size + 1 := by rw [← hw0]; simp
  have hB0 : w0.heap[w.heap.size]? = some (.cells #[.int .u8 c, .int .i64 n, .int .i64 k, .int .i64 d, .int .i64 r, .int .i64 t, .int .i64 q] 23) := by rw [← hw0]; exact heap_new9 w _
  have hb0 : Below w.heap.size w w0 := by rw [← hw0]; exact ((Below.refl _ w).alloc (Nat.le_refl _) _)
  clear hw0
  refine (HK.out _).mono ?_
  rintro e w1 ⟨rfl, hn1⟩
  have hs1 := hn1.size
  have hB0 := (hn1.block _ (by omega)).trans hB0
  have hb1 := hb0.trans (hn1.mono (by omega))
  clear hn1 hb0
  rw [hs0] at hs1
  clear hs0
  simp only [checkV, Sh.v, Sh.zero]
  go_wp2
  go_ret2
  exact ⟨_, rfl, World.ownsRow_nil _ _ _ _, by (repeat' (first | (with_reducible exact Below.refl _ _) | (with_reducible assumption) | (with_reducible refine bel_drewN ?_ _) | (with_reducible refine Below.drew ?_) | (with_reducible refine Below.alloc ?_ ?_ _) | (with_reducible refine bel_putBlk ?_ ?_ _) | (with_reducible refine Below.setCell ?_ ?_ _) | omega | (simp [size_putBlk]; done) | (simp [size_putBlk]; omega)))⟩
set_option maxHeartbeats 1000000 in
theorem put_none (c n k d r t q : Int) (w : World) (h : checkF c n k d r t q = none) :
    Calls Try.prog 10 #[.agg #[.int .u8 c, .int .i64 n, .int .i64 k, .int .i64 d, .int .i64 r, .int .i64 t, .int .i64 q]] w (RetInts w [] 130) := by
  have hs := fun w => check_any c n k d r t q w
  rw [h] at hs
  have HK := Lib.hid hs
  clear hs h
  go_enter Try.func10, Try.ntmps10
  go_wp2_with fail
  generalize hw0 : (w.alloc (.cells #[.int .u8 c, .int .i64 n, .int .i64 k, .int .i64 d, .int .i64 r, .int .i64 t, .int .i64 q] 23)) = w0
  have hs0 : w0.heap.size = w.heap.size + 1 := by rw [← hw0]; simp
  have hB0 : w0.heap[w.heap.size]? = some (.cells #[.int .u8 c, .int .i64 n, .int .i64 k, .int .i64 d, .int .i64 r, .int .i64 t, .int .i64 q] 23) := by rw [← hw0]; exact heap_new9 w _
  have hb0 : Below w.heap.size w w0 := by rw [← hw0]; exact ((Below.refl _ w).alloc (Nat.le_refl _) _)
  clear hw0
  refine (HK.out _).mono ?_
  rintro e w1 ⟨rfl, hn1⟩
  have hs1 := hn1.size
  have hB0 := (hn1.block _ (by omega)).trans hB0
  have hb1 := hb0.trans (hn1.mono (by omega))
  clear hn1 hb0
  rw [hs0] at hs1
  clear hs0
  simp only [checkV, Sh.v, Sh.zero]
  go_wp2
  go_ret2
  exact ⟨_, rfl, World.ownsRow_nil _ _ _ _, by (repeat' (first | (with_reducible exact Below.refl _ _) | (with_reducible assumption) | (with_reducible refine bel_drewN ?_ _) | (with_reducible refine Below.drew ?_) | (with_reducible refine Below.alloc ?_ ?_ _) | (with_reducible refine bel_putBlk ?_ ?_ _) | (with_reducible refine Below.setCell ?_ ?_ _) | omega | (simp [size_putBlk]; done) | (simp [size_putBlk]; omega)))⟩
set_option maxHeartbeats 1000000 in
theorem rput_some (c n k d r t q : Int) (s : Sh) (w : World) (h : checkF c n k d r t q = some s) :
    Calls Try.prog 11 #[.agg #[.int .u8 c, .int .i64 n, .int .i64 k, .int .i64 d, .int .i64 r, .int .i64 t, .int .i64 q]] w (RetInts w [c, n, k, d, r, t, q] 0) := by
  obtain ⟨⟨b1, b2, b3, b4, b5, b6, b7, b8, b9, b10⟩, b11, b12⟩ := check_in h
  have hs := fun w => rcheck_any c n k d r t q w
  rw [h] at hs
  have HK := Lib.hid hs
  clear hs h
  have e1 : IntKind.u8.wrap n = n := IntWalk.u8_in _ (by omega)
  have e2 : IntKind.u8.wrap k = k := IntWalk.u8_in _ (by omega)
  have e3 : IntKind.u8.wrap d = d := IntWalk.u8_in _ (by omega)
  have e4 : IntKind.u8.wrap r = r := IntWalk.u8_in _ (by omega)
  have e5 : IntKind.u8.wrap t = t := IntWalk.u8_in _ (by omega)
  have e6 : IntKind.u8.wrap q = q := IntWalk.u8_in _ (by omega)
  go_enter Try.func11, Try.ntmps11
  go_wp2_with fail
  generalize hw0 : (w.alloc (.cells #[.int .u8 c, .int .i64 n, .int .i64 k, .int .i64 d, .int .i64 r, .int .i64 t, .int .i64 q] 23)) = w0
  have hs0 : w0.heap.size = w.heap.size + 1 := by rw [← hw0]; simp
  have hB0 : w0.heap[w.heap.size]? = some (.cells #[.int .u8 c, .int .i64 n, .int .i64 k, .int .i64 d, .int .i64 r, .int .i64 t, .int .i64 q] 23) := by rw [← hw0]; exact heap_new9 w _
  have hb0 : Below w.heap.size w w0 := by rw [← hw0]; exact ((Below.refl _ w).alloc (Nat.le_refl _) _)
  clear hw0
  refine (HK.out _).mono ?_
  rintro e w1 ⟨rfl, hn1⟩
  have hs1 := hn1.size
  have hB0 := (hn1.block _ (by omega)).trans hB0
  have hb1 := hb0.trans (hn1.mono (by omega))
  clear hn1 hb0
  rw [hs0] at hs1
  clear hs0
  simp only [checkV, Sh.v, Sh.zero]
  have hc0 : w1.cell? ⟨w.heap.size, 0, none⟩ = some (.int .u8 c) := cell_of_row w1 _ 0 _ _ (0, 0) hB0
  have hc1 : w1.cell? ⟨w.heap.size, 1, none⟩ = some (.int .i64 n) := cell_of_row w1 _ 1 _ _ (0, 0) hB0
  have hc2 : w1.cell? ⟨w.heap.size, 2, none⟩ = some (.int .i64 k) := cell_of_row w1 _ 2 _ _ (0, 0) hB0
  have hc3 : w1.cell? ⟨w.heap.size, 3, none⟩ = some (.int .i64 d) := cell_of_row w1 _ 3 _ _ (0, 0) hB0
  have hc4 : w1.cell? ⟨w.heap.size, 4, none⟩ = some (.int .i64 r) := cell_of_row w1 _ 4 _ _ (0, 0) hB0
  have hc5 : w1.cell? ⟨w.heap.size, 5, none⟩ = some (.int .i64 t) := cell_of_row w1 _ 5 _ _ (0, 0) hB0
  have hc6 : w1.cell? ⟨w.heap.size, 6, none⟩ = some (.int .i64 q) := cell_of_row w1 _ 6 _ _ (0, 0) hB0
  have hl0 : w.heap.size < w1.heap.size := by omega
  clear hB0
  go_wp2
  go_ret2
  exact ⟨_, rfl, by simpa [ints] using World.ownsRow_lit (base := w.heap.size) (e := 5) (size := 1) (w1.alloc (.cells #[.int .i64 s.al, .int .i64 s.b, .int .i64 s.te, .int .i64 s.as_, .int .i64 s.to] 31)) #[.int .u8 c, .int .u8 n, .int .u8 k, .int .u8 d, .int .u8 r, .int .u8 t, .int .u8 q] 7 (by simp; omega) (by unfold maxLen; omega) rfl, by (repeat' (first | (with_reducible exact Below.refl _ _) | (with_reducible assumption) | (with_reducible refine bel_drewN ?_ _) | (with_reducible refine Below.drew ?_) | (with_reducible refine Below.alloc ?_ ?_ _) | (with_reducible refine bel_putBlk ?_ ?_ _) | (with_reducible refine Below.setCell ?_ ?_ _) | omega | (simp [size_putBlk]; done) | (simp [size_putBlk]; omega)))⟩

theorem six (n k d r t q : Int) (j : Nat) (hj : j < 6) : ∃ x, (∀ w, (Instr.index 45 (.agg #[.int .i64 n, .int .i64 k, .int .i64 d, .int .i64 r, .int .i64 t, .int .i64 q]) (.int .i64 (j : Int))).run Try.prog w = .ok (.int .i64 x) w) ∧
    [n, k, d, r, t, q][j]? = some x := by
  obtain rfl | rfl | rfl | rfl | rfl | rfl : j = 0 ∨ j = 1 ∨ j = 2 ∨ j = 3 ∨ j = 4 ∨ j = 5 := by omega
  · exact ⟨n, fun _ => by kernel_rfl, rfl⟩
  · exact ⟨k, fun _ => by kernel_rfl, rfl⟩
  · exact ⟨d, fun _ => by kernel_rfl, rfl⟩
  · exact ⟨r, fun _ => by kernel_rfl, rfl⟩
  · exact ⟨t, fun _ => by kernel_rfl, rfl⟩
  · exact ⟨q, fun _ => by kernel_rfl, rfl⟩

set_option maxHeartbeats 1000000 in
theorem put_some (c n k d r t q : Int) (s : Sh) (w : World) (h : checkF c n k d r t q = some s) :
    Calls Try.prog 10 #[.agg #[.int .u8 c, .int .i64 n, .int .i64 k, .int .i64 d, .int .i64 r, .int .i64 t, .int .i64 q]] w (RetInts w [c, n, k, d, r, t, q] 0) := by
  obtain ⟨⟨b1, b2, b3, b4, b5, b6, b7, b8, b9, b10⟩, b11, b12⟩ := check_in h
  have hs := fun w => check_any c n k d r t q w
  rw [h] at hs
  have HK := Lib.hid hs
  clear hs h
  obtain ⟨i0, hi, hz0, hz1, hz2⟩ := info_parts u8_info
  go_enter Try.func10, Try.ntmps10
  go_wp2_with fail
  generalize hw0 : (w.alloc (.cells #[.int .u8 c, .int .i64 n, .int .i64 k, .int .i64 d, .int .i64 r, .int .i64 t, .int .i64 q] 23)) = w0
  have hs0 : w0.heap.size = w.heap.size + 1 := by rw [← hw0]; simp
  have hB0 : w0.heap[w.heap.size]? = some (.cells #[.int .u8 c, .int .i64 n, .int .i64 k, .int .i64 d, .int .i64 r, .int .i64 t, .int .i64 q] 23) := by rw [← hw0]; exact heap_new9 w _
  have hb0 : Below w.heap.size w w0 := by rw [← hw0]; exact ((Below.refl _ w).alloc (Nat.le_refl _) _)
  clear hw0
  refine (HK.out _).mono ?_
  rintro e w1 ⟨rfl, hn1⟩
  have hs1 := hn1.size
  have hB0 := (hn1.block _ (by omega)).trans hB0
  have hb1 := hb0.trans (hn1.mono (by omega))
  clear hn1 hb0
  rw [hs0] at hs1
  clear hs0
  simp only [checkV, Sh.v, Sh.zero]
  have hc0 : w1.cell? ⟨w.heap.size, 0, none⟩ = some (.int .u8 c) := cell_of_row w1 _ 0 _ _ (0, 0) hB0
  have hc1 : w1.cell? ⟨w.heap.size, 1, none⟩ = some (.int .i64 n) := cell_of_row w1 _ 1 _ _ (0, 0) hB0
  have hc2 : w1.cell? ⟨w.heap.size, 2, none⟩ = some (.int .i64 k) := cell_of_row w1 _ 2 _ _ (0, 0) hB0
  have hc3 : w1.cell? ⟨w.heap.size, 3, none⟩ = some (.int .i64 d) := cell_of_row w1 _ 3 _ _ (0, 0) hB0
  have hc4 : w1.cell? ⟨w.heap.size, 4, none⟩ = some (.int .i64 r) := cell_of_row w1 _ 4 _ _ (0, 0) hB0
  have hc5 : w1.cell? ⟨w.heap.size, 5, none⟩ = some (.int .i64 t) := cell_of_row w1 _ 5 _ _ (0, 0) hB0
  have hc6 : w1.cell? ⟨w.heap.size, 6, none⟩ = some (.int .i64 q) := cell_of_row w1 _ 6 _ _ (0, 0) hB0
  have hl0 : w.heap.size < w1.heap.size := by omega
  clear hB0
  go_wp2
  have hown0 := World.ownsRow_lit (base := w.heap.size) (e := 5) (size := 1) (w1.alloc (.cells #[.int .i64 s.al, .int .i64 s.b, .int .i64 s.te, .int .i64 s.as_, .int .i64 s.to] 25)) #[.int .u8 c] 1 (by simp; omega) (by unfold maxLen; omega) rfl
  have hbel : Below w.heap.size w ((w1.alloc (.cells #[.int .i64 s.al, .int .i64 s.b, .int .i64 s.te, .int .i64 s.as_, .int .i64 s.to] 25)).alloc (.cells #[.int .u8 c] 5)) := by (repeat' (first | (with_reducible exact Below.refl _ _) | (with_reducible assumption) | (with_reducible refine bel_drewN ?_ _) | (with_reducible refine Below.drew ?_) | (with_reducible refine Below.alloc ?_ ?_ _) | (with_reducible refine bel_putBlk ?_ ?_ _) | (with_reducible refine Below.setCell ?_ ?_ _) | omega | (simp [size_putBlk]; done) | (simp [size_putBlk]; omega)))
  go_loopw [6, 33] (fun v i wr => ∃ j : Nat, j ≤ 6 ∧ i = .int .i64 j ∧ wr.ownsRow w.heap.size 5 1 v (j + 1) ((ints [c, n, k, d, r, t, q]).take (j + 1)) ∧ Below w.heap.size w wr) (fun _ i _ => 6 - (intOf i).toNat)
  case atStart => exact ⟨0, by omega, rfl, by simpa [ints] using hown0, hbel⟩
  case round =>
    obtain ⟨j, hj, rfl, hown, hb⟩ := hrel
    clear hown0 hbel
    by_cases hlt : j < 6
    · have hsz := hb.size
      obtain ⟨x, hx, hx2⟩ := six n k d r t q j hlt
      have hxb : 0 ≤ x ∧ x ≤ 255 := by
        obtain rfl | rfl | rfl | rfl | rfl | rfl : j = 0 ∨ j = 1 ∨ j = 2 ∨ j = 3 ∨ j = 4 ∨ j = 5 := by omega
        all_goals (simp at hx2; subst hx2; omega)
      have htk : (ints [c, n, k, d, r, t, q]).take (j + 1) ++ [.int .u8 x] = (ints [c, n, k, d, r, t, q]).take (j + 1 + 1) := by
        rw [List.take_add_one (l := ints [c, n, k, d, r, t, q]) (i := j + 1)]
        congr 1
        show _ = (Option.toList ((([n, k, d, r, t, q]).map (Value.int .u8))[j]?))
        rw [List.getElem?_map, hx2]
        rfl
      have ew : IntKind.u8.wrap x = x := IntWalk.u8_in _ hxb
      have HT := Lib.hid htk
      clear htk hx2
      go_wp2_with (first
        | (at_builtin; refine wpList_append_own _ rfl _ _ 34 rfl w.heap.size 5 i0 (.int .u8 0) 1 1 Try.underlying34 hi hz0 hz1 hz2 rfl (by decide) _ _ _ rfl (hown.alloc _) ⟨wr.heap.size, 0, none⟩ 1 1 [.int .u8 x] rfl rfl (cell_one_new _ _ _) (by simp [Value.oneCell']) (by unfold maxLen; omega) (by omega) (by simp; omega) ?_; intro v' w1 hown' hgrow _))
      have hb1 := (hb.alloc hsz (.cells #[.int .u8 x] 5)).grown hgrow (by simp; omega) (own_ge hown)
      rw [HT.out] at hown'
      go_roundw
      case rel => exact ⟨j + 1, by omega, by go_num, hown', hb1⟩
      case measure => simp [intOf]; omega
    · obtain rfl : j = 6 := by omega
      go_wp2
      go_ret2
      exact ⟨_, rfl, by simpa [ints] using hown, hb⟩

theorem check_code {c n k d r t q : Int} {s : Sh} (h : checkF c n k d r t q = some s) : 1 ≤ c ∧ c ≤ 5 := by
  unfold checkF at h
  split at h
  · rename_i hh
    refine Classical.byContradiction fun hc => hh.2.1 ?_
    unfold shapeF
    rw [if_neg (show ¬ c = 1 by omega), if_neg (show ¬ c = 2 by omega), if_neg (show ¬ c = 3 by omega), if_neg (show ¬ c = 4 by omega), if_neg (show ¬ c = 5 by omega)]
    split <;> rfl
  · cases h

/-- What is put, by both. -/
theorem put_any (c n k d r t q : Int) : ∃ (l : List Int) (code : Int), (∀ x ∈ l, 0 ≤ x ∧ x ≤ 255) ∧ (∀ w, Calls Try.prog 10 #[.agg #[.int .u8 c, .int .i64 n, .int .i64 k, .int .i64 d, .int .i64 r, .int .i64 t, .int .i64 q]] w (RetInts w l code)) ∧ (∀ w, Calls Try.prog 11 #[.agg #[.int .u8 c, .int .i64 n, .int .i64 k, .int .i64 d, .int .i64 r, .int .i64 t, .int .i64 q]] w (RetInts w l code)) := by
  cases h : checkF c n k d r t q with
  | none => exact ⟨_, _, by simp, fun w => put_none c n k d r t q w h, fun w => rput_none c n k d r t q w h⟩
  | some s =>
    obtain ⟨⟨b1, b2, b3, b4, b5, b6, b7, b8, b9, b10⟩, b11, b12⟩ := check_in h
    have := check_code h
    refine ⟨_, _, ?_, fun w => put_some c n k d r t q s w h, fun w => rput_some c n k d r t q s w h⟩
    intro x hx
    simp only [List.mem_cons, List.not_mem_nil, or_false] at hx
    omega
end Go.Proofs.Ytpfhejodjpgliaa
