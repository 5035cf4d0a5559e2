/-
  starfishlaw13.ConfigCheck, walked.
-/
import Derived.Test.YtpfhejodjpgliaaCfgPut
import Derived.Test.YtpfhejodjpgliaaCfgWorks
namespace Go.Proofs.Ytpfhejodjpgliaa
open Go.RowKit
set_option linter.unusedSimpArgs false
set_option linter.unusedVariables false

theorem owns_same {w w2 : World} {base : Nat} {v : Value} {l : List Int} (h : w.ownsRow base 5 1 v l.length (ints l)) (hb : Below w.heap.size w w2) : w2.ownsRow base 5 1 v l.length (ints l) := by
  refine ⟨h.1, ?_⟩
  rcases h.2 with h2 | ⟨g, cap, cur, h1, h2, h3, h4⟩
  · exact .inl h2
  · exact .inr ⟨g, cap, cur, h1, h2, (hb.block g (Array.getElem?_eq_some_iff.1 h3).1).trans h3, h4⟩

theorem rd_of_ints {w : World} {base : Nat} {v : Value} {l : List Int} (h : w.ownsRow base 5 1 v l.length (ints l)) (hl : ∀ x ∈ l, 0 ≤ x ∧ x ≤ 255) : BytesRd w v (l.map Int.toNat) := by
  refine BytesRd.of_owns (base := base) (t := 5) (n := l.length) ?_ ?_
  · have : (l.map Int.toNat).map (fun x => Value.int .u8 ((x : Nat) : Int)) = ints l := by
      rw [List.map_map]
      unfold ints
      refine List.map_congr_left fun x hx => ?_
      simp [Function.comp, Int.toNat_of_nonneg (hl x hx).1]
    rw [this]
    exact h
  · intro x hx
    obtain ⟨y, hy, rfl⟩ := List.mem_map.1 hx
    have := hl y hy
    omega

/-- The cells of a code. -/
theorem cells7 {W : World} {B : Nat} {a b c d e f g : Value} {ty : TypeId} (h : W.heap[B]? = some (.cells #[a, b, c, d, e, f, g] ty)) :
    W.cell? ⟨B, 0, none⟩ = some a ∧ W.cell? ⟨B, 1, none⟩ = some b ∧ W.cell? ⟨B, 2, none⟩ = some c ∧ W.cell? ⟨B, 3, none⟩ = some d ∧ W.cell? ⟨B, 4, none⟩ = some e ∧ W.cell? ⟨B, 5, none⟩ = some f ∧ W.cell? ⟨B, 6, none⟩ = some g :=
  ⟨cell_of_row W _ 0 _ _ (0, 0) h, cell_of_row W _ 1 _ _ (0, 0) h, cell_of_row W _ 2 _ _ (0, 0) h, cell_of_row W _ 3 _ _ (0, 0) h, cell_of_row W _ 4 _ _ (0, 0) h, cell_of_row W _ 5 _ _ (0, 0) h, cell_of_row W _ 6 _ _ (0, 0) h⟩
theorem cells5 {W : World} {B : Nat} {a b c d e : Value} {ty : TypeId} (h : W.heap[B]? = some (.cells #[a, b, c, d, e] ty)) :
    W.cell? ⟨B, 0, none⟩ = some a ∧ W.cell? ⟨B, 1, none⟩ = some b ∧ W.cell? ⟨B, 2, none⟩ = some c ∧ W.cell? ⟨B, 3, none⟩ = some d ∧ W.cell? ⟨B, 4, none⟩ = some e :=
  ⟨cell_of_row W _ 0 _ _ (0, 0) h, cell_of_row W _ 1 _ _ (0, 0) h, cell_of_row W _ 2 _ _ (0, 0) h, cell_of_row W _ 3 _ _ (0, 0) h, cell_of_row W _ 4 _ _ (0, 0) h⟩
theorem checkV_form (o : Option Sh) : ∃ a b c d e f, checkV o = .tuple #[.agg #[.int .i64 a, .int .i64 b, .int .i64 c, .int .i64 d, .int .i64 e], .int .i64 f] := by
  cases o with
  | none => exact ⟨_, _, _, _, _, _, rfl⟩
  | some s => exact ⟨_, _, _, _, _, _, rfl⟩

/-- A call behind a block: what lay below lies, the new block too. -/
theorem step_alloc {w W w' : World} (o : Obj) (hb : Below w.heap.size w W) (hc : Below (W.alloc o).heap.size (W.alloc o) w') :
    Below w.heap.size w w' ∧ w'.heap[W.heap.size]? = some o ∧ W.heap.size < w'.heap.size ∧ Below W.heap.size W w' := by
  have h1 : Below W.heap.size W w' := ((Below.refl _ W).alloc (Nat.le_refl _) o).trans (hc.mono (by simp))
  have hs := hc.size
  simp only [World.size_alloc] at hs
  refine ⟨hb.trans (h1.mono hb.size), (hc.block _ (by simp)).trans ?_, by omega, h1⟩
  show (W.heap.push o)[W.heap.size]? = _
  rw [Array.getElem?_push, if_pos rfl]

set_option maxHeartbeats 2000000 in
theorem law_check (c n k d r t q : Int) (w : World) :
    Calls Try.prog 5 #[.agg #[.int .u8 c, .int .i64 n, .int .i64 k, .int .i64 d, .int .i64 r, .int .i64 t, .int .i64 q]] w fun e w' => e = .returned (.bool true) ∧ Below w.heap.size w w' := by
  obtain ⟨l, code, hl, hp1, hp2⟩ := put_any c n k d r t q
  obtain ⟨f1, f2, f3, f4, f5, f6, hf⟩ := checkV_form (checkF c n k d r t q)
  have hc := fun w => check_any c n k d r t q w
  have hr := fun w => rcheck_any c n k d r t q w
  rw [hf] at hc hr
  have HC := Lib.hid hc
  have HR := Lib.hid hr
  have HP1 := Lib.hid hp1
  have HP2 := Lib.hid hp2
  have HL := Lib.hid hl
  clear hp1 hp2 hf hc hr hl
  go_enter Try.func5, Try.ntmps5
  go_wp2_with fail
  refine (HC.out _).mono ?_
  rintro e w1 ⟨rfl, hb1⟩
  obtain ⟨b1, hA, hs1, _⟩ := step_alloc _ (Below.refl w.heap.size w) hb1
  clear hb1
  obtain ⟨c0, c1, c2, c3, c4, c5, c6⟩ := cells7 hA
  have HA := Lib.hid hA
  clear hA
  go_wp2_with fail
  refine (HR.out _).mono ?_
  rintro e w2 ⟨rfl, hb2⟩
  obtain ⟨b2, hB, hs2, k2⟩ := step_alloc _ b1 hb2
  have hA := (k2.block _ hs1).trans HA.out
  clear hb2 b1 HA c0 c1 c2 c3 c4 c5 c6
  obtain ⟨c0, c1, c2, c3, c4, c5, c6⟩ := cells7 hA
  have HA := Lib.hid hA
  have HB := Lib.hid hB
  have hs1' : w.heap.size < w2.heap.size := by omega
  clear hA hB
  go_wp2_with fail
  refine (HP1.out _).mono ?_
  rintro e w3 ⟨v1, rfl, ho1, hb3⟩
  obtain ⟨b3, hC, hs3, k3⟩ := step_alloc _ b2 hb3
  have hA := (k3.block _ hs1').trans HA.out
  have hB := (k3.block _ hs2).trans HB.out
  have hr1 := rd_of_ints ho1 HL.out
  have hs1'' : w.heap.size < w3.heap.size := by omega
  have hs2' : w1.heap.size < w3.heap.size := by omega
  clear hb3 b2 HA HB c0 c1 c2 c3 c4 c5 c6 ho1 k2 k3
  obtain ⟨c0, c1, c2, c3, c4, c5, c6⟩ := cells7 hA
  have HB := Lib.hid hB
  have HC2 := Lib.hid hC
  have HR1 := Lib.hid hr1
  clear hA hB hC hr1 hs1'
  go_wp2_with fail
  refine (HP2.out _).mono ?_
  rintro e w4 ⟨v2, rfl, ho2, hb4⟩
  have hB := (hb4.block _ hs2').trans HB.out
  have hC := (hb4.block _ hs3).trans HC2.out
  have hr1 := HR1.out.below hb4
  have hr2 := rd_of_ints ho2 HL.out
  have b4 := b3.trans (hb4.mono b3.size)
  clear hb4 b3 HB HC2 HR1 c0 c1 c2 c3 c4 c5 c6 ho2
  obtain ⟨x0, x1, x2, x3, x4⟩ := cells5 hB
  obtain ⟨y0, y1, y2, y3, y4⟩ := cells5 hC
  have HS := Lib.hid (same_bytes v1 v2 _ _ w4 hr1 hr2)
  have HW := Lib.hid works_any
  clear hB hC hr1 hr2
  go_wp2_with (first | (go_at_call 12; refine HS.out.mono ?_; rintro e w' ⟨rfl, rfl⟩) | (go_at_call 8; refine (HW.out _).mono ?_; rintro e w5 ⟨rfl, hb5⟩))
  go_ret
  exact ⟨by simp, b4.trans (hb5.mono b4.size)⟩
end Go.Proofs.Ytpfhejodjpgliaa
