/-
  Slices of a row, appends onto them.
-/
import Derived.Test.YteeeocianofkfaaGreatAppZ
import Derived.Test.YteeeocianofkfaaGreatRef2
import Derived.ArgAppend
namespace Go.Proofs.YteeeocianofkfaaGreat
open Go.RowKit Fld
set_option linter.unusedVariables false
set_option linter.unusedSimpArgs false

theorem slice_front (g n C : Nat) (hC : 0 < C) (hn : n ≤ C) : ∀ W : World, (Instr.slice 22 (.slice (some ⟨g, 0, none⟩) C C) none (some (.int .i64 (n : Nat))) none).run Tryz.prog W = .ok (.slice (some ⟨g, 0, none⟩) n C) W := fun W => by
  rw [run_slice_h (P := Tryz.prog) (w := W) 22 (some ⟨g, 0, none⟩) C C (by kernel_rfl) .i64 (n : Int) (by omega) (by omega), u8_size]
  simp only [Result.andThen_ok, sliced, Int.toNat_natCast]
  rw [if_neg (by omega)]
  simp [Addr.add_lit]
theorem slice_back (g n v C : Nat) (hC : 0 < C) (h : n + v = C) : ∃ so, (∀ W : World, (Instr.slice 22 (.slice (some ⟨g, 0, none⟩) C C) (some (.int .i64 (n : Nat))) (some (.int .i64 (C : Nat))) (some (.int .i64 (C : Nat)))).run Tryz.prog W = .ok (.slice (some ⟨g, so, none⟩) v v) W) ∧ (0 < v → so = n) := by
  by_cases h0 : v = 0
  · refine ⟨0, fun W => ?_, by omega⟩
    rw [run_slice_lhm (P := Tryz.prog) (w := W) 22 (some ⟨g, 0, none⟩) C C (by kernel_rfl) .i64 .i64 .i64 (n : Int) (C : Int) (C : Int) (by omega) (by omega) (by omega) (by omega), u8_size]
    simp only [Result.andThen_ok, sliced, Int.toNat_natCast]
    rw [if_pos (by omega), show C - n = v by omega]
  · refine ⟨n, fun W => ?_, fun _ => rfl⟩
    rw [run_slice_lhm (P := Tryz.prog) (w := W) 22 (some ⟨g, 0, none⟩) C C (by kernel_rfl) .i64 .i64 .i64 (n : Int) (C : Int) (C : Int) (by omega) (by omega) (by omega) (by omega), u8_size]
    simp only [Result.andThen_ok, sliced, Int.toNat_natCast]
    rw [if_neg (by omega), show C - n = v by omega]
    simp [Addr.add_lit]
/-- One byte appended where there is no room. -/
theorem app_full {W : World} {g so v : Nat} {r : Nat → GF} (hr : ∀ j, j < v → W.cell? ⟨g, so + j, none⟩ = some (.int .u8 ((r j).n : Nat))) (hg : g < W.heap.size) (hv : v ≤ 1000000) (x : GF) {nn : Nat} (hx : x.n = nn) {ad : Nat} (had : ad = W.heap.size) :
    ∃ c1 m1 a1 w3, (Builtin.append_ #[22, 22] 22 #[.slice (some ⟨g, so, none⟩) v v, .slice (some ⟨ad, 0, none⟩) 1 1]).run Tryz.prog (W.alloc (.cells #[.int .u8 (nn : Int)] 5)) = .ok (.slice a1 m1 c1) w3 ∧ Below W.heap.size W w3 ∧ OwnG w3 W.heap.size (.slice a1 m1 c1) (rowF r v ++ [x]) ∧ m1 = v + 1 := by
  subst had
  subst hx
  obtain ⟨i0, hi, hz0, hz1, hz2⟩ := info_parts u8_info
  obtain ⟨v1, w3, hap, hown, hgrow⟩ := run_append_arg_grows (P := Tryz.prog) (w := W.alloc (.cells #[.int .u8 (x.n : Int)] 5)) 22 22 5 i0 (.int .u8 0) 1 1 Tryz.underlying22 hi hz0 hz1 hz2 rfl (by decide)
    ⟨g, so, none⟩ v v (gv (rowF r v)) (by simp [gv, rowF_len]) (fun j u hj => by
      have hjv : j < v := by
        have := (List.getElem?_eq_some_iff.1 hj).1
        simpa [gv, rowF_len] using this
      have e : u = .int .u8 ((r j).n : Nat) := by
        rw [gv, List.getElem?_map, rowF, List.getElem?_map, List.getElem?_range hjv] at hj
        simpa using hj.symm
      rw [e, Addr.add_lit]
      exact (((Below.refl _ W).alloc (Nat.le_refl _) _).cell (p := ⟨g, so + j, none⟩) hg).trans (hr j hjv))
    ⟨W.heap.size, 0, none⟩ 1 1 [.int .u8 (x.n : Int)] rfl (cell_one_new _ _ _) (by omega) (by unfold maxLen; omega) (by omega)
  have hown' : OwnG w3 W.heap.size v1 (rowF r v ++ [x]) := by
    refine OwnG.mono (B := (W.alloc (.cells #[.int .u8 (x.n : Int)] 5)).heap.size) ?_ (by simp)
    unfold OwnG
    rw [gv_snoc, List.length_append, rowF_len]
    exact hown
  obtain ⟨a1, c1, rfl, -⟩ := hown'.form
  refine ⟨c1, _, a1, w3, hap, ?_, hown', by rw [List.length_append, rowF_len]; rfl⟩
  exact ((Below.refl W.heap.size W).alloc (Nat.le_refl _) _).grown hgrow (by simp) (fun b hb => by cases hb)
/-- So many zeros appended. -/
theorem app_zeros {W : World} {base : Nat} {V : Value} {l : List GF} (h : OwnG W base V l) (hl : l.length ≤ 1000000) (hb : base ≤ W.heap.size) (m : Nat) (hm : m ≤ 1000000) :
    ∃ v1 w3, (Builtin.append_ #[22, 3] 22 #[V, .int .i64 (m : Int)]).run Tryz.prog W = .ok v1 w3 ∧ OwnG w3 base v1 (l ++ List.replicate m 0) ∧ Kp V.ownBlock.toList W w3 ∧ Below base W w3 := by
  obtain ⟨i0, hi, hz0, hz1, hz2⟩ := info_parts u8_info
  obtain ⟨v1, w3, hap, hown, hgrow, hat⟩ := run_append_zeros (P := Tryz.prog) W base 22 3 22 5 i0 (.int .u8 0) 1 .i64 .i64 Tryz.underlying22 Tryz.underlying3 hi hz0 hz1 hz2 rfl (by simp [Value.oneCell']) V l.length (gv l) h m (by unfold maxLen; omega) (by omega) hb
  refine ⟨v1, w3, hap, ?_, (Kp.refl _ W).grown hgrow (fun b hb => .inl (by rw [hb]; simp)), (Below.refl base W).grown hgrow hb (fun b hb => (h.lt b hb).1)⟩
  unfold OwnG
  have e : gv (l ++ List.replicate m 0) = gv l ++ List.replicate m (.int .u8 0) := by simp [gv]; exact .inr rfl
  rw [e, List.length_append, List.length_replicate]
  exact hown
end Go.Proofs.YteeeocianofkfaaGreat
