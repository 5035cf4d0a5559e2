/-
  An argument of type []ideal.Call, as the walks have it.
-/
import Derived.Test.YtggecoekoilahaaIdLPermits
import Derived.Deep.Slices
import Derived.Deep.Fields
import Derived.ChangeArms
namespace Go.Proofs.Ytggecoekoilahaa
open Go.RowKit Go.ChangeShapes Go.WideShapes Go.ChangeAt Go.Deep
set_option linter.unusedVariables false
section
variable {H : Type} {enc : TypeId × Value → H} {W : World}

theorem one_cell {cs : List Value} {j : Nat} (h : j < cs.length) : (cs.drop j).take 1 = [cs[j]] := by
  rw [List.drop_eq_getElem_cons h]
  rfl
theorem bytes_field {cs : List Value} {n : Nat} {y : DataW H × List MemPlace} (h : DataW.trod enc Try.prog W 0 (fun _ => true) true n 27 cs = some y) : ∃ a len cap l, cs = [.slice a len cap] ∧ BytesRd W (.slice a len cap) l := by
  rcases open_slice Try.underlying27 h with ⟨rfl, _⟩ | ⟨a, len, cap, m, n', D, Pl, rfl, _⟩
  · exact ⟨none, 0, 0, [], rfl, BytesRd.nil W⟩
  · have h2 : DataW.Trod enc Try.prog W 0 (fun _ => true) true 27 (.slice (some a) len cap) y.1 y.2 := ⟨n, by simpa [Value.cells] using h⟩
    obtain ⟨l, hl, _⟩ := BytesRd.of_trod Try.underlying27 Try.underlying5 (by kernel_rfl) h2
    exact ⟨some a, len, cap, l, rfl, hl⟩

theorem call_field {cs : List Value} {n : Nat} {y : DataW H × List MemPlace} (h : DataW.trod enc Try.prog W 0 (fun _ => true) true n 30 cs = some y) :
    ∃ m : CM, cs = m.c.cells ∧ m.rd W ∧ m.c.key.size ≤ maxLen := by
  have hu := Try.underlying30
  obtain ⟨xs, n', _, _, hlen, hxs, hf⟩ := DataW.trod_struct hu h
  have hl8 : cs.length = 8 := by rw [hlen]; kernel_rfl
  have hx8 : xs.length = 8 := by simpa using hxs
  have h0 : DataW.trod enc Try.prog W 0 (fun _ => true) true n' 3 [cs[0]'(by omega)] = some (xs[0]'(by omega)) := by
    have e : DataW.trod enc Try.prog W 0 (fun _ => true) true n' 3 ((cs.drop 0).take (Try.prog.cellsOf 3)) = xs[0]? := hf 0 _ rfl
    rw [show Try.prog.cellsOf 3 = 1 by kernel_rfl] at e
    rw [← List.getElem?_eq_getElem (by omega), ← e]
    exact congrArg _ (one_cell (by omega)).symm
  have h1 : DataW.trod enc Try.prog W 0 (fun _ => true) true n' 5 [cs[1]'(by omega)] = some (xs[1]'(by omega)) := by
    have e : DataW.trod enc Try.prog W 0 (fun _ => true) true n' 5 ((cs.drop 1).take (Try.prog.cellsOf 5)) = xs[1]? := hf 1 _ rfl
    rw [show Try.prog.cellsOf 5 = 1 by kernel_rfl] at e
    rw [← List.getElem?_eq_getElem (by omega), ← e]
    exact congrArg _ (one_cell (by omega)).symm
  have h2 : DataW.trod enc Try.prog W 0 (fun _ => true) true n' 9 [cs[2]'(by omega)] = some (xs[2]'(by omega)) := by
    have e : DataW.trod enc Try.prog W 0 (fun _ => true) true n' 9 ((cs.drop 2).take (Try.prog.cellsOf 9)) = xs[2]? := hf 2 _ rfl
    rw [show Try.prog.cellsOf 9 = 1 by kernel_rfl] at e
    rw [← List.getElem?_eq_getElem (by omega), ← e]
    exact congrArg _ (one_cell (by omega)).symm
  have h3 : DataW.trod enc Try.prog W 0 (fun _ => true) true n' 27 [cs[3]'(by omega)] = some (xs[3]'(by omega)) := by
    have e : DataW.trod enc Try.prog W 0 (fun _ => true) true n' 27 ((cs.drop 3).take (Try.prog.cellsOf 27)) = xs[3]? := hf 3 _ rfl
    rw [show Try.prog.cellsOf 27 = 1 by kernel_rfl] at e
    rw [← List.getElem?_eq_getElem (by omega), ← e]
    exact congrArg _ (one_cell (by omega)).symm
  have h4 : DataW.trod enc Try.prog W 0 (fun _ => true) true n' 3 [cs[4]'(by omega)] = some (xs[4]'(by omega)) := by
    have e : DataW.trod enc Try.prog W 0 (fun _ => true) true n' 3 ((cs.drop 4).take (Try.prog.cellsOf 3)) = xs[4]? := hf 4 _ rfl
    rw [show Try.prog.cellsOf 3 = 1 by kernel_rfl] at e
    rw [← List.getElem?_eq_getElem (by omega), ← e]
    exact congrArg _ (one_cell (by omega)).symm
  have h5 : DataW.trod enc Try.prog W 0 (fun _ => true) true n' 3 [cs[5]'(by omega)] = some (xs[5]'(by omega)) := by
    have e : DataW.trod enc Try.prog W 0 (fun _ => true) true n' 3 ((cs.drop 5).take (Try.prog.cellsOf 3)) = xs[5]? := hf 5 _ rfl
    rw [show Try.prog.cellsOf 3 = 1 by kernel_rfl] at e
    rw [← List.getElem?_eq_getElem (by omega), ← e]
    exact congrArg _ (one_cell (by omega)).symm
  have h6 : DataW.trod enc Try.prog W 0 (fun _ => true) true n' 28 [cs[6]'(by omega)] = some (xs[6]'(by omega)) := by
    have e : DataW.trod enc Try.prog W 0 (fun _ => true) true n' 28 ((cs.drop 6).take (Try.prog.cellsOf 28)) = xs[6]? := hf 6 _ rfl
    rw [show Try.prog.cellsOf 28 = 1 by kernel_rfl] at e
    rw [← List.getElem?_eq_getElem (by omega), ← e]
    exact congrArg _ (one_cell (by omega)).symm
  have h7 : DataW.trod enc Try.prog W 0 (fun _ => true) true n' 27 [cs[7]'(by omega)] = some (xs[7]'(by omega)) := by
    have e : DataW.trod enc Try.prog W 0 (fun _ => true) true n' 27 ((cs.drop 7).take (Try.prog.cellsOf 27)) = xs[7]? := hf 7 _ rfl
    rw [show Try.prog.cellsOf 27 = 1 by kernel_rfl] at e
    rw [← List.getElem?_eq_getElem (by omega), ← e]
    exact congrArg _ (one_cell (by omega)).symm
  obtain ⟨v0, e0, _, _⟩ := DataW.trod_int Try.underlying3 h0
  obtain ⟨v1, e1, _, _⟩ := DataW.trod_int Try.underlying5 h1
  obtain ⟨v2, e2, _, hk⟩ := DataW.trod_string Try.underlying9 h2
  obtain ⟨a3, n3, c3, l3, e3, r3⟩ := bytes_field h3
  obtain ⟨v4, e4, _, _⟩ := DataW.trod_int Try.underlying3 h4
  obtain ⟨v5, e5, _, _⟩ := DataW.trod_int Try.underlying3 h5
  obtain ⟨v6, e6, _, _⟩ := DataW.trod_int Try.underlying28 h6
  obtain ⟨a7, n7, c7, l7, e7, r7⟩ := bytes_field h7
  refine ⟨⟨⟨v0, v1, v2, a3, n3, c3, v4, v5, v6, a7, n7, c7⟩, l3, l7⟩, ?_, ⟨r3, r7⟩, hk⟩
  simp only [List.cons.injEq, and_true] at e0 e1 e2 e3 e4 e5 e6 e7
  apply List.ext_getElem
  · rw [hl8]; rfl
  · intro i hi hi'
    rw [hl8] at hi
    match i, hi with
    | 0, _ => exact e0
    | 1, _ => exact e1
    | 2, _ => exact e2
    | 3, _ => exact e3
    | 4, _ => exact e4
    | 5, _ => exact e5
    | 6, _ => exact e6
    | 7, _ => exact e7

theorem calls_of_trod {a0 : Option Addr} {len cap : Nat} {d : DataW H} {p : List MemPlace} (h : DataW.Trod enc Try.prog W 0 (fun _ => true) true 22 (.slice a0 len cap) d p) :
    ∃ l : List CM, RowRd W (.slice a0 len cap) (rcs l) ∧ AllRd W l ∧ KeysOk l := by
  obtain ⟨fuel, hf⟩ := h
  rcases open_slice Try.underlying22 hf with ⟨hcs, _⟩ | ⟨a, len', cap', m, n, D, Pl, hcs, _, hl, hm, hmm, _, hi⟩
  · simp [Value.cells] at hcs
    obtain ⟨rfl, rfl, rfl⟩ := hcs
    exact ⟨[], ⟨none, 0, rfl, Nat.le_refl _, fun h => absurd rfl h⟩, fun m hm => by simp at hm, fun m hm => by simp at hm⟩
  · simp [Value.cells] at hcs
    obtain ⟨rfl, rfl, rfl⟩ := hcs
    have hC : Try.prog.cellsOf 30 = 8 := by kernel_rfl
    rw [hC] at hi
    have he : ∀ i, i < len → ∃ m : CM, (∀ j u, m.c.cells[j]? = some u → W.cell? ((a.add (i * 8)).add j) = some u) ∧ m.rd W ∧ m.c.key.size ≤ maxLen := by
      intro i hil
      obtain ⟨cs', hc, ht⟩ := hi i (by rw [hmm]; simp; omega)
      obtain ⟨_, hcl, hat⟩ := World.cells?_some hc
      obtain ⟨m, rfl, h2, h3⟩ := call_field ht
      exact ⟨m, fun j u hj => by
        have hj8 := cells_lt hj
        rw [hat j hj8]; exact hj, h2, h3⟩
    obtain ⟨f, hfs⟩ : ∃ f : Nat → CM, ∀ i, i < len → (∀ j u, (f i).c.cells[j]? = some u → W.cell? ((a.add (i * 8)).add j) = some u) ∧ (f i).rd W ∧ (f i).c.key.size ≤ maxLen :=
      ⟨fun i => if h : i < len then Classical.choose (he i h) else cm0, fun i hi => by
        simp only [hi, dite_true]
        exact Classical.choose_spec (he i hi)⟩
    have hlen : ((List.range len).map f).length = len := by simp
    refine ⟨(List.range len).map f, ?_, fun m hm => ?_, fun m hm => ?_⟩
    · refine ⟨some a, cap, by rw [rcs_length, hlen], by rw [rcs_length, hlen]; exact hl, fun hne => ?_⟩
      have hpos : 0 < len := by
        rcases Nat.eq_zero_or_pos len with h | h
        · subst h; simp [rcs] at hne
        · exact h
      obtain ⟨b, o, sp⟩ := a
      have h0 := (hfs 0 hpos).1 0 _ rfl
      have hsp : sp = none := by
        cases sp with
        | none => rfl
        | some s => simp [World.cell?, Addr.add] at h0; split at h0 <;> simp_all
      subst hsp
      refine ⟨b, o, rfl, ?_, fun i c hi j u hj => ?_⟩
      · have := World.block_lt_of_cell? _ _ h0
        simpa [block_add] using this
      · have hil : i < len := by
          have := (List.getElem?_eq_some_iff.1 hi).1
          rw [rcs_length, hlen] at this
          exact this
        have hc : c = (f i).c := by
          have e : (rcs ((List.range len).map f))[i]? = some (f i).c := by simp [rcs, hil]
          rw [e] at hi
          exact (Option.some.inj hi).symm
        subst hc
        have h1 := (hfs i hil).1 j u hj
        have e : ((⟨b, o, none⟩ : Addr).add (i * 8)).add j = ⟨b, o + i * 8 + j, none⟩ := by
          unfold Addr.add
          split <;> split <;> simp_all
        rwa [e] at h1
    · obtain ⟨i, hi, rfl⟩ := List.mem_map.1 hm
      exact (hfs i (by simpa using hi)).2.1
    · obtain ⟨i, hi, rfl⟩ := List.mem_map.1 hm
      exact (hfs i (by simpa using hi)).2.2
end
end Go.Proofs.Ytggecoekoilahaa
