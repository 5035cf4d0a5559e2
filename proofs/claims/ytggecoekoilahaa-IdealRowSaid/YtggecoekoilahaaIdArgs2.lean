/-
  An argument of type []Act.
-/
import Derived.Test.YtggecoekoilahaaIdLRow
namespace Go.Proofs.Ytggecoekoilahaa
open Go.RowKit Go.ChangeShapes Go.WideShapes Go.ChangeAt Go.Deep
set_option linter.unusedVariables false
section
variable {H : Type} {enc : TypeId × Value → H} {W : World}
theorem bool_cell {n : Nat} {v : Value} {y : DataW H × List MemPlace} (h : DataW.trod enc Try.prog W 0 (fun _ => true) true n 4 [v] = some y) : ∃ b, v = .bool b := by
  obtain ⟨b, e, _⟩ := DataW.trod_bool Try.underlying4 h
  exact ⟨b, by simpa using e⟩
theorem act_field (n : Nat) (cs : List Value) (y : DataW H × List MemPlace) (h : DataW.trod enc Try.prog W 0 (fun _ => true) true n 36 cs = some y) : ∃ c : AB, cs = c.cells ∧ c.ok := by
  have hu := Try.underlying36
  obtain ⟨xs, n', _, _, hlen, hxs, hf⟩ := DataW.trod_struct hu h
  have hl : cs.length = 4 := by rw [hlen]; kernel_rfl
  have hx : xs.length = 4 := by simpa using hxs
  have h0 := field_one (j := 0) (ft := 5) (by kernel_rfl) (by omega) (by omega) (hf 0 _ rfl)
  have h1 := field_one (j := 1) (ft := 5) (by kernel_rfl) (by omega) (by omega) (hf 1 _ rfl)
  have h2 := field_one (j := 2) (ft := 5) (by kernel_rfl) (by omega) (by omega) (hf 2 _ rfl)
  have h3 := field_one (j := 3) (ft := 4) (by kernel_rfl) (by omega) (by omega) (hf 3 _ rfl)
  obtain ⟨v0, e0, _, w0⟩ := DataW.trod_int Try.underlying5 h0
  obtain ⟨v1, e1, _, w1⟩ := DataW.trod_int Try.underlying5 h1
  obtain ⟨v2, e2, _, w2⟩ := DataW.trod_int Try.underlying5 h2
  obtain ⟨v3, e3⟩ := bool_cell h3
  have b0 := byte_wf w0
  have b1 := byte_wf w1
  have b2 := byte_wf w2
  simp only [List.cons.injEq, and_true] at e0 e1 e2
  refine ⟨⟨v0.toNat, v1.toNat, v2.toNat, v3⟩, ?_, by unfold AB.ok; simp only; omega⟩
  apply List.ext_getElem
  · rw [hl]; rfl
  · intro i hi hi'
    rw [hl] at hi
    have c0 : ((v0.toNat : Nat) : Int) = v0 := by omega
    have c1 : ((v1.toNat : Nat) : Int) = v1 := by omega
    have c2 : ((v2.toNat : Nat) : Int) = v2 := by omega
    match i, hi with
    | 0, _ => simp only [AB.cells, c0]; exact e0
    | 1, _ => simp only [AB.cells, c1]; exact e1
    | 2, _ => simp only [AB.cells, c2]; exact e2
    | 3, _ => exact e3
theorem acts_of_trod {a0 : Option Addr} {len cap : Nat} {d : DataW H} {p : List MemPlace} (h : DataW.Trod enc Try.prog W 0 (fun _ => true) true 32 (.slice a0 len cap) d p) :
    ∃ l : List AB, ActRd W (.slice a0 len cap) l ∧ ∀ c ∈ l, c.ok :=
  SRd.of_trod AB.ok Try.underlying32 (e := 36) (by kernel_rfl) AB.cells_length act_field (by omega) h
end
theorem law_row2 (v : Value) (l : List AB) (ov : Int) (w : World) (h : ActRd w v l) (hok : ∀ a ∈ l, a.ok) (hov : (Lit.int .u16 ov).wf = true) :
    Calls Try.prog 4 #[v, .int .u16 ov] w fun e w' => e = .returned (.bool true) ∧ Below w.heap.size w w' := by
  have hw : 0 ≤ ov ∧ ov < 65536 := by
    have h1 : IntKind.u16.min = 0 := rfl
    have h2 : IntKind.u16.max = 65535 := rfl
    simp only [Lit.wf, Bool.and_eq_true, decide_eq_true_eq] at hov
    omega
  obtain ⟨n, rfl⟩ : ∃ n : Nat, ov = n := ⟨ov.toNat, by omega⟩
  exact law_row v l n w h hok (by omega)
end Go.Proofs.Ytggecoekoilahaa
