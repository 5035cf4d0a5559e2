/-
  An argument of type []Call of the laws of chapter 26.
-/
import Derived.Test.YtjlehnmcfimnfaaLiFairPlain
import Derived.Deep.Slices
import Derived.Deep.Fields
import Derived.ChangeArms
namespace Go.Proofs.Ytjlehnmcfimnfaa
open Go.RowKit Go.ChangeShapes Go.WideShapes Go.ChangeAt Go.Deep
set_option linter.unusedVariables false

/-- A call: its kind, its numbers (as they lie, as they read), its number. -/
structure LC where
  kd : Int
  a : Option Addr
  ln : Nat
  cp : Nat
  n : Int
  l : List Int
instance : Inhabited LC := ⟨⟨0, none, 0, 0, 0, []⟩⟩
def LC.cells (c : LC) : List Value := [.int .u8 c.kd, .slice c.a c.ln c.cp, .int .i64 c.n]
theorem LC.cells_length (c : LC) : c.cells.length = 3 := rfl
def LC.rd (w : World) (c : LC) : Prop := IRd w (.slice c.a c.ln c.cp) c.l ∧ (0 ≤ c.kd ∧ c.kd < 256) ∧ (c.a = none → c.cp = 0)
theorem LC.rd.below {w w' : World} {c : LC} (h : c.rd w) (hb : Below w.heap.size w w') : c.rd w' := ⟨h.1.below hb, h.2⟩
abbrev CRd (w : World) (v : Value) (l : List LC) : Prop := SRd 3 LC.cells w v l

section
variable {H : Type} {enc : TypeId × Value → H} {W : World}
theorem one_cell {cs : List Value} {j : Nat} (h : j < cs.length) : (cs.drop j).take 1 = [cs[j]] := by
  rw [List.drop_eq_getElem_cons h]
  rfl
theorem ints_field {cs : List Value} {n : Nat} {y : DataW H × List MemPlace} (h : DataW.trod enc Try.prog W 0 (fun _ => true) true n 25 cs = some y) : ∃ a len cap l, cs = [.slice a len cap] ∧ IRd W (.slice a len cap) l ∧ (a = none → cap = 0) := by
  rcases open_slice Try.underlying25 h with ⟨rfl, _⟩ | ⟨a, len, cap, m, n', D, Pl, rfl, _⟩
  · exact ⟨none, 0, 0, [], rfl, SRd.nil W, fun _ => rfl⟩
  · have h2 : DataW.Trod enc Try.prog W 0 (fun _ => true) true 25 (.slice (some a) len cap) y.1 y.2 := ⟨n, by simpa [Value.cells] using h⟩
    obtain ⟨l, hl, _⟩ := SRd.of_trod (n := 1) (cells := intC) (fun _ => True) Try.underlying25 (by kernel_rfl) intC_length (fun k cs y hk => by
      obtain ⟨v0, e0, _, _⟩ := DataW.trod_int Try.underlying3 hk
      exact ⟨v0, e0, trivial⟩) (by omega) h2
    exact ⟨some a, len, cap, l, rfl, hl, fun h => by cases h⟩
theorem lc_field {cs : List Value} {n : Nat} {y : DataW H × List MemPlace} (h : DataW.trod enc Try.prog W 0 (fun _ => true) true n 42 cs = some y) :
    ∃ c : LC, cs = c.cells ∧ c.rd W := by
  have hu := Try.underlying42
  obtain ⟨xs, n', _, _, hlen, hxs, hf⟩ := DataW.trod_struct hu h
  have hl8 : cs.length = 3 := by rw [hlen]; kernel_rfl
  have hx8 : xs.length = 3 := by simpa using hxs
  have h0 : DataW.trod enc Try.prog W 0 (fun _ => true) true n' 5 [cs[0]'(by omega)] = some (xs[0]'(by omega)) := by
    have e : DataW.trod enc Try.prog W 0 (fun _ => true) true n' 5 ((cs.drop 0).take (Try.prog.cellsOf 5)) = xs[0]? := hf 0 _ rfl
    rw [show Try.prog.cellsOf 5 = 1 by kernel_rfl] at e
    rw [← List.getElem?_eq_getElem (by omega), ← e]
    exact congrArg _ (one_cell (by omega)).symm
  have h1 : DataW.trod enc Try.prog W 0 (fun _ => true) true n' 25 [cs[1]'(by omega)] = some (xs[1]'(by omega)) := by
    have e : DataW.trod enc Try.prog W 0 (fun _ => true) true n' 25 ((cs.drop 1).take (Try.prog.cellsOf 25)) = xs[1]? := hf 1 _ rfl
    rw [show Try.prog.cellsOf 25 = 1 by kernel_rfl] at e
    rw [← List.getElem?_eq_getElem (by omega), ← e]
    exact congrArg _ (one_cell (by omega)).symm
  have h2 : DataW.trod enc Try.prog W 0 (fun _ => true) true n' 3 [cs[2]'(by omega)] = some (xs[2]'(by omega)) := by
    have e : DataW.trod enc Try.prog W 0 (fun _ => true) true n' 3 ((cs.drop 2).take (Try.prog.cellsOf 3)) = xs[2]? := hf 2 _ rfl
    rw [show Try.prog.cellsOf 3 = 1 by kernel_rfl] at e
    rw [← List.getElem?_eq_getElem (by omega), ← e]
    exact congrArg _ (one_cell (by omega)).symm
  obtain ⟨v0, e0, _, w0⟩ := DataW.trod_int Try.underlying5 h0
  obtain ⟨a, ln, cp, l, e1, r1, r2⟩ := ints_field h1
  obtain ⟨v2, e2, _, _⟩ := DataW.trod_int Try.underlying3 h2
  refine ⟨⟨v0, a, ln, cp, v2, l⟩, ?_, r1, (byte_wf w0), r2⟩
  simp only [List.cons.injEq, and_true] at e0 e1 e2
  apply List.ext_getElem
  · rw [hl8]; rfl
  · intro i hi hi'
    rw [hl8] at hi
    match i, hi with
    | 0, _ => exact e0
    | 1, _ => exact e1
    | 2, _ => exact e2
theorem lcs_of_trod {a0 : Option Addr} {len cap : Nat} {d : DataW H} {p : List MemPlace} (h : DataW.Trod enc Try.prog W 0 (fun _ => true) true 37 (.slice a0 len cap) d p) :
    ∃ l : List LC, CRd W (.slice a0 len cap) l ∧ ∀ c ∈ l, c.rd W :=
  SRd.of_trod (fun c => c.rd W) Try.underlying37 (by kernel_rfl) LC.cells_length (fun k cs y hk => lc_field hk) (by omega) h
end
end Go.Proofs.Ytjlehnmcfimnfaa
