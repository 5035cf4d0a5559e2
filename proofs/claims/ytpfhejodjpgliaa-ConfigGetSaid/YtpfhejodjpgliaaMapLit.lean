/-
  Maps that a call fills with a literal's entries, keyed by numbers: what an insert and a look-up give.
-/
import Derived.WalkKit
import Derived.WideKeyElems
namespace Go.Proofs.Ytpfhejodjpgliaa
open Go.RowKit

section
variable {P : Program} {w : World}

theorem run_lit_insert {T kt et : TypeId} {K : IntKind} (hT : P.underlying T = some (.map kt et)) (hk : P.underlying kt = some (.int K)) (w : World) (es : Array MapEntry) (c : Nat) (q : Int) (v : Value) (b : Nat)
    (hb : b = w.heap.size) (hnew : Instr.findNow (.int K) (.int K q) es.toList 0 = some none) :
    (Instr.mapUpdate T (.map (some b)) (.int K q) v).run P (w.alloc (.map es c)) = .ok () (w.alloc (.map (es.push ⟨.int K q, v, c⟩) (c + 1))) := by
  subst hb
  have h0 : (w.alloc (.map es c)).heap[w.heap.size]? = some (.map es c) := by show (w.heap.push _)[w.heap.size]? = _; simp
  have hg := MapKept.run_getObj_map (P := P) h0
  have hs : (setObj w.heap.size (.map (es.push ⟨.int K q, v, c⟩) (c + 1))).run P (w.alloc (.map es c)) = .ok () (w.alloc (.map (es.push ⟨.int K q, v, c⟩) (c + 1))) := by
    rw [MapKept.run_setObj_map _ h0]
    show Result.ok () _ = Result.ok () _
    congr 1
    show ({ (w.alloc (.map es c)) with heap := (w.heap.push (.map es c)).setIfInBounds w.heap.size _ } : World) = { w with heap := w.heap.push _ }
    have : (w.heap.push (.map es c)).setIfInBounds w.heap.size (.map (es.push ⟨.int K q, v, c⟩) (c + 1)) = w.heap.push (.map (es.push ⟨.int K q, v, c⟩) (c + 1)) := by
      apply Array.ext_getElem?
      intro i
      simp only [Array.getElem?_setIfInBounds, Array.getElem?_push, Array.size_push]
      by_cases hi : w.heap.size = i
      · subst hi; simp
      · rw [if_neg hi, if_neg (fun e => hi e.symm), if_neg (fun e => hi e.symm)]
    rw [this]
    rfl
  have hc : (Instr.checkKey false 10000 kt (.int K q)).run P (w.alloc (.map es c)) = .ok () (w.alloc (.map es c)) := by
    exact MapKept.run_checkKey (n := 9999) (k := .int K q) hk rfl _
  have hf : (Instr.findKey kt (.int K q) es.toList).run P (w.alloc (.map es c)) = .ok none (w.alloc (.map es c)) := by
    simp [Instr.findKey, run_underlying hk, hnew]
  simp [Instr.mapUpdate, run_underlying hT, hg, hc, hf, hs]

theorem run_lit_lookup {T kt et : TypeId} {K : IntKind} (hT : P.underlying T = some (.map kt et)) (hk : P.underlying kt = some (.int K)) (w : World) (es : Array MapEntry) (c : Nat) (q : Int) (b i : Nat) (v : Value)
    (hb : w.heap[b]? = some (.map es c)) (hf : Instr.findNow (.int K) (.int K q) es.toList 0 = some (some (i, v))) :
    (Instr.lookup T (.map (some b)) (.int K q) true).run P w = .ok (.tuple #[v, .bool true]) w := by
  have hg := MapKept.run_getObj_map (P := P) hb
  have hc : (Instr.checkKey es.isEmpty 10000 kt (.int K q)).run P w = .ok () w := by
    exact MapKept.run_checkKey (n := 9999) (k := .int K q) hk rfl _
  have hf : (Instr.findKey kt (.int K q) es.toList).run P w = .ok (some (i, v)) w := by
    simp [Instr.findKey, run_underlying hk, hf]
  simp [Instr.lookup, run_underlying hT, hg, hc, hf]

theorem run_lit_lookup_none {T kt et : TypeId} {K : IntKind} (hT : P.underlying T = some (.map kt et)) (hk : P.underlying kt = some (.int K)) (w : World) (es : Array MapEntry) (c : Nat) (q : Int) (b : Nat) (z : Value)
    (hz : (zeroValue et).run P w = .ok z w) (hb : w.heap[b]? = some (.map es c)) (hf : Instr.findNow (.int K) (.int K q) es.toList 0 = some none) :
    (Instr.lookup T (.map (some b)) (.int K q) true).run P w = .ok (.tuple #[z, .bool false]) w := by
  have hg := MapKept.run_getObj_map (P := P) hb
  have hc : (Instr.checkKey es.isEmpty 10000 kt (.int K q)).run P w = .ok () w := by
    exact MapKept.run_checkKey (n := 9999) (k := .int K q) hk rfl _
  have hf : (Instr.findKey kt (.int K q) es.toList).run P w = .ok none w := by
    simp [Instr.findKey, run_underlying hk, hf]
  simp [Instr.lookup, run_underlying hT, hg, hc, hf, hz]

def lookRes (z : Value) : Option (Option (Nat × Value)) → Value
  | some (some (_, v)) => .tuple #[v, .bool true]
  | _ => .tuple #[z, .bool false]

theorem run_lit_look {T kt et : TypeId} {K : IntKind} (hT : P.underlying T = some (.map kt et)) (hk : P.underlying kt = some (.int K)) (w : World) (es : Array MapEntry) (c : Nat) (q : Int) (b : Nat) (z : Value)
    (hz : ∀ w, (zeroValue et).run P w = .ok z w) (hb : b = w.heap.size) (hf : (Instr.findNow (.int K) (.int K q) es.toList 0).isSome = true) :
    (Instr.lookup T (.map (some b)) (.int K q) true).run P (w.alloc (.map es c)) = .ok (lookRes z (Instr.findNow (.int K) (.int K q) es.toList 0)) (w.alloc (.map es c)) := by
  subst hb
  have h0 : (w.alloc (.map es c)).heap[w.heap.size]? = some (.map es c) := by show (w.heap.push _)[w.heap.size]? = _; simp
  cases hf2 : Instr.findNow (.int K) (.int K q) es.toList 0 with
  | none => rw [hf2] at hf; cases hf
  | some r =>
    cases r with
    | none => exact run_lit_lookup_none hT hk _ es c q _ z (hz _) h0 hf2
    | some p => exact run_lit_lookup hT hk _ es c q _ p.1 p.2 h0 hf2

attribute [go_sem] lookRes
end
end Go.Proofs.Ytpfhejodjpgliaa
