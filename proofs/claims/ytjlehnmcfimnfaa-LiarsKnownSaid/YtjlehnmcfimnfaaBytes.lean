/-
  Rows of bytes that are read; whether two are the same.
-/
import Derived.Test.YtjlehnmcfimnfaaRows
import Derived.WalkKit
import Derived.WalkSpells
import Derived.Laws.BytesArg
import Derived.Laws.Strings
import Derived.Laws.AppendOwn
import Derived.Lib.Hide
import Derived.Handy
import Derived.ProofKit
namespace Go.Proofs.Ytjlehnmcfimnfaa
open Go.RowKit Go.ChangeShapes Go.WideShapes Go.ChangeAt
set_option linter.unusedVariables false

/-- A slice value that reads as these bytes. -/
def BytesRd (w : World) (v : Value) (l : List Nat) : Prop :=
  (∀ x ∈ l, x < 256) ∧ ∃ a cap, v = .slice a l.length cap ∧ l.length ≤ cap ∧
    (l ≠ [] → ∃ b o, a = some ⟨b, o, none⟩ ∧ b < w.heap.size ∧ ∀ i, i < l.length → w.cell? ⟨b, o + i, none⟩ = some (.int .u8 ((l.getD i 0 : Nat) : Int)))

theorem BytesRd.below {w w' : World} {v : Value} {l : List Nat} (h : BytesRd w v l) (hb : Below w.heap.size w w') : BytesRd w' v l := by
  obtain ⟨h0, a, cap, h1, h2, h3⟩ := h
  refine ⟨h0, a, cap, h1, h2, fun hne => ?_⟩
  obtain ⟨b, o, h4, h5, h6⟩ := h3 hne
  exact ⟨b, o, h4, Nat.lt_of_lt_of_le h5 hb.size, fun i hi => (hb.cell (p := ⟨b, o + i, none⟩) h5).trans (h6 i hi)⟩

theorem BytesRd.alloc {w : World} {v : Value} {l : List Nat} (h : BytesRd w v l) (o : Obj) : BytesRd (w.alloc o) v l := h.below ((Below.refl _ w).alloc (Nat.le_refl _) o)
theorem BytesRd.nil (w : World) : BytesRd w (.slice none 0 0) [] := ⟨by simp, none, 0, rfl, Nat.le_refl _, fun h => absurd rfl h⟩

theorem BytesRd.of_owns {w : World} {base t : Nat} {v : Value} {n : Nat} {l : List Nat} (h : w.ownsRow base t 1 v n (l.map fun x => .int .u8 ((x : Nat) : Int))) (hl : ∀ x ∈ l, x < 256) : BytesRd w v l := by
  have hn : l.length = n := by have := h.1; simpa using this
  have hlt := h.lt
  refine ⟨hl, ?_⟩
  rcases h.2 with ⟨rfl, h2⟩ | ⟨g, cap, cur, rfl, h2, h3, h4, h5, h6, h7⟩
  · obtain rfl := List.eq_nil_of_length_eq_zero (hn.trans h2)
    exact ⟨none, 0, rfl, Nat.le_refl _, fun h => absurd rfl h⟩
  · refine ⟨_, cap, by rw [hn], by omega, fun _ => ⟨g, 0, rfl, (hlt g rfl).2, fun i hi => ?_⟩⟩
    have := h.cells (g := g) rfl i (.int .u8 ((l.getD i 0 : Nat) : Int)) (by simp [List.getElem?_eq_getElem hi, List.getD])
    have e : (⟨g, 0, none⟩ : Addr).add i = ⟨g, 0 + i, none⟩ := by unfold Addr.add; split <;> simp_all
    rwa [e] at this

theorem byte_wf {x : Int} (h : (Lit.int .u8 x).wf = true) : 0 ≤ x ∧ x < 256 := by
  have h1 : IntKind.u8.min = 0 := rfl
  have h2 : IntKind.u8.max = 255 := rfl
  simp only [Lit.wf, Bool.and_eq_true, decide_eq_true_eq] at h
  omega
/-- An argument of type []byte. -/
theorem BytesRd.of_trod {H : Type} {enc : TypeId × Value → H} {t e : TypeId} (ht : Try.prog.underlying t = some (.slice e)) (he : Try.prog.underlying e = some (.int .u8)) (hc : Try.prog.cellsOf e = 1) {W : World} {a0 : Option Addr} {len cap : Nat} {d0 : DataW H} {p : List MemPlace}
    (h0 : DataW.Trod enc Try.prog W 0 (fun _ => true) true t (.slice a0 len cap) d0 p) : ∃ l, BytesRd W (.slice a0 len cap) l ∧ l.length = len := by
  obtain ⟨fuel, hf⟩ := h0
  rcases open_ints ht he hc hf with ⟨hcs, hx⟩ | ⟨a, len', cap', zs, hcs, _, hl, hm, hz, hx, hcell, hwz⟩
  · simp [Value.cells] at hcs
    obtain ⟨rfl, rfl, rfl⟩ := hcs
    exact ⟨[], BytesRd.nil W, rfl⟩
  · simp [Value.cells] at hcs
    obtain ⟨rfl, rfl, rfl⟩ := hcs
    simp only [if_true] at hz
    have hb : ∀ x ∈ zs, 0 ≤ x ∧ x < 256 := fun x hx => byte_wf (hwz x hx)
    have hlen : ((zs.take len).map Int.toNat).length = len := by simp; omega
    refine ⟨(zs.take len).map Int.toNat, ⟨fun x hx => ?_, some a, cap, by rw [hlen], by rw [hlen]; exact hl, fun hne => ?_⟩, hlen⟩
    · obtain ⟨y, hy, rfl⟩ := List.mem_map.1 hx
      have := hb y (List.mem_of_mem_take hy)
      omega
    · have hpos : 0 < len := by
        rcases Nat.eq_zero_or_pos len with h | h
        · subst h; simp at hne
        · exact h
      obtain ⟨b, o, sp⟩ := a
      have h0 := hcell 0 (by omega)
      have hsp : sp = none := by
        cases sp with
        | none => rfl
        | some s => simp [World.cell?, Addr.add] at h0; split at h0 <;> simp_all
      subst hsp
      refine ⟨b, o, rfl, ?_, fun i hi => ?_⟩
      · have := World.block_lt_of_cell? _ _ h0
        simpa [block_add] using this
      · rw [hlen] at hi
        have h1 := hcell i (by omega)
        have e : (⟨b, o, none⟩ : Addr).add i = ⟨b, o + i, none⟩ := by unfold Addr.add; split <;> simp_all
        rw [e] at h1
        rw [h1]
        have hi2 : i < zs.length := by omega
        have := (hb (zs.getD i 0) (by simp [List.getD, List.getElem?_eq_getElem hi2])).1
        simp [List.getD, List.getElem?_eq_getElem hi2, hi] at this ⊢
        omega

def strOf (l : List Nat) : ByteArray := strOfNums (l.map fun x : Nat => (x : Int))

theorem strOf_inj {l m : List Nat} (hl : ∀ x ∈ l, x < 256) (hm : ∀ x ∈ m, x < 256) : strOf l = strOf m ↔ l = m := by
  constructor
  · intro h
    have h1 : (strOf l).data.toList = (strOf m).data.toList := by rw [h]
    unfold strOf at h1
    rw [strOfNums_data, strOfNums_data, List.map_map, List.map_map] at h1
    have key : ∀ (l m : List Nat), (∀ x ∈ l, x < 256) → (∀ x ∈ m, x < 256) → l.map ((fun n : Int => UInt8.ofNat n.toNat) ∘ fun x : Nat => (x : Int)) = m.map ((fun n : Int => UInt8.ofNat n.toNat) ∘ fun x : Nat => (x : Int)) → l = m := by
      intro l
      induction l with
      | nil => intro m _ _ h; cases m with
        | nil => rfl
        | cons a m => simp at h
      | cons a l ih =>
        intro m hl hm h
        cases m with
        | nil => simp at h
        | cons b m =>
          simp only [List.map_cons, List.cons.injEq, Function.comp, Int.toNat_natCast] at h
          have ha : a < 256 := hl a (by simp)
          have hb : b < 256 := hm b (by simp)
          have : (UInt8.ofNat a).toNat = (UInt8.ofNat b).toNat := by rw [h.1]
          rw [UInt8.toNat_ofNat', UInt8.toNat_ofNat', Nat.mod_eq_of_lt (by simpa using ha), Nat.mod_eq_of_lt (by simpa using hb)] at this
          rw [this, ih m (fun x hx => hl x (by simp [hx])) (fun x hx => hm x (by simp [hx])) (by simpa [Function.comp] using h.2)]
    exact key l m hl hm h1
  · rintro rfl; rfl

theorem BytesRd.conv {w : World} {v : Value} {l : List Nat} (h : BytesRd w v l) :
    (convert 22 9 v).run Try.prog w = .ok (.string (strOf l)) w := by
  obtain ⟨h0, a, cap, rfl, h2, h3⟩ := h
  by_cases hne : l = []
  · subst hne
    cases a with
    | none => exact run_convert_bytes_nil (P := Try.prog) w 22 5 Try.underlying22 Try.underlying5 _ _ _ Try.underlying9
    | some a =>
      rw [run_convert_bytes_string w _ _ _ _ _ cap Try.underlying22 Try.underlying5 Try.underlying9]
      rw [run_bytesToString w a _ cap [] (by
        have := run_loadCells_list (P := Try.prog) w a [] (fun j v hj => by simp at hj)
        simpa using this)]
      rfl
  · obtain ⟨b, o, rfl, h4, h5⟩ := h3 hne
    refine run_convert_bytes_arg (P := Try.prog) w 22 5 Try.underlying22 Try.underlying5 b o _ cap (l.map fun x : Nat => (x : Int)) (by simp) (fun i hi => ?_) _ Try.underlying9
    rw [h5 i hi]
    simp [List.getD, List.getElem?_eq_getElem hi]

end Go.Proofs.Ytjlehnmcfimnfaa
