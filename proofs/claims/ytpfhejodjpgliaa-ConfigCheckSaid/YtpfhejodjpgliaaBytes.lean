/-
  Rows of bytes that are read; whether two are the same.
-/
import Derived.Test.YtpfhejodjpgliaaRows
import Derived.WalkKit
import Derived.WalkSpells
import Derived.Laws.BytesArg
import Derived.Laws.Strings
import Derived.Laws.AppendOwn
import Derived.Lib.Hide
import Derived.Handy
namespace Go.Proofs.Ytpfhejodjpgliaa
open Go.RowKit
set_option linter.unusedVariables false

/-- A slice value that reads as these bytes. -/
def BytesRd (w : World) (v : Value) (l : List Nat) : Prop :=
  (∀ x ∈ l, x < 256) ∧ ((v = .slice none 0 0 ∧ l = []) ∨ ∃ b o cap, v = .slice (some ⟨b, o, none⟩) l.length cap ∧ l.length ≤ cap ∧ b < w.heap.size ∧ ∀ i, i < l.length → w.cell? ⟨b, o + i, none⟩ = some (.int .u8 ((l.getD i 0 : Nat) : Int)))

theorem BytesRd.below {w w' : World} {v : Value} {l : List Nat} (h : BytesRd w v l) (hb : Below w.heap.size w w') : BytesRd w' v l := by
  refine ⟨h.1, ?_⟩
  rcases h.2 with h | ⟨b, o, cap, h1, h2, h3, h4⟩
  · exact .inl h
  · exact .inr ⟨b, o, cap, h1, h2, Nat.lt_of_lt_of_le h3 hb.size, fun i hi => (hb.cell (p := ⟨b, o + i, none⟩) h3).trans (h4 i hi)⟩

theorem BytesRd.alloc {w : World} {v : Value} {l : List Nat} (h : BytesRd w v l) (o : Obj) : BytesRd (w.alloc o) v l := h.below ((Below.refl _ w).alloc (Nat.le_refl _) o)

theorem BytesRd.of_owns {w : World} {base t : Nat} {v : Value} {n : Nat} {l : List Nat} (h : w.ownsRow base t 1 v n (l.map fun x => .int .u8 ((x : Nat) : Int))) (hl : ∀ x ∈ l, x < 256) : BytesRd w v l := by
  refine ⟨hl, ?_⟩
  have hn : l.length = n := by have := h.1; simpa using this
  have hlt := h.lt
  rcases h.2 with ⟨rfl, h2⟩ | ⟨g, cap, cur, rfl, h2, h3, h4, h5, h6, h7⟩
  · exact .inl ⟨rfl, List.eq_nil_of_length_eq_zero (by omega)⟩
  · refine .inr ⟨g, 0, cap, by rw [hn], by omega, (hlt g rfl).2, fun i hi => ?_⟩
    have := h.cells (g := g) rfl i (.int .u8 ((l.getD i 0 : Nat) : Int)) (by simp [List.getElem?_eq_getElem hi, List.getD])
    have e : (⟨g, 0, none⟩ : Addr).add i = ⟨g, 0 + i, none⟩ := by unfold Addr.add; split <;> simp_all
    rwa [e] at this

def strOf (l : List Nat) : ByteArray := strOfNums (l.map fun x : Nat => (x : Int))

theorem strOf_inj {l m : List Nat} (hl : ∀ x ∈ l, x < 256) (hm : ∀ x ∈ m, x < 256) : strOf l = strOf m ↔ l = m := by
  constructor
  · intro h
    have h1 : (strOf l).data.toList = (strOf m).data.toList := by rw [h]
    unfold strOf at h1
    rw [strOfNums_data, strOfNums_data, List.map_map, List.map_map] at h1
    have key : ∀ (l m : List Nat), (∀ x ∈ l, x < 256) → (∀ x ∈ m, x < 256) → l.map ((fun n : Int => UInt8.ofNat n.toNat) ∘ fun x : Nat => (x : Int)) = m.map ((fun n : Int => UInt8.ofNat n.toNat) ∘ fun x : Nat => (x : Int)) → l = m := by
      intro l
      induction l with
      | nil => intro m _ _ h; cases m with
        | nil => rfl
        | cons a m => simp at h
      | cons a l ih =>
        intro m hl hm h
        cases m with
        | nil => simp at h
        | cons b m =>
          simp only [List.map_cons, List.cons.injEq, Function.comp, Int.toNat_natCast] at h
          have ha : a < 256 := hl a (by simp)
          have hb : b < 256 := hm b (by simp)
          have : (UInt8.ofNat a).toNat = (UInt8.ofNat b).toNat := by rw [h.1]
          rw [UInt8.toNat_ofNat', UInt8.toNat_ofNat', Nat.mod_eq_of_lt (by simpa using ha), Nat.mod_eq_of_lt (by simpa using hb)] at this
          rw [this, ih m (fun x hx => hl x (by simp [hx])) (fun x hx => hm x (by simp [hx])) (by simpa [Function.comp] using h.2)]
    exact key l m hl hm h1
  · rintro rfl; rfl

theorem BytesRd.conv {w : World} {v : Value} {l : List Nat} (h : BytesRd w v l) :
    (convert 34 9 v).run Try.prog w = .ok (.string (strOf l)) w := by
  rcases h.2 with ⟨rfl, rfl⟩ | ⟨b, o, cap, rfl, h2, h3, h4⟩
  · exact run_convert_bytes_nil (P := Try.prog) w 34 5 Try.underlying34 Try.underlying5 0 0 _ Try.underlying9
  · refine run_convert_bytes_arg (P := Try.prog) w 34 5 Try.underlying34 Try.underlying5 b o _ cap (l.map fun x : Nat => (x : Int)) (by simp) (fun i hi => ?_) _ Try.underlying9
    rw [h4 i hi]
    simp [List.getD, List.getElem?_eq_getElem hi]

set_option maxHeartbeats 400000 in
theorem same_bytes (u v : Value) (l m : List Nat) (w : World) (hu : BytesRd w u l) (hv : BytesRd w v m) :
    Calls Try.prog 12 #[u, v] w fun e w' => e = .returned (.bool (decide (l = m))) ∧ w = w' := by
  have cu := hu.conv
  have cv := hv.conv
  have hd : decide (l = m) = decide (strOf l = strOf m) := by rw [decide_eq_decide]; exact (strOf_inj hu.1 hv.1).symm
  rw [hd]
  clear hd hu hv
  go_enter Try.func12, Try.ntmps12
  go_wp2
  go_ret
  refine ⟨?_, rfl⟩
  rw [ByteArray.toList_eq, ByteArray.toList_eq]
  by_cases h : strOf l = strOf m
  · rw [decide_eq_true h, h]; simp
  · rw [decide_eq_false h]
    have : (strOf l).data.toList ≠ (strOf m).data.toList := fun e => h (by
      have e2 : (strOf l).data = (strOf m).data := Array.toList_inj.1 e
      cases h1 : strOf l; cases h2 : strOf m; rw [h1, h2] at e2; simp only at e2; rw [e2])
    rw [beq_false_of_ne this]
    rfl
end Go.Proofs.Ytpfhejodjpgliaa
