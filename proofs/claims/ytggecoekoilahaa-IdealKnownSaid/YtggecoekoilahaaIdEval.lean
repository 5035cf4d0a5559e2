/-
  Permits at histories that are written out.
-/
import Derived.Test.YtggecoekoilahaaIdLawPlain
import Derived.Test.YtggecoekoilahaaIdPPerm
namespace Go.Proofs.Ytggecoekoilahaa
set_option linter.unusedVariables false
set_option linter.unusedSimpArgs false

theorem permits_is (v : Value) (l : List CM) (w : World) (h : RowRd w v (rcs l)) (hl : l.length ≤ 1000) (hr : AllRd w l) (hk : KeysOk l) (b : Bool) (hP : (rightM (rcs l) ∧ ∀ m ∈ l, goesKey l m.c.key = true) ↔ b = true) :
    Calls Try.prog 8 #[v] w fun e w' => e = .returned (.bool b) ∧ RowKit.Below w.heap.size w w' :=
  (permits_any v l w h hl hr hk).mono fun e w' ⟨r, he, hr2, hb⟩ => ⟨by rw [he, Bool.eq_iff_iff.2 (hr2.trans hP)], hb⟩

/-- The same, reckoned. -/
def rightB (l : List RC) : Bool := (l.all fun c => !c.bad && decide (cntKey l c.key ≤ 10)) && ((List.range l.length).all fun i => (List.range l.length).all fun k => i == k || (match l[i]?, l[k]? with | some c, some d => !c.clash d | _, _ => true))
theorem rightB_iff (l : List RC) : rightM l ↔ rightB l = true := by
  unfold rightB
  rw [Bool.and_eq_true, List.all_eq_true, List.all_eq_true]
  constructor
  · intro h
    refine ⟨fun c hc => ?_, fun i hi => ?_⟩
    · obtain ⟨i, hi⟩ := List.getElem?_of_mem hc
      have := h i c hi
      simp [this.1, this.2.2]
    · rw [List.all_eq_true]
      intro k hk
      have hi' : i < l.length := by simpa using hi
      have hk' : k < l.length := by simpa using hk
      rw [List.getElem?_eq_getElem hi', List.getElem?_eq_getElem hk']
      by_cases e : i = k
      · simp [e]
      · have := (h i l[i] (List.getElem?_eq_getElem hi')).2.1 k l[k] (List.getElem?_eq_getElem hk') (fun h => e h.symm)
        simp [this]
  · rintro ⟨h1, h2⟩ i c hc
    have h3 := h1 c (List.mem_of_getElem? hc)
    simp only [Bool.and_eq_true, decide_eq_true_eq] at h3
    refine ⟨by simpa using h3.1, fun k d hd hne => ?_, h3.2⟩
    have hi' := (List.getElem?_eq_some_iff.1 hc).1
    have hk' := (List.getElem?_eq_some_iff.1 hd).1
    have h4 := List.all_eq_true.1 (h2 i (by simpa using hi')) k (by simpa using hk')
    rw [hc, hd] at h4
    simp only [Bool.or_eq_true, beq_iff_eq] at h4
    rcases h4 with h4 | h4
    · exact absurd h4.symm hne
    · simpa using h4
def permB (l : List CM) : Bool := rightB (rcs l) && l.all fun m => goesKey l m.c.key
theorem permB_iff (l : List CM) : (rightM (rcs l) ∧ ∀ m ∈ l, goesKey l m.c.key = true) ↔ permB l = true := by
  unfold permB
  rw [rightB_iff, Bool.and_eq_true, List.all_eq_true]

def keyK : ByteArray := ⟨#[107]⟩
/-- The calls of the examples. -/
abbrev exA (g : Nat) (to co : Int) : CM := ⟨⟨1, 1, keyK, some ⟨g, 0, none⟩, 1, 1, 1, to, co, none, 0, 0⟩, [5], []⟩
abbrev exB (g : Nat) (fr to : Int) : CM := ⟨⟨2, 2, keyK, none, 0, 0, fr, to, 0, some ⟨g, 0, none⟩, 1, 1⟩, [], [5]⟩
abbrev exN (fr to : Int) : CM := ⟨⟨2, 2, keyK, none, 0, 0, fr, to, 5, none, 0, 0⟩, [], []⟩
theorem ex1 (g g2 : Nat) : permB [exA g 2 0, exB g2 3 4] = true := by
  simp [permB, rightB, rcs, RC.bad, cntKey, ByteArray.toList_eq, RC.clash, goesKey, ofM, ofC, RC.counts, goesM, overM, firstM, passM, nowM, leftM, RC.ahead, List.range_succ, keyK]
theorem ex2 (g : Nat) : permB [exA g 2 0, exN 3 4] = false := by
  simp [permB, rightB, rcs, RC.bad, cntKey, ByteArray.toList_eq, RC.clash, goesKey, ofM, ofC, RC.counts, goesM, overM, firstM, passM, nowM, leftM, RC.ahead, List.range_succ, keyK]
theorem ex3 (g : Nat) : permB [exA g 4 0, exN 2 3] = true := by
  simp [permB, rightB, rcs, RC.bad, cntKey, ByteArray.toList_eq, RC.clash, goesKey, ofM, ofC, RC.counts, goesM, overM, firstM, passM, nowM, leftM, RC.ahead, List.range_succ, keyK]
theorem ex4 (g g2 : Nat) : permB [exA g (-1) 0, exB g2 2 3, exN 4 5] = false := by
  simp [permB, rightB, rcs, RC.bad, cntKey, ByteArray.toList_eq, RC.clash, goesKey, ofM, ofC, RC.counts, goesM, overM, firstM, passM, nowM, leftM, RC.ahead, List.range_succ, keyK]
theorem ex5 (g : Nat) : permB [exA g 2 181, exN 3 4] = true := by
  simp [permB, rightB, rcs, RC.bad, cntKey, ByteArray.toList_eq, RC.clash, goesKey, ofM, ofC, RC.counts, goesM, overM, firstM, passM, nowM, leftM, RC.ahead, List.range_succ, keyK]
end Go.Proofs.Ytggecoekoilahaa
