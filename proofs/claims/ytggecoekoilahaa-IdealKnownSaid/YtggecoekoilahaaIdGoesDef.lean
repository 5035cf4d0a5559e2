/-
  The reference's goes, in plain words.
-/
import Derived.Test.YtggecoekoilahaaIdRows
import Derived.Test.YtggecoekoilahaaIdAhead
import Derived.Test.YtggecoekoilahaaIdRight
namespace Go.Proofs.Ytggecoekoilahaa
open Go.RowKit
set_option linter.unusedSimpArgs false
set_option linter.unusedVariables false

/-- A call with its bytes. -/
structure CM where
  c : RC
  val : List Nat
  got : List Nat
def CM.rd (w : World) (m : CM) : Prop := BytesRd w (.slice m.c.va m.c.vl m.c.vc) m.val ∧ BytesRd w (.slice m.c.ga m.c.gl m.c.gc) m.got
theorem CM.rd.below {w w' : World} {m : CM} (h : m.rd w) (hb : Below w.heap.size w w') : m.rd w' := ⟨h.1.below hb, h.2.below hb⟩
def AllRd (w : World) (l : List CM) : Prop := ∀ m ∈ l, m.rd w
theorem AllRd.below {w w' : World} {l : List CM} (h : AllRd w l) (hb : Below w.heap.size w w') : AllRd w' l := fun m hm => (h m hm).below hb

/-- Nothing that is left was answered. -/
def overM (l : List CM) : Bool := l.all fun m => m.c.to == -1
/-- Is one of the row ahead of none of it? -/
def firstM (l : List CM) (m : CM) : Bool := l.all fun k => !k.c.ahead m.c
/-- Does a get tell what is there? -/
def passM (there : Bool) (value : List Nat) (m : CM) : Bool := !((m.c.kd == 2) && ((m.c.co == 0) != there)) && !(((m.c.kd == 2) && there) && !decide (m.got = value))
def nowM (there : Bool) (m : CM) : Bool := if m.c.kd = 1 then true else if m.c.kd = 3 then false else there
def leftM (value : List Nat) (m : CM) : List Nat := if m.c.kd = 1 then m.val else if m.c.kd = 3 then [] else value
/-- Can they be put behind others? -/
def goesM : Nat → List CM → Bool → List Nat → Bool
  | 0, l, _, _ => overM l
  | n + 1, l, there, value => overM l || (List.range l.length).any fun i => match l[i]? with
    | some m => firstM l m && (passM there value m && goesM n (l.eraseIdx i) (nowM there m) (leftM value m))
    | none => false

theorem goesM_nil (n : Nat) (t : Bool) (v : List Nat) : goesM n [] t v = true := by cases n <;> simp [goesM, overM]

def rcs (l : List CM) : List RC := l.map CM.c
theorem rcs_at {l : List CM} {i : Nat} {m : CM} (h : l[i]? = some m) : (rcs l)[i]? = some m.c := by simp [rcs, h]
theorem rcs_length (l : List CM) : (rcs l).length = l.length := by simp [rcs]

def anyUpto (n : Nat) (l : List CM) (there : Bool) (value : List Nat) (k : Nat) : Bool := (List.range k).any fun i => match l[i]? with
    | some m => firstM l m && (passM there value m && goesM n (l.eraseIdx i) (nowM there m) (leftM value m))
    | none => false
theorem anyUpto_succ {n : Nat} {l : List CM} {there : Bool} {value : List Nat} {k : Nat} {m : CM} (h : l[k]? = some m) :
    anyUpto n l there value (k + 1) = (anyUpto n l there value k || (firstM l m && (passM there value m && goesM n (l.eraseIdx k) (nowM there m) (leftM value m)))) := by
  simp [anyUpto, List.range_succ, h]

theorem anyUpto_mono {n : Nat} {l : List CM} {there : Bool} {value : List Nat} {a b : Nat} (h : a ≤ b) (ha : anyUpto n l there value a = true) : anyUpto n l there value b = true := by
  unfold anyUpto at *
  rw [List.any_eq_true] at *
  obtain ⟨x, hx, h1⟩ := ha
  exact ⟨x, by simp at *; omega, h1⟩

theorem take_all_succ {l : List CM} {k : Nat} {m : CM} (h : l[k]? = some m) (p : CM → Bool) : (l.take (k + 1)).all p = ((l.take k).all p && p m) := by
  rw [List.take_add_one, h, List.all_append]
  simp

end Go.Proofs.Ytggecoekoilahaa
