/-
  The law LiarsPlays.
-/
import Derived.Test.YtjlehnmcfimnfaaLiCalls
import Derived.Deep.DeepCutAuto
namespace Go.Proofs.Ytjlehnmcfimnfaa
open Go.RowKit
set_option linter.unusedSimpArgs false
set_option linter.unusedVariables false

def LgPost (l : List LC) (w : World) (e : Ending) (w' : World) : Prop := ∃ b, e = .returned (.bool b) ∧ w = w' ∧ (b = false → l.length ≤ 100 ∧ ∀ c ∈ l, c.l.length ≤ 2000)
set_option maxHeartbeats 1000000 in
theorem large_any (v : Value) (l : List LC) (w : World) (h : CRd w v l) (hr : ∀ c ∈ l, c.rd w) :
    Calls Try.prog 16 #[v] w (LgPost l w) := by
  obtain ⟨a, cap, rfl⟩ := h.form
  have H := Lib.hid h
  have HR := Lib.hid hr
  clear h hr
  go_enter Try.func16, Try.ntmps16
  by_cases h1 : 100 < l.length
  · go_wp2
    go_ret
    exact ⟨true, rfl, rfl, fun h => by cases h⟩
  · go_wp2
    go_loopg [3, 4] l.length (fun gk sv i wr => ∃ (I s : Nat), I ≤ l.length ∧ gk = l.length - I ∧ sv = .int .i64 s ∧ s ≤ 2000 ∧ i = .int .i64 I ∧ w = wr ∧ Hid (∀ c ∈ l.take I, c.l.length ≤ 2000))
    case atStart => exact ⟨0, 0, by omega, rfl, rfl, by omega, rfl, rfl, Lib.hid (fun c hc => by simp at hc)⟩
    case round =>
      obtain ⟨I, s, hI, rfl, rfl, hs, rfl, rfl, hB⟩ := hrel
      by_cases hlt : I < l.length
      · obtain ⟨c, hc⟩ : ∃ c, l[I]? = some c := ⟨_, List.getElem?_eq_getElem hlt⟩
        obtain ⟨-, hcap, b, o, rfl, hb, hat⟩ := SRd.at H.out hc
        have c1 := hat 1 _ rfl
        have hln : c.ln = c.l.length := (SRd.cap_le (HR.out c (List.mem_of_getElem? hc)).1).1
        rw [hln] at c1
        have HC := Lib.hid hc
        clear hat hc hln
        by_cases hbig : 2000 - s < c.l.length
        · have hbig2 : (2000 : Int) - (s : Int) < (c.l.length : Int) := by omega
          go_wp2
          go_ret
          exact ⟨true, rfl, rfl, fun h => by cases h⟩
        · have hbig2 : ¬ (2000 : Int) - (s : Int) < (c.l.length : Int) := by omega
          have HB2 : Hid (∀ d ∈ l.take (I + 1), d.l.length ≤ 2000) := Lib.hid (fun d hd => by
            rw [List.take_add_one, HC.out] at hd
            rcases List.mem_append.1 hd with h | h
            · exact hB.out d h
            · simp at h
              rw [h]
              omega)
          go_wp2
          go_roundg (l.length - (I + 1))
          case measure => omega
          case rel => exact ⟨I + 1, s + c.l.length, by omega, rfl, by go_num, by omega, by go_num, rfl, HB2⟩
      · obtain rfl : I = l.length := by omega
        go_wp2
        go_ret
        exact ⟨false, rfl, rfl, fun _ => ⟨by omega, by have := hB.out; rwa [List.take_length] at this⟩⟩
end Go.Proofs.Ytjlehnmcfimnfaa
