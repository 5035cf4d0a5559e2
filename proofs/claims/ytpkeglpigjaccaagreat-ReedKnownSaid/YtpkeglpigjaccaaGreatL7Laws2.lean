/-
  The laws ReedAny, ReedEncode and ReedDecode, as the frame has their arguments.
-/
import Derived.Test.YtpkeglpigjaccaaGreatL7Laws1
import Derived.Test.YtpkeglpigjaccaaGreatL7Any
import Derived.Test.YtpkeglpigjaccaaGreatL7Enc
import Derived.Test.YtpkeglpigjaccaaGreatL7Dec
import Derived.ChangeSlices
namespace Go.Proofs.YtpkeglpigjaccaaGreat
open Go.RowKit Go.ChangeShapes Go.WideShapes Go.ChangeAt Go.ChangeMaps
theorem i64_wf {a : Int} (h : (Lit.int .i64 a).wf = true) : -9223372036854775808 ≤ a ∧ a ≤ 9223372036854775807 := by
  have h1 : IntKind.i64.min = -9223372036854775808 := rfl
  have h2 : IntKind.i64.max = 9223372036854775807 := rfl
  simp only [Lit.wf, Bool.and_eq_true, decide_eq_true_eq] at h
  omega
theorem u64_wf {a : Int} (h : (Lit.int .u64 a).wf = true) : ∃ n : Nat, a = (n : Int) ∧ n < 18446744073709551616 := by
  have h1 : IntKind.u64.min = 0 := rfl
  have h2 : IntKind.u64.max = 18446744073709551615 := rfl
  simp only [Lit.wf, Bool.and_eq_true, decide_eq_true_eq] at h
  exact ⟨a.toNat, by omega, by omega⟩
/-- An argument of type []int. -/
theorem ints_of_trod {H : Type} {enc : TypeId × Value → H} {W : World} {a0 : Option Addr} {len cap : Nat} {d0 : DataW H} {p : List MemPlace}
    (h0 : DataW.Trod enc Tryz.prog W 0 (fun _ => true) true 35 (.slice a0 len cap) d0 p) : ∃ l, IRd W (.slice a0 len cap) l ∧ l.length = len := by
  obtain ⟨fuel, hf⟩ := h0
  rcases open_ints Tryz.underlying35 Tryz.underlying3 (by kernel_rfl) hf with ⟨hcs, hx⟩ | ⟨a, len', cap', zs, hcs, _, hl, hm, hz, hx, hcell, hwz⟩
  · simp [Value.cells] at hcs
    obtain ⟨rfl, rfl, rfl⟩ := hcs
    exact ⟨[], (OwnZ.nil W 0).rd, rfl⟩
  · simp [Value.cells] at hcs
    obtain ⟨rfl, rfl, rfl⟩ := hcs
    simp only [if_true] at hz
    have hlen : (zs.take len).length = len := by simp; omega
    by_cases hpos : len = 0
    · subst hpos
      exact ⟨[], ⟨some a, cap, rfl, by simp, fun h => absurd rfl h⟩, rfl⟩
    · obtain ⟨b, o, sp⟩ := a
      have h0 := hcell 0 (by omega)
      have hsp : sp = none := by
        cases sp with
        | none => rfl
        | some s => simp [World.cell?, Addr.add] at h0; split at h0 <;> simp_all
      subst hsp
      have hc : ∀ i, i < zs.length → W.cell? ⟨b, o + i, none⟩ = some (.int .i64 (zs.getD i 0)) := fun i hi => by
        have := hcell i hi
        have e : (⟨b, o, none⟩ : Addr).add i = ⟨b, o + i, none⟩ := by unfold Addr.add; split <;> simp_all
        rwa [e] at this
      have hb : b < W.heap.size := by
        have := hc 0 (by omega)
        unfold World.cell? at this
        rcases Nat.lt_or_ge b W.heap.size with h | h
        · exact h
        · simp [Array.getElem?_eq_none h] at this
      have := IRd.mk (w := W) (b := b) (o := o) (cap := cap) (l := zs.take len) (by rw [hlen]; exact hl) hb fun i x hx => by
        have hi := (List.getElem?_eq_some_iff.1 hx).1
        rw [hlen] at hi
        rw [hc i (by omega), List.getD_eq_getElem?_getD]
        rw [List.getElem?_take, if_pos hi] at hx
        rw [hx]
        rfl
      rw [hlen] at this
      exact ⟨_, this, hlen⟩
theorem law_any (a0 a1 : Int) (u2 : Value) (l2 : List Nat) (a3 a4 a5 : Int) (w : World) (w0 : (Lit.int .u8 a0).wf = true) (w1 : (Lit.int .u8 a1).wf = true) (h2 : BytesRd w u2 l2) (w3 : (Lit.int .u64 a3).wf = true) (w4 : (Lit.int .u8 a4).wf = true) (w5 : (Lit.int .u8 a5).wf = true) :
    Calls Tryz.prog 9 #[.int .u8 a0, .int .u8 a1, u2, .int .u64 a3, .int .u8 a4, .int .u8 a5] w fun e w' => e = .returned (.bool true) ∧ Below w.heap.size w w' := by
  obtain ⟨n, rfl, hn⟩ := u8_nat w0
  obtain ⟨k, rfl, hk⟩ := u8_nat w1
  obtain ⟨A, rfl, hA⟩ := h2.toG
  obtain ⟨bs, rfl, hbs⟩ := u64_wf w3
  obtain ⟨wh, rfl, hwh⟩ := u8_nat w4
  obtain ⟨b, rfl, hb⟩ := u8_nat w5
  exact lany_any n k u2 A bs wh ⟨b, hb⟩ w hn hk hA hbs hwh
theorem law_enc (u0 : Value) (l0 : List Nat) (a1 : Int) (u2 : Value) (l2 : List Nat) (w : World) (h0 : BytesRd w u0 l0) (w1 : (Lit.int .i64 a1).wf = true) (h2 : BytesRd w u2 l2) :
    Calls Tryz.prog 12 #[u0, .int .i64 a1, u2] w fun e w' => e = .returned (.bool true) ∧ Below w.heap.size w w' := by
  obtain ⟨A, rfl, hA⟩ := h0.toG
  obtain ⟨B, rfl, hB⟩ := h2.toG
  exact lenc_any u0 u2 A B a1 w hA hB (i64_wf w1)
theorem law_dec (u0 : Value) (l0 : List Nat) (a1 : Int) (u2 : Value) (l2 : List Int) (u3 : Value) (l3 : List Nat) {n2 : Nat} (w : World) (h0 : BytesRd w u0 l0) (w1 : (Lit.int .i64 a1).wf = true) (h2 : IRd w u2 l2) (_ : l2.length = n2) (h3 : BytesRd w u3 l3) :
    Calls Tryz.prog 11 #[u0, .int .i64 a1, u2, u3] w fun e w' => e = .returned (.bool true) ∧ Below w.heap.size w w' := by
  obtain ⟨A, rfl, hA⟩ := h0.toG
  obtain ⟨B, rfl, hB⟩ := h3.toG
  exact ldec_any u0 u2 u3 A B l2 a1 w hA h2 hB (i64_wf w1)
end Go.Proofs.YtpkeglpigjaccaaGreat
