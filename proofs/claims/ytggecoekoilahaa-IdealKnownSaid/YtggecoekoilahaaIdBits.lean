/-
  Sets of bits, as the program handles them.
-/
import Derived.Test.YtggecoekoilahaaIdPlain
import Derived.Laws.BitsAllLaws
import Derived.Laws.ShiftsVarLaws
namespace Go.Proofs.Ytggecoekoilahaa
set_option linter.unusedVariables false

theorem shr_cast (L I : Nat) (hI : I ≤ 20) : ((L : Int) / 2 ^ I) = ((L / 2 ^ I : Nat) : Int) := by
  simp
theorem bit_and (L I : Nat) (hL : L < 2 ^ 20) (hI : I ≤ 20) : bits .and .u64 ((L : Int) / 2 ^ I) 1 = (((L.testBit I).toNat : Nat) : Int) := by
  rw [shr_cast L I hI]
  have h1 : L / 2 ^ I ≤ L := Nat.div_le_self _ _
  have := (bits_nat .u64 64 (Nat.le_refl _) (fun n h0 h1 => by simp [IntKind.wrap, IntKind.bits, IntKind.signed]; omega) (L / 2 ^ I) 1 (by omega) (by omega)).1
  rw [show ((1 : Nat) : Int) = 1 from rfl] at this
  rw [this, Nat.and_one_is_mod, Nat.testBit_eq_decide_div_mod_eq]
  have h2 : L / 2 ^ I % 2 = 0 ∨ L / 2 ^ I % 2 = 1 := by omega
  rcases h2 with h | h <;> simp [h]
theorem bit_is0 (L I : Nat) (hL : L < 2 ^ 20) (hI : I ≤ 20) : (bits .and .u64 ((L : Int) / 2 ^ I) 1 == 0) = !L.testBit I := by
  rw [bit_and L I hL hI]
  cases L.testBit I <;> rfl
theorem bit_is1 (L I : Nat) (hL : L < 2 ^ 20) (hI : I ≤ 20) : (bits .and .u64 ((L : Int) / 2 ^ I) 1 == 1) = L.testBit I := by
  rw [bit_and L I hL hI]
  cases L.testBit I <;> rfl

def clrB (left k : Nat) : Nat := left &&& (18446744073709551615 - 2 ^ k)
theorem clrB_bit (left k : Nat) (hl : left < 2 ^ 20) (hk : k < 20) (j : Nat) : (clrB left k).testBit j = (left.testBit j && (j != k)) := by
  unfold clrB
  rw [Nat.testBit_and, show 18446744073709551615 - 2 ^ k = 2 ^ 64 - (2 ^ k + 1) by omega,
    Nat.testBit_two_pow_sub_succ (Nat.pow_lt_pow_right (by decide) (by omega)), Nat.testBit_two_pow]
  by_cases hj : j < 64
  · simp only [hj, decide_true, Bool.true_and]
    by_cases e : k = j
    · subst e; simp
    · simp [e]
      intro _ h
      exact e h.symm
  · have : left.testBit j = false := Nat.testBit_lt_two_pow (Nat.lt_of_lt_of_le hl (Nat.pow_le_pow_right (by decide) (by omega)))
    simp [this]
theorem clrB_lt (left k : Nat) (hl : left < 2 ^ 20) : clrB left k < 2 ^ 20 := Nat.lt_of_le_of_lt Nat.and_le_left hl
theorem bit_clr (L k : Nat) (hL : L < 2 ^ 20) (hk : k < 20) : bits .andNot .u64 (L : Int) ((2 ^ k : Nat) : Int) = (clrB L k : Int) := by
  have h1 : 2 ^ k < 2 ^ 20 := Nat.pow_lt_pow_right (by decide) hk
  exact u64_andNot_nat L (2 ^ k) (by omega) (by omega)

theorem bit_clrw (L k : Nat) (hL : L < 2 ^ 20) (hk : k < 20) : bits .andNot .u64 (L : Int) (IntKind.u64.wrap (2 ^ k)) = (clrB L k : Int) := by
  have h1 : 2 ^ k < 2 ^ 20 := Nat.pow_lt_pow_right (by decide) hk
  rw [← bit_clr L k hL hk]
  congr 1
  have e : ((2 : Int) ^ k) = ((2 ^ k : Nat) : Int) := by simp
  rw [e]
  generalize 2 ^ k = x at *
  simp [IntKind.wrap, IntKind.bits, IntKind.signed]
  omega

theorem pop_clr (l : List CM) (left k : Nat) (hl : left < 2 ^ 20) (hk : k < l.length) (h20 : l.length ≤ 20) (hb : left.testBit k = true) : (bitsLeft l.length (clrB left k)).length + 1 = (bitsLeft l.length left).length := by
  rw [filter_bits l.length left (clrB left k) k (clrB_bit left k hl (by omega))]
  exact length_filter_ne _ k (bitsLeft_nodup _ _) (mem_bitsLeft.2 ⟨hk, hb⟩)

/-- All that are left below I were not answered. -/
def overUpto (l : List CM) (left I : Nat) : Bool := (List.range I).all fun k => !left.testBit k || ((atC l k).c.to == -1)
def NoneUpto (l : List CM) (left : Nat) (last : Int) (I : Nat) : Prop := ∀ k, k < I → left.testBit k = true → (firstB l left k && (passB l last k && aliveB l (clrB left k) (nextL l k last))) = false
def waitsUpto (l : List CM) (left k I : Nat) : Bool := (List.range I).any fun j => left.testBit j && (atC l j).c.ahead (atC l k).c

theorem overUpto_succ (l : List CM) (left I : Nat) : overUpto l left (I + 1) = (overUpto l left I && (!left.testBit I || ((atC l I).c.to == -1))) := by simp [overUpto, List.range_succ]
theorem waitsUpto_succ (l : List CM) (left k I : Nat) : waitsUpto l left k (I + 1) = (waitsUpto l left k I || (left.testBit I && (atC l I).c.ahead (atC l k).c)) := by simp [waitsUpto, List.range_succ]
theorem overUpto_all (l : List CM) (left : Nat) : overUpto l left l.length = overB l left := by
  unfold overUpto overB bitsLeft
  rw [List.all_filter]
theorem waitsUpto_all (l : List CM) (left k : Nat) : waitsUpto l left k l.length = !firstB l left k := by
  unfold waitsUpto firstB bitsLeft
  rw [List.all_filter, List.not_all_eq_any_not]
  congr 1
  funext j
  cases left.testBit j <;> simp

/-- None has gone: alive just if nothing that is left was answered. -/
theorem alive_none (l : List CM) (left : Nat) (last : Int) (hl : left < 2 ^ 20) (h20 : l.length ≤ 20) (hkd : ∀ k, k < l.length → (atC l k).c.kd = 1 ∨ (atC l k).c.kd = 2 ∨ (atC l k).c.kd = 3) (h : NoneUpto l left last l.length) :
    aliveB l left last = overUpto l left l.length := by
  rw [aliveB_step l left last (clrB left) (fun k hk _ j => clrB_bit left k hl (by omega) j) hkd, overUpto_all]
  have : (bitsLeft l.length left).any (fun k => firstB l left k && (passB l last k && aliveB l (clrB left k) (nextL l k last))) = false := by
    rw [List.any_eq_false]
    intro k hk
    obtain ⟨h1, h2⟩ := mem_bitsLeft.1 hk
    rw [h k h1 h2]
    decide
  rw [this, Bool.or_false]
theorem alive_some (l : List CM) (left : Nat) (last : Int) (hl : left < 2 ^ 20) (h20 : l.length ≤ 20) (hkd : ∀ k, k < l.length → (atC l k).c.kd = 1 ∨ (atC l k).c.kd = 2 ∨ (atC l k).c.kd = 3)
    (k : Nat) (hk : k < l.length) (hb : left.testBit k = true) (h1 : firstB l left k = true) (h2 : passB l last k = true) (h3 : aliveB l (clrB left k) (nextL l k last) = true) : aliveB l left last = true := by
  rw [aliveB_step l left last (clrB left) (fun k hk _ j => clrB_bit left k hl (by omega) j) hkd]
  have : (bitsLeft l.length left).any (fun k => firstB l left k && (passB l last k && aliveB l (clrB left k) (nextL l k last))) = true := by
    rw [List.any_eq_true]
    exact ⟨k, mem_bitsLeft.2 ⟨hk, hb⟩, by rw [h1, h2, h3]; rfl⟩
  rw [this, Bool.or_true]

theorem passB_other (l : List CM) (last : Int) (k : Nat) (c : CM) (hc : atC l k = c) (h : c.c.kd ≠ 2) : passB l last k = true := by
  unfold passB passM
  rw [hc]
  simp [h]
theorem nextL_other (l : List CM) (last : Int) (k : Nat) (c : CM) (hc : atC l k = c) (h : c.c.kd ≠ 2) : nextL l k last = (k : Int) := by
  unfold nextL
  rw [hc, if_neg h]
theorem nextL_get (l : List CM) (last : Int) (k : Nat) (c : CM) (hc : atC l k = c) (h : c.c.kd = 2) : nextL l k last = last := by
  unfold nextL
  rw [hc, if_pos h]
theorem thereL_none (l : List CM) : thereL l (-1) = false := rfl
theorem thereL_at (l : List CM) (J : Nat) (d : CM) (hd : atC l J = d) : thereL l (J : Int) = (d.c.kd == 1) := by
  unfold thereL
  simp [hd]
theorem valL_at (l : List CM) (J : Nat) (d : CM) (hd : atC l J = d) (h : (d.c.kd == 1) = true) : valL l (J : Int) = d.val := by
  unfold valL
  rw [thereL_at l J d hd, if_pos h]
  simp [hd]
theorem passB_get (l : List CM) (last : Int) (k : Nat) (c : CM) (hc : atC l k = c) (h : c.c.kd = 2) : passB l last k = (!((c.c.co == 0) != thereL l last) && !(thereL l last && !decide (c.got = valL l last))) := by
  unfold passB passM
  rw [hc]
  simp [h]
end Go.Proofs.Ytggecoekoilahaa
