/-
  A map of counts: node to count.
-/
import Derived.Test.YtjlehnmcfimnfaaRows
import Derived.WalkKit
import Derived.WalkSpells
import Derived.WalkLawsBesides
import Derived.Lib.Hide
import Derived.Maps.OwnOps
import Derived.Maps.OwnSet
import Derived.Maps.Views
import Derived.Maps.RangeWalk
import Derived.DeepKeys5
import Derived.Below
import Derived.IntWalk
namespace Go.Proofs.Ytjlehnmcfimnfaa
open Go.RowKit
set_option linter.unusedSimpArgs false
set_option linter.unusedVariables false

theorem nodup_lt : ∀ (n : Nat) (l : List Nat), l.Nodup → (∀ x ∈ l, x < n) → l.length ≤ n
  | 0, l, _, h => by
    rcases l with _ | ⟨a, l⟩
    · simp
    · have := h a List.mem_cons_self; omega
  | n + 1, l, hn, h => by
    have h1 := nodup_lt n (l.filter fun x => x != n) (List.Pairwise.filter _ hn) (fun x hx => by
      have h2 := List.mem_filter.1 hx
      have h3 := h x h2.1
      have h4 := bne_iff_ne.1 h2.2
      omega)
    have h2 : l.length ≤ (l.filter fun x => x != n).length + 1 := by
      clear h1 h
      induction l with
      | nil => simp
      | cons a l ih =>
        have hn' := List.nodup_cons.1 hn
        rw [List.filter_cons]
        by_cases e : a = n
        · subst e
          have : l.filter (fun x => x != a) = l := List.filter_eq_self.2 fun x hx => bne_iff_ne.2 fun e : x = a => hn'.1 (e ▸ hx)
          rw [this]
          simp
        · rw [if_pos (bne_iff_ne.2 e)]
          have := ih hn'.2
          simp only [List.length_cons]
          omega
    omega

theorem int_keyed' : Maps.Keyed Try.prog 3 := Maps.int_keyed Try.underlying3
theorem int_key (k : Int) (hk : (Lit.int .i64 k).wf = true) : keyOf Try.prog 3 (.int .i64 k) = some (.int .i64 k) := Maps.keyOf_int_mk Try.underlying3 hk
theorem nat_wf (k : Nat) (hk : k ≤ 1000000) : (Lit.int .i64 (k : Int)).wf = true := by
  have h1 : IntKind.i64.min = -9223372036854775808 := rfl
  have h2 : IntKind.i64.max = 9223372036854775807 := rfl
  simp only [Lit.wf, Bool.and_eq_true, decide_eq_true_eq]
  omega
theorem zeroInt (w : World) : (zeroValue 3).run Try.prog w = .ok (.int .i64 0) w := by kernel_rfl

/-- The map in block bm holds the counts C of the nodes below n. -/
def CntI (w : World) (bm n : Nat) (C : Nat → Nat) : Prop :=
  ∃ D : DataW Unit, w.ownsMap Try.prog 3 (plainElem Try.prog 3) bm n D ∧ (∀ k : Nat, k < n → D.atKey (.int .i64 k) (.lit (.int .i64 0)) = .lit (.int .i64 (C k : Nat))) ∧ (∀ kl, Maps.has D kl = true → ∃ k : Nat, k < n ∧ kl = .int .i64 k)

theorem own_tight {w : World} {bm m n : Nat} {D : DataW Unit} (h : w.ownsMap Try.prog 3 (plainElem Try.prog 3) bm m D) (hk : ∀ kl, Maps.has D kl = true → ∃ k : Nat, k < n ∧ kl = .int .i64 k) :
    w.ownsMap Try.prog 3 (plainElem Try.prog 3) bm n D := by
  have hsize : Maps.size D ≤ n := by
    obtain ⟨es, rfl, hp, hkey⟩ := h.entries int_keyed'
    have hmem : ∀ p ∈ es, ∃ k : Nat, k < n ∧ p.1 = .int .i64 k := fun p hp' => hk p.1 (List.any_eq_true.2 ⟨p, hp', WideAt.sameKey_self (hkey p hp')⟩)
    have hl : ∀ (l : List (Lit × DataW Unit)), l.Pairwise (fun p q => p.1 ≠ q.1) → (∀ p ∈ l, ∃ k : Nat, k < n ∧ p.1 = .int .i64 k) → ∃ ks : List Nat, ks.length = l.length ∧ ks.Nodup ∧ (∀ x ∈ ks, x < n) ∧ ∀ x ∈ ks, ∃ p ∈ l, p.1 = .int .i64 (x : Nat) := by
      intro l
      induction l with
      | nil => exact fun _ _ => ⟨[], rfl, List.nodup_nil, by simp, by simp⟩
      | cons a l ih =>
        intro h1 h2
        have h1' := List.pairwise_cons.1 h1
        obtain ⟨ks, e1, e2, e3, e4⟩ := ih h1'.2 (fun p hp => h2 p (List.mem_cons_of_mem _ hp))
        obtain ⟨k, hk1, hk2⟩ := h2 a List.mem_cons_self
        refine ⟨k :: ks, by simp [e1], List.nodup_cons.2 ⟨fun hx => ?_, e2⟩, ?_, ?_⟩
        · obtain ⟨p, hp, hpe⟩ := e4 k hx
          exact h1'.1 p hp (by rw [hk2, hpe])
        · intro x hx
          rcases List.mem_cons.1 hx with rfl | hx
          · exact hk1
          · exact e3 x hx
        · intro x hx
          rcases List.mem_cons.1 hx with rfl | hx
          · exact ⟨a, List.mem_cons_self, hk2⟩
          · obtain ⟨p, hp, hpe⟩ := e4 x hx
            exact ⟨p, List.mem_cons_of_mem _ hp, hpe⟩
    obtain ⟨ks, e1, e2, e3, _⟩ := hl es hp hmem
    have := nodup_lt n ks e2 e3
    rw [Maps.size_eq]
    omega
  obtain ⟨es, clock, hb, F, hs, rfl⟩ := h
  refine ⟨es, clock, hb, F, ?_, rfl⟩
  simpa [Maps.size, length_sorted] using hsize

theorem CntI.made (w : World) (n : Nat) : CntI (w.alloc (.map #[] 0)) w.heap.size n (fun _ => 0) :=
  ⟨_, (World.ownsMap_made _ _ _ _).mono (Nat.zero_le n), fun _ _ => rfl, fun kl h => (by cases h)⟩
theorem CntI.kept {w w' : World} {bm n : Nat} {C : Nat → Nat} {row : Option Nat} (h : CntI w bm n C) (hg : w.grownBy w' row) (hne : some bm ≠ row) : CntI w' bm n C := by
  obtain ⟨D, h1, h2, h3⟩ := h
  exact ⟨D, h1.kept hg hne, h2, h3⟩
theorem CntI.below {w w' : World} {bm n : Nat} {C : Nat → Nat} (h : CntI w bm n C) (hb : Below w.heap.size w w') : CntI w' bm n C :=
  h.kept (row := none) ⟨hb.os, hb.tape, hb.output, hb.size, fun k hk _ => hb.block k hk⟩ (by simp)
theorem CntI.lt {w : World} {bm n : Nat} {C : Nat → Nat} (h : CntI w bm n C) : bm < w.heap.size := by
  obtain ⟨D, h1, _, _⟩ := h
  exact h1.lt
theorem CntI.look {w : World} {bm n : Nat} {C : Nat → Nat} (h : CntI w bm n C) (k : Nat) (hk : k < n) (hn : n ≤ 1000000) :
    (Instr.lookup 46 (.map (some bm)) (.int .i64 k) false).run Try.prog w = .ok (.int .i64 (C k : Nat)) w := by
  obtain ⟨D, h1, h2, h3⟩ := h
  obtain ⟨c, hrun, hat, _⟩ := h1.lookup_int int_keyed' Try.underlying46 Try.underlying3 (zeroInt w) (int_key k (nat_wf k (by omega)))
  rw [h2 k hk] at hat
  simp only [DataW.lit.injEq, Lit.int.injEq, true_and] at hat
  rw [hat]
  exact hrun
theorem CntI.put {w : World} {bm n : Nat} {C : Nat → Nat} (h : CntI w bm n C) (k : Nat) (hk : k < n) (hn : n ≤ 1000000) (v : Nat) (hv : v ≤ 1000000) :
    ∃ w', (Instr.mapUpdate 46 (.map (some bm)) (.int .i64 k) (.int .i64 v)).run Try.prog w = .ok () w' ∧ CntI w' bm n (fun j => if j = k then v else C j) ∧ w.grownBy w' (some bm) := by
  obtain ⟨D, h1, h2, h3⟩ := h
  have hw := nat_wf k (by omega)
  obtain ⟨w', hrun, h4, h5⟩ := h1.update int_keyed' Try.underlying46 (by unfold maxLen; omega) (int_key k hw) (plainElem_int Try.underlying3 (nat_wf v hv))
  have hm := h1.isMap
  have hkey := int_keyed'.key (int_key k hw)
  have h6 : ∀ kl, Maps.has (D.put (.int .i64 k) (.lit (.int .i64 v))) kl = true → ∃ j : Nat, j < n ∧ kl = .int .i64 j := by
    intro kl hkl
    by_cases e : kl = .int .i64 k
    · exact ⟨k, hk, e⟩
    · rw [Maps.has_put_other e] at hkl
      exact h3 kl hkl
  refine ⟨w', hrun, ⟨_, own_tight h4 h6, fun j hj => ?_, h6⟩, h5⟩
  show _ = DataW.lit (.int .i64 ((if j = k then v else C j : Nat) : Int))
  by_cases e : j = k
  · subst e
    rw [if_pos rfl]
    exact Maps.atKey_put_same hm hkey _ _
  · rw [if_neg e, Maps.atKey_put_other (by simp; omega)]
    exact h2 j hj
theorem CntI.del {w : World} {bm n : Nat} {C : Nat → Nat} (h : CntI w bm n C) (k : Nat) (hk : k < n) (hn : n ≤ 1000000) (ty : TypeId) :
    ∃ w', (Builtin.delete_ #[46, 3] ty #[.map (some bm), .int .i64 k]).run Try.prog w = .ok (.tuple #[]) w' ∧ CntI w' bm n (fun j => if j = k then 0 else C j) ∧ w.grownBy w' (some bm) := by
  obtain ⟨D, h1, h2, h3⟩ := h
  have hw := nat_wf k (by omega)
  obtain ⟨w', hrun, h4, h5⟩ := h1.drop int_keyed' Try.underlying46 (int_key k hw) ty
  refine ⟨w', hrun, ⟨_, h4, fun j hj => ?_, ?_⟩, h5.grown⟩
  · show _ = DataW.lit (.int .i64 ((if j = k then 0 else C j : Nat) : Int))
    by_cases e : j = k
    · subst e
      rw [if_pos rfl]
      exact Maps.atKey_del_same _
    · rw [if_neg e, Maps.atKey_del_other (by simp; omega)]
      exact h2 j hj
  · intro kl hkl
    by_cases e : kl = .int .i64 k
    · subst e; rw [Maps.has_del_same] at hkl; cases hkl
    · rw [Maps.has_del_other e] at hkl; exact h3 kl hkl
end Go.Proofs.Ytjlehnmcfimnfaa
