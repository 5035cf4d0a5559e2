/-
  Rows of structs that are read, of any number of cells each.
-/
import Derived.Test.YtjlehnmcfimnfaaBytes
import Derived.Deep.Slices
import Derived.Deep.Fields
import Derived.ChangeArms
import Derived.Below
namespace Go.Proofs.Ytjlehnmcfimnfaa
open Go.RowKit Go.ChangeShapes Go.WideShapes Go.ChangeAt Go.Deep
set_option linter.unusedVariables false

/-- A slice value that reads as a row of these, of n cells each. -/
def SRd {α : Type} (n : Nat) (cells : α → List Value) (w : World) (v : Value) (l : List α) : Prop :=
  ∃ a cap, v = .slice a l.length cap ∧ l.length ≤ cap ∧ (l ≠ [] → ∃ b o, a = some ⟨b, o, none⟩ ∧ b < w.heap.size ∧ ∀ (i : Nat) (c : α), l[i]? = some c → ∀ (j : Nat) (u : Value), (cells c)[j]? = some u → w.cell? ⟨b, o + i * n + j, none⟩ = some u)

section
variable {α : Type} {n : Nat} {cells : α → List Value}
theorem SRd.below {w w' : World} {v : Value} {l : List α} (h : SRd n cells w v l) (hb : Below w.heap.size w w') : SRd n cells w' v l := by
  obtain ⟨a, cap, h1, h2, h3⟩ := h
  refine ⟨a, cap, h1, h2, fun hne => ?_⟩
  obtain ⟨b, o, h4, h5, h6⟩ := h3 hne
  exact ⟨b, o, h4, Nat.lt_of_lt_of_le h5 hb.size, fun i c hi j u hj => (hb.cell (p := ⟨b, o + i * n + j, none⟩) h5).trans (h6 i c hi j u hj)⟩
theorem SRd.nil (w : World) : SRd n cells w (.slice none 0 0) [] := ⟨none, 0, rfl, Nat.le_refl _, fun h => absurd rfl h⟩
theorem SRd.form {w : World} {v : Value} {l : List α} (h : SRd n cells w v l) : ∃ a cap, v = .slice a l.length cap := by
  obtain ⟨a, cap, h1, _⟩ := h
  exact ⟨a, cap, h1⟩
theorem SRd.cap_le {w : World} {a : Option Addr} {m cap : Nat} {l : List α} (h : SRd n cells w (.slice a m cap) l) : m = l.length ∧ l.length ≤ cap := by
  obtain ⟨a', cap', h1, h2, _⟩ := h
  cases h1
  exact ⟨rfl, h2⟩
/-- One element of a row. -/
theorem SRd.at {w : World} {a : Option Addr} {m cap : Nat} {l : List α} (h : SRd n cells w (.slice a m cap) l) {i : Nat} {c : α} (hi : l[i]? = some c) : m = l.length ∧ l.length ≤ cap ∧ ∃ b o, a = some ⟨b, o, none⟩ ∧ b < w.heap.size ∧
    ∀ (j : Nat) (u : Value), (cells c)[j]? = some u → w.cell? ⟨b, o + i * n + j, none⟩ = some u := by
  obtain ⟨a', cap', h1, h2, h3⟩ := h
  cases h1
  obtain ⟨b, o, h4, h5, h6⟩ := h3 (fun e => by rw [e] at hi; simp at hi)
  exact ⟨rfl, h2, b, o, h4, h5, h6 i c hi⟩

/-- The cells of a row. -/
def flatS (cells : α → List Value) (l : List α) : List Value := l.flatMap cells
theorem flatS_append (l m : List α) : flatS cells (l ++ m) = flatS cells l ++ flatS cells m := by simp [flatS]
theorem flatS_length (hn : ∀ c, (cells c).length = n) (l : List α) : (flatS cells l).length = l.length * n := by
  induction l with
  | nil => simp [flatS]
  | cons c l ih =>
    unfold flatS at *
    rw [List.flatMap_cons, List.length_append, hn, ih, List.length_cons, Nat.add_mul, Nat.one_mul, Nat.add_comm]
theorem flatS_at (hn : ∀ c, (cells c).length = n) : ∀ (l : List α) (i : Nat) (c : α) (j : Nat) (u : Value), l[i]? = some c → (cells c)[j]? = some u → (flatS cells l)[i * n + j]? = some u
  | [], i, c, j, u, h, _ => by simp at h
  | d :: l, 0, c, j, u, h, hj => by
    simp only [List.getElem?_cons_zero, Option.some.injEq] at h
    subst h
    have hl := (List.getElem?_eq_some_iff.1 hj).1
    unfold flatS
    rw [List.flatMap_cons, Nat.zero_mul, Nat.zero_add, List.getElem?_append_left hl]
    exact hj
  | d :: l, i + 1, c, j, u, h, hj => by
    have ih := flatS_at hn l i c j u (by simpa using h) hj
    unfold flatS at *
    have h1 : (i + 1) * n + j = n + (i * n + j) := by rw [Nat.add_mul, Nat.one_mul]; omega
    rw [List.flatMap_cons, List.getElem?_append_right (by rw [hn]; omega), hn, h1, Nat.add_sub_cancel_left]
    exact ih

theorem SRd.of_owns {w : World} {base t : Nat} {v : Value} {m : Nat} {l : List α} (hn : ∀ c, (cells c).length = n) (hn0 : 0 < n) (h : w.ownsRow base t n v m (flatS cells l)) : SRd n cells w v l := by
  have hm : l.length = m := by
    have := h.1
    rw [flatS_length hn] at this
    exact Nat.eq_of_mul_eq_mul_right hn0 this
  have hlt := h.lt
  rcases h.2 with ⟨rfl, h2⟩ | ⟨g, cap, cur, rfl, h2, h3, h4, h5, h6, h7⟩
  · obtain rfl := List.eq_nil_of_length_eq_zero (hm.trans h2)
    exact SRd.nil w
  · refine ⟨_, cap, by rw [hm], by omega, fun _ => ⟨g, 0, rfl, (hlt g rfl).2, fun i c hi j u hj => ?_⟩⟩
    have := h.cells (g := g) rfl (i * n + j) u (flatS_at hn l i c j u hi hj)
    have e : (⟨g, 0, none⟩ : Addr).add (i * n + j) = ⟨g, 0 + i * n + j, none⟩ := by
      unfold Addr.add
      split
      · simp_all
      · simp only [Addr.mk.injEq, true_and, and_true]; omega
    rwa [e] at this

/-- The cells of a part of a row that is read. -/
theorem SRd.part (hn : ∀ c, (cells c).length = n) (hn0 : 0 < n) {w : World} {m cap : Nat} {l : List α} {b o : Nat} (h : SRd n cells w (.slice (some ⟨b, o, none⟩) m cap) l) (p q : Nat) (hq : p + q ≤ l.length) :
    ∀ (j : Nat) (u : Value), (flatS cells ((l.drop p).take q))[j]? = some u → w.cell? ((⟨b, o + p * n, none⟩ : Addr).add j) = some u := by
  intro j u hj
  have hlen : ((l.drop p).take q).length = q := by simp; omega
  have hjl : j < q * n := by
    rcases Nat.lt_or_ge j (q * n) with h | h
    · exact h
    · rw [List.getElem?_eq_none (by rw [flatS_length hn, hlen]; exact h)] at hj; cases hj
  have hi : j / n < q := Nat.div_lt_of_lt_mul (by rw [Nat.mul_comm]; exact hjl)
  have hpi : p + j / n < l.length := by omega
  have hc : l[p + j / n]? = some l[p + j / n] := List.getElem?_eq_getElem hpi
  have hc' : ((l.drop p).take q)[j / n]? = some l[p + j / n] := by rw [List.getElem?_take, if_pos hi, List.getElem?_drop, hc]
  have h8lt : j % n < (cells l[p + j / n]).length := by rw [hn]; exact Nat.mod_lt _ hn0
  obtain ⟨u', hu'⟩ : ∃ u', (cells l[p + j / n])[j % n]? = some u' := ⟨_, List.getElem?_eq_getElem h8lt⟩
  have h7 := flatS_at hn _ _ _ _ _ hc' hu'
  have hdm : j / n * n + j % n = j := by rw [Nat.mul_comm]; exact Nat.div_add_mod j n
  rw [hdm, hj] at h7
  cases h7
  obtain ⟨_, _, b', o', h4, _, h6⟩ := h.at hc
  cases h4
  have h8 := h6 _ _ hu'
  have e1 : o + (p + j / n) * n + j % n = o + p * n + j := by rw [Nat.add_mul]; omega
  rw [e1] at h8
  have e : (⟨b, o + p * n, none⟩ : Addr).add j = ⟨b, o + p * n + j, none⟩ := by
    unfold Addr.add
    split
    · subst j; simp
    · rfl
  rw [e]
  exact h8

theorem one_cellS {cs : List Value} {j : Nat} (h : j < cs.length) : (cs.drop j).take 1 = [cs[j]] := by
  rw [List.drop_eq_getElem_cons h]
  rfl

/-- One field of one cell. -/
theorem field_one {H : Type} {enc : TypeId × Value → H} {W : World} {n' : Nat} {ft : TypeId} {cs : List Value} {xs : List (DataW H × List MemPlace)} {j : Nat} (hC : Try.prog.cellsOf ft = 1) (hj : j < cs.length) (hx : j < xs.length)
    (e : DataW.trod enc Try.prog W 0 (fun _ => true) true n' ft ((cs.drop j).take (Try.prog.cellsOf ft)) = xs[j]?) : DataW.trod enc Try.prog W 0 (fun _ => true) true n' ft [cs[j]] = some xs[j] := by
  rw [hC, one_cellS hj] at e
  rw [e, List.getElem?_eq_getElem hx]

/-- An argument that is a row of structs. -/
theorem SRd.of_trod [Inhabited α] {H : Type} {enc : TypeId × Value → H} {W : World} {t e : TypeId} (P : α → Prop) (ht : Try.prog.underlying t = some (.slice e)) (hC : Try.prog.cellsOf e = n) (hn : ∀ c, (cells c).length = n)
    (elem : ∀ (k : Nat) (cs : List Value) (y : DataW H × List MemPlace), DataW.trod enc Try.prog W 0 (fun _ => true) true k e cs = some y → ∃ c : α, cs = cells c ∧ P c)
    {a0 : Option Addr} {len cap : Nat} {d : DataW H} {p : List MemPlace} (hn0 : 0 < n) (h : DataW.Trod enc Try.prog W 0 (fun _ => true) true t (.slice a0 len cap) d p) :
    ∃ l : List α, SRd n cells W (.slice a0 len cap) l ∧ ∀ c ∈ l, P c := by
  obtain ⟨fuel, hf⟩ := h
  rcases open_slice ht hf with ⟨hcs, _⟩ | ⟨a, len', cap', m, n', D, Pl, hcs, _, hl, hm, hmm, _, hi⟩
  · simp [Value.cells] at hcs
    obtain ⟨rfl, rfl, rfl⟩ := hcs
    exact ⟨[], SRd.nil W, fun m hm => by simp at hm⟩
  · simp [Value.cells] at hcs
    obtain ⟨rfl, rfl, rfl⟩ := hcs
    rw [hC] at hi
    have he : ∀ i, i < len → ∃ c : α, (∀ (j : Nat) (u : Value), (cells c)[j]? = some u → W.cell? ((a.add (i * n)).add j) = some u) ∧ P c := by
      intro i hil
      obtain ⟨cs', hc, ht⟩ := hi i (by rw [hmm]; simp; omega)
      obtain ⟨_, hcl, hat⟩ := World.cells?_some hc
      obtain ⟨c, rfl, h2⟩ := elem _ _ _ ht
      exact ⟨c, fun j u hj => by
        have hj8 := (List.getElem?_eq_some_iff.1 hj).1
        rw [hn] at hj8
        rw [hat j hj8]; exact hj, h2⟩
    obtain ⟨f, hfs⟩ : ∃ f : Nat → α, ∀ i, i < len → (∀ (j : Nat) (u : Value), (cells (f i))[j]? = some u → W.cell? ((a.add (i * n)).add j) = some u) ∧ P (f i) :=
      ⟨fun i => if h : i < len then Classical.choose (he i h) else default, fun i hi => by
        simp only [hi, dite_true]
        exact Classical.choose_spec (he i hi)⟩
    have hlen : ((List.range len).map f).length = len := by simp
    refine ⟨(List.range len).map f, ?_, fun m hm => ?_⟩
    · refine ⟨some a, cap, by rw [hlen], by rw [hlen]; exact hl, fun hne => ?_⟩
      have hpos : 0 < len := by
        rcases Nat.eq_zero_or_pos len with h | h
        · subst h; simp at hne
        · exact h
      obtain ⟨b, o, sp⟩ := a
      obtain ⟨u0, hu0⟩ : ∃ u, (cells (f 0))[0]? = some u := ⟨_, List.getElem?_eq_getElem (by rw [hn]; exact hn0)⟩
      have h0 := (hfs 0 hpos).1 0 _ hu0
      have hsp : sp = none := by
        cases sp with
        | none => rfl
        | some s => simp [World.cell?, Addr.add] at h0; split at h0 <;> simp_all
      subst hsp
      refine ⟨b, o, rfl, ?_, fun i c hi j u hj => ?_⟩
      · have := World.block_lt_of_cell? _ _ h0
        simpa [block_add] using this
      · have hil : i < len := by
          have := (List.getElem?_eq_some_iff.1 hi).1
          rw [hlen] at this
          exact this
        have hc : c = f i := by
          have e : ((List.range len).map f)[i]? = some (f i) := by simp [hil]
          rw [e] at hi
          exact (Option.some.inj hi).symm
        subst hc
        have h1 := (hfs i hil).1 j u hj
        have e : ((⟨b, o, none⟩ : Addr).add (i * n)).add j = ⟨b, o + i * n + j, none⟩ := by
          unfold Addr.add
          split <;> split <;> simp_all
        rwa [e] at h1
    · obtain ⟨i, hi, rfl⟩ := List.mem_map.1 hm
      exact (hfs i (by simpa using hi)).2
end
end Go.Proofs.Ytjlehnmcfimnfaa
