/-
  Division of polynomials, step by step: the plain law.
-/
import Derived.Test.YteeeocianofkfaaGreatDown
namespace Go.Proofs.YteeeocianofkfaaGreat
open Go.RowKit Fld
set_option linter.unusedVariables false
set_option linter.unusedSimpArgs false

/-- One step of the rest, of the quotient. -/
noncomputable def dStp (b : List GF) (n : Nat) : Nat → GF → (Nat → GF) → (Nat → GF) := fun j c g => addTo j (n + 1) (fun i => b.getD i 0) (c * Fld.inv (b.getD n 0)) g
noncomputable def qStp (b : List GF) (n : Nat) : Nat → GF → (Nat → GF) → (Nat → GF) := fun j c q => fun i => if i = j then c * Fld.inv (b.getD n 0) else q i
noncomputable def rFold (b : List GF) (n : Nat) {cnt : Nat} (xs : List (Fin cnt × GF)) (g : Nat → GF) : Nat → GF := xs.foldl (fun g x => dStp b n x.1.val x.2 g) g
noncomputable def qFold (b : List GF) (n : Nat) {cnt : Nat} (xs : List (Fin cnt × GF)) (q : Nat → GF) : Nat → GF := xs.foldl (fun q x => qStp b n x.1.val x.2 q) q
theorem rFold_snoc (b : List GF) (n : Nat) {cnt : Nat} (xs : List (Fin cnt × GF)) (x : Fin cnt × GF) (g : Nat → GF) : rFold b n (xs ++ [x]) g = dStp b n x.1.val x.2 (rFold b n xs g) := by simp [rFold]
theorem qFold_snoc (b : List GF) (n : Nat) {cnt : Nat} (xs : List (Fin cnt × GF)) (x : Fin cnt × GF) (q : Nat → GF) : qFold b n (xs ++ [x]) q = qStp b n x.1.val x.2 (qFold b n xs q) := by simp [qFold]
theorem qStp_ev (b : List GF) (n : Nat) {j cnt : Nat} (c : GF) {q : Nat → GF} (hj : j < cnt) (hq : q j = 0) (y : GF) : ev (rowF (qStp b n j c q) cnt) y = ev (rowF q cnt) y + pw y j * (c * Fld.inv (b.getD n 0)) := by
  rw [rowF_ev, rowF_ev]
  have e : sm cnt (fun i => qStp b n j c q i * pw y i) = sm cnt (fun i => q i * pw y i + (if i = j then c * Fld.inv (b.getD n 0) * pw y j else 0)) := sm_congr fun i hi => by
    unfold qStp
    by_cases h : i = j
    · rw [if_pos h, if_pos h, h, hq, zmul, zadd]
    · rw [if_neg h, if_neg h, addz]
  rw [e, sm_add]
  congr 1
  rw [sm_one j hj (fun i hi hne => by rw [if_neg hne]), if_pos rfl, mulC]
theorem row_self {b : List GF} {n : Nat} (hb : b.length = n) (y : GF) : ev (rowF (fun i => b.getD i 0) n) y = ev b y := by
  rw [rowF_ev, ev_sm, hb]
/-- What the steps leave. -/
theorem div_run {b : List GF} {n N cnt : Nat} (hb : b.length = n + 1) (ht : b.getD n 0 ≠ 0) (hN : n + cnt ≤ N) : ∀ (j : Nat) (h : j ≤ cnt) (g q : Nat → GF), (∀ i, i < j → q i = 0) →
    (∀ y, ev (rowF (qFold b n (dseq (dStp b n) n cnt j h g) q) cnt) y * ev b y + ev (rowF (rFold b n (dseq (dStp b n) n cnt j h g) g) N) y = ev (rowF q cnt) y * ev b y + ev (rowF g N) y) ∧
    (∀ i, n ≤ i → i < n + j → rFold b n (dseq (dStp b n) n cnt j h g) g i = 0) ∧ ∀ i, n + j ≤ i → rFold b n (dseq (dStp b n) n cnt j h g) g i = g i
  | 0, h, g, q, hq => ⟨fun y => rfl, fun i h1 h2 => by omega, fun i _ => rfl⟩
  | j + 1, h, g, q, hq => by
    obtain ⟨u, hu⟩ : ∃ u, u = g (n + j) * Fld.inv (b.getD n 0) := ⟨_, rfl⟩
    obtain ⟨h1, h2, h3⟩ := div_run hb ht hN j (Nat.le_of_succ_le h) (dStp b n j (g (n + j)) g) (qStp b n j (g (n + j)) q) (fun i hi => by
      unfold qStp
      rw [if_neg (by omega)]
      exact hq i (by omega))
    have er : rFold b n (dseq (dStp b n) n cnt (j + 1) h g) g = rFold b n (dseq (dStp b n) n cnt j (Nat.le_of_succ_le h) (dStp b n j (g (n + j)) g)) (dStp b n j (g (n + j)) g) := rfl
    have eq : qFold b n (dseq (dStp b n) n cnt (j + 1) h g) q = qFold b n (dseq (dStp b n) n cnt j (Nat.le_of_succ_le h) (dStp b n j (g (n + j)) g)) (qStp b n j (g (n + j)) q) := rfl
    rw [er, eq]
    refine ⟨fun y => ?_, fun i hi1 hi2 => ?_, fun i hi => ?_⟩
    · rw [h1, qStp_ev b n _ (by omega) (hq j (by omega)), dStp, addTo_ev _ _ _ _ _ _ _ (by omega), row_self hb, ← hu, dam, Fld.mulA (pw y j), mulC u, addC (ev (rowF g N) y), ← Fld.addA, Fld.addA (ev (rowF q cnt) y * ev b y), adds, addz]
    · by_cases e : i = n + j
      · rw [e, h3 _ (Nat.le_refl _), dStp, addTo, if_pos (by omega), show n + j - j = n by omega, ← hu, hu, mulL, m_inv _ ht, mone, adds]
      · exact h2 i hi1 (by omega)
    · rw [h3 i (by omega), dStp, addTo, if_neg (by omega)]
theorem trimOf_self {l p : List GF} (h : TrimOf l p) (ht : Trimd l) : p = l := by
  obtain ⟨n, hn, rfl, _, hz⟩ := h
  rcases ht with rfl | ht
  · simp
  · have : n = l.length := by
      refine Nat.le_antisymm hn (Nat.le_of_not_lt fun hlt => ht (hz _ (by omega)))
    rw [this, List.take_length]
theorem trimOf_short {l p : List GF} {n : Nat} (h : TrimOf l p) (hz : ∀ j, n ≤ j → l.getD j 0 = 0) : p.length ≤ n := by
  obtain ⟨k, hk, rfl, ht, _⟩ := h
  rw [List.length_take, Nat.min_eq_left hk]
  refine Nat.le_of_not_lt fun hlt => ?_
  rcases ht with ht | ht
  · have := congrArg List.length ht
    rw [List.length_take, Nat.min_eq_left hk] at this
    simp at this
    omega
  · rw [List.length_take, Nat.min_eq_left hk] at ht
    refine ht ?_
    rw [List.getD_eq_getElem?_getD, List.getElem?_take, if_pos (by omega), ← List.getD_eq_getElem?_getD]
    exact hz _ (by omega)
theorem rowF_over {f : Nat → GF} {N j : Nat} (h : N ≤ j) : (rowF f N).getD j 0 = 0 := by
  rw [List.getD_eq_getElem?_getD, List.getElem?_eq_none (by rw [rowF_len]; exact h)]
  rfl
/-- The quotient and the rest. -/
theorem div_all {a b pa Q R : List GF} {n N cnt : Nat} (hb : b.length = n + 1) (ht : b.getD n 0 ≠ 0) (hpa : TrimOf a pa) (hN : pa.length = N) (hc : n + cnt = N ∨ cnt = 0 ∧ N ≤ n)
    (hQ : TrimOf (rowF (qFold b n (dseq (dStp b n) n cnt cnt (Nat.le_refl _) (fun i => pa.getD i 0)) (fun _ => 0)) cnt) Q) (hR : TrimOf (rowF (rFold b n (dseq (dStp b n) n cnt cnt (Nat.le_refl _) (fun i => pa.getD i 0)) (fun i => pa.getD i 0)) N) R) :
    (∀ y, ev a y = ev Q y * ev b y + ev R y) ∧ R.length ≤ n ∧ Q.length ≤ a.length - n := by
  have hle := hpa.len
  have h0 : ∀ y, ev (rowF (fun _ => (0 : GF)) cnt) y = 0 := fun y => ev_zeros (fun c hc => by
    obtain ⟨i, _, rfl⟩ := List.mem_map.1 hc
    rfl) y
  rcases hc with hc | ⟨rfl, hc⟩
  · obtain ⟨h1, h2, h3⟩ := div_run hb ht (by omega : n + cnt ≤ N) cnt (Nat.le_refl _) (fun i => pa.getD i 0) (fun _ => 0) (fun _ _ => rfl)
    refine ⟨fun y => ?_, trimOf_short hR fun j hj => ?_, ?_⟩
    · have := h1 y
      rw [h0, zmul, zadd, row_self hN, hpa.ev] at this
      rw [hQ.ev, hR.ev, this]
    · by_cases hjN : j < N
      · rw [rowF_get _ hjN]
        exact h2 j hj (by omega)
      · exact rowF_over (by omega)
    · have := hQ.len
      rw [rowF_len] at this
      omega
  · refine ⟨fun y => ?_, ?_, ?_⟩
    · have e1 : rFold b n (dseq (dStp b n) n 0 0 (Nat.le_refl _) (fun i => pa.getD i 0)) (fun i => pa.getD i 0) = fun i => pa.getD i 0 := rfl
      rw [hQ.ev, hR.ev, e1, row_self hN, hpa.ev, show rowF (qFold b n (dseq (dStp b n) n 0 0 (Nat.le_refl _) (fun i => pa.getD i 0)) (fun _ => 0)) 0 = [] from rfl, ev_nil, zmul, zadd]
    · have := hR.len
      rw [rowF_len] at this
      omega
    · have := hQ.len
      rw [rowF_len] at this
      omega
end Go.Proofs.YteeeocianofkfaaGreat
