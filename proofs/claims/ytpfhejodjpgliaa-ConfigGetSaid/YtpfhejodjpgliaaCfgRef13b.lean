/-
  The reference's Check answers what config's does: plain.
-/
import Derived.Test.YtpfhejodjpgliaaCfgRef13
namespace Go.Proofs.Ytpfhejodjpgliaa
open Go.RowKit
set_option linter.unusedVariables false

theorem sh_zero_ne {al b te as_ to : Int} (h : to = 1) : (⟨al, b, te, as_, to⟩ : Sh) ≠ Sh.zero := by
  intro e
  have : (⟨al, b, te, as_, to⟩ : Sh).to = Sh.zero.to := by rw [e]
  simp only [Sh.zero] at this
  omega

theorem okS_eq {n k d : Int} (h : 2 * k - 2 ≤ d) (hk : 2 ≤ k) : okS (n + (d - 2 * k + 2)) (d - k + 1) ↔ n + d - 2 * k + 2 ≤ 255 / (Int.gcd (d - k + 1) 255 : Int) := by
  unfold okS
  obtain ⟨m, hm⟩ := Int.eq_ofNat_of_zero_le (show 0 ≤ d - k + 1 by omega)
  rw [hm]
  simp only [Int.toNat_natCast]
  have : Int.gcd (m : Int) 255 = Nat.gcd m 255 := rfl
  rw [this, show ((255 / Nat.gcd m 255 : Nat) : Int) = 255 / (Nat.gcd m 255 : Int) from rfl]
  constructor <;> intro h' <;> omega

section
variable (n k d r t : Int)
theorem shapeF_1 : shapeF 1 n k d r t = if k < 1 then .zero else if okReed n k d r = true then shReed k t else .zero := by simp [shapeF]
theorem shapeF_2 : shapeF 2 n k d r t = if k < 1 then .zero else if okMsr n k d r = true then shMsr k d t else .zero := by simp [shapeF]
theorem shapeF_3 : shapeF 3 n k d r t = if k < 1 then .zero else if okMbr n k d r = true then shMbr k d t else .zero := by simp [shapeF]
theorem shapeF_4 : shapeF 4 n k d r t = if k < 1 then .zero else if okTr n k d r t = true then shTr n k else .zero := by simp [shapeF]
theorem shapeF_5 : shapeF 5 n k d r t = if k < 1 then .zero else if okLoc n k d r = true then shLoc k r t else .zero := by simp [shapeF]
theorem kindS_1 : kindS 1 n k d r t = shReed k t := by simp [kindS, shReed]
theorem kindS_2 : kindS 2 n k d r t = shMsr k d t := by simp [kindS, shMsr]
theorem kindS_3 : kindS 3 n k d r t = shMbr k d t := by simp [kindS, shMbr]
theorem kindS_4 : kindS 4 n k d r t = shTr n k := by simp [kindS, shTr]
theorem kindS_5 (h : d = 0 ∧ 1 ≤ r ∧ okN12 n k r) : kindS 5 n k d r t = shLoc k r t := by
  unfold kindS
  rw [if_neg (by decide), if_neg (by decide), if_neg (by decide), if_neg (by decide), if_pos ⟨rfl, h⟩]
  rfl
end

/-- One kind. -/
theorem one_kind {A : Prop} {b : Bool} {k n t : Int} {s s1 s2 : Sh} (hs : s = if k < 1 then .zero else if b = true then s1 else .zero) (h1 : A → 1 ≤ k ∧ b = true ∧ s2 = s1) (h2 : ¬ k < 1 → b = true → A) (h3 : A → s1.to = 1) :
    (A → s = s2 ∧ s ≠ Sh.zero) ∧ (¬ A → ∀ q, ¬ fits s n t q) := by
  constructor
  · intro a
    obtain ⟨x1, x2, x3⟩ := h1 a
    have : s = s1 := by rw [hs, if_neg (by omega), if_pos x2]
    refine ⟨this.trans x3.symm, ?_⟩
    rw [this]
    intro e
    have := h3 a
    rw [e] at this
    exact absurd this (by decide)
  · intro a q h
    refine h.1 ?_
    rw [hs]
    by_cases b1 : k < 1
    · rw [if_pos b1]
    · rw [if_neg b1, if_neg (fun hb => a (h2 b1 hb))]

/-- Where the reference's kind may be, it is the program's shape; where it may not, the program has none. -/
theorem kind_shape (c n k d r t : Int) (hn : 1 ≤ n ∧ n ≤ 255) (hk : 0 ≤ k ∧ k ≤ 255) (hr : 0 ≤ r ∧ r ≤ 255) :
    (kindOk c n k d r t → shapeF c n k d r t = kindS c n k d r t ∧ shapeF c n k d r t ≠ Sh.zero) ∧
    (¬ kindOk c n k d r t → ∀ q, ¬ fits (shapeF c n k d r t) n t q) := by
  by_cases h1 : c = 1
  · subst h1
    refine one_kind (shapeF_1 n k d r t) (fun h => ?_) (fun h1 h2 => ?_) (fun _ => rfl)
    · have h : 1 ≤ k ∧ k ≤ n ∧ d = 0 ∧ r = 0 := by simpa [kindOk] using h
      exact ⟨h.1, by simp [okReed, h], kindS_1 ..⟩
    · simp only [okReed, Bool.and_eq_true, decide_eq_true_eq] at h2
      exact .inl ⟨rfl, by omega, h2.1.1, h2.1.2, h2.2⟩
  by_cases h2 : c = 2
  · subst h2
    refine one_kind (shapeF_2 n k d r t) (fun h => ?_) (fun h1 h2 => ?_) (fun _ => rfl)
    · have h : r = 0 ∧ okN09 n k d := by simpa [kindOk] using h
      obtain ⟨a1, a2, a3, a4, a5, a6⟩ := h
      have a6' := (okS_eq a3 a2).1 a6
      exact ⟨by omega, by simp only [okMsr, Bool.and_eq_true, decide_eq_true_eq]; exact ⟨⟨⟨⟨⟨a1, by omega⟩, a3⟩, a4⟩, a5⟩, a6'⟩, kindS_2 ..⟩
    · simp only [okMsr, Bool.and_eq_true, decide_eq_true_eq] at h2
      obtain ⟨⟨⟨⟨⟨x1, x2⟩, x3⟩, x4⟩, x5⟩, x6⟩ := h2
      exact .inr (.inl ⟨rfl, x1, by omega, x3, x4, x5, (okS_eq x3 (by omega)).2 x6⟩)
  by_cases h3 : c = 3
  · subst h3
    refine one_kind (shapeF_3 n k d r t) (fun h => ?_) (fun h1 h2 => ?_) (fun _ => rfl)
    · have h : r = 0 ∧ okN10 n k d := by simpa [kindOk] using h
      obtain ⟨a1, a2, a3, a4, a5⟩ := h
      exact ⟨a2, by simp [okMbr, a1, a3, a4], kindS_3 ..⟩
    · simp only [okMbr, Bool.and_eq_true, decide_eq_true_eq] at h2
      exact .inr (.inr (.inl ⟨rfl, h2.1.1, by omega, h2.1.2, h2.2, hn.2⟩))
  by_cases h4 : c = 4
  · subst h4
    refine one_kind (shapeF_4 n k d r t) (fun h => ?_) (fun h1 h2 => ?_) (fun _ => rfl)
    · have h : d = 0 ∧ r = 0 ∧ t = 0 ∧ okN11 n k := by simpa [kindOk] using h
      obtain ⟨a1, a2, a3, a4, a5, a6⟩ := h
      exact ⟨a4, by simp [okTr, a1, a2, a3, a5, a6], kindS_4 ..⟩
    · simp only [okTr, Bool.and_eq_true, decide_eq_true_eq] at h2
      exact .inr (.inr (.inr (.inl ⟨rfl, h2.1.1.1.1, h2.1.1.1.2, h2.1.1.2, by omega, h2.1.2, h2.2⟩)))
  by_cases h5 : c = 5
  · subst h5
    refine one_kind (shapeF_5 n k d r t) (fun h => ?_) (fun h1 h2 => ?_) (fun _ => rfl)
    · have h : d = 0 ∧ 1 ≤ r ∧ okN12 n k r := by simpa [kindOk] using h
      have h' := h
      obtain ⟨a1, a2, a3, a4, a5, a6, a7, a8⟩ := h
      exact ⟨a6, by simp only [okLoc, okLoc0, Bool.and_eq_true, decide_eq_true_eq]; exact ⟨⟨⟨⟨⟨a1, a2⟩, a4⟩, a5⟩, a7⟩, a8⟩, kindS_5 n k d r t h'⟩
    · simp only [okLoc, okLoc0, Bool.and_eq_true, decide_eq_true_eq] at h2
      obtain ⟨⟨⟨⟨⟨x1, x2⟩, x3⟩, x4⟩, x5⟩, x6⟩ := h2
      refine .inr (.inr (.inr (.inr ⟨rfl, x1, x2, ?_, x3, x4, by omega, x5, x6⟩)))
      rcases Int.lt_or_le r 255 with h | h
      · omega
      · obtain rfl : r = 255 := by omega
        exact absurd x3 (by decide)
  · refine ⟨fun h => ?_, fun _ q => ?_⟩
    · simp [kindOk, h1, h2, h3, h4, h5] at h
    · simp only [shapeF, h1, h2, h3, h4, h5, if_false, ite_self]
      exact fun h => h.1 rfl

theorem kindS_bd (c n k d r t : Int) (hn : 1 ≤ n ∧ n ≤ 255) (hk : 0 ≤ k ∧ k ≤ 255) (hd : 0 ≤ d ∧ d ≤ 255) (hr : 0 ≤ r ∧ r ≤ 255) (ht : 0 ≤ t ∧ t ≤ 127) :
    (-600 ≤ (kindS c n k d r t).te ∧ (kindS c n k d r t).te ≤ 600) ∧ (-2000 ≤ (kindS c n k d r t).as_ ∧ (kindS c n k d r t).as_ ≤ 2000) := by
  unfold kindS
  split
  · simp only; omega
  split
  · simp only; omega
  split
  · simp only; omega
  split
  · simp only; omega
  split
  · have q1 : 0 ≤ k / r ∧ k / r ≤ k := ⟨Int.ediv_nonneg (by omega) (by omega), Int.ediv_le_self _ (by omega)⟩
    simp only
    split <;> omega
  · simp only [Sh.zero]; omega

open Classical in
/-- What the reference's Check answers, of any code. -/
theorem rcheck_any (c n k d r t q : Int) (w : World) :
    Calls Try.prog 9 #[.agg #[.int .u8 c, .int .i64 n, .int .i64 k, .int .i64 d, .int .i64 r, .int .i64 t, .int .i64 q]] w fun e w' => e = .returned (checkV (checkF c n k d r t q)) ∧ Below w.heap.size w w' := by
  have hnone : ∀ (h : ¬ (inRange n k d r t ∧ fits (shapeF c n k d r t) n t q)), checkF c n k d r t q = none := fun h => by unfold checkF; rw [if_neg h]
  by_cases h : inR n k d r t q
  · have h' := h
    obtain ⟨a1, a2, a3, a4, a5, a6, a7, a8, a9, a10, a11, a12⟩ := h'
    have hs := fun w => kind_any c n k d r t q w ⟨a1, a2⟩ ⟨a7, a8⟩ ⟨a9, a10⟩ ⟨a11, a12⟩ ⟨a3, a4⟩
    obtain ⟨k1, k2⟩ := kind_shape c n k d r t ⟨a1, a2⟩ ⟨a7, a8⟩ ⟨a11, a12⟩
    obtain ⟨b1, b2⟩ := kindS_bd c n k d r t ⟨a1, a2⟩ ⟨a7, a8⟩ ⟨a9, a10⟩ ⟨a11, a12⟩ ⟨a3, a4⟩
    have hin : inRange n k d r t := ⟨a1, a2, a7, a8, a9, a10, a11, a12, a3, a4⟩
    by_cases ho : kindOk c n k d r t
    · obtain ⟨e1, e2⟩ := k1 ho
      have hb : decide (kindOk c n k d r t) = true := decide_eq_true ho
      by_cases h1 : (kindS c n k d r t).te + 2 * t ≤ q
      · by_cases h2 : (kindS c n k d r t).as_ < n
        · by_cases h3 : (kindS c n k d r t).te + 2 * t < n
          · have : checkF c n k d r t q = some (kindS c n k d r t) := by
              unfold checkF
              rw [if_pos ⟨hin, e2, by rw [e1]; exact h1, a6, by rw [e1]; exact h2, by rw [e1]; exact h3⟩, e1]
            rw [this]
            exact rc_good c n k d r t q _ _ w h hs b1 b2 hb h1 h2 h3
          · rw [hnone (fun hh => h3 (by have := hh.2.2.2.2.2; rwa [e1] at this))]
            exact rc_te c n k d r t q _ _ w h hs b1 b2 hb h1 h2 (by omega)
        · rw [hnone (fun hh => h2 (by have := hh.2.2.2.2.1; rwa [e1] at this))]
          exact rc_as c n k d r t q _ _ w h hs b1 b2 hb h1 (by omega)
      · rw [hnone (fun hh => h1 (by have := hh.2.2.1; rwa [e1] at this))]
        exact rc_w c n k d r t q _ _ w h hs b1 b2 hb (by omega)
    · rw [hnone (fun hh => k2 ho q hh.2)]
      exact rc_nokind c n k d r t q _ _ w h hs (decide_eq_false ho)
  · rw [hnone (fun hh => ?_)]
    · exact rcheck_bad c n k d r t q w h
    · obtain ⟨⟨b1, b2, b3, b4, b5, b6, b7, b8, b9, b10⟩, hf1, hf2, hf3, hf4, hf5⟩ := hh
      refine h ⟨b1, b2, b9, b10, ?_, hf3, b3, b4, b5, b6, b7, b8⟩
      rcases shapeF_ok (c := c) (n := n) (k := k) (d := d) (r := r) (t := t) ⟨b1, b2⟩ ⟨b3, b4⟩ ⟨b5, b6⟩ ⟨b7, b8⟩ ⟨b9, b10⟩ with hz | ⟨c1, c2, c3, c4, c5, c6, c7⟩
      · exact absurd hz hf1
      · omega
end Go.Proofs.Ytpfhejodjpgliaa
