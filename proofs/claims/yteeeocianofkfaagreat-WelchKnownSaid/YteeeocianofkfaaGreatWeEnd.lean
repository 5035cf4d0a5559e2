/-
  The program's Word.
  The answers about words that are wrong, case by case.
  Symbols in another order: the plain laws.
-/
import Derived.Test.YteeeocianofkfaaGreatWeDec
/- The program's Word. -/
namespace Go.Proofs.YteeeocianofkfaaGreat
open Go.RowKit Fld
set_option linter.unusedVariables false
set_option linter.unusedSimpArgs false

/-- What a word of which few symbols are wrong is answered with, as a word. -/
def WoAns (B : Nat) (xs : List GF) (k : Nat) (ps : List Int) (ys : List GF) (t : Int) (e : Ending) (w' : World) : Prop :=
  (¬ (GoodP xs.length ps ∧ ps.length = ys.length) ∨ t < 0) ∧ e = .returned (.tuple #[.slice none 0 0, .int .i64 2]) ∨
  ((GoodP xs.length ps ∧ ps.length = ys.length) ∧ 0 ≤ t) ∧ ((ps.length : Int) < (k : Int) + 2 * t ∧ e = .returned (.tuple #[.slice none 0 0, .int .i64 70]) ∨
    (k : Int) + 2 * t ≤ (ps.length : Int) ∧ ((∃ m g, e = .returned (.tuple #[.slice (some ⟨g, 0, none⟩) xs.length xs.length, .int .i64 0]) ∧ WeTells xs k ps ys t.toNat (some m) ∧ B ≤ g ∧ View w' g xs.length (fun i => ev m (xs.getD i 0))) ∨
      e = .returned (.tuple #[.slice none 0 0, .int .i64 80]) ∧ WeTells xs k ps ys t.toNat none))
def WoPost (fb : Nat) (xs : List GF) (k : Nat) (ps : List Int) (ys : List GF) (t : Int) (w : World) (e : Ending) (w' : World) : Prop := Kp [fb] w w' ∧ FOk w' fb ∧ WoAns w.heap.size xs k ps ys t e w'
set_option maxRecDepth 100000 in
set_option maxHeartbeats 2000000 in
theorem wword_any (w : World) (cb fb k : Nat) (v pv yv : Value) (xs : List GF) (ps : List Int) (ys : List GF) (t : Int) (h : CodeAt w cb fb k v xs) (hn : xs.Nodup) (hk0 : 0 < k) (hkn : k ≤ xs.length) (hxl : xs.length ≤ 256)
    (hp : IRd w pv ps) (hy : GRd w yv ys) (hpa : ps = [] ∨ Apart pv [fb]) (hya : ys = [] ∨ Apart yv [fb]) (hpl : ps.length ≤ 256) (hyl : ys.length ≤ 1000000000) (ht : -9223372036854775808 ≤ t ∧ t ≤ 9223372036854775807) :
    Calls Tryz.prog 28 #[.pointer (some ⟨cb, 0, none⟩), pv, yv, .int .i64 t] w (WoPost fb xs k ps ys t w) := by
  have HDEC := Lib.hid (wdec_any w cb fb k v pv yv xs ps ys t h hn hk0 hkn hxl hp hy hpa hya hpl hyl ht)
  obtain ⟨ay, cy, rfl, hcy⟩ := hy.form
  obtain ⟨ap, cp, rfl⟩ := hp.form
  have hfw := h.ok.lt
  have HC := Lib.hid h
  have HB := Lib.hid (And.intro hkn hxl)
  clear h hp hy hpa hya hn hcy
  go_enter Tryz.func28, Tryz.ntmps28
  go_wp2_with fail
  refine HDEC.out.mono ?_
  rintro e w1 ⟨hk1, hf1, h1⟩
  have HK1 := Lib.hid hk1
  have HF1 := Lib.hid hf1
  have hs1 := hk1.size
  clear hk1 hf1 HDEC
  rcases h1 with ⟨h1, rfl⟩ | ⟨hg, ⟨h1, rfl⟩ | ⟨h1, ⟨m, v1, v2, rfl, h2, h3, h4⟩ | ⟨rfl, h2⟩⟩⟩
  · have H1 := Lib.hid h1
    clear h1
    go_wp2
    go_ret2
    exact ⟨HK1.out, HF1.out, .inl ⟨H1.out, rfl⟩⟩
  · have H1 := Lib.hid (And.intro hg h1)
    clear hg h1
    go_wp2
    go_ret2
    exact ⟨HK1.out, HF1.out, .inr ⟨H1.out.1, .inl ⟨H1.out.2, rfl⟩⟩⟩
  · have H1 := Lib.hid (And.intro hg (And.intro h1 h2))
    have hml : m.length = k := h2.1
    have HENC := Lib.hid (encode_any w1 cb fb v v1 xs m (by rw [hml]; exact HC.out.step HK1.out HF1.out) h3.rd (fun c hc hm => by have := (h3.lt c hc).1; simp at hm; omega) (by have := HB.out; omega) HB.out.2 (by have := HB.out; omega))
    clear hg h1 h2 h3 h4 hml
    go_wp2_with fail
    refine HENC.out.mono ?_
    rintro e w2 ⟨g, rfl, hg2, hv2, hk2, hf2⟩
    have HFIN : Hid (WoPost fb xs k ps ys t w (.returned (.tuple #[.slice (some ⟨g, 0, none⟩) xs.length xs.length, .int .i64 0])) w2) := Lib.hid ⟨HK1.out.trans hk2, hf2, .inr ⟨H1.out.1, .inr ⟨H1.out.2.1, .inl ⟨m, g, rfl, H1.out.2.2, by omega, hv2⟩⟩⟩⟩
    clear hg2 hv2 hk2 hf2
    go_wp2
    go_ret2
    exact HFIN.out
  · have H1 := Lib.hid (And.intro hg (And.intro h1 h2))
    clear hg h1 h2
    go_wp2
    go_ret2
    exact ⟨HK1.out, HF1.out, .inr ⟨H1.out.1, .inr ⟨H1.out.2.1, .inr ⟨rfl, H1.out.2.2⟩⟩⟩⟩
end Go.Proofs.YteeeocianofkfaaGreat
/- The answers about words that are wrong, case by case. -/
namespace Go.Proofs.YteeeocianofkfaaGreat
open Go.RowKit Fld
set_option linter.unusedVariables false
set_option linter.unusedSimpArgs false

/-- Refused, and why. -/
def WeCode (xs : List GF) (k : Nat) (ps : List Int) (ys : List GF) (t : Int) (c : Int) : Prop :=
  c = 2 ∧ (¬ (GoodP xs.length ps ∧ ps.length = ys.length) ∨ t < 0) ∨
  ((GoodP xs.length ps ∧ ps.length = ys.length) ∧ 0 ≤ t) ∧ (c = 70 ∧ (ps.length : Int) < (k : Int) + 2 * t ∨ (k : Int) + 2 * t ≤ (ps.length : Int) ∧ c = 80 ∧ WeTells xs k ps ys t.toNat none)
/-- Told. -/
def WeOk (xs : List GF) (k : Nat) (ps : List Int) (ys : List GF) (t : Int) (m : List GF) : Prop :=
  ((GoodP xs.length ps ∧ ps.length = ys.length) ∧ 0 ≤ t) ∧ (k : Int) + 2 * t ≤ (ps.length : Int) ∧ WeTells xs k ps ys t.toNat (some m)
section
variable {xs : List GF} {k : Nat} {ps : List Int} {ys : List GF} {t : Int}
theorem WeCode.ne {c : Int} (h : WeCode xs k ps ys t c) : c = 2 ∨ c = 70 ∨ c = 80 := by
  rcases h with ⟨rfl, -⟩ | ⟨-, ⟨rfl, -⟩ | ⟨-, rfl, -⟩⟩ <;> simp
theorem WeCode.one {c c' : Int} (h : WeCode xs k ps ys t c) (h' : WeCode xs k ps ys t c') : c = c' := by
  rcases h with ⟨rfl, h1⟩ | ⟨h1, ⟨rfl, h2⟩ | ⟨h2, rfl, -⟩⟩ <;> rcases h' with ⟨rfl, h3⟩ | ⟨h3, ⟨rfl, h4⟩ | ⟨h4, rfl, -⟩⟩ <;> first
    | rfl
    | (exfalso; omega)
    | (exfalso; rcases h1 with h1 | h1 <;> first | exact h1 h3.1 | omega)
    | (exfalso; rcases h3 with h3 | h3 <;> first | exact h3 h1.1 | omega)
theorem WeOk.one {m m' : List GF} (hn : xs.Nodup) (h : WeOk xs k ps ys t m) (h' : WeOk xs k ps ys t m') : m = m' := by
  have := weTells_one hn h.1.1.1 (by have := h.2.1; have := h.1.2; omega) h.2.2 h'.2.2
  cases this
  rfl
theorem WeOk.not {c : Int} {m : List GF} (h : WeOk xs k ps ys t m) (h' : WeCode xs k ps ys t c) : False := by
  rcases h' with ⟨-, h1 | h1⟩ | ⟨h1, ⟨-, h2⟩ | ⟨-, -, h2⟩⟩
  · exact h1 h.1.1
  · have := h.1.2; omega
  · have := h.2.1; omega
  · exact h2 m h.2.2.1 h.2.2.2
theorem we_cases {B : Nat} {e : Ending} {w : World} (h : WeAns B xs k ps ys t e w) :
    (∃ c, WeCode xs k ps ys t c ∧ e = .returned (.tuple #[.slice none 0 0, .slice none 0 0, .int .i64 c])) ∨
    ∃ m v1 v2, WeOk xs k ps ys t m ∧ e = .returned (.tuple #[v1, v2, .int .i64 0]) ∧ OwnG w B v1 m ∧ RdZ w B v2 (wrS xs ps ys m) := by
  rcases h with ⟨h1, rfl⟩ | ⟨h1, ⟨h2, rfl⟩ | ⟨h2, ⟨m, v1, v2, rfl, h3, h4, h5⟩ | ⟨rfl, h3⟩⟩⟩
  · exact .inl ⟨2, .inl ⟨rfl, h1⟩, rfl⟩
  · exact .inl ⟨70, .inr ⟨h1, .inl ⟨rfl, h2⟩⟩, rfl⟩
  · exact .inr ⟨m, v1, v2, ⟨h1, h2, h3⟩, rfl, h4, h5⟩
  · exact .inl ⟨80, .inr ⟨h1, .inr ⟨h2, rfl, h3⟩⟩, rfl⟩
theorem wo_cases {B : Nat} {e : Ending} {w : World} (h : WoAns B xs k ps ys t e w) :
    (∃ c, WeCode xs k ps ys t c ∧ e = .returned (.tuple #[.slice none 0 0, .int .i64 c])) ∨
    ∃ m g, WeOk xs k ps ys t m ∧ e = .returned (.tuple #[.slice (some ⟨g, 0, none⟩) xs.length xs.length, .int .i64 0]) ∧ B ≤ g ∧ View w g xs.length (fun i => ev m (xs.getD i 0)) := by
  rcases h with ⟨h1, rfl⟩ | ⟨h1, ⟨h2, rfl⟩ | ⟨h2, ⟨m, g, rfl, h3, h4, h5⟩ | ⟨rfl, h3⟩⟩⟩
  · exact .inl ⟨2, .inl ⟨rfl, h1⟩, rfl⟩
  · exact .inl ⟨70, .inr ⟨h1, .inl ⟨rfl, h2⟩⟩, rfl⟩
  · exact .inr ⟨m, g, ⟨h1, h2, h3⟩, rfl, h4, h5⟩
  · exact .inl ⟨80, .inr ⟨h1, .inr ⟨h2, rfl, h3⟩⟩, rfl⟩
theorem wrS_le (m : List GF) : (wrS xs ps ys m).length ≤ ps.length := by
  rw [wrS_len]
  unfold wrI
  have := List.length_filter_le (fun i => decide (ev m ((ptsOf xs ps).getD i 0) ≠ ys.getD i 0)) (List.range (ptsOf xs ps).length)
  rw [List.length_range] at this
  exact Nat.le_trans this (by rw [pts_len]; exact Nat.le_refl _)
end
theorem IRd.nil0 (w : World) : IRd w (.slice none 0 0) [] := (OwnZ.nil w 0).rd
theorem IRd.apart_in {w : World} {v : Value} {l : List Int} (h : IRd w v l) {S : List Nat} (hS : ∀ x ∈ S, w.heap.size ≤ x) : l = [] ∨ Apart v S := by
  obtain ⟨a, cap, rfl, h2, h3⟩ := h
  by_cases hne : l = []
  · exact .inl hne
  · obtain ⟨b, o, rfl, hb, -⟩ := h3 hne
    refine .inr fun k hk hm => ?_
    have := hS k hm
    simp [Value.ownBlock] at hk
    omega
theorem GRd.apart_in {w : World} {v : Value} {l : List GF} (h : GRd w v l) {S : List Nat} (hS : ∀ x ∈ S, w.heap.size ≤ x) : l = [] ∨ Apart v S := by
  obtain ⟨-, a, cap, rfl, h2, h3⟩ := h
  by_cases hne : l = []
  · exact .inl hne
  · obtain ⟨b, o, rfl, hb, -⟩ := h3 (by simpa using hne)
    refine .inr fun k hk hm => ?_
    have := hS k hm
    simp [Value.ownBlock] at hk
    omega
end Go.Proofs.YteeeocianofkfaaGreat
/- Symbols in another order: the plain laws. -/
namespace Go.Proofs.YteeeocianofkfaaGreat
open Go.RowKit Fld
set_option linter.unusedVariables false
set_option linter.unusedSimpArgs false

/-- From the end on, turned by s. -/
def trn (Q s : Nat) : Nat → Nat := fun j => if Q - 1 - j + s < Q then Q - 1 - j + s else Q - 1 - j + s - Q
theorem trn_lt {Q s j : Nat} (hs : s < Q) (hj : j < Q) : trn Q s j < Q := by
  unfold trn
  by_cases h : Q - 1 - j + s < Q
  · rw [if_pos h]; exact h
  · rw [if_neg h]; omega
theorem trn_inj {Q s i j : Nat} (hs : s < Q) (hi : i < Q) (hj : j < Q) (e : trn Q s i = trn Q s j) : i = j := by
  unfold trn at e
  by_cases h : Q - 1 - i + s < Q <;> by_cases h2 : Q - 1 - j + s < Q <;> simp only [h, h2, if_true, if_false] at e <;> omega
theorem trn_onto {Q s i : Nat} (hs : s < Q) (hi : i < Q) : ∃ j, j < Q ∧ trn Q s j = i := by
  by_cases h : Q - 1 + s - i < Q
  · refine ⟨Q - 1 + s - i, h, ?_⟩
    unfold trn
    rw [if_pos (by omega)]
    omega
  · refine ⟨Q - 1 + s - i - Q, by omega, ?_⟩
    unfold trn
    rw [if_neg (by omega)]
    omega
theorem nodup_of_inj {l : List Int} (h : ∀ i j, i < l.length → j < l.length → l.getD i 0 = l.getD j 0 → i = j) : l.Nodup :=
  List.pairwise_iff_getElem.2 fun i j hi hj hij e => by
    have := h i j hi hj (by rw [List.getD_eq_getElem?_getD, List.getElem?_eq_getElem hi, List.getD_eq_getElem?_getD, List.getElem?_eq_getElem hj, e])
    omega
section
variable {xs ys : List GF} {ps : List Int} {k : Nat} {t : Int} {s Q : Nat}
theorem turn_good {N : Nat} (hQ : ps.length = Q) (hs : s < Q) : GoodP N (rowP ps (trn Q s) Q) ↔ GoodP N ps := by
  have hg : ∀ j, j < Q → (rowP ps (trn Q s) Q).getD j 0 = ps.getD (trn Q s j) 0 := fun j hj => rowP_get _ _ hj
  have hin : ∀ i, i < Q → ps.getD i 0 ∈ ps := fun i hi => by
    rw [List.getD_eq_getElem?_getD, List.getElem?_eq_getElem (by omega)]
    exact List.getElem_mem _
  constructor
  · rintro ⟨h1, h2⟩
    refine ⟨fun x hx => ?_, nodup_of_inj fun i j hi hj e => ?_⟩
    · obtain ⟨i, hi, rfl⟩ := List.mem_iff_getElem.1 hx
      obtain ⟨j, hj, e⟩ := trn_onto hs (show i < Q by omega)
      have := h1 (ps.getD (trn Q s j) 0) (List.mem_map.2 ⟨j, List.mem_range.2 hj, rfl⟩)
      rw [e, List.getD_eq_getElem?_getD, List.getElem?_eq_getElem hi] at this
      exact this
    · obtain ⟨a, ha, ea⟩ := trn_onto hs (show i < Q by omega)
      obtain ⟨b, hb, eb⟩ := trn_onto hs (show j < Q by omega)
      have := getI_inj h2 (i := a) (j := b) (by rw [rowP_len]; exact ha) (by rw [rowP_len]; exact hb) (by rw [hg a ha, hg b hb, ea, eb]; exact e)
      rw [← ea, ← eb, this]
  · rintro ⟨h1, h2⟩
    refine ⟨fun x hx => ?_, nodup_of_inj fun i j hi hj e => ?_⟩
    · obtain ⟨j, hj, rfl⟩ := List.mem_map.1 hx
      exact h1 _ (hin _ (trn_lt hs (List.mem_range.1 hj)))
    · rw [rowP_len] at hi hj
      rw [hg i hi, hg j hj] at e
      exact trn_inj hs hi hj (getI_inj h2 (by rw [hQ]; exact trn_lt hs hi) (by rw [hQ]; exact trn_lt hs hj) e)
theorem turn_wrS (m : List GF) (hQ : ps.length = Q) (hs : s < Q) (hn : ps.Nodup) (hn' : (rowP ps (trn Q s) Q).Nodup) : wrS xs (rowP ps (trn Q s) Q) (rowY ys (trn Q s) Q) m = wrS xs ps ys m := by
  refine strict_eq (riseI_lt (wrP_nodup _ m hn')) (riseI_lt (wrP_nodup ys m hn)) fun x => ?_
  refine Iff.trans mem_wrS (Iff.trans ?_ mem_wrS.symm)
  rw [rowP_len]
  constructor
  · rintro ⟨j, hj, h1, rfl⟩
    rw [rowP_get _ _ hj, rowY, rowF_get _ hj] at h1
    rw [rowP_get _ _ hj]
    exact ⟨_, by rw [hQ]; exact trn_lt hs hj, h1, rfl⟩
  · rintro ⟨i, hi, h1, rfl⟩
    obtain ⟨j, hj, e⟩ := trn_onto hs (show i < Q by omega)
    refine ⟨j, hj, ?_, ?_⟩
    · rw [rowP_get _ _ hj, rowY, rowF_get _ hj, e]
      exact h1
    · rw [rowP_get _ _ hj, e]
theorem turn_tells {r : Option (List GF)} {t : Nat} (hQ : ps.length = Q) (hs : s < Q) (hn : ps.Nodup) (hn' : (rowP ps (trn Q s) Q).Nodup) (h : WeTells xs k ps ys t r) : WeTells xs k (rowP ps (trn Q s) Q) (rowY ys (trn Q s) Q) t r := by
  cases r with
  | none => exact fun m hm => by rw [turn_wrS m hQ hs hn hn']; exact h m hm
  | some m => exact ⟨h.1, by rw [turn_wrS m hQ hs hn hn']; exact h.2⟩
theorem turn_code {c : Int} (hQ : ps.length = Q) (hY : ys.length = Q) (hs : s < Q) (h : WeCode xs k ps ys t c) : WeCode xs k (rowP ps (trn Q s) Q) (rowY ys (trn Q s) Q) t c := by
  have hl : (rowP ps (trn Q s) Q).length = (rowY ys (trn Q s) Q).length := by rw [rowP_len, rowY, rowF_len]
  have hg := turn_good (N := xs.length) hQ hs
  rcases h with ⟨rfl, h1⟩ | ⟨h1, h2⟩
  · refine .inl ⟨rfl, h1.imp (fun h2 h3 => h2 ⟨hg.1 h3.1, by omega⟩) id⟩
  · have hg2 := hg.2 h1.1.1
    refine .inr ⟨⟨⟨hg2, hl⟩, h1.2⟩, ?_⟩
    rw [rowP_len, ← hQ]
    rcases h2 with h2 | ⟨h2, h3, h4⟩
    · exact .inl h2
    · refine .inr ⟨h2, h3, ?_⟩
      rw [hQ]
      exact turn_tells hQ hs h1.1.1.2 hg2.2 h4
theorem turn_ok {m : List GF} (hQ : ps.length = Q) (hY : ys.length = Q) (hs : s < Q) (h : WeOk xs k ps ys t m) : WeOk xs k (rowP ps (trn Q s) Q) (rowY ys (trn Q s) Q) t m ∧ wrS xs (rowP ps (trn Q s) Q) (rowY ys (trn Q s) Q) m = wrS xs ps ys m := by
  have hg2 := (turn_good (N := xs.length) hQ hs).2 h.1.1.1
  have hl : (rowP ps (trn Q s) Q).length = (rowY ys (trn Q s) Q).length := by rw [rowP_len, rowY, rowF_len]
  refine ⟨⟨⟨⟨hg2, hl⟩, h.1.2⟩, ?_, turn_tells hQ hs h.1.1.1.2 hg2.2 h.2.2⟩, turn_wrS m hQ hs h.1.1.1.2 hg2.2⟩
  rw [rowP_len, ← hQ]
  exact h.2.1
end
end Go.Proofs.YteeeocianofkfaaGreat
