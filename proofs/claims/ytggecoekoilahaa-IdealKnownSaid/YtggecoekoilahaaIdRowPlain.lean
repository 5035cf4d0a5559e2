/-
  Calls one behind the other, in plain words.
-/
import Derived.Test.YtggecoekoilahaaIdOpenPlain
namespace Go.Proofs.Ytggecoekoilahaa
set_option linter.unusedVariables false

/-- Each call ahead of those behind it. -/
def SeqL (L : List CM) : Prop := (∀ m ∈ L, m.c.to ≠ -1 ∧ m.c.ahead m.c = false) ∧ L.Pairwise fun a b => a.c.ahead b.c = true ∧ b.c.ahead a.c = false
/-- The calls, one behind the other. -/
def runM : List CM → Bool → List Nat → Bool
  | [], _, _ => true
  | m :: r, t, v => passM t v m && runM r (nowM t m) (leftM v m)
def stT (L : List CM) (t : Bool) : Bool := L.foldl nowM t
def stV (L : List CM) (v : List Nat) : List Nat := L.foldl leftM v
theorem runM_snoc : ∀ (L : List CM) (m : CM) (t : Bool) (v : List Nat), runM (L ++ [m]) t v = (runM L t v && passM (stT L t) (stV L v) m)
  | [], m, t, v => by simp [runM, stT, stV]
  | a :: L, m, t, v => by
    rw [List.cons_append, runM, runM, runM_snoc L m, Bool.and_assoc]
    rfl
theorem stT_snoc (L : List CM) (m : CM) (t : Bool) : stT (L ++ [m]) t = nowM (stT L t) m := by simp [stT]
theorem stV_snoc (L : List CM) (m : CM) (v : List Nat) : stV (L ++ [m]) v = leftM (stV L v) m := by simp [stV]

theorem goes_seq : ∀ (L : List CM) (t : Bool) (v : List Nat), SeqL L → goesM L.length L t v = runM L t v
  | [], t, v, _ => by simp [goesM, overM, runM]
  | m :: r, t, v, h => by
    have hp := List.pairwise_cons.1 h.2
    have ih := goes_seq r (nowM t m) (leftM v m) ⟨fun x hx => h.1 x (List.mem_cons_of_mem _ hx), hp.2⟩
    have hm := h.1 m List.mem_cons_self
    have ho : overM (m :: r) = false := by
      unfold overM
      rw [List.all_cons]
      have : (m.c.to == -1) = false := by simpa using hm.1
      rw [this, Bool.false_and]
    have hf : firstM (m :: r) m = true := by
      unfold firstM
      rw [List.all_eq_true]
      intro k hk
      rcases List.mem_cons.1 hk with rfl | hk
      · rw [hm.2]; rfl
      · rw [(hp.1 k hk).2]; rfl
    rw [List.length_cons, goesM, ho, Bool.false_or, runM, ← ih, Bool.eq_iff_iff, List.any_eq_true]
    constructor
    · rintro ⟨i, hi, hx⟩
      match i with
      | 0 =>
        simp only [List.getElem?_cons_zero, hf, Bool.true_and, List.eraseIdx_cons_zero] at hx
        exact hx
      | i + 1 =>
        exfalso
        rw [List.getElem?_cons_succ] at hx
        cases hk : r[i]? with
        | none => rw [hk] at hx; cases hx
        | some k =>
          rw [hk] at hx
          simp only [Bool.and_eq_true] at hx
          have h1 := hx.1
          unfold firstM at h1
          rw [List.all_cons, (hp.1 k (List.mem_of_getElem? hk)).1] at h1
          cases h1
    · intro hx
      refine ⟨0, by simp, ?_⟩
      simp only [List.getElem?_cons_zero, hf, Bool.true_and, List.eraseIdx_cons_zero]
      exact hx

/-- Four names. -/
def nameK (k : Nat) : ByteArray := match k with | 0 => ⟨#[97]⟩ | 1 => ⟨#[98]⟩ | 2 => ⟨#[97, 114, 109]⟩ | _ => ⟨#[]⟩
theorem nameK_inj {a b : Nat} (ha : a < 4) (hb : b < 4) (h : (nameK a).toList = (nameK b).toList) : a = b := by
  have e : ∀ x : ByteArray, x.toList = x.data.toList := fun x => by simp [ByteArray.toList_eq]
  rw [e, e] at h
  match a, ha, b, hb with
  | 0, _, 0, _ => rfl
  | 1, _, 1, _ => rfl
  | 2, _, 2, _ => rfl
  | 3, _, 3, _ => rfl
  | 0, _, 1, _ => simp [nameK] at h
  | 0, _, 2, _ => simp [nameK] at h
  | 0, _, 3, _ => simp [nameK] at h
  | 1, _, 0, _ => simp [nameK] at h
  | 1, _, 2, _ => simp [nameK] at h
  | 1, _, 3, _ => simp [nameK] at h
  | 2, _, 0, _ => simp [nameK] at h
  | 2, _, 1, _ => simp [nameK] at h
  | 2, _, 3, _ => simp [nameK] at h
  | 3, _, 0, _ => simp [nameK] at h
  | 3, _, 1, _ => simp [nameK] at h
  | 3, _, 2, _ => simp [nameK] at h

/-- An act: kind (1 to 3), key, value, told. -/
structure AC where
  kd : Nat
  k : Nat
  val : Nat
  told : Bool
def AC.bad (a : AC) (t : Nat → Bool) (v : Nat → Nat) : Bool := (a.kd == 2) && (a.told && (!t a.k || a.val != v a.k))
def AC.nextT (a : AC) (t : Nat → Bool) : Nat → Bool := fun j => if j = a.k then (if a.kd = 1 then true else if a.kd = 3 then false else t j) else t j
def AC.nextV (a : AC) (v : Nat → Nat) : Nat → Nat := fun j => if j = a.k then (if a.kd = 1 then a.val else v j) else v j
def AC.code (a : AC) (t : Nat → Bool) (v : Nat → Nat) : Int := if a.kd = 2 then (if a.bad t v then 0 else if t a.k then 0 else 5) else 0
def AC.got (a : AC) (t : Nat → Bool) (v : Nat → Nat) : List Nat := if a.kd = 2 then (if a.bad t v then [a.val] else if t a.k then [v a.k] else []) else []
/-- The call of an act. -/
def AC.is (a : AC) (i : Nat) (t : Nat → Bool) (v : Nat → Nat) (m : CM) : Prop :=
  1 ≤ a.kd ∧ a.kd ≤ 3 ∧ a.k < 4 ∧ m.c.cl = i ∧ m.c.kd = a.kd ∧ m.c.key = nameK a.k ∧ m.c.fr = 10 * i ∧ m.c.to = 10 * i + 5 ∧ m.c.co = a.code t v ∧ m.val = [a.val] ∧ m.got = a.got t v

inductive Play : List CM → (Nat → Bool) → (Nat → Nat) → Bool → Prop
  | nil : Play [] (fun _ => false) (fun _ => 0) true
  | snoc {R : List CM} {t : Nat → Bool} {v : Nat → Nat} {r : Bool} (h : Play R t v r) (a : AC) (m : CM) (hm : a.is R.length t v m) : Play (R ++ [m]) (a.nextT t) (a.nextV v) (r && !a.bad t v)

/-- What each call of a row is. -/
theorem Play.at {R : List CM} {t : Nat → Bool} {v : Nat → Nat} {r : Bool} (h : Play R t v r) : ∀ (i : Nat) (m : CM), R[i]? = some m → 1 ≤ m.c.kd ∧ m.c.kd ≤ 3 ∧ (∃ k, k < 4 ∧ m.c.key = nameK k) ∧ m.c.cl = i ∧ m.c.fr = 10 * i ∧ m.c.to = 10 * i + 5 ∧ (m.c.co = 0 ∨ m.c.kd = 2 ∧ m.c.co = 5) := by
  induction h with
  | nil => intro i m hm; simp at hm
  | @snoc R t v r h a m hm ih =>
    intro i x hx
    rw [List.getElem?_append] at hx
    split at hx
    · exact ih i x hx
    · rename_i hi
      have e : i = R.length := by
        have := (List.getElem?_eq_some_iff.1 hx).1
        simp at this
        omega
      subst e
      simp at hx
      subst hx
      obtain ⟨h1, h2, h3, h4, h5, h6, h7, h8, h9, h10, h11⟩ := hm
      refine ⟨by omega, by omega, ⟨a.k, h3, h6⟩, h4, h7, h8, ?_⟩
      rw [h9, h5]
      unfold AC.code
      split
      · rename_i e2
        split
        · exact .inl rfl
        · split
          · exact .inl rfl
          · exact .inr ⟨by rw [e2]; rfl, rfl⟩
      · exact .inl rfl

theorem Play.counts {R : List CM} {t : Nat → Bool} {v : Nat → Nat} {r : Bool} (h : Play R t v r) : ∀ m ∈ R, m.c.counts = true := by
  intro m hm
  obtain ⟨i, hi⟩ := List.getElem?_of_mem hm
  obtain ⟨h1, h2, h3, h4, h5, h6, h7⟩ := h.at i m hi
  unfold RC.counts
  have hto : m.c.to ≠ -1 := by omega
  split
  · rename_i e
    rcases h7 with h7 | h7
    · simp [h7, hto]
    · simp [h7.2, hto]
  · rename_i e
    have h8 : m.c.co = 0 := by
      rcases h7 with h7 | h7
      · exact h7
      · exact absurd h7.1 e
    rw [if_pos (by omega)]
    simp [h8]

theorem Play.seq {R : List CM} {t : Nat → Bool} {v : Nat → Nat} {r : Bool} (h : Play R t v r) : SeqL R := by
  constructor
  · intro m hm
    obtain ⟨i, hi⟩ := List.getElem?_of_mem hm
    obtain ⟨h1, h2, h3, h4, h5, h6, h7⟩ := h.at i m hi
    refine ⟨by omega, ?_⟩
    unfold RC.ahead
    rw [Bool.and_eq_false_iff]
    exact .inr (decide_eq_false (by omega))
  · rw [List.pairwise_iff_getElem]
    intro i j hi hj hij
    obtain ⟨_, _, _, _, h5, h6, _⟩ := h.at i R[i] (List.getElem?_eq_getElem hi)
    obtain ⟨_, _, _, _, g5, g6, _⟩ := h.at j R[j] (List.getElem?_eq_getElem hj)
    unfold RC.ahead
    constructor
    · rw [Bool.and_eq_true]
      exact ⟨bne_iff_ne.2 (by omega), decide_eq_true (by omega)⟩
    · rw [Bool.and_eq_false_iff]
      exact .inr (decide_eq_false (by omega))

theorem Play.rightM {R : List CM} {t : Nat → Bool} {v : Nat → Nat} {r : Bool} (h : Play R t v r) (h10 : R.length ≤ 10) : rightM (rcs R) := by
  rw [rightM_iff]
  constructor
  · intro c hc
    obtain ⟨m, hm, rfl⟩ := List.mem_map.1 hc
    obtain ⟨i, hi⟩ := List.getElem?_of_mem hm
    obtain ⟨h1, h2, h3, h4, h5, h6, h7⟩ := h.at i m hi
    refine ⟨(bad_iff _).2 ⟨h1, h2, by omega, .inr (by omega)⟩, ?_⟩
    unfold cntKey
    refine Nat.le_trans (List.length_filter_le _ _) ?_
    rw [rcs_length]
    exact h10
  · rw [List.pairwise_iff_getElem]
    intro i j hi hj hij
    have hi' : i < R.length := by rwa [rcs_length] at hi
    have hj' : j < R.length := by rwa [rcs_length] at hj
    obtain ⟨_, _, _, h4, _⟩ := h.at i R[i] (List.getElem?_eq_getElem hi')
    obtain ⟨_, _, _, g4, _⟩ := h.at j R[j] (List.getElem?_eq_getElem hj')
    have e1 : (rcs R)[i] = R[i].c := by simp [rcs]
    have e2 : (rcs R)[j] = R[j].c := by simp [rcs]
    unfold SymOK
    rw [e1, e2, noclash_iff, noclash_iff]
    constructor <;> omega

theorem ofM_append (l m : List CM) (key : ByteArray) : ofM (l ++ m) key = ofM l key ++ ofM m key := by
  unfold ofM
  exact List.filter_append l m

theorem pass_iff (a : AC) (i : Nat) (t : Nat → Bool) (v : Nat → Nat) (m : CM) (hm : a.is i t v m) (T : Bool) (V : List Nat) (hT : T = t a.k) (hV : t a.k = true → V = [v a.k]) : passM T V m = !a.bad t v := by
  obtain ⟨h1, h2, h3, h4, h5, h6, h7, h8, h9, h10, h11⟩ := hm
  subst hT
  unfold passM
  rw [h5, h9, h11]
  unfold AC.code AC.got
  by_cases e : a.kd = 2
  · rw [if_pos e, if_pos e, e]
    cases hb : a.bad t v with
    | true =>
      simp only [if_true]
      unfold AC.bad at hb
      rw [e] at hb
      simp only [beq_self_eq_true, Bool.true_and, Bool.and_eq_true, Bool.or_eq_true] at hb
      cases ht : t a.k with
      | false => simp
      | true =>
        rw [ht] at hb
        have hne : a.val ≠ v a.k := by
          rcases hb.2 with h | h
          · cases h
          · exact bne_iff_ne.1 h
        rw [hV ht]
        simp [hne]
    | false =>
      simp only [Bool.false_eq_true, if_false]
      cases ht : t a.k with
      | false => simp
      | true => rw [hV ht]; simp
  · have hb : a.bad t v = false := by
      unfold AC.bad
      rw [beq_eq_false_iff_ne.2 e, Bool.false_and]
    have h2' : (((a.kd : Nat) : Int) == 2) = false := by
      rw [beq_eq_false_iff_ne]
      omega
    rw [hb, h2']
    simp

theorem Play.run {R : List CM} {t : Nat → Bool} {v : Nat → Nat} {r : Bool} (h : Play R t v r) :
    (∀ k, k < 4 → stT (ofM R (nameK k)) false = t k ∧ (t k = true → stV (ofM R (nameK k)) [] = [v k])) ∧ ((∀ k, k < 4 → runM (ofM R (nameK k)) false [] = true) ↔ r = true) := by
  induction h with
  | nil => exact ⟨fun k _ => ⟨rfl, fun h => by cases h⟩, ⟨fun _ => rfl, fun _ k _ => rfl⟩⟩
  | @snoc R t v r h a m hm ih =>
    have hS := Play.snoc h a m hm
    have hcm := hS.counts m (by simp)
    have hP := fun (T : Bool) (V : List Nat) => pass_iff a R.length t v m hm T V
    obtain ⟨h1, h2, h3, h4, h5, h6, h7, h8, h9, h10, h11⟩ := hm
    have hof : ∀ k, k < 4 → ofM (R ++ [m]) (nameK k) = ofM R (nameK k) ++ (if k = a.k then [m] else []) := by
      intro k hk
      rw [ofM_append]
      congr 1
      unfold ofM
      rw [List.filter_cons, List.filter_nil]
      by_cases e : k = a.k
      · subst e
        rw [if_pos rfl, if_pos]
        unfold ofC
        rw [h6, hcm]
        simp
      · rw [if_neg e, if_neg]
        unfold ofC
        rw [h6]
        intro hx
        rw [Bool.and_eq_true] at hx
        exact e (nameK_inj h3 hk (by simpa using hx.1)).symm
    constructor
    · intro k hk
      rw [hof k hk]
      have hi := ih.1 k hk
      by_cases e : k = a.k
      · subst e
        rw [if_pos rfl, stT_snoc, stV_snoc]
        unfold AC.nextT AC.nextV nowM leftM
        rw [h5, h10]
        simp only [if_true]
        by_cases e1 : a.kd = 1
        · simp [e1]
        · have e1' : ¬ ((a.kd : Int) = 1) := by omega
          rw [if_neg e1, if_neg e1', if_neg e1']
          by_cases e3 : a.kd = 3
          · simp [e3]
          · have e3' : ¬ ((a.kd : Int) = 3) := by omega
            rw [if_neg e3, if_neg e3', if_neg e3', if_neg e1]
            exact hi
      · rw [if_neg e, List.append_nil]
        unfold AC.nextT AC.nextV
        rw [if_neg e, if_neg e]
        exact hi
    · have hi := ih.1 a.k h3
      have hp := hP (stT (ofM R (nameK a.k)) false) (stV (ofM R (nameK a.k)) []) hi.1 hi.2
      constructor
      · intro hall
        rw [Bool.and_eq_true]
        constructor
        · refine ih.2.1 fun k hk => ?_
          have := hall k hk
          rw [hof k hk] at this
          by_cases e : k = a.k
          · rw [if_pos e, runM_snoc, Bool.and_eq_true] at this
            exact this.1
          · rwa [if_neg e, List.append_nil] at this
        · have := hall a.k h3
          rw [hof _ h3, if_pos rfl, runM_snoc, Bool.and_eq_true, hp] at this
          exact this.2
      · intro hr k hk
        rw [Bool.and_eq_true] at hr
        have hk1 := ih.2.2 hr.1 k hk
        rw [hof k hk]
        by_cases e : k = a.k
        · subst e
          rw [if_pos rfl, runM_snoc, hk1, hp, hr.2]
          rfl
        · rw [if_neg e, List.append_nil]
          exact hk1

theorem SeqL.of {R : List CM} (h : SeqL R) (key : ByteArray) : SeqL (ofM R key) :=
  ⟨fun m hm => h.1 m (ofM_mem hm), h.2.sublist List.filter_sublist⟩

theorem Play.perm {R : List CM} {t : Nat → Bool} {v : Nat → Nat} {r : Bool} (h : Play R t v r) (hR : Go.Proofs.Ytggecoekoilahaa.rightM (rcs R)) : permM R ↔ r = true := by
  rw [← h.run.2]
  unfold permM
  have hg : ∀ key, goesKey R key = runM (ofM R key) false [] := fun key => by
    unfold goesKey
    exact goes_seq _ _ _ (h.seq.of key)
  constructor
  · rintro ⟨_, hp⟩ k hk
    cases hl : ofM R (nameK k) with
    | nil => rfl
    | cons m q =>
      have hm : m ∈ ofM R (nameK k) := by rw [hl]; exact List.mem_cons_self
      have h1 := hp m (ofM_mem hm)
      rw [hg] at h1
      have hc : ofC (nameK k) m = true := (List.mem_filter.1 hm).2
      unfold ofC at hc
      rw [Bool.and_eq_true] at hc
      have hk2 : m.c.key.toList = (nameK k).toList := by simpa using hc.1
      have e : ofM R m.c.key = ofM R (nameK k) := by
        unfold ofM ofC
        rw [hk2]
      rw [e, hl] at h1
      exact h1
  · intro hk
    refine ⟨hR, fun m hm => ?_⟩
    obtain ⟨i, hi⟩ := List.getElem?_of_mem hm
    obtain ⟨_, _, ⟨k, hk4, hkey⟩, _⟩ := h.at i m hi
    rw [hg, hkey]
    exact hk k hk4

/-- A call that ends then. -/
def RC.tillT (c : RC) (x : Int) : RC := { c with to := x }
/-- A call that ends later. -/
def CM.late (m : CM) : CM := { m with c := { m.c with to := m.c.to + 10 } }
theorem late_c (m : CM) : m.late.c = m.c.tillT (m.c.to + 10) := rfl
/-- The same calls, some ending later. -/
def LateOf (R L : List CM) : Prop := L.length = R.length ∧ ∀ (i : Nat) (x : CM), R[i]? = some x → ∃ y, L[i]? = some y ∧ (y = x ∨ y = x.late)
theorem LateOf.nil : LateOf [] [] := ⟨rfl, fun i x h => by simp at h⟩
theorem LateOf.snoc {R L : List CM} (h : LateOf R L) (x y : CM) (hy : y = x ∨ y = x.late) : LateOf (R ++ [x]) (L ++ [y]) := by
  refine ⟨by simp [h.1], fun i z hz => ?_⟩
  rw [List.getElem?_append] at hz
  split at hz
  · rename_i hi
    obtain ⟨w, hw, h2⟩ := h.2 i z hz
    refine ⟨w, ?_, h2⟩
    rw [List.getElem?_append_left (by rw [h.1]; exact hi)]
    exact hw
  · rename_i hi
    have e : i = R.length := by
      have := (List.getElem?_eq_some_iff.1 hz).1
      simp at this
      omega
    subst e
    simp at hz
    subst hz
    refine ⟨y, ?_, hy⟩
    rw [← h.1]
    simp

theorem late_perm {R L : List CM} {t : Nat → Bool} {v : Nat → Nat} {r : Bool} (h : Play R t v r) (hL : LateOf R L) (hp : permM R) : permM L := by
  have hf : ∀ i, i < R.length → (atC L i = atC R i ∨ atC L i = (atC R i).late) ∧ (atC R i).c.to = 10 * i + 5 ∧ (atC R i).c.fr = 10 * i ∧ (atC R i).c.cl = i ∧ 1 ≤ (atC R i).c.kd ∧ (atC R i).c.kd ≤ 3 := by
    intro i hi
    obtain ⟨y, hy, h2⟩ := hL.2 i R[i] (List.getElem?_eq_getElem hi)
    obtain ⟨h1, h3, _, h4, h5, h6, _⟩ := h.at i R[i] (List.getElem?_eq_getElem hi)
    have e1 : atC R i = R[i] := atC_of (List.getElem?_eq_getElem hi)
    rw [atC_of hy, e1]
    exact ⟨h2, h6, h5, h4, h1, h3⟩
  have hcnt : ∀ i, i < R.length → ∀ key, ofC key (atC L i) = ofC key (atC R i) := by
    intro i hi key
    obtain ⟨h1, h2, _⟩ := hf i hi
    rcases h1 with h1 | h1
    · rw [h1]
    · rw [h1]
      unfold ofC RC.counts CM.late
      have e1 : ((atC R i).c.to == -1) = false := by rw [beq_eq_false_iff_ne]; omega
      have e2 : ((atC R i).c.to + 10 == -1) = false := by rw [beq_eq_false_iff_ne]; omega
      simp only [bne, e1, e2]
  have hof : ∀ key, ofM R key = ((List.range R.length).filter fun i => ofC key (atC R i)).map (atC R) := by
    intro key
    conv => lhs; rw [← range_atC R]
    unfold ofM
    rw [List.filter_map]
    rfl
  have hof2 : ∀ key, ofM L key = ((List.range R.length).filter fun i => ofC key (atC R i)).map (atC L) := by
    intro key
    conv => lhs; rw [← range_atC L]
    unfold ofM
    rw [List.filter_map, hL.1]
    congr 1
    refine List.filter_congr fun i hi => ?_
    exact hcnt i (by simpa using hi) key
  have hweak : Weaker (List.range R.length) (atC R) (atC L) := by
    constructor
    · intro i hi
      obtain ⟨h1, h2, _⟩ := hf i (by simpa using hi)
      rcases h1 with h1 | h1 <;> rw [h1]
      · exact ⟨rfl, rfl, rfl, rfl, fun h => h⟩
      · exact ⟨rfl, rfl, rfl, rfl, fun h => by omega⟩
    · intro i hi j hj
      obtain ⟨h1, h2, _⟩ := hf i (by simpa using hi)
      obtain ⟨g1, g2, _⟩ := hf j (by simpa using hj)
      have hfr : (atC L j).c.fr = (atC R j).c.fr := by rcases g1 with g1 | g1 <;> rw [g1]; rfl
      have hto : (atC R i).c.to ≤ (atC L i).c.to := by rcases h1 with h1 | h1 <;> rw [h1]; (exact Int.le_refl _); (show _ ≤ _ + 10; omega)
      unfold RC.ahead
      rw [Bool.and_eq_true, Bool.and_eq_true, hfr]
      rintro ⟨a1, a2⟩
      have := of_decide_eq_true a2
      exact ⟨bne_iff_ne.2 (by omega), decide_eq_true (by omega)⟩
  have hgoes : ∀ key, goesKey R key = true → goesKey L key = true := by
    intro key hg
    unfold goesKey at *
    rw [hof] at hg
    rw [hof2]
    have hw2 : Weaker ((List.range R.length).filter fun i => ofC key (atC R i)) (atC R) (atC L) :=
      ⟨fun i hi => hweak.1 i (List.mem_filter.1 hi).1, fun i hi j hj => hweak.2 i (List.mem_filter.1 hi).1 j (List.mem_filter.1 hj).1⟩
    rw [List.length_map] at *
    exact goes_mono (atC R) (atC L) _ _ _ _ (List.Pairwise.filter _ List.nodup_range) rfl hw2 hg
  have hmem : ∀ x ∈ L, ∃ i, i < R.length ∧ x = atC L i := by
    intro x hx
    obtain ⟨i, hi⟩ := List.getElem?_of_mem hx
    exact ⟨i, by rw [← hL.1]; exact (List.getElem?_eq_some_iff.1 hi).1, (atC_of hi).symm⟩
  have hkey : ∀ i, i < R.length → (atC L i).c.key = (atC R i).c.key := by
    intro i hi
    obtain ⟨h1, _⟩ := hf i hi
    rcases h1 with h1 | h1 <;> rw [h1]
    rfl
  have hRm : ∀ i, i < R.length → atC R i ∈ R := by
    intro i hi
    rw [atC_of (List.getElem?_eq_getElem hi)]
    exact List.getElem_mem hi
  constructor
  · have hr := (rightM_iff _).1 hp.1
    rw [rightM_iff]
    constructor
    · intro c hc
      obtain ⟨m, hm, rfl⟩ := List.mem_map.1 hc
      obtain ⟨i, hi, rfl⟩ := hmem m hm
      obtain ⟨h1, h2, h3, h4, h5, h6⟩ := hf i hi
      have hb := hr.1 (atC R i).c (List.mem_map_of_mem (hRm i hi))
      constructor
      · rw [bad_iff] at hb ⊢
        rcases h1 with h1 | h1 <;> rw [h1]
        · exact hb.1
        · exact ⟨h5, h6, by show 0 ≤ (atC R i).c.fr; omega, .inr (by show (atC R i).c.fr < (atC R i).c.to + 10; omega)⟩
      · have e : cntKey (rcs L) (atC L i).c.key = cntKey (rcs R) (atC R i).c.key := by
          rw [hkey i hi]
          have f1 : ∀ l : List CM, ∀ key, cntKey (rcs l) key = (ofM l key).length := fun l key => by
            have := congrArg List.length (filter_rcs l key)
            rw [rcs_length] at this
            rw [← this]
            rfl
          rw [f1, f1, hof, hof2, List.length_map, List.length_map]
        rw [e]
        exact hb.2
    · rw [List.pairwise_iff_getElem]
      intro i j hi hj hij
      have hi' : i < R.length := by rw [rcs_length, hL.1] at hi; exact hi
      have hj' : j < R.length := by rw [rcs_length, hL.1] at hj; exact hj
      have e1 : (rcs L)[i] = (atC L i).c := by
        have : i < L.length := by rw [hL.1]; exact hi'
        rw [atC_of (List.getElem?_eq_getElem this)]; simp [rcs]
      have e2 : (rcs L)[j] = (atC L j).c := by
        have : j < L.length := by rw [hL.1]; exact hj'
        rw [atC_of (List.getElem?_eq_getElem this)]; simp [rcs]
      obtain ⟨h1, _, _, h4, _⟩ := hf i hi'
      obtain ⟨g1, _, _, g4, _⟩ := hf j hj'
      have c1 : (atC L i).c.cl = i := by rcases h1 with h1 | h1 <;> rw [h1]; (exact h4); (exact h4)
      have c2 : (atC L j).c.cl = j := by rcases g1 with g1 | g1 <;> rw [g1]; (exact g4); (exact g4)
      unfold SymOK
      rw [e1, e2, noclash_iff, noclash_iff]
      constructor <;> omega
  · intro x hx
    obtain ⟨i, hi, rfl⟩ := hmem x hx
    rw [hkey i hi]
    exact hgoes _ (hp.2 _ (hRm i hi))
end Go.Proofs.Ytggecoekoilahaa
