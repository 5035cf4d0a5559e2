/-
  Words of which some symbols are wrong: the plain laws.
-/
import Derived.Test.YteeeocianofkfaaGreatRefPlain
namespace Go.Proofs.YteeeocianofkfaaGreat
open Go.RowKit Fld
set_option linter.unusedVariables false
set_option linter.unusedSimpArgs false

theorem trimd_zero {p : List GF} (h : Trimd p) (hz : ∀ c ∈ p, c = 0) : p = [] := by
  rcases h with h | h
  · exact h
  · refine Classical.byContradiction fun hne => h ?_
    have hl : 0 < p.length := List.length_pos_iff.2 hne
    rw [List.getD_eq_getElem?_getD, List.getElem?_eq_getElem (by omega)]
    exact hz _ (List.getElem_mem _)
/-- Where symbols are wrong for a message. -/
noncomputable def wrI (X ys m : List GF) : List Nat := (List.range X.length).filter fun i => decide (ev m (X.getD i 0) ≠ ys.getD i 0)
theorem mem_wrI {X ys m : List GF} {i : Nat} : i ∈ wrI X ys m ↔ i < X.length ∧ ev m (X.getD i 0) ≠ ys.getD i 0 := by
  unfold wrI
  rw [List.mem_filter, List.mem_range, decide_eq_true_eq]
theorem wrI_nodup (X ys m : List GF) : (wrI X ys m).Nodup := List.nodup_range.filter _
theorem three_parts {α : Type} (p q : α → Bool) : ∀ l : List α, l.length ≤ (l.filter fun a => p a && q a).length + (l.filter fun a => !p a).length + (l.filter fun a => !q a).length
  | [] => by simp
  | a :: l => by
    have := three_parts p q l
    simp only [List.filter_cons, List.length_cons]
    cases p a <;> cases q a <;> simp <;> omega
theorem two_parts {α : Type} (p : α → Bool) : ∀ l : List α, l.length = (l.filter p).length + (l.filter fun a => !p a).length
  | [] => by simp
  | a :: l => by
    have := two_parts p l
    simp only [List.filter_cons, List.length_cons]
    cases p a <;> simp <;> omega
/-- Points told by numbers are unlike. -/
theorem pts_of {X : List GF} (hn : X.Nodup) {ls : List Nat} (hl : ls.Nodup) (hb : ∀ i ∈ ls, i < X.length) : (ls.map fun i => X.getD i 0).Nodup :=
  List.pairwise_map.2 (hl.imp_of_mem fun {a b} ha hb' hne e => hne (getD_inj hn (hb a ha) (hb b hb') e))
/-- Two rows of one length that agree at enough points. -/
theorem agree_many {X m m' : List GF} (hn : X.Nodup) (hm : m.length = m'.length) {ls : List Nat} (hl : ls.Nodup) (hb : ∀ i ∈ ls, i < X.length) (hk : m.length ≤ ls.length) (h : ∀ i ∈ ls, ev m (X.getD i 0) = ev m' (X.getD i 0)) : m = m' :=
  ev_inj (pts_of hn hl hb) hm (by rw [List.length_map]; exact hk) fun z hz => by
    obtain ⟨i, hi, rfl⟩ := List.mem_map.1 hz
    exact h i hi
theorem vanish_many {X p : List GF} (hn : X.Nodup) {ls : List Nat} (hl : ls.Nodup) (hb : ∀ i ∈ ls, i < X.length) (hk : p.length ≤ ls.length) (h : ∀ i ∈ ls, ev p (X.getD i 0) = 0) : ∀ c ∈ p, c = 0 :=
  roots_all (pts_of hn hl hb) (by rw [List.length_map]; exact hk) fun z hz => by
    obtain ⟨i, hi, rfl⟩ := List.mem_map.1 hz
    exact h i hi
/-- The only message. -/
theorem wr_one {X ys m m' : List GF} {k t : Nat} (hn : X.Nodup) (hm : m.length = k) (hm' : m'.length = k) (h : (wrI X ys m).length ≤ t) (h' : (wrI X ys m').length ≤ t) (hk : k + 2 * t ≤ X.length) : m = m' := by
  have h3 := three_parts (fun i => decide (ev m (X.getD i 0) = ys.getD i 0)) (fun i => decide (ev m' (X.getD i 0) = ys.getD i 0)) (List.range X.length)
  rw [List.length_range] at h3
  have e1 : ∀ p : List GF, ((List.range X.length).filter fun i => !decide (ev p (X.getD i 0) = ys.getD i 0)) = wrI X ys p := fun p => by
    unfold wrI
    congr 1
    funext i
    simp
  rw [e1, e1] at h3
  refine agree_many hn (hm.trans hm'.symm) (ls := (List.range X.length).filter fun i => decide (ev m (X.getD i 0) = ys.getD i 0) && decide (ev m' (X.getD i 0) = ys.getD i 0)) (List.nodup_range.filter _) (fun i hi => List.mem_range.1 (List.mem_filter.1 hi).1) (by rw [hm]; omega) fun i hi => ?_
  have := (List.mem_filter.1 hi).2
  rw [Bool.and_eq_true, decide_eq_true_eq, decide_eq_true_eq] at this
  rw [this.1, this.2]
/-- A product is there. -/
theorem prod_ex : ∀ (a b : List GF), b ≠ [] → ∃ p : List GF, p.length = a.length + b.length - 1 ∧ ∀ y, ev p y = ev a y * ev b y
  | [], b, hb => ⟨List.replicate (b.length - 1) 0, by simp, fun y => by rw [ev_zeros (fun c hc => (List.mem_replicate.1 hc).2), ev_nil, zmul]⟩
  | c :: a, b, hb => by
    obtain ⟨p, hp, he⟩ := prod_ex a b hb
    have hl : 0 < b.length := List.length_pos_iff.2 hb
    refine ⟨padd (psc c b) (0 :: p), ?_, fun y => ?_⟩
    · rw [length_padd, length_psc, List.length_cons, List.length_cons, hp]
      omega
    · rw [ev_padd, ev_psc, ev_cons, ev_cons, he, zadd, dam, Fld.mulA]
theorem rts_top : ∀ xs : List GF, (rts xs).getD xs.length 0 = 1
  | [] => rfl
  | x :: xs => by
    have hl : (psc x (rts xs)).length = xs.length + 1 := by rw [length_psc, length_rts]
    rw [rts, getD_padd, List.length_cons, List.getD_cons_succ, rts_top xs, List.getD_eq_getElem?_getD (l := psc x (rts xs)), List.getElem?_eq_none (by omega)]
    exact addz _
/-- The numbers of the system: of a message times the roots, and of the roots. -/
noncomputable def sysA (X ys : List GF) (n : Nat) : Nat → Nat → GF := fun i p => if p < n then pw (X.getD i 0) p else ys.getD i 0 * pw (X.getD i 0) (p - n)
noncomputable def sysB (X ys : List GF) (v : Nat) : Nat → GF := fun i => ys.getD i 0 * pw (X.getD i 0) v
noncomputable def eOf (s : Nat → GF) (n v : Nat) : List GF := rowF (fun j => s (n + j)) v ++ [1]
theorem eOf_len (s : Nat → GF) (n v : Nat) : (eOf s n v).length = v + 1 := by simp [eOf, rowF_len]
theorem eOf_ev (s : Nat → GF) (n v : Nat) (x : GF) : ev (eOf s n v) x = ev (rowF (fun j => s (n + j)) v) x + pw x v := by
  rw [eOf, ev_append, rowF_len, ev_cons, ev_nil, mzero, addz, mone]
theorem sys_sum (X ys : List GF) (n v i : Nat) (s : Nat → GF) : sm (n + v) (fun p => sysA X ys n i p * s p) = ev (rowF s n) (X.getD i 0) + ys.getD i 0 * ev (rowF (fun j => s (n + j)) v) (X.getD i 0) := by
  rw [sm_split, rowF_ev, rowF_ev, ← sm_mul]
  congr 1
  · exact sm_congr fun p hp => by rw [sysA, if_pos hp, mulC]
  · exact sm_congr fun p hp => by rw [sysA, if_neg (by omega), show n + p - n = p by omega, Fld.mulA, mulC (pw _ p)]
theorem sys_iff (X ys : List GF) (n v i : Nat) (s : Nat → GF) : sm (n + v) (fun p => sysA X ys n i p * s p) = sysB X ys v i ↔ ev (rowF s n) (X.getD i 0) = ys.getD i 0 * ev (eOf s n v) (X.getD i 0) := by
  rw [sys_sum, eOf_ev, mad, sysB]
  constructor
  · intro h
    rw [← h, addC (ev _ _), ← Fld.addA, adds, zadd]
  · intro h
    rw [h, addC, ← Fld.addA, adds, zadd]
section
variable {X ys m : List GF} {k v : Nat}
/-- How many are right. -/
theorem right_many (hv : (wrI X ys m).length = v) : ∃ ls : List Nat, ls.Nodup ∧ (∀ i ∈ ls, i < X.length ∧ ev m (X.getD i 0) = ys.getD i 0) ∧ X.length = ls.length + v := by
  refine ⟨(List.range X.length).filter fun i => !decide (ev m (X.getD i 0) ≠ ys.getD i 0), List.nodup_range.filter _, fun i hi => ?_, ?_⟩
  · obtain ⟨h1, h2⟩ := List.mem_filter.1 hi
    exact ⟨List.mem_range.1 h1, by simpa using h2⟩
  · have := two_parts (fun i => decide (ev m (X.getD i 0) ≠ ys.getD i 0)) (List.range X.length)
    rw [List.length_range] at this
    have e : (wrI X ys m).length = ((List.range X.length).filter fun i => decide (ev m (X.getD i 0) ≠ ys.getD i 0)).length := rfl
    omega
/-- What any solution tells. -/
theorem sol_tells (hn : X.Nodup) (hm : m.length = k) (hv : (wrI X ys m).length = v) (hk : k + 2 * v ≤ X.length) {s : Nat → GF} (hs : ∀ i, i < X.length → sm (k + v + v) (fun p => sysA X ys (k + v) i p * s p) = sysB X ys v i) :
    (∀ y, ev (rowF s (k + v)) y = ev m y * ev (eOf s (k + v) v) y) ∧ ∀ i ∈ wrI X ys m, ev (eOf s (k + v) v) (X.getD i 0) = 0 := by
  have hs' := fun i hi => (sys_iff X ys (k + v) v i s).1 (hs i hi)
  obtain ⟨p, hp, he⟩ := prod_ex m (eOf s (k + v) v) (by intro h; have := congrArg List.length h; rw [eOf_len] at this; simp at this)
  obtain ⟨ls, hl, hr, hc⟩ := right_many hv
  have e : rowF s (k + v) = p := by
    refine agree_many hn (by rw [rowF_len, hp, eOf_len, hm]; omega) hl (fun i hi => (hr i hi).1) (by rw [rowF_len]; omega) fun i hi => ?_
    rw [hs' i (hr i hi).1, he, (hr i hi).2]
  have h1 : ∀ y, ev (rowF s (k + v)) y = ev m y * ev (eOf s (k + v) v) y := fun y => by rw [e, he]
  refine ⟨h1, fun i hi => ?_⟩
  obtain ⟨hi1, hi2⟩ := mem_wrI.1 hi
  have h2 := hs' i hi1
  rw [h1] at h2
  have h3 : (ev m (X.getD i 0) + ys.getD i 0) * ev (eOf s (k + v) v) (X.getD i 0) = 0 := by rw [dam, h2, adds]
  rcases mul_eq0 h3 with h | h
  · exact absurd (add_eq0 h) hi2
  · exact h
/-- There is one. -/
theorem sol_ex (hn : X.Nodup) (hm : m.length = k) (hv : (wrI X ys m).length = v) (hk : k + 2 * v ≤ X.length) : ∃ s : Nat → GF, ∀ i, i < X.length → sm (k + v + v) (fun p => sysA X ys (k + v) i p * s p) = sysB X ys v i := by
  obtain ⟨ws, hws⟩ : ∃ ws, ws = (wrI X ys m).map fun i => X.getD i 0 := ⟨_, rfl⟩
  have hwl : ws.length = v := by rw [hws, List.length_map, hv]
  obtain ⟨q, hq, he⟩ := prod_ex m (rts ws) (by intro h; have := congrArg List.length h; rw [length_rts] at this; simp at this)
  rw [length_rts, hm, hwl] at hq
  obtain ⟨s, hs⟩ : ∃ s : Nat → GF, s = fun p => if p < k + v then q.getD p 0 else (rts ws).getD (p - (k + v)) 0 := ⟨_, rfl⟩
  have e1 : rowF s (k + v) = q := by
    refine List.ext_getElem (by rw [rowF_len]; omega) fun i h1 h2 => ?_
    rw [rowF_len] at h1
    simp [rowF, hs, h1, List.getElem?_eq_getElem h2]
  have e2 : eOf s (k + v) v = rts ws := by
    refine List.ext_getElem (by rw [eOf_len, length_rts, hwl]) fun i h1 h2 => ?_
    rw [eOf_len] at h1
    have ht := rts_top ws
    rw [hwl] at ht
    by_cases hi : i < v
    · have hn' : ¬ (k + v + i < k + v) := by omega
      simp [eOf, List.getElem_append, rowF_len, hi, rowF, hs, List.getElem?_eq_getElem h2, hn']
    · obtain rfl : i = v := by omega
      rw [List.getD_eq_getElem?_getD, List.getElem?_eq_getElem h2] at ht
      simp [eOf, List.getElem_append, rowF_len]
      exact ht.symm
  refine ⟨s, fun i hi => (sys_iff X ys (k + v) v i s).2 ?_⟩
  rw [e1, e2, he]
  by_cases hw : ev m (X.getD i 0) = ys.getD i 0
  · rw [hw]
  · have : ev (rts ws) (X.getD i 0) = 0 := ev_rts_zero.2 (by rw [hws]; exact List.mem_map.2 ⟨i, mem_wrI.2 ⟨hi, hw⟩, rfl⟩)
    rw [this, mzero, mzero]
/-- There is no other one. -/
theorem sol_one (hn : X.Nodup) (hm : m.length = k) (hv : (wrI X ys m).length = v) (hk : k + 2 * v ≤ X.length) {z : Nat → GF} (hz : ∀ i, i < X.length → sm (k + v + v) (fun p => sysA X ys (k + v) i p * z p) = 0) : ∀ p, p < k + v + v → z p = 0 := by
  obtain ⟨s, hs⟩ := sol_ex hn hm hv hk
  have hs2 : ∀ i, i < X.length → sm (k + v + v) (fun p => sysA X ys (k + v) i p * (s p + z p)) = sysB X ys v i := fun i hi => by
    rw [← hs i hi, ← addz (sm (k + v + v) fun p => sysA X ys (k + v) i p * s p), ← hz i hi, ← sm_add]
    exact sm_congr fun p _ => mad _ _ _
  obtain ⟨h1, h2⟩ := sol_tells hn hm hv hk hs
  obtain ⟨h3, h4⟩ := sol_tells hn hm hv hk hs2
  have hadd : ∀ n o x, ev (rowF (fun p => s (o + p) + z (o + p)) n) x = ev (rowF (fun p => s (o + p)) n) x + ev (rowF (fun p => z (o + p)) n) x := fun n o x => by
    rw [rowF_ev, rowF_ev, rowF_ev, ← sm_add]
    exact sm_congr fun p _ => dam _ _ _
  have hzero : ∀ c ∈ rowF (fun p => z (k + v + p)) v, c = 0 := by
    refine vanish_many hn (wrI_nodup X ys m) (fun i hi => (mem_wrI.1 hi).1) (by rw [rowF_len, hv]; exact Nat.le_refl _) fun i hi => ?_
    have a := h2 i hi
    have b := h4 i hi
    rw [eOf_ev] at a b
    rw [hadd] at b
    rw [addC (ev _ _ + ev _ _), ← Fld.addA, addC (pw _ _), a, zadd] at b
    exact b
  have hz2 : ∀ j, j < v → z (k + v + j) = 0 := fun j hj => hzero _ (List.mem_map.2 ⟨j, List.mem_range.2 hj, rfl⟩)
  have he : ∀ y, ev (eOf (fun p => s p + z p) (k + v) v) y = ev (eOf s (k + v) v) y := fun y => by
    rw [eOf_ev, eOf_ev, hadd, ev_zeros hzero, addz]
  have hq : ∀ y, ev (rowF z (k + v)) y = 0 := fun y => by
    have a := h1 y
    have b := h3 y
    have c := hadd (k + v) 0 y
    simp only [Nat.zero_add] at c
    rw [he, ← a, c] at b
    exact add_cancel (a := ev (rowF s (k + v)) y) (by rw [b, addz])
  have hz1 : ∀ c ∈ rowF z (k + v), c = 0 := vanish_many hn List.nodup_range (ls := List.range X.length) (fun i hi => List.mem_range.1 hi) (by rw [rowF_len, List.length_range]; omega) fun i _ => hq _
  intro p hp
  by_cases h : p < k + v
  · exact hz1 _ (List.mem_map.2 ⟨p, List.mem_range.2 h, rfl⟩)
  · have := hz2 (p - (k + v)) (by omega)
    rwa [show k + v + (p - (k + v)) = p by omega] at this
/-- Divided by the roots, it is the message. -/
theorem div_tells (hn : X.Nodup) (hm : m.length = k) (hv : (wrI X ys m).length = v) (hk : k + 2 * v ≤ X.length) {s : Nat → GF} (hs : ∀ i, i < X.length → sm (k + v + v) (fun p => sysA X ys (k + v) i p * s p) = sysB X ys v i)
    {Q R : List GF} (hd : ∀ y, ev (rowF s (k + v)) y = ev Q y * ev (eOf s (k + v) v) y + ev R y) (hR : R.length ≤ v) (ht : Trimd R) (hQ : Q.length ≤ k) : R = [] ∧ padTo Q k = m := by
  obtain ⟨h1, h2⟩ := sol_tells hn hm hv hk hs
  have hR0 : R = [] := trimd_zero ht (vanish_many hn (wrI_nodup X ys m) (fun i hi => (mem_wrI.1 hi).1) (by rw [hv]; exact hR) fun i hi => by
    have := hd (X.getD i 0)
    rw [h1, h2 i hi, mzero, mzero, zadd] at this
    exact this.symm)
  refine ⟨hR0, ?_⟩
  rw [hR0] at hd
  have hE : ∀ y, ev (eOf s (k + v) v) y ≠ 0 → ev Q y = ev m y := fun y hy => by
    have := hd y
    rw [h1, ev_nil, addz, mulC, mulC (ev Q y)] at this
    exact (mul_cancel hy this).symm
  have hc : ((List.range X.length).filter fun i => !decide (ev (eOf s (k + v) v) (X.getD i 0) ≠ 0)).length ≤ v := by
    refine Nat.le_of_not_lt fun hlt => ?_
    have := vanish_many (p := eOf s (k + v) v) hn (List.nodup_range.filter fun i => !decide (ev (eOf s (k + v) v) (X.getD i 0) ≠ 0)) (fun i hi => List.mem_range.1 (List.mem_filter.1 hi).1) (by rw [eOf_len]; omega) (fun i hi => by
      have := (List.mem_filter.1 hi).2
      simpa using this)
    exact one_ne0 (F := GF) (this 1 (by simp [eOf]))
  have h3 := two_parts (fun i => decide (ev (eOf s (k + v) v) (X.getD i 0) ≠ 0)) (List.range X.length)
  rw [List.length_range] at h3
  refine agree_many hn (by rw [padTo_len _ hQ, hm]) (List.nodup_range.filter fun i => decide (ev (eOf s (k + v) v) (X.getD i 0) ≠ 0)) (fun i hi => List.mem_range.1 (List.mem_filter.1 hi).1) (by rw [padTo_len _ hQ]; omega) fun i hi => ?_
  rw [padTo_ev]
  exact hE _ (of_decide_eq_true (List.mem_filter.1 hi).2)
end
end Go.Proofs.YteeeocianofkfaaGreat
