/-
  A region whose operations are guarded ('&&', '||') by what is not decided: no parting of the walk: the guarded run of operations is looked at under its guard, the test's value is one Bool.
-/
import Derived.Test.YtjlehnmcfimnfaaRegion2
set_option linter.unusedVariables false
namespace Go.Proofs.Ytjlehnmcfimnfaa

section
variable {P : Program} {w0 : World} {keep : Nat → Prop}

/-- Slots that hold whatever. -/
def junk : List Tmp → (Nat → Value) → Act → Act
  | [], _, a => a
  | d :: ds, js, a => junk ds js (a.put (some d) (js d))

theorem put_tmps (a : Act) (d : Tmp) (v : Value) : (a.put (some d) v).tmps = a.tmps.setIfInBounds d v := rfl
theorem put_defers (a : Act) (d : Option Tmp) (v : Value) : (a.put d v).defers = a.defers := by cases d <;> rfl
theorem junk_defers (js : Nat → Value) : ∀ (ds : List Tmp) (a : Act), (junk ds js a).defers = a.defers
  | [], _ => rfl
  | d :: ds, a => by rw [junk, junk_defers js ds, put_defers]
theorem junk_size (js : Nat → Value) : ∀ (ds : List Tmp) (a : Act), (junk ds js a).tmps.size = a.tmps.size
  | [], _ => rfl
  | d :: ds, a => by rw [junk, junk_size js ds, put_tmps, Array.size_setIfInBounds]
theorem junk_at (js : Nat → Value) : ∀ (ds : List Tmp) (a : Act) (i : Nat), (junk ds js a).tmps[i]? = if i ∈ ds then (if i < a.tmps.size then some (js i) else none) else a.tmps[i]?
  | [], a, i => by simp [junk]
  | d :: ds, a, i => by
    rw [junk, junk_at js ds, put_tmps, Array.size_setIfInBounds, Array.getElem?_setIfInBounds]
    by_cases h1 : i ∈ ds
    · simp [h1]
    · by_cases h2 : d = i
      · subst h2; simp [h1]
      · have : ¬ i = d := fun e => h2 e.symm
        simp [h1, h2, this]

/-- Alike but for some slots. -/
def AlikeBut (ds : List Tmp) (a a' : Act) : Prop := a'.tmps.size = a.tmps.size ∧ a'.defers = a.defers ∧ ∀ i, i ∉ ds → a'.tmps[i]? = a.tmps[i]?
theorem AlikeBut.refl (ds : List Tmp) (a : Act) : AlikeBut ds a a := ⟨rfl, rfl, fun _ _ => rfl⟩
theorem AlikeBut.put {ds : List Tmp} {a a' : Act} (h : AlikeBut ds a a') (d : Option Tmp) (v : Value) (hd : ∀ t, d = some t → t ∈ ds) : AlikeBut ds a (a'.put d v) := by
  cases d with
  | none => exact h
  | some d =>
    refine ⟨by rw [put_tmps, Array.size_setIfInBounds]; exact h.1, by rw [put_defers]; exact h.2.1, fun i hi => ?_⟩
    rw [put_tmps, Array.getElem?_setIfInBounds, if_neg (fun e : d = i => hi (by rw [← e]; exact hd d rfl))]
    exact h.2.2 i hi
theorem AlikeBut.junk_eq {ds : List Tmp} {a a' : Act} (h : AlikeBut ds a a') : a' = junk ds (fun i => a'.tmps.getD i undef) a := by
  obtain ⟨h1, h2, h3⟩ := h
  obtain ⟨t', d'⟩ := a'
  have e1 : t' = (junk ds (fun i => t'.getD i undef) a).tmps := by
    apply Array.ext_getElem?
    intro i
    rw [junk_at]
    by_cases hi : i ∈ ds
    · rw [if_pos hi]
      by_cases hl : i < a.tmps.size
      · rw [if_pos hl]
        have : i < t'.size := by rw [h1]; exact hl
        simp [this]
      · rw [if_neg hl]
        exact Array.getElem?_eq_none (by rw [h1]; omega)
    · rw [if_neg hi]; exact h3 i hi
  have e2 : d' = (junk ds (fun i => t'.getD i undef) a).defers := by rw [junk_defers]; exact h2
  show Act.mk t' d' = _
  generalize junk ds (fun i => t'.getD i undef) a = b at e1 e2
  obtain ⟨bt, bd⟩ := b
  simp only at e1 e2
  rw [e1, e2]

/-- Operations, some of them a run under a guard, with the 'pick' behind it. -/
inductive UT where
  | done
  | step (c : Bool) (o : SOp) (r : UT)
  | unit (t : Tmp) (want : Bool) (b : UT) (c : Bool) (ty : TypeId) (d last : Tmp) (r : UT)

def UT.dsts : UT → List Tmp
  | .done => []
  | .step _ o r => o.dst.toList ++ r.dsts
  | .unit _ _ b _ _ d _ r => b.dsts ++ d :: r.dsts

def pickOp (t : Tmp) (want : Bool) (ty : TypeId) (d last : Tmp) (g : Option (Option Tmp × Bool)) : SOp :=
  { dst := some d, op := .pick (.tmp t) (if want then .tmp last else .const (.bool true)) (if want then .const (.bool false) else .tmp last), type := ty, guard := g }

def orG (o : SOp) (g : Option (Option Tmp × Bool)) : SOp := { o with guard := match o.guard with | some x => some x | none => g }

/-- With the guards written out. -/
def UT.flat (g : Option (Option Tmp × Bool)) : UT → STr → STr
  | .done, k => k
  | .step c o r, k => .step c (orG o g) (r.flat g k)
  | .unit t want b c ty d last r, k => b.flat (some (some t, want)) (.step c (pickOp t want ty d last g) (r.flat g k))

/-- The guards' slots are not written by what they guard; a run within a run hangs on a slot that the outer run writes. -/
def UT.ok (zs : Option (List Tmp)) : UT → Bool
  | .done => true
  | .step _ o r => (match o.guard, zs with | some (some t, _), some z => z.contains t | some (none, _), _ => true | _, _ => true) && r.ok (zs.map fun z => o.dst.toList ++ z)
  | .unit t _ b _ _ d last r => !b.dsts.contains t && d != t && b.ok (some []) && (match zs with | some z => z.contains t | none => true) && r.ok (zs.map fun z => d :: (b.dsts ++ z))

/-- The walk. -/
def wpUT (P : Program) (w0 : World) (keep : Nat → Prop) : UT → (Act → World → Prop) → Act → World → Prop
  | .done, Q, a, w => Q a w
  | .step c o r, Q, a, w =>
    if o.wanted a then
      (if c then Chains P o.oper a w (fun v w' => Cls w0 keep w' ∧ wpUT P w0 keep r Q (a.put o.dst v) w')
       else ∃ v, (∀ W, yieldsUpon (graft w0 keep W) v ((execOp a.eval o.oper).run P (graft w0 keep W))) ∧ wpUT P w0 keep r Q (a.put o.dst v) w)
    else wpUT P w0 keep r Q (a.put o.dst undef) w
  | .unit t want b c ty d last r, Q, a, w => ∃ (cv x : Bool) (R : World → Prop), a.tmps[t]? = some (.bool cv) ∧ R w ∧
      (cv = want → wpUT P w0 keep b (fun a' w' => a'.tmps[last]? = some (.bool x) ∧ R w') a w) ∧
      ∀ js w1, R w1 → wpUT P w0 keep r Q ((junk b.dsts js a).put (some d) (.bool (bif want then cv && x else cv || x))) w1

theorem wpUT_mono : ∀ (u : UT) {Q Q' : Act → World → Prop} {a : Act} {w : World}, (∀ a w, Q a w → Q' a w) → wpUT P w0 keep u Q a w → wpUT P w0 keep u Q' a w
  | .done, _, _, _, _, h, hh => h _ _ hh
  | .step c o r, _, _, a, w, h, hh => by
    simp only [wpUT] at hh ⊢
    split
    · rename_i hw
      simp only [hw, if_true] at hh
      split
      · rename_i hc
        simp only [hc, if_true] at hh
        exact chainUpon_mono (fun v w' hk => ⟨hk.1, wpUT_mono r h hk.2⟩) hh
      · rename_i hc
        simp only [hc] at hh
        obtain ⟨v, h1, h2⟩ := hh
        exact ⟨v, h1, wpUT_mono r h h2⟩
    · rename_i hw
      simp only [hw] at hh
      exact wpUT_mono r h hh
  | .unit t want b c ty d last r, _, _, a, w, h, ⟨cv, x, R, h1, hR, h2, h3⟩ => ⟨cv, x, R, h1, hR, h2, fun js w1 hw => wpUT_mono r h (h3 js w1 hw)⟩

/-- A run writes its own slots alone. -/
theorem wpUT_alike : ∀ (u : UT) (ds : List Tmp) (a0 : Act) {Q : Act → World → Prop} {a : Act} {w : World}, (∀ t, t ∈ u.dsts → t ∈ ds) → AlikeBut ds a0 a → wpUT P w0 keep u Q a w →
    wpUT P w0 keep u (fun a' w' => Q a' w' ∧ AlikeBut ds a0 a') a w
  | .done, _, _, _, _, _, _, h, hh => ⟨hh, h⟩
  | .step c o r, ds, a0, _, a, w, hd, h, hh => by
    have hput : ∀ v, AlikeBut ds a0 (a.put o.dst v) := fun v => h.put o.dst v fun t ht => hd t (by simp [UT.dsts, ht])
    have hr : ∀ t, t ∈ r.dsts → t ∈ ds := fun t ht => hd t (by simp [UT.dsts, ht])
    simp only [wpUT] at hh ⊢
    split
    · rename_i hw
      simp only [hw, if_true] at hh
      split
      · rename_i hc
        simp only [hc, if_true] at hh
        exact chainUpon_mono (fun v w' hk => ⟨hk.1, wpUT_alike r ds a0 hr (hput v) hk.2⟩) hh
      · rename_i hc
        simp only [hc] at hh
        obtain ⟨v, h1, h2⟩ := hh
        exact ⟨v, h1, wpUT_alike r ds a0 hr (hput v) h2⟩
    · rename_i hw
      simp only [hw] at hh
      exact wpUT_alike r ds a0 hr (hput _) hh
  | .unit t want b c ty d last r, ds, a0, _, a, w, hd, h, ⟨cv, x, R, h1, hR, h2, h3⟩ => by
    refine ⟨cv, x, R, h1, hR, h2, fun js w1 hw => ?_⟩
    refine wpUT_alike r ds a0 (fun t ht => hd t (by simp [UT.dsts, ht])) ?_ (h3 js w1 hw)
    refine AlikeBut.put ?_ (some d) _ (fun t ht => hd t (by cases ht; simp [UT.dsts]))
    refine ⟨(junk_size _ _ _).trans h.1, (junk_defers _ _ _).trans h.2.1, fun i hi => ?_⟩
    rw [junk_at, if_neg (fun e => hi (hd i (by simp [UT.dsts, e])))]
    exact h.2.2 i hi

theorem orG_some {o : SOp} {g x} (h : o.guard = some x) : orG o g = o := by
  obtain ⟨a, b, c, d⟩ := o
  simp only at h
  subst h
  rfl
theorem orG_wanted {o : SOp} {t : Tmp} {want : Bool} {a : Act} (h : o.guard = none) : (orG o (some (some t, want))).wanted a = ((match a.tmps[t]? with | some (.bool b) => some b | _ => none) == some want) := by
  unfold SOp.wanted orG
  simp [h]
  rfl
theorem orG_dst (o : SOp) (g) : (orG o g).dst = o.dst := rfl
theorem orG_oper (o : SOp) (g) : (orG o g).oper = o.oper := rfl
theorem orG_none (o : SOp) : orG o none = o := by
  obtain ⟨a, b, c, d⟩ := o
  cases d <;> rfl

/-- The slot's test. -/
def slotIs (a : Act) (t : Tmp) : Option Bool := match a.tmps[t]? with | some (.bool b) => some b | _ => none
theorem slotIs_of {a : Act} {t : Tmp} {b : Bool} (h : a.tmps[t]? = some (.bool b)) : slotIs a t = some b := by unfold slotIs; rw [h]
theorem wanted_some {o : SOp} {t : Tmp} {want : Bool} {a : Act} (h : o.guard = some (some t, want)) : o.wanted a = (slotIs a t == some want) := by
  unfold SOp.wanted slotIs
  rw [h]
  rfl
theorem wanted_someNone {o : SOp} {want : Bool} {a : Act} (h : o.guard = some (none, want)) : o.wanted a = false := by
  unfold SOp.wanted
  rw [h]
  rfl

theorem slotIs_put_self (a : Act) (t : Tmp) : slotIs (a.put (some t) undef) t = none := by
  unfold slotIs
  rw [put_tmps, Array.getElem?_setIfInBounds, if_pos rfl]
  split <;> rename_i h <;> split at h <;> simp_all [undef]
theorem slotIs_put_ne {a : Act} {t : Tmp} {d : Option Tmp} (v : Value) (h : d ≠ some t) : slotIs (a.put d v) t = slotIs a t := by
  unfold slotIs
  cases d with
  | none => rfl
  | some d => rw [put_tmps, Array.getElem?_setIfInBounds, if_neg (fun e => h (by rw [e]))]
theorem slotIs_undef {a : Act} {t : Tmp} (d : Option Tmp) (h : d = some t ∨ slotIs a t = none) : slotIs (a.put d undef) t = none := by
  by_cases e : d = some t
  · rw [e]; exact slotIs_put_self a t
  · rw [slotIs_put_ne _ e]; exact h.resolve_left e

/-- A run whose guard fails: each is passed over. -/
theorem slim_skip {Q : Act → World → Prop} : ∀ (u : UT) (t : Tmp) (want : Bool) (z : List Tmp) (ds : List Tmp) (a0 : Act) (k : STr) {a : Act} {w : World}, u.ok (some z) = true → t ∉ u.dsts → slotIs a t ≠ some want → (∀ y, y ∈ z → slotIs a y = none) →
    (∀ y, y ∈ u.dsts → y ∈ ds) → AlikeBut ds a0 a → (∀ a', AlikeBut ds a0 a' → (∀ y, y ∈ u.dsts ∨ y ∈ z → slotIs a' y = none) → wpSlimT P w0 keep Q k a' w) → wpSlimT P w0 keep Q (u.flat (some (some t, want)) k) a w
  | .done, _, _, _, _, _, _, _, _, _, _, _, hz, _, h, hk => hk _ h fun y hy => hz y (hy.resolve_left (by simp [UT.dsts]))
  | .step c o r, t, want, z, ds, a0, k, a, w, hok, ht, hs, hz, hd, h, hk => by
    simp only [UT.ok, Bool.and_eq_true] at hok
    have hdst : o.dst ≠ some t := fun e => ht (by simp [UT.dsts, e])
    have hw : (orG o (some (some t, want))).wanted a = false := by
      cases hg : o.guard with
      | none =>
        rw [orG_wanted hg]
        have : slotIs a t ≠ some want := hs
        unfold slotIs at this
        simpa using this
      | some x =>
        rw [orG_some hg]
        obtain ⟨y, b⟩ := x
        cases y with
        | none => exact wanted_someNone hg
        | some y =>
          rw [wanted_some hg, hz y (by have := hok.1; rw [hg] at this; simpa using this)]
          rfl
    simp only [UT.flat, wpSlimT, hw, Bool.false_eq_true, if_false]
    refine slim_skip r t want (o.dst.toList ++ z) ds a0 k (by simpa using hok.2) (fun e => ht (by simp [UT.dsts, e])) ?_ ?_ (fun y hy => hd y (by simp [UT.dsts, hy])) (h.put o.dst undef fun y hy => hd y (by simp [UT.dsts, hy])) ?_
    · rw [orG_dst, slotIs_put_ne _ hdst]; exact hs
    · intro y hy
      rw [orG_dst]
      refine slotIs_undef _ ?_
      rcases List.mem_append.1 hy with hy | hy
      · exact .inl (by simpa using hy)
      · exact .inr (hz y hy)
    · intro a' h1 h2
      refine hk a' h1 fun y hy => h2 y ?_
      simp only [UT.dsts, List.mem_append] at hy ⊢
      rcases hy with (hy | hy) | hy
      · exact .inr (.inl hy)
      · exact .inl hy
      · exact .inr (.inr hy)
  | .unit t' want' b c ty d last r, t, want, z, ds, a0, k, a, w, hok, ht, hs, hz, hd, h, hk => by
    simp only [UT.ok, Bool.and_eq_true, bne_iff_ne, ne_eq, Bool.not_eq_true', List.contains_eq_mem, decide_eq_false_iff_not, decide_eq_true_eq] at hok
    obtain ⟨⟨⟨⟨ho1, ho2⟩, ho3⟩, ho4⟩, ho5⟩ := hok
    have hn : slotIs a t' = none := hz t' ho4
    simp only [UT.flat]
    refine slim_skip b t' want' [] (b.dsts) a _ ho3 ho1 (by rw [hn]; simp) (fun y hy => by cases hy) (fun _ hy => hy) (AlikeBut.refl _ _) ?_
    intro a1 h1 h1z
    have hst : ∀ y, y ∉ b.dsts → slotIs a1 y = slotIs a y := fun y hy => by unfold slotIs; rw [h1.2.2 y hy]
    have htb : t ∉ b.dsts := fun e => ht (by simp [UT.dsts, e])
    have htd : (some d : Option Tmp) ≠ some t := fun e => ht (by cases e; simp [UT.dsts])
    have hw : (pickOp t' want' ty d last (some (some t, want))).wanted a1 = false := by
      rw [wanted_some (t := t) (want := want) rfl, hst t htb]
      simpa using hs
    simp only [wpSlimT, hw, Bool.false_eq_true, if_false]
    have ha1 : AlikeBut ds a0 a1 := ⟨h1.1.trans h.1, h1.2.1.trans h.2.1, fun i hi => (h1.2.2 i (fun e => hi (hd i (by simp [UT.dsts, e])))).trans (h.2.2 i hi)⟩
    refine slim_skip r t want (d :: (b.dsts ++ z)) ds a0 k (by simpa using ho5) (fun e => ht (by simp [UT.dsts, e])) ?_ ?_ (fun y hy => hd y (by simp [UT.dsts, hy])) (ha1.put (some d) undef fun y hy => hd y (by cases hy; simp [UT.dsts])) ?_
    · show slotIs (a1.put (some d) undef) t ≠ some want
      rw [slotIs_put_ne _ htd, hst t htb]; exact hs
    · intro y hy
      show slotIs (a1.put (some d) undef) y = none
      refine slotIs_undef _ ?_
      simp only [List.mem_cons, List.mem_append] at hy
      rcases hy with rfl | hy | hy
      · exact .inl rfl
      · exact .inr (h1z y (.inl hy))
      · by_cases hb : y ∈ b.dsts
        · exact .inr (h1z y (.inl hb))
        · exact .inr ((hst y hb).trans (hz y hy))
    · intro a' h2 h3
      refine hk a' h2 fun y hy => h3 y ?_
      simp only [UT.dsts, List.mem_append, List.mem_cons] at hy ⊢
      rcases hy with (hy | rfl | hy) | hy
      · exact .inr (.inr (.inl hy))
      · exact .inr (.inl rfl)
      · exact .inl hy
      · exact .inr (.inr (.inr hy))

theorem UT.ok_none : ∀ (u : UT) {zs : Option (List Tmp)}, u.ok zs = true → u.ok none = true
  | .done, _, _ => rfl
  | .step c o r, zs, h => by
    simp only [UT.ok, Bool.and_eq_true] at h ⊢
    refine ⟨?_, by simpa using UT.ok_none r h.2⟩
    cases o.guard with
    | none => rfl
    | some x => obtain ⟨y, b⟩ := x; cases y <;> rfl
  | .unit t want b c ty d last r, zs, h => by
    simp only [UT.ok, Bool.and_eq_true] at h ⊢
    exact ⟨⟨⟨h.1.1.1, h.1.1.2⟩, trivial⟩, by simpa using UT.ok_none r h.2⟩

/-- The guard round a run holds. -/
def Holds (g : Option (Tmp × Bool)) (a : Act) (ds : List Tmp) : Prop := match g with | none => True | some (t, want) => slotIs a t = some want ∧ t ∉ ds
def gOf (g : Option (Tmp × Bool)) : Option (Option Tmp × Bool) := g.map fun x => (some x.1, x.2)

theorem Holds.wanted {g : Option (Tmp × Bool)} {a : Act} {ds : List Tmp} (h : Holds g a ds) (o : SOp) : (orG o (gOf g)).wanted a = o.wanted a := by
  cases hg : o.guard with
  | some x => rw [orG_some hg]
  | none =>
    have h1 : o.wanted a = true := by unfold SOp.wanted; rw [hg]
    rw [h1]
    cases g with
    | none => rw [show gOf none = none from rfl, orG_none]; exact h1
    | some x =>
      obtain ⟨t, want⟩ := x
      show (orG o (some (some t, want))).wanted a = true
      rw [orG_wanted hg]
      have := h.1
      unfold slotIs at this
      rw [this]
      simp
theorem Holds.put {g : Option (Tmp × Bool)} {a : Act} {ds : List Tmp} (h : Holds g a ds) {d : Option Tmp} (hd : ∀ t, d = some t → t ∈ ds) (v : Value) : Holds g (a.put d v) ds := by
  cases g with
  | none => trivial
  | some x =>
    obtain ⟨t, want⟩ := x
    refine ⟨?_, h.2⟩
    rw [slotIs_put_ne _ (fun e => h.2 (hd t e))]
    exact h.1
theorem Holds.less {g : Option (Tmp × Bool)} {a : Act} {ds ds' : List Tmp} (h : Holds g a ds) (hd : ∀ t, t ∈ ds' → t ∈ ds) : Holds g a ds' := by
  cases g with
  | none => trivial
  | some x => exact ⟨h.1, fun e => h.2 (hd _ e)⟩
theorem Holds.alike {g : Option (Tmp × Bool)} {a a' : Act} {ds ds' : List Tmp} (h : Holds g a ds) (hd : ∀ t, t ∈ ds' → t ∈ ds) (ha : AlikeBut ds' a a') : Holds g a' ds := by
  cases g with
  | none => trivial
  | some x =>
    obtain ⟨t, want⟩ := x
    refine ⟨?_, h.2⟩
    have : slotIs a' t = slotIs a t := by unfold slotIs; rw [ha.2.2 t (fun e => h.2 (hd t e))]
    rw [this]; exact h.1

theorem run_pick (a : Act) (W : World) (t : Tmp) (want : Bool) (ty : TypeId) (d last : Tmp) (g) (cv x : Bool) (h1 : a.tmps[t]? = some (.bool cv)) (h2 : cv = want → a.tmps[last]? = some (.bool x)) :
    (execOp a.eval (pickOp t want ty d last g).oper).run P W = .ok (.value (.bool (bif want then cv && x else cv || x))) W := by
  have e1 : a.eval (.tmp t) = .bool cv := by unfold Act.eval; simp [Array.getD_eq_getD_getElem?, h1]
  have e2 : cv = want → a.eval (.tmp last) = .bool x := fun h => by unfold Act.eval; simp [Array.getD_eq_getD_getElem?, h2 h]
  have e3 : ∀ b : Bool, a.eval (.const (.bool b)) = .bool b := fun b => rfl
  unfold pickOp SOp.oper
  simp only [execOp, e1, asBool]
  cases want <;> cases cv <;> simp_all [bind, pure, Sem.bind]

theorem slim_exec {Q : Act → World → Prop} : ∀ (u : UT) (g : Option (Tmp × Bool)) (k : STr) {Q' : Act → World → Prop} {a : Act} {w : World}, u.ok none = true → Holds g a u.dsts → Cls w0 keep w → wpUT P w0 keep u Q' a w →
    (∀ a' w', Cls w0 keep w' → Q' a' w' → wpSlimT P w0 keep Q k a' w') → wpSlimT P w0 keep Q (u.flat (gOf g) k) a w
  | .done, _, _, _, _, _, _, _, hS, h, hk => hk _ _ hS h
  | .step c o r, g, k, Q', a, w, hok, hg, hS, h, hk => by
    simp only [UT.ok, Bool.and_eq_true] at hok
    have hok' : r.ok none = true := by simpa using hok.2
    have hput : ∀ v, Holds g (a.put o.dst v) r.dsts := fun v => (hg.put (d := o.dst) (fun t ht => by simp [UT.dsts, ht]) v).less (fun t ht => by simp [UT.dsts, ht])
    simp only [UT.flat, wpSlimT, hg.wanted, orG_dst, orG_oper]
    simp only [wpUT] at h
    split
    · rename_i hw
      simp only [hw, if_true] at h
      split
      · rename_i hc
        simp only [hc, if_true] at h
        exact chainUpon_mono (fun v w' hh => ⟨hh.1, slim_exec r g k hok' (hput v) hh.1 hh.2 hk⟩) h
      · rename_i hc
        simp only [hc] at h
        obtain ⟨v, h1, h2⟩ := h
        exact ⟨v, h1, slim_exec r g k hok' (hput v) hS h2 hk⟩
    · rename_i hw
      simp only [hw] at h
      exact slim_exec r g k hok' (hput _) hS h hk
  | .unit t' want' b c ty d last r, g, k, Q', a, w, hok, hg, hS, ⟨cv, x, R, h1, hR, h2, h3⟩, hk => by
    simp only [UT.ok, Bool.and_eq_true, bne_iff_ne, ne_eq, Bool.not_eq_true', List.contains_eq_mem, decide_eq_false_iff_not] at hok
    obtain ⟨⟨⟨⟨ho1, ho2⟩, ho3⟩, _⟩, ho5⟩ := hok
    have ho5' : r.ok none = true := by simpa using ho5
    -- behind the run: the 'pick', and what follows
    have hrest : ∀ a1 w1, R w1 → Cls w0 keep w1 → AlikeBut b.dsts a a1 → (cv = want' → a1.tmps[last]? = some (.bool x)) → wpSlimT P w0 keep Q (.step c (pickOp t' want' ty d last (gOf g)) (r.flat (gOf g) k)) a1 w1 := by
      intro a1 w1 hw1 hS1 hal hl
      have ht1 : a1.tmps[t']? = some (.bool cv) := by rw [hal.2.2 t' ho1]; exact h1
      have hg1 : Holds g a1 (UT.unit t' want' b c ty d last r).dsts := hg.alike (fun t ht => by simp [UT.dsts, ht]) hal
      have hw : (pickOp t' want' ty d last (gOf g)).wanted a1 = true := by
        have := hg1.wanted (pickOp t' want' ty d last none)
        rw [show orG (pickOp t' want' ty d last none) (gOf g) = pickOp t' want' ty d last (gOf g) from by
          unfold orG pickOp; cases g <;> rfl] at this
        rw [this]
        rfl
      have hrun := fun W => run_pick (P := P) a1 W t' want' ty d last (gOf g) cv x ht1 hl
      have hnext : wpSlimT P w0 keep Q (r.flat (gOf g) k) (a1.put (some d) (.bool (bif want' then cv && x else cv || x))) w1 := by
        have h4 := h3 (fun i => a1.tmps.getD i undef) w1 hw1
        rw [← hal.junk_eq] at h4
        exact slim_exec r g k ho5' ((hg1.put (d := some d) (fun t ht => by cases ht; simp [UT.dsts]) _).less (fun t ht => by simp [UT.dsts, ht])) hS1 h4 hk
      simp only [wpSlimT, hw, if_true]
      split
      · unfold Chains
        rw [hrun w1]
        exact ⟨hS1, hnext⟩
      · refine ⟨_, fun W => ?_, hnext⟩
        rw [hrun]
        exact ⟨rfl, rfl⟩
    simp only [UT.flat]
    by_cases hcv : cv = want'
    · have h5 := wpUT_alike b b.dsts a (fun _ h => h) (AlikeBut.refl _ _) (h2 hcv)
      refine slim_exec b (some (t', want')) _ (UT.ok_none b ho3) ⟨by rw [slotIs_of h1, hcv], ho1⟩ hS h5 ?_
      rintro a' w' hc ⟨⟨h6, h8⟩, h7⟩
      exact hrest a' w' h8 hc h7 fun _ => h6
    · refine slim_skip b t' want' [] b.dsts a _ ho3 ho1 (by rw [slotIs_of h1]; simpa using hcv) (fun y hy => by cases hy) (fun _ hy => hy) (AlikeBut.refl _ _) ?_
      intro a1 h6 _
      exact hrest a1 w hR hS h6 fun h => absurd h hcv

/-- A run by its operations' numbers. -/
inductive UTr where
  | done
  | step (i : Nat) (r : UTr)
  | unit (j : Nat) (want : Bool) (b : UTr) (p : Nat) (last : Nat) (r : UTr)

def dstOf (ops : Array Oper) (i : Nat) : Tmp := ((ops[i]?).bind (·.dst)).getD 0
def bare (g : Option (Nat × Bool)) (o : Oper) : Oper := if o.guard.isSome && o.guard.map (·.1) == g.map (·.1) then { o with guard := none } else o
def mkUT (ops : Array Oper) (ch : Nat → Bool) (g : Option (Nat × Bool)) : UTr → UT
  | .done => .done
  | .step i r =>
    match ops[i]? with
    | some o => .step (ch i) (Oper.slim ops (bare g o)) (mkUT ops ch g r)
    | none => mkUT ops ch g r
  | .unit j want b p last r => .unit (dstOf ops j) want (mkUT ops ch (some (j, want)) b) (ch p) (((ops[p]?).map (·.type)).getD 0) (dstOf ops p) (dstOf ops last) (mkUT ops ch g r)

/-- One operation behind the other, whatever it does. -/
def lin (ops : Array Oper) : Nat → Nat → STr
  | _, 0 => .done
  | k, n + 1 =>
    match ops[k]? with
    | some o => .step true (Oper.slim ops o) (lin ops (k + 1) n)
    | none => lin ops (k + 1) n

theorem wpOps_of_slim {ops : Array Oper} {Q : Exit → Act → World → Prop} : ∀ (n k : Nat) (a : Act) (w : World), wpSlimT P w0 keep (fun a w => Q .normal a w) (lin ops k n) a w → wpOps P ops Q (List.range' k n) a w
  | 0, _, _, _, h => h
  | n + 1, k, a, w, h => by
    rw [List.range'_succ]
    unfold lin at h
    unfold wpOps
    cases ho : ops[k]? with
    | none => simp only [ho] at h ⊢; exact wpOps_of_slim n (k + 1) a w h
    | some o =>
      simp only [ho] at h ⊢
      simp only [wpSlimT, wanted_slim] at h
      by_cases hw : Region.wanted o (yielded ops a.tmps) = true
      · simp only [hw, if_true] at h ⊢
        unfold Chains at h
        rw [execOp_slim] at h
        exact .inl (Chains.wp (K := fun v w' => Cls w0 keep w' ∧ wpSlimT P w0 keep (fun a w => Q .normal a w) (lin ops (k + 1) n) (a.put o.dst v) w') h fun v w' hk => wpOps_of_slim n (k + 1) _ _ hk.2)
      · simp only [hw] at h ⊢
        exact wpOps_of_slim n (k + 1) _ _ h

theorem cls_none (w0 w : World) : Cls w0 (fun _ => False) w := fun _ h => h.elim

/-- A region in the text's order. -/
theorem wp_region_units {id : Nat} {Q : Exit → Act → World → Prop} {a : Act} {w : World} {l : List Oper} (u : UTr)
    (hE : (mkUT l.toArray (fun _ => true) none u).flat none .done = lin l.toArray 0 l.length) (hok : (mkUT l.toArray (fun _ => true) none u).ok none = true)
    (h : wpUT P w (fun _ => False) (mkUT l.toArray (fun _ => true) none u) (fun a' w' => Q .normal a' w') a w) : (Code.region id l.toArray false).wp P Q a w := by
  refine wp_region ?_
  have h1 := slim_exec (Q := fun a' w' => Q .normal a' w') _ none .done hok trivial (cls_none w w) h (fun a' w' _ hh => hh)
  rw [show gOf none = none from rfl, hE] at h1
  have h2 := wpOps_of_slim l.length 0 a w h1
  rw [← List.range_eq_range'] at h2
  exact h2

/-- A region that draws its order. -/
theorem wp_region_units_draw {id : Nat} {Q : Exit → Act → World → Prop} {a : Act} {w : World} {l : List Oper} (keep : Nat → Prop) (cs : List Nat) (t : Tr) (u : UTr) (hm : P.follows .mixedOrders = true) (hB : treeOk l cs t = true)
    (hE : (mkUT l.toArray (fun i => cs.contains i) none u).flat none .done = slimTr l.toArray cs t) (hok : (mkUT l.toArray (fun i => cs.contains i) none u).ok none = true)
    (h : wpUT P w.drew keep (mkUT l.toArray (fun i => cs.contains i) none u) (fun a' w' => Q .normal a' w') a w.drew) : (Code.region id l.toArray true).wp P Q a w := by
  refine wp_region_tree keep cs t hm hB ?_
  have h1 := slim_exec (Q := fun a' w' => Q .normal a' w') _ none .done hok trivial (Cls.refl _ _) h (fun a' w' _ hh => hh)
  rwa [show gOf none = none from rfl, hE] at h1

theorem wpUT_done {Q : Act → World → Prop} {a : Act} {w : World} (h : Q a w) : wpUT P w0 keep .done Q a w := h
theorem wpUT_step {Q : Act → World → Prop} {c : Bool} {a : Act} {w : World} {o : SOp} {r : UT}
    (h : ∀ K : Act → World → Prop, (∀ a w, wpUT P w0 keep r Q a w → K a w) →
      if o.wanted a then
        (if c then Chains P o.oper a w (fun v w' => Cls w0 keep w' ∧ K (a.put o.dst v) w')
         else ∃ v, (∀ W, yieldsUpon (graft w0 keep W) v ((execOp a.eval o.oper).run P (graft w0 keep W))) ∧ K (a.put o.dst v) w)
      else K (a.put o.dst undef) w) : wpUT P w0 keep (.step c o r) Q a w :=
  h _ (fun _ _ h => h)
theorem wpUT_unit {Q : Act → World → Prop} {t : Tmp} {want : Bool} {b : UT} {c : Bool} {ty : TypeId} {d last : Tmp} {r : UT} {a : Act} {w : World} {cv x : Bool} (h1 : a.tmps[t]? = some (.bool cv))
    (h2 : cv = want → wpUT P w0 keep b (fun a' w' => a'.tmps[last]? = some (.bool x) ∧ w' = w) a w)
    (h3 : ∀ js, wpUT P w0 keep r Q ((junk b.dsts js a).put (some d) (.bool (bif want then cv && x else cv || x))) w) : wpUT P w0 keep (.unit t want b c ty d last r) Q a w :=
  ⟨cv, x, fun w' => w' = w, h1, rfl, h2, fun js _ e => by subst e; exact h3 js⟩
/-- The run makes memory: what lay there lies there still. -/
theorem wpUT_unit_below {Q : Act → World → Prop} {t : Tmp} {want : Bool} {b : UT} {c : Bool} {ty : TypeId} {d last : Tmp} {r : UT} {a : Act} {w : World} {cv x : Bool} (h1 : a.tmps[t]? = some (.bool cv))
    (h2 : cv = want → wpUT P w0 keep b (fun a' w' => a'.tmps[last]? = some (.bool x) ∧ RowKit.Below w.heap.size w w') a w)
    (h3 : ∀ js w1, RowKit.Below w.heap.size w w1 → wpUT P w0 keep r Q ((junk b.dsts js a).put (some d) (.bool (bif want then cv && x else cv || x))) w1) : wpUT P w0 keep (.unit t want b c ty d last r) Q a w :=
  ⟨cv, x, fun w' => RowKit.Below w.heap.size w w', h1, RowKit.Below.refl _ _, h2, h3⟩
end
end Go.Proofs.Ytjlehnmcfimnfaa
