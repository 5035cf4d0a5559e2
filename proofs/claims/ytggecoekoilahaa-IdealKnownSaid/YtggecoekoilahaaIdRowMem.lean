/-
  IdealRow's memory: the tables, the two rows, the values; the row of acts that came in.
-/
import Derived.Test.YtggecoekoilahaaIdLOpen
import Derived.Test.YtggecoekoilahaaIdRowPlain
import Derived.Test.YtggecoekoilahaaSRd
namespace Go.Proofs.Ytggecoekoilahaa
open Go.RowKit Go.ChangeShapes Go.WideShapes Go.ChangeAt Go.Deep
set_option linter.unusedVariables false

/-- An act, as it came in. -/
structure AB where
  kind : Nat
  key : Nat
  val : Nat
  told : Bool
instance : Inhabited AB := ⟨⟨0, 0, 0, false⟩⟩
def AB.cells (a : AB) : List Value := [.int .u8 (a.kind : Nat), .int .u8 (a.key : Nat), .int .u8 (a.val : Nat), .bool a.told]
theorem AB.cells_length (a : AB) : a.cells.length = 4 := rfl
def AB.ok (a : AB) : Prop := a.kind < 256 ∧ a.key < 256 ∧ a.val < 256
def AB.act (a : AB) : AC := ⟨1 + a.kind % 3, a.key % 4, a.val, a.told⟩
abbrev ActRd (w : World) (v : Value) (l : List AB) : Prop := SRd 4 AB.cells w v l

theorem heap_set_ne (W : World) (p : Addr) (x : Value) {k : Nat} (h : k ≠ p.block) : (W.setCell p x).heap[k]? = W.heap[k]? := by
  unfold World.setCell
  simp only [Array.getElem?_modify]
  rw [if_neg (fun e => h e.symm)]
theorem heap_alloc_lt (W : World) (o : Obj) {k : Nat} (h : k < W.heap.size) : (W.alloc o).heap[k]? = W.heap[k]? := by
  show (W.heap.push o)[k]? = _
  rw [Array.getElem?_push, if_neg (by omega)]

/-- A block of one byte. -/
def OneB (w : World) (b x : Nat) : Prop := w.heap[b]? = some (.cells #[.int .u8 (x : Nat)] 5 (0, 0))
/-- A call whose bytes lie in blocks of their own. -/
def OkC (B : Nat) (w : World) (m : CM) : Prop :=
  (∃ b x, m.c.va = some ⟨b, 0, none⟩ ∧ m.c.vl = 1 ∧ m.c.vc = 1 ∧ m.val = [x] ∧ x < 256 ∧ B ≤ b ∧ OneB w b x) ∧
  ((m.c.ga = none ∧ m.c.gl = 0 ∧ m.c.gc = 0 ∧ m.got = []) ∨ ∃ b x, m.c.ga = some ⟨b, 0, none⟩ ∧ m.c.gl = 1 ∧ m.c.gc = 1 ∧ m.got = [x] ∧ x < 256 ∧ B ≤ b ∧ OneB w b x)
theorem OkC.keep {B : Nat} {w w' : World} {m : CM} (h : OkC B w m) (hk : ∀ b x, B ≤ b → OneB w b x → w'.heap[b]? = w.heap[b]?) : OkC B w' m := by
  obtain ⟨⟨b, x, h1, h2, h3, h4, h5, h6, h7⟩, hg⟩ := h
  refine ⟨⟨b, x, h1, h2, h3, h4, h5, h6, (hk b x h6 h7).trans h7⟩, ?_⟩
  rcases hg with hg | ⟨b, x, h1, h2, h3, h4, h5, h6, h7⟩
  · exact .inl hg
  · exact .inr ⟨b, x, h1, h2, h3, h4, h5, h6, (hk b x h6 h7).trans h7⟩
theorem one_rd {w : World} {b x : Nat} (h : OneB w b x) (hx : x < 256) : BytesRd w (.slice (some ⟨b, 0, none⟩) 1 1) [x] := by
  refine ⟨fun y hy => by simp at hy; omega, _, 1, rfl, Nat.le_refl _, fun _ => ⟨b, 0, rfl, lt_of_heap h, fun i hi => ?_⟩⟩
  have : i = 0 := by simp at hi; exact hi
  subst this
  unfold World.cell?
  unfold OneB at h
  simp [h]
theorem OkC.rd {B : Nat} {w : World} {m : CM} (h : OkC B w m) : m.rd w := by
  obtain ⟨⟨b, x, h1, h2, h3, h4, h5, h6, h7⟩, hg⟩ := h
  unfold CM.rd
  constructor
  · rw [h1, h2, h3, h4]
    exact one_rd h7 h5
  · rcases hg with ⟨g1, g2, g3, g4⟩ | ⟨b, x, h1, h2, h3, h4, h5, h6, h7⟩
    · rw [g1, g2, g3, g4]
      exact BytesRd.nil w
    · rw [h1, h2, h3, h4]
      exact one_rd h7 h5
theorem ne_of_types {w : World} {a b : Nat} {x : Nat} {cs : Array Value} {fr : Nat × Nat} (h : OneB w b x) (h2 : w.heap[a]? = some (.cells cs 30 fr)) : b ≠ a := by
  intro e
  subst e
  unfold OneB at h
  rw [h] at h2
  have h3 := Option.some.inj h2
  have h4 : (5 : Nat) = 30 := by injection h3
  exact absurd h4 (by decide)

/-- Two tables of four cells. -/
def TabB (w : World) (b : Nat) (t : Nat → Bool) : Prop := w.heap[b]? = some (.cells #[.bool (t 0), .bool (t 1), .bool (t 2), .bool (t 3)] 4 (0, 0))
def TabN (w : World) (b : Nat) (v : Nat → Nat) : Prop := w.heap[b]? = some (.cells #[.int .u8 (v 0 : Nat), .int .u8 (v 1 : Nat), .int .u8 (v 2 : Nat), .int .u8 (v 3 : Nat)] 5 (0, 0))
theorem TabB.at {w : World} {b : Nat} {t : Nat → Bool} (h : TabB w b t) {k : Nat} (hk : k < 4) : w.cell? ⟨b, k, none⟩ = some (.bool (t k)) ∧ w.frozen? ⟨b, k, none⟩ = false ∧ b < w.heap.size := by
  refine ⟨?_, by unfold World.frozen?; unfold TabB at h; simp [h], lt_of_heap h⟩
  unfold World.cell?
  unfold TabB at h
  match k, hk with
  | 0, _ => simp [h]
  | 1, _ => simp [h]
  | 2, _ => simp [h]
  | 3, _ => simp [h]
theorem TabN.at {w : World} {b : Nat} {v : Nat → Nat} (h : TabN w b v) {k : Nat} (hk : k < 4) : w.cell? ⟨b, k, none⟩ = some (.int .u8 (v k : Nat)) ∧ w.frozen? ⟨b, k, none⟩ = false ∧ b < w.heap.size := by
  refine ⟨?_, by unfold World.frozen?; unfold TabN at h; simp [h], lt_of_heap h⟩
  unfold World.cell?
  unfold TabN at h
  match k, hk with
  | 0, _ => simp [h]
  | 1, _ => simp [h]
  | 2, _ => simp [h]
  | 3, _ => simp [h]
theorem TabB.set {w : World} {b : Nat} {t : Nat → Bool} (h : TabB w b t) {k : Nat} (hk : k < 4) (x : Bool) : TabB (w.setCell ⟨b, k, none⟩ (.bool x)) b (fun j => if j = k then x else t j) := by
  have := heap_set_same h k (.bool x)
  unfold TabB
  rw [this]
  match k, hk with
  | 0, _ => rfl
  | 1, _ => rfl
  | 2, _ => rfl
  | 3, _ => rfl
theorem TabN.set {w : World} {b : Nat} {v : Nat → Nat} (h : TabN w b v) {k : Nat} (hk : k < 4) (x : Nat) : TabN (w.setCell ⟨b, k, none⟩ (.int .u8 (x : Nat))) b (fun j => if j = k then x else v j) := by
  have := heap_set_same h k (.int .u8 (x : Nat))
  unfold TabN
  rw [this]
  match k, hk with
  | 0, _ => rfl
  | 1, _ => rfl
  | 2, _ => rfl
  | 3, _ => rfl

/-- A row stays where its block stays. -/
theorem own_move {w w' : World} {B e size n : Nat} {v : Value} {xs : List Value} (h : w.ownsRow B e size v n xs) (hk : ∀ k, v.ownBlock = some k → w'.heap[k]? = w.heap[k]?) : w'.ownsRow B e size v n xs := by
  refine ⟨h.1, ?_⟩
  rcases h.2 with h2 | ⟨g, cap, cur, rfl, h2, h3, h4⟩
  · exact .inl h2
  · exact .inr ⟨g, cap, cur, rfl, h2, (hk g rfl).trans h3, h4⟩

/-- What stands at a round's head. -/
structure RowSt (w : World) (B : Nat) (V U : Value) (R L : List CM) (t : Nat → Bool) (v : Nat → Nat) (r : Bool) (wr : World) : Prop where
  made1 : MadeC wr (B + 2) V R
  made2 : MadeC wr (B + 2) U L
  apart : Apart V U
  tb : TabB wr B t
  vb : TabN wr (B + 1) v
  play : Play R t v r
  late : LateOf R L
  ok : ∀ m ∈ R, OkC (B + 2) wr m
  bel : Below B w wr
  lt : ∀ k, v k < 256
theorem RowSt.below {w : World} {B : Nat} {V U : Value} {R L : List CM} {t : Nat → Bool} {v : Nat → Nat} {r : Bool} {wr w' : World} (h : RowSt w B V U R L t v r wr) (hb : Below wr.heap.size wr w') : RowSt w B V U R L t v r w' :=
  ⟨own_below h.made1 hb, own_below h.made2 hb, h.apart, keepB hb h.tb, keepB hb h.vb, h.play, h.late, fun m hm => (h.ok m hm).keep fun b x _ h1 => hb.block b (lt_of_heap h1), h.bel.trans (hb.mono (Nat.le_of_lt (lt_of_heap h.tb))), h.lt⟩

/-- A call in the block cb, behind the switch. -/
structure Mid (w : World) (B : Nat) (V U : Value) (R L : List CM) (t : Nat → Bool) (v : Nat → Nat) (cb : Nat) (m : CM) (t' : Nat → Bool) (v' : Nat → Nat) (wx : World) : Prop where
  made1 : MadeC wx (B + 2) V R
  made2 : MadeC wx (B + 2) U L
  tb : TabB wx B t'
  vb : TabN wx (B + 1) v'
  ok : ∀ x ∈ R, OkC (B + 2) wx x
  okm : OkC (B + 2) wx m
  at' : wx.heap[cb]? = some (.cells m.c.cells.toArray 30 (0, 0))
  bel : Below B w wx
  V1 : V.ownBlock ≠ some cb
  U1 : U.ownBlock ≠ some cb
  cb2 : B + 2 ≤ cb

/-- How the switch changes memory: the tables, the call's block, new blocks. -/
theorem mid_of {w : World} {B : Nat} {V U : Value} {R L : List CM} {t : Nat → Bool} {v : Nat → Nat} {r : Bool} {w1 wx : World} {cb : Nat} {m : CM} {t' : Nat → Bool} {v' : Nat → Nat} {cs : Array Value}
    (h : RowSt w B V U R L t v r w1) (hcb : B + 2 ≤ cb) (hV : V.ownBlock ≠ some cb) (hU : U.ownBlock ≠ some cb) (h1 : w1.heap[cb]? = some (.cells cs 30 (0, 0)))
    (hk : ∀ k, B + 2 ≤ k → k < w1.heap.size → k ≠ cb → wx.heap[k]? = w1.heap[k]?) (ht : TabB wx B t') (hv : TabN wx (B + 1) v') (hm : OkC (B + 2) wx m) (hat : wx.heap[cb]? = some (.cells m.c.cells.toArray 30 (0, 0)))
    (hb : Below B w wx) : Mid w B V U R L t v cb m t' v' wx :=
  ⟨own_move h.made1 fun k hk' => hk k (h.made1.lt k hk').1 (h.made1.lt k hk').2 (fun e => hV (e ▸ hk')), own_move h.made2 fun k hk' => hk k (h.made2.lt k hk').1 (h.made2.lt k hk').2 (fun e => hU (e ▸ hk')), ht, hv,
   fun x hx => (h.ok x hx).keep fun b y hb1 h2 => hk b hb1 (lt_of_heap h2) (ne_of_types h2 h1), hm, hat, hb, hV, hU, hcb⟩

theorem Mid.below {w : World} {B : Nat} {V U : Value} {R L : List CM} {t : Nat → Bool} {v : Nat → Nat} {cb : Nat} {m : CM} {t' : Nat → Bool} {v' : Nat → Nat} {wx w' : World} (h : Mid w B V U R L t v cb m t' v' wx) (hb : Below wx.heap.size wx w') : Mid w B V U R L t v cb m t' v' w' :=
  ⟨own_below h.made1 hb, own_below h.made2 hb, keepB hb h.tb, keepB hb h.vb, fun x hx => (h.ok x hx).keep fun b y _ h1 => hb.block b (lt_of_heap h1), h.okm.keep fun b y _ h1 => hb.block b (lt_of_heap h1), keepB hb h.at', h.bel.trans (hb.mono (Nat.le_of_lt (lt_of_heap h.tb))), h.V1, h.U1, h.cb2⟩
theorem OneB.set {w : World} {b y : Nat} (h : OneB w b y) (p : Addr) (x : Value) (hp : b ≠ p.block) : OneB (w.setCell p x) b y := (heap_set_ne w p x hp).trans h
theorem OneB.alloc {w : World} {b y : Nat} (h : OneB w b y) (o : Obj) : OneB (w.alloc o) b y := keepA h o
theorem OneB.drew {w : World} {b y : Nat} (h : OneB w b y) : OneB w.drew b y := h
theorem OneB.new (w : World) (y : Nat) : OneB (w.alloc (.cells #[.int .u8 (y : Nat)] 5)) w.heap.size y := heap_newA w _

/-- Where memory stands within the switch. -/
structure Loc (w : World) (B : Nat) (w1 : World) (cb : Nat) (t' : Nat → Bool) (v' : Nat → Nat) (cs : Array Value) (wx : World) : Prop where
  tb : TabB wx B t'
  vb : TabN wx (B + 1) v'
  at' : wx.heap[cb]? = some (.cells cs 30 (0, 0))
  keep : ∀ k, B + 2 ≤ k → k < w1.heap.size → k ≠ cb → wx.heap[k]? = w1.heap[k]?
  bel : Below B w wx
  size : w1.heap.size ≤ wx.heap.size
  cb2 : B + 2 ≤ cb
section
variable {w w1 wx : World} {B cb : Nat} {t' : Nat → Bool} {v' : Nat → Nat} {cs : Array Value}
theorem Loc.alloc (h : Loc w B w1 cb t' v' cs wx) (o : Obj) : Loc w B w1 cb t' v' cs (wx.alloc o) :=
  ⟨keepA h.tb o, keepA h.vb o, keepA h.at' o, fun k h1 h2 h3 => (heap_alloc_lt wx o (Nat.lt_of_lt_of_le h2 h.size)).trans (h.keep k h1 h2 h3), h.bel.alloc (Nat.le_of_lt (lt_of_heap h.tb)) o, Nat.le_trans h.size (by simp), h.cb2⟩
theorem Loc.drew (h : Loc w B w1 cb t' v' cs wx) : Loc w B w1 cb t' v' cs wx.drew :=
  ⟨h.tb, h.vb, h.at', h.keep, h.bel.drew, h.size, h.cb2⟩
theorem Loc.drewN (h : Loc w B w1 cb t' v' cs wx) (n : Nat) : Loc w B w1 cb t' v' cs (wx.drewN n) :=
  ⟨h.tb, h.vb, h.at', h.keep, ⟨h.bel.os, h.bel.tape, h.bel.output, h.bel.size, h.bel.block⟩, h.size, h.cb2⟩
theorem Loc.set (h : Loc w B w1 cb t' v' cs wx) (j : Nat) (x : Value) : Loc w B w1 cb t' v' (cs.setIfInBounds j x) (wx.setCell ⟨cb, j, none⟩ x) :=
  have h2 := h.cb2
  ⟨(heap_set_ne wx _ x (show B ≠ cb by omega)).trans h.tb, (heap_set_ne wx _ x (show B + 1 ≠ cb by omega)).trans h.vb, heap_set_same h.at' j x, fun k h1 h2 h3 => (heap_set_ne wx _ x h3).trans (h.keep k h1 h2 h3), h.bel.setCell (show B ≤ cb by omega) x, by simpa using h.size, h.cb2⟩
theorem Loc.setT (h : Loc w B w1 cb t' v' cs wx) {k : Nat} (hk : k < 4) (x : Bool) : Loc w B w1 cb (fun j => if j = k then x else t' j) v' cs (wx.setCell ⟨B, k, none⟩ (.bool x)) :=
  have h2 := h.cb2
  ⟨h.tb.set hk x, (heap_set_ne wx _ _ (show B + 1 ≠ B by omega)).trans h.vb, (heap_set_ne wx _ _ (show cb ≠ B by omega)).trans h.at', fun k h1 h2 h3 => (heap_set_ne wx _ _ (show k ≠ B by omega)).trans (h.keep k h1 h2 h3), h.bel.setCell (show B ≤ B by omega) _, by simpa using h.size, h.cb2⟩
theorem Loc.setV (h : Loc w B w1 cb t' v' cs wx) {k : Nat} (hk : k < 4) (x : Nat) : Loc w B w1 cb t' (fun j => if j = k then x else v' j) cs (wx.setCell ⟨B + 1, k, none⟩ (.int .u8 (x : Nat))) :=
  have h2 := h.cb2
  ⟨(heap_set_ne wx _ _ (show B ≠ B + 1 by omega)).trans h.tb, h.vb.set hk x, (heap_set_ne wx _ _ (show cb ≠ B + 1 by omega)).trans h.at', fun k h1 h2 h3 => (heap_set_ne wx _ _ (show k ≠ B + 1 by omega)).trans (h.keep k h1 h2 h3), h.bel.setCell (show B ≤ B + 1 by omega) _, by simpa using h.size, h.cb2⟩
end

/-- The call behind the switch. -/
def C2 (w : World) (B : Nat) (V U : Value) (R L : List CM) (t : Nat → Bool) (v : Nat → Nat) (r : Bool) (a : AC) (cb : Nat) (s : Value) (wx : World) : Prop :=
  ∃ m, s = .bool (r && !a.bad t v) ∧ a.is R.length t v m ∧ Mid w B V U R L t v cb m (a.nextT t) (a.nextV v) wx
theorem c2_mk {w w1 wx : World} {B cb : Nat} {V U : Value} {R L : List CM} {t t' : Nat → Bool} {v v' : Nat → Nat} {r rr : Bool} {a : AC} {cs cs1 : Array Value} (m : CM)
    (h : RowSt w B V U R L t v r w1) (hl : Loc w B w1 cb t' v' cs wx) (hV : V.ownBlock ≠ some cb) (hU : U.ownBlock ≠ some cb) (h1 : w1.heap[cb]? = some (.cells cs1 30 (0, 0)))
    (hm : OkC (B + 2) wx m) (hcs : cs = m.c.cells.toArray) (ht : t' = a.nextT t) (hv : v' = a.nextV v) (hr : rr = (r && !a.bad t v)) (ha : a.is R.length t v m) : C2 w B V U R L t v r a cb (.bool rr) wx := by
  subst hcs ht hv hr
  exact ⟨m, rfl, ha, mid_of h hl.cb2 hV hU h1 hl.keep hl.tb hl.vb hm hl.at' hl.bel⟩
theorem OneB.drewN {w : World} {b y : Nat} (h : OneB w b y) (n : Nat) : OneB (w.drewN n) b y := h

/-- Behind the first append: the call's block, the second row. -/
structure Mid2 (w : World) (B : Nat) (V U : Value) (R L : List CM) (t : Nat → Bool) (v : Nat → Nat) (cb : Nat) (c : RC) (wx : World) : Prop where
  made1 : MadeC wx (B + 2) V R
  made2 : MadeC wx (B + 2) U L
  apart : Apart V U
  tb : TabB wx B t
  vb : TabN wx (B + 1) v
  ok : ∀ x ∈ R, OkC (B + 2) wx x
  at' : wx.heap[cb]? = some (.cells c.cells.toArray 30 (0, 0))
  bel : Below B w wx
  V1 : V.ownBlock ≠ some cb
  U1 : U.ownBlock ≠ some cb
  cb2 : B + 2 ≤ cb
section
variable {w wx w1 : World} {B cb : Nat} {V U v1 : Value} {R L : List CM} {t t' : Nat → Bool} {v v' : Nat → Nat} {m : CM} {c : RC}
theorem own_type {w : World} {B n g : Nat} {v : Value} {xs : List Value} (h : w.ownsRow B 30 8 v n xs) (hg : v.ownBlock = some g) : ∃ cs, w.heap[g]? = some (.cells cs 30 (0, 0)) := by
  rcases h.2 with ⟨rfl, _⟩ | ⟨g', cap, cur, rfl, h2, h3, h4⟩
  · cases hg
  · cases hg; exact ⟨_, h3⟩
theorem grown_block {w w' : World} {v : Value} (h : w.grownBy w' v.ownBlock) {k : Nat} (hk : k < w.heap.size) (hv : v.ownBlock ≠ some k) : w'.heap[k]? = w.heap[k]? := h.block k hk (fun e => hv e.symm)
theorem mid_append (h : Mid w B V U R L t v cb m t' v' wx) (ha : Apart V U) (o : Obj) (hown : MadeC w1 (B + 2) v1 (R ++ [m])) (hg : (wx.alloc o).grownBy w1 V.ownBlock) (hat : v1.ownBlock = V.ownBlock ∨ v1.ownBlock = some (wx.alloc o).heap.size) :
    Mid2 w B v1 U (R ++ [m]) L t' v' cb m.c w1 := by
  have hm := h.below ((Below.refl wx.heap.size wx).alloc (Nat.le_refl _) o)
  have h1 := h.made1
  have hB : ∀ k, V.ownBlock = some k → B + 2 ≤ k := fun k hk => (h1.lt k hk).1
  have hcb := lt_of_heap hm.at'
  have hnx := apart_next hm.made2 ha hg hat
  have hone : ∀ (b x : Nat), B + 2 ≤ b → OneB (wx.alloc o) b x → w1.heap[b]? = (wx.alloc o).heap[b]? := fun b x _ hx =>
    grown_block hg (lt_of_heap hx) (fun e => by
      obtain ⟨cs, hcs⟩ := own_type hm.made1 e
      exact ne_of_types hx hcs rfl)
  refine ⟨hown, hnx.1, hnx.2, (grown_block hg (lt_of_heap hm.tb) (fun e => by have := hB _ e; omega)).trans hm.tb, (grown_block hg (lt_of_heap hm.vb) (fun e => by have := hB _ e; omega)).trans hm.vb, ?_, (grown_block hg hcb hm.V1).trans hm.at', hm.bel.grown hg (by have := lt_of_heap hm.tb; omega) (fun k hk => by have := hB k hk; omega), ?_, hm.U1, hm.cb2⟩
  · intro x hx
    rcases List.mem_append.1 hx with hx | hx
    · exact (hm.ok x hx).keep hone
    · obtain rfl : x = m := by simpa using hx
      exact hm.okm.keep hone
  · rcases hat with e | e
    · rw [e]; exact hm.V1
    · rw [e]
      intro e2
      cases e2
      omega
theorem Mid2.set (h : Mid2 w B V U R L t v cb c wx) (x : Int) (c' : RC) (hc : c' = c.tillT x) : Mid2 w B V U R L t v cb c' (wx.setCell ⟨cb, 5, none⟩ (.int .i64 x)) := by
  have h2 := h.cb2
  subst hc
  have hone : ∀ (b y : Nat), B + 2 ≤ b → OneB wx b y → (wx.setCell ⟨cb, 5, none⟩ (.int .i64 x)).heap[b]? = wx.heap[b]? := fun b y _ hb => heap_set_ne wx _ _ (ne_of_types hb h.at')
  exact ⟨own_move h.made1 fun k hk => heap_set_ne wx _ _ (show k ≠ cb from fun e => h.V1 (e ▸ hk)), own_move h.made2 fun k hk => heap_set_ne wx _ _ (show k ≠ cb from fun e => h.U1 (e ▸ hk)), h.apart,
    (heap_set_ne wx _ _ (show B ≠ cb by omega)).trans h.tb, (heap_set_ne wx _ _ (show B + 1 ≠ cb by omega)).trans h.vb, fun y hy => (h.ok y hy).keep hone, heap_set_same h.at' 5 _, h.bel.setCell (show B ≤ cb by omega) _, h.V1, h.U1, h.cb2⟩
theorem mid2_append {r : Bool} (h : Mid2 w B V U R L t v cb c wx) (o : Obj) (y : CM) (hown : MadeC w1 (B + 2) v1 (L ++ [y])) (hg : (wx.alloc o).grownBy w1 U.ownBlock) (hat : v1.ownBlock = U.ownBlock ∨ v1.ownBlock = some (wx.alloc o).heap.size)
    (hp : Play R t v r) (hl : LateOf R (L ++ [y])) (hlt : ∀ k, v k < 256) : RowSt w B V v1 R (L ++ [y]) t v r w1 := by
  have hbb := (Below.refl wx.heap.size wx).alloc (Nat.le_refl _) o
  have hB : ∀ k, U.ownBlock = some k → B + 2 ≤ k := fun k hk => (h.made2.lt k hk).1
  have m1 := own_below h.made1 hbb
  have m2 := own_below h.made2 hbb
  have hnx := apart_next m1 h.apart.symm hg hat
  have htb := keepA h.tb o
  have hvb := keepA h.vb o
  have hone : ∀ (b x : Nat), B + 2 ≤ b → OneB (wx.alloc o) b x → w1.heap[b]? = (wx.alloc o).heap[b]? := fun b x _ hx =>
    grown_block hg (lt_of_heap hx) (fun e => by
      obtain ⟨cs, hcs⟩ := own_type m2 e
      exact ne_of_types hx hcs rfl)
  exact ⟨hnx.1, hown, hnx.2.symm, (grown_block hg (lt_of_heap htb) (fun e => by have := hB _ e; omega)).trans htb, (grown_block hg (lt_of_heap hvb) (fun e => by have := hB _ e; omega)).trans hvb, hp, hl,
    fun x hx => ((h.ok x hx).keep (fun b y _ h1 => hbb.block b (lt_of_heap h1))).keep hone, (h.bel.alloc (by have := lt_of_heap h.tb; omega) o).grown hg (by have := lt_of_heap htb; simp at this ⊢; omega) (fun k hk => by have := hB k hk; omega), hlt⟩
end
/-- What stands ahead of the switch. -/
structure Leaf (w : World) (B : Nat) (V U : Value) (R L : List CM) (t : Nat → Bool) (v : Nat → Nat) (r : Bool) (w1 : World) (cb xb : Nat) (kd : Int) (k val : Nat) : Prop where
  st : RowSt w B V U R L t v r w1
  V1 : V.ownBlock ≠ some cb
  U1 : U.ownBlock ≠ some cb
  at' : w1.heap[cb]? = some (.cells #[.int .i64 R.length, .int .u8 kd, .string (nameK k), .slice (some ⟨xb, 0, none⟩) 1 1, .int .i64 (10 * (R.length : Int)), .int .i64 (10 * (R.length : Int) + 5), .int .i64 0, .slice none 0 0] 30 (0, 0))
  one : OneB w1 xb val
  cb2 : B + 2 ≤ cb
  xb2 : B + 2 ≤ xb
  ne : cb ≠ xb
  k4 : k < 4
  val2 : val < 256
section
variable {w w1 : World} {B cb xb k val : Nat} {V U : Value} {R L : List CM} {t : Nat → Bool} {v : Nat → Nat} {r : Bool} {kd : Int}
theorem Leaf.loc (h : Leaf w B V U R L t v r w1 cb xb kd k val) : Loc w B w1 cb t v #[.int .i64 R.length, .int .u8 kd, .string (nameK k), .slice (some ⟨xb, 0, none⟩) 1 1, .int .i64 (10 * (R.length : Int)), .int .i64 (10 * (R.length : Int) + 5), .int .i64 0, .slice none 0 0] w1 := ⟨h.st.tb, h.st.vb, h.at', fun _ _ _ _ => rfl, h.st.bel, Nat.le_refl _, h.cb2⟩
/-- The call, as it is then. -/
def mk1 (i : Nat) (kd : Int) (k xb val : Nat) (co : Int) (ga : Option Nat) (got : List Nat) : CM :=
  ⟨⟨i, kd, nameK k, some ⟨xb, 0, none⟩, 1, 1, 10 * (i : Int), 10 * (i : Int) + 5, co, ga.map fun g => ⟨g, 0, none⟩, ga.toList.length, ga.toList.length⟩, [val], got⟩
theorem Leaf.okm {wx : World} (h : Leaf w B V U R L t v r w1 cb xb kd k val) (i : Nat) (kd' : Int) (co : Int) (hx : OneB wx xb val) : OkC (B + 2) wx (mk1 i kd' k xb val co none []) :=
  ⟨⟨xb, val, rfl, rfl, rfl, rfl, h.val2, h.xb2, hx⟩, .inl ⟨rfl, rfl, rfl, rfl⟩⟩
theorem Leaf.okg {wx : World} (h : Leaf w B V U R L t v r w1 cb xb kd k val) (i : Nat) (kd' : Int) (co : Int) (g y : Nat) (hx : OneB wx xb val) (hy : y < 256) (hg : B + 2 ≤ g) (hgx : OneB wx g y) : OkC (B + 2) wx (mk1 i kd' k xb val co (some g) [y]) :=
  ⟨⟨xb, val, rfl, rfl, rfl, rfl, h.val2, h.xb2, hx⟩, .inr ⟨g, y, rfl, rfl, rfl, rfl, hy, hg, hgx⟩⟩

theorem leaf_put (h : Leaf w B V U R L t v r w1 cb xb (1 + (0 : Nat)) k val) (told : Bool) :
    C2 w B V U R L t v r ⟨1 + 0, k, val, told⟩ cb (.bool r) ((w1.setCell ⟨B, k, none⟩ (.bool true)).setCell ⟨B + 1, k, none⟩ (.int .u8 (val : Nat))) := by
  have hb : B + 2 ≤ xb := h.xb2
  refine c2_mk (mk1 R.length 1 k xb val 0 none []) h.st ((h.loc.setT h.k4 true).setV h.k4 val) h.V1 h.U1 h.at' (h.okm _ _ _ ((h.one.set _ _ (show xb ≠ B by omega)).set _ _ (show xb ≠ B + 1 by omega))) rfl ?_ ?_ ?_ ?_
  · funext j; simp [AC.nextT]
  · funext j; simp [AC.nextV]
  · simp [AC.bad]
  · exact ⟨by simp, by simp, h.k4, rfl, rfl, rfl, rfl, rfl, rfl, rfl, rfl⟩
theorem leaf_del (h : Leaf w B V U R L t v r w1 cb xb (1 + (2 : Nat)) k val) (told : Bool) :
    C2 w B V U R L t v r ⟨1 + 2, k, val, told⟩ cb (.bool r) (w1.setCell ⟨B, k, none⟩ (.bool false)) := by
  have hb : B + 2 ≤ xb := h.xb2
  refine c2_mk (mk1 R.length 3 k xb val 0 none []) h.st (h.loc.setT h.k4 false) h.V1 h.U1 h.at' (h.okm _ _ _ (h.one.set _ _ (show xb ≠ B by omega))) rfl ?_ ?_ ?_ ?_
  · funext j; simp [AC.nextT]
  · funext j; simp [AC.nextV]
  · simp [AC.bad]
  · exact ⟨by simp, by simp, h.k4, rfl, rfl, rfl, rfl, rfl, rfl, rfl, rfl⟩
theorem nextT_get (k val : Nat) (told : Bool) (t : Nat → Bool) : t = AC.nextT ⟨1 + 1, k, val, told⟩ t := by
  funext j; simp [AC.nextT]
theorem nextV_get (k val : Nat) (told : Bool) (v : Nat → Nat) : v = AC.nextV ⟨1 + 1, k, val, told⟩ v := by
  funext j; simp [AC.nextV]
theorem leaf_get (h : Leaf w B V U R L t v r w1 cb xb (1 + (1 : Nat)) k val) (told : Bool) (ht : t k = true) (hn : told = false ∨ val = v k) (nq : Nat) :
    C2 w B V U R L t v r ⟨1 + 1, k, val, told⟩ cb (.bool r) (((w1.setCell ⟨cb, 7, none⟩ (.slice (some ⟨w1.heap.size, 0, none⟩) 1 1)).alloc (.cells #[.int .u8 (v k : Nat)] 5)).drewN nq) := by
  have hc := lt_of_heap h.at'
  have hx := lt_of_heap h.one
  have hb := h.xb2
  have hbad : AC.bad ⟨1 + 1, k, val, told⟩ t v = false := by
    unfold AC.bad
    rcases hn with hn | hn <;> simp [hn, ht]
  have hnew : OneB ((w1.setCell ⟨cb, 7, none⟩ (.slice (some ⟨w1.heap.size, 0, none⟩) 1 1)).alloc (.cells #[.int .u8 (v k : Nat)] 5)) w1.heap.size (v k) := by
    have := OneB.new (w1.setCell ⟨cb, 7, none⟩ (.slice (some ⟨w1.heap.size, 0, none⟩) 1 1)) (v k)
    simpa using this
  refine c2_mk (mk1 R.length 2 k xb val 0 (some w1.heap.size) [v k]) h.st (((h.loc.set 7 _).alloc _).drewN nq) h.V1 h.U1 h.at' (h.okg _ _ _ _ _ (((h.one.set _ _ (show xb ≠ cb from fun e => h.ne e.symm)).alloc _).drewN nq) (h.st.lt k) (by omega) (hnew.drewN nq)) rfl (nextT_get _ _ _ _) (nextV_get _ _ _ _) ?_ ?_
  · rw [hbad]; simp
  · refine ⟨by simp, by simp, h.k4, rfl, rfl, rfl, rfl, rfl, ?_, rfl, ?_⟩
    · unfold AC.code; rw [hbad]; simp [mk1, ht]
    · unfold AC.got; rw [hbad]; simp [mk1, ht]
theorem leaf_none (h : Leaf w B V U R L t v r w1 cb xb (1 + (1 : Nat)) k val) {told : Bool} (hto : told = false) (ht : t k = false) (nq : Nat) :
    C2 w B V U R L t v r ⟨1 + 1, k, val, told⟩ cb (.bool r) (((((w1.setCell ⟨cb, 7, none⟩ (.slice (some ⟨w1.heap.size, 0, none⟩) 1 1)).setCell ⟨cb, 6, none⟩ (.int .i64 5)).setCell ⟨cb, 7, none⟩ (.slice none 0 0)).alloc (.cells #[.int .u8 (v k : Nat)] 5)).drewN nq) := by
  subst hto
  have hbad : AC.bad ⟨1 + 1, k, val, false⟩ t v = false := by simp [AC.bad]
  have hne : xb ≠ cb := fun e => h.ne e.symm
  refine c2_mk (mk1 R.length 2 k xb val 5 none []) h.st (((((h.loc.set 7 _).set 6 _).set 7 _).alloc _).drewN nq) h.V1 h.U1 h.at' (h.okm _ _ _ (((((h.one.set _ _ hne).set _ _ hne).set _ _ hne).alloc _).drewN nq)) rfl (nextT_get _ _ _ _) (nextV_get _ _ _ _) ?_ ?_
  · rw [hbad]; simp
  · refine ⟨by simp, by simp, h.k4, rfl, rfl, rfl, rfl, rfl, ?_, rfl, ?_⟩
    · unfold AC.code; rw [hbad]; simp [mk1, ht]
    · unfold AC.got; rw [hbad]; simp [mk1, ht]
theorem leaf_bad1 (h : Leaf w B V U R L t v r w1 cb xb (1 + (1 : Nat)) k val) {told : Bool} (hto : told = true) (ht : t k = false) (nq : Nat) :
    C2 w B V U R L t v r ⟨1 + 1, k, val, told⟩ cb (.bool false) ((((((((w1.setCell ⟨cb, 7, none⟩ (.slice (some ⟨w1.heap.size, 0, none⟩) 1 1)).setCell ⟨cb, 6, none⟩ (.int .i64 5)).setCell ⟨cb, 7, none⟩ (.slice none 0 0)).alloc (.cells #[.int .u8 (v k : Nat)] 5)).drewN nq).setCell ⟨cb, 6, none⟩ (.int .i64 0)).setCell ⟨cb, 7, none⟩ (.slice (some ⟨w1.heap.size + 1, 0, none⟩) 1 1)).alloc (.cells #[.int .u8 (val : Nat)] 5)) := by
  subst hto
  have hbad : AC.bad ⟨1 + 1, k, val, true⟩ t v = true := by simp [AC.bad, ht]
  have hne : xb ≠ cb := fun e => h.ne e.symm
  have hb := h.xb2
  have hx := lt_of_heap h.one
  refine c2_mk (mk1 R.length 2 k xb val 0 (some (w1.heap.size + 1)) [val]) h.st ((((((((h.loc.set 7 _).set 6 _).set 7 _).alloc _).drewN nq).set 6 _).set 7 _).alloc _) h.V1 h.U1 h.at' (h.okg _ _ _ _ _ ((((((((h.one.set _ _ hne).set _ _ hne).set _ _ hne).alloc _).drewN nq).set _ _ hne).set _ _ hne).alloc _) h.val2 (by omega) ?_) rfl (nextT_get _ _ _ _) (nextV_get _ _ _ _) ?_ ?_
  · have := OneB.new (((((((w1.setCell ⟨cb, 7, none⟩ (.slice (some ⟨w1.heap.size, 0, none⟩) 1 1)).setCell ⟨cb, 6, none⟩ (.int .i64 5)).setCell ⟨cb, 7, none⟩ (.slice none 0 0)).alloc (.cells #[.int .u8 (v k : Nat)] 5)).drewN nq).setCell ⟨cb, 6, none⟩ (.int .i64 0)).setCell ⟨cb, 7, none⟩ (.slice (some ⟨w1.heap.size + 1, 0, none⟩) 1 1)) val
    simpa using this
  · rw [hbad]; simp
  · refine ⟨by simp, by simp, h.k4, rfl, rfl, rfl, rfl, rfl, ?_, rfl, ?_⟩
    · unfold AC.code; rw [hbad]; simp [mk1]
    · unfold AC.got; rw [hbad]; simp [mk1]
theorem leaf_bad2 (h : Leaf w B V U R L t v r w1 cb xb (1 + (1 : Nat)) k val) {told : Bool} (hto : told = true) (ht : t k = true) (hv : ¬ val = v k) (nq : Nat) :
    C2 w B V U R L t v r ⟨1 + 1, k, val, told⟩ cb (.bool false) ((((((w1.setCell ⟨cb, 7, none⟩ (.slice (some ⟨w1.heap.size, 0, none⟩) 1 1)).alloc (.cells #[.int .u8 (v k : Nat)] 5)).drewN nq).setCell ⟨cb, 6, none⟩ (.int .i64 0)).setCell ⟨cb, 7, none⟩ (.slice (some ⟨w1.heap.size + 1, 0, none⟩) 1 1)).alloc (.cells #[.int .u8 (val : Nat)] 5)) := by
  subst hto
  have hbad : AC.bad ⟨1 + 1, k, val, true⟩ t v = true := by simp [AC.bad, ht, hv]
  have hne : xb ≠ cb := fun e => h.ne e.symm
  have hb := h.xb2
  have hx := lt_of_heap h.one
  refine c2_mk (mk1 R.length 2 k xb val 0 (some (w1.heap.size + 1)) [val]) h.st ((((((h.loc.set 7 _).alloc _).drewN nq).set 6 _).set 7 _).alloc _) h.V1 h.U1 h.at' (h.okg _ _ _ _ _ ((((((h.one.set _ _ hne).alloc _).drewN nq).set _ _ hne).set _ _ hne).alloc _) h.val2 (by omega) ?_) rfl (nextT_get _ _ _ _) (nextV_get _ _ _ _) ?_ ?_
  · have := OneB.new (((((w1.setCell ⟨cb, 7, none⟩ (.slice (some ⟨w1.heap.size, 0, none⟩) 1 1)).alloc (.cells #[.int .u8 (v k : Nat)] 5)).drewN nq).setCell ⟨cb, 6, none⟩ (.int .i64 0)).setCell ⟨cb, 7, none⟩ (.slice (some ⟨w1.heap.size + 1, 0, none⟩) 1 1)) val
    simpa using this
  · rw [hbad]; simp
  · refine ⟨by simp, by simp, h.k4, rfl, rfl, rfl, rfl, rfl, ?_, rfl, ?_⟩
    · unfold AC.code; rw [hbad]; simp [mk1]
    · unfold AC.got; rw [hbad]; simp [mk1]
end
end Go.Proofs.Ytggecoekoilahaa
