/-
  IdealKnown's memory: a history that is made call by call.
-/
import Derived.Test.YtggecoekoilahaaIdLRow
namespace Go.Proofs.Ytggecoekoilahaa
open Go.RowKit
set_option linter.unusedVariables false

def keyA : ByteArray := ⟨#[97]⟩
/-- A history, and the call that comes next, in the block cb. -/
structure KSt (w : World) (V : Value) (H : List CM) (cb : Nat) (m : CM) (wx : World) : Prop where
  made : MadeC wx w.heap.size V H
  ok : ∀ x ∈ H, OkC w.heap.size wx x
  okm : OkC w.heap.size wx m
  at' : wx.heap[cb]? = some (.cells m.c.cells.toArray 30 (0, 0))
  V1 : V.ownBlock ≠ some cb
  cb2 : w.heap.size ≤ cb
  key : m.c.key = keyA
  bel : Below w.heap.size w wx
/-- A history of which each call has its own bytes. -/
structure HSt (w : World) (V : Value) (H : List CM) (wx : World) : Prop where
  made : MadeC wx w.heap.size V H
  ok : ∀ x ∈ H, OkC w.heap.size wx x
  key : ∀ x ∈ H, x.c.key = keyA
  bel : Below w.heap.size w wx
theorem HSt.nil {w wx : World} (hb : Below w.heap.size w wx) : HSt w (.slice none 0 0) [] wx :=
  ⟨World.ownsRow_nil _ _ _ _, fun x h => (by cases h), fun x h => (by cases h), hb⟩
theorem HSt.keys {w wx : World} {V : Value} {H : List CM} (h : HSt w V H wx) : KeysOk H := fun m hm => by rw [h.key m hm]; decide
theorem HSt.rds {w wx : World} {V : Value} {H : List CM} (h : HSt w V H wx) : AllRd wx H := fun m hm => (h.ok m hm).rd
section
variable {w wx w1 : World} {V v1 : Value} {H : List CM} {cb : Nat} {m : CM}
/-- The new call. -/
def mkK (cl kd : Int) (xb val : Nat) (fr tt : Int) : CM := ⟨⟨cl, kd, keyA, some ⟨xb, 0, none⟩, 1, 1, fr, tt, 0, none, 0, 0⟩, [val], []⟩
theorem KSt.start (h : HSt w V H wx) (cl kd : Int) (val : Nat) (fr tt : Int) (hv : val < 256) :
    KSt w V H (wx.heap.size + 1) (mkK cl kd wx.heap.size val fr tt) ((wx.alloc (.cells #[.int .u8 (val : Nat)] 5)).alloc (.cells #[.int .i64 cl, .int .u8 kd, .string keyA, .slice (some ⟨wx.heap.size, 0, none⟩) 1 1, .int .i64 fr, .int .i64 tt, .int .i64 0, .slice none 0 0] 30)) := by
  have hs := h.bel.size
  have hb : Below wx.heap.size wx ((wx.alloc (.cells #[.int .u8 (val : Nat)] 5)).alloc (.cells #[.int .i64 cl, .int .u8 kd, .string keyA, .slice (some ⟨wx.heap.size, 0, none⟩) 1 1, .int .i64 fr, .int .i64 tt, .int .i64 0, .slice none 0 0] 30)) :=
    ((Below.refl _ _).alloc (Nat.le_refl _) _).alloc (by simp) _
  refine ⟨own_below h.made hb, fun x hx => (h.ok x hx).keep fun b y _ h1 => hb.block b (lt_of_heap h1), ⟨⟨wx.heap.size, val, rfl, rfl, rfl, rfl, hv, hs, OneB.alloc (OneB.new wx val) _⟩, .inl ⟨rfl, rfl, rfl, rfl⟩⟩, ?_, fun e => ?_, by omega, rfl, h.bel.trans (hb.mono hs)⟩
  · exact heap_newS _ _ _ (by simp)
  · have := (h.made.lt _ e).2
    omega
theorem KSt.one (h : KSt w V H cb m wx) (j : Nat) (x : Value) : ∀ (b y : Nat), w.heap.size ≤ b → OneB wx b y → (wx.setCell ⟨cb, j, none⟩ x).heap[b]? = wx.heap[b]? := fun b y _ hb => heap_set_ne wx _ _ (ne_of_types hb h.at')
theorem OkC.same {B : Nat} {w : World} {m m' : CM} (h : OkC B w m) (e : m'.val = m.val ∧ m'.got = m.got ∧ m'.c.va = m.c.va ∧ m'.c.vl = m.c.vl ∧ m'.c.vc = m.c.vc ∧ m'.c.ga = m.c.ga ∧ m'.c.gl = m.c.gl ∧ m'.c.gc = m.c.gc) : OkC B w m' := by
  obtain ⟨e1, e2, e3, e4, e5, e6, e7, e8⟩ := e
  unfold OkC at *
  rw [e1, e2, e3, e4, e5, e6, e7, e8]
  exact h
theorem KSt.set (h : KSt w V H cb m wx) (j : Nat) (x : Value) (m' : CM) (hc : m.c.cells.toArray.setIfInBounds j x = m'.c.cells.toArray) (hk : m'.c.key = keyA) (e : m'.val = m.val ∧ m'.got = m.got ∧ m'.c.va = m.c.va ∧ m'.c.vl = m.c.vl ∧ m'.c.vc = m.c.vc ∧ m'.c.ga = m.c.ga ∧ m'.c.gl = m.c.gl ∧ m'.c.gc = m.c.gc) :
    KSt w V H cb m' (wx.setCell ⟨cb, j, none⟩ x) :=
  ⟨own_move h.made fun k hk => heap_set_ne wx _ _ (show k ≠ cb from fun e => h.V1 (e ▸ hk)), fun y hy => (h.ok y hy).keep (h.one j x), (h.okm.keep (h.one j x)).same e, by rw [← hc]; exact heap_set_same h.at' j x, h.V1, h.cb2, hk, h.bel.setCell h.cb2 _⟩
def CM.till (m : CM) (x : Int) : CM := ⟨m.c.tillT x, m.val, m.got⟩
def CM.coded (m : CM) (x : Int) : CM := ⟨{ m.c with co := x }, m.val, m.got⟩
theorem KSt.set5 (h : KSt w V H cb m wx) (x : Int) : KSt w V H cb (m.till x) (wx.setCell ⟨cb, 5, none⟩ (.int .i64 x)) := h.set 5 _ _ rfl h.key ⟨rfl, rfl, rfl, rfl, rfl, rfl, rfl, rfl⟩
theorem KSt.set6 (h : KSt w V H cb m wx) (x : Int) : KSt w V H cb (m.coded x) (wx.setCell ⟨cb, 6, none⟩ (.int .i64 x)) := h.set 6 _ _ rfl h.key ⟨rfl, rfl, rfl, rfl, rfl, rfl, rfl, rfl⟩
def CM.gets (m : CM) (b y : Nat) : CM := ⟨{ m.c with ga := some ⟨b, 0, none⟩, gl := 1, gc := 1 }, m.val, [y]⟩
theorem KSt.set7 (h : KSt w V H cb m wx) (y : Nat) (hy : y < 256) : KSt w V H cb (m.gets wx.heap.size y) ((wx.setCell ⟨cb, 7, none⟩ (.slice (some ⟨wx.heap.size, 0, none⟩) 1 1)).alloc (.cells #[.int .u8 (y : Nat)] 5)) := by
  have hs := h.bel.size
  have hb : Below (wx.setCell ⟨cb, 7, none⟩ (.slice (some ⟨wx.heap.size, 0, none⟩) 1 1)).heap.size (wx.setCell ⟨cb, 7, none⟩ (.slice (some ⟨wx.heap.size, 0, none⟩) 1 1)) ((wx.setCell ⟨cb, 7, none⟩ (.slice (some ⟨wx.heap.size, 0, none⟩) 1 1)).alloc (.cells #[.int .u8 (y : Nat)] 5)) := (Below.refl _ _).alloc (Nat.le_refl _) _
  have hm : MadeC (wx.setCell ⟨cb, 7, none⟩ (.slice (some ⟨wx.heap.size, 0, none⟩) 1 1)) w.heap.size V H := own_move h.made fun k hk => heap_set_ne wx _ _ (show k ≠ cb from fun e => h.V1 (e ▸ hk))
  refine ⟨own_below hm hb, fun x hx => ((h.ok x hx).keep (h.one 7 _)).keep fun b z _ h1 => hb.block b (lt_of_heap h1), ?_, keepA (heap_set_same h.at' 7 _) _, h.V1, h.cb2, h.key, (h.bel.setCell h.cb2 _).alloc (by simpa using hs) _⟩
  obtain ⟨⟨b, x, h1, h2, h3, h4, h5, h6, h7⟩, _⟩ := h.okm
  refine ⟨⟨b, x, h1, h2, h3, h4, h5, h6, ((h7.set _ _ (ne_of_types h7 h.at')).alloc _)⟩, .inr ⟨wx.heap.size, y, rfl, rfl, rfl, rfl, hy, hs, ?_⟩⟩
  have := OneB.new (wx.setCell ⟨cb, 7, none⟩ (.slice (some ⟨wx.heap.size, 0, none⟩) 1 1)) y
  simpa using this
theorem KSt.append (h : KSt w V H cb m wx) (o : Obj) (hown : MadeC w1 w.heap.size v1 (H ++ [m])) (hg : (wx.alloc o).grownBy w1 V.ownBlock) (hk : ∀ x ∈ H, x.c.key = keyA) : HSt w v1 (H ++ [m]) w1 := by
  have hbb := (Below.refl wx.heap.size wx).alloc (Nat.le_refl _) o
  have m1 := own_below h.made hbb
  have hone : ∀ (b x : Nat), w.heap.size ≤ b → OneB (wx.alloc o) b x → w1.heap[b]? = (wx.alloc o).heap[b]? := fun b x _ hx =>
    grown_block hg (lt_of_heap hx) (fun e => by
      obtain ⟨cs, hcs⟩ := own_type m1 e
      exact ne_of_types hx hcs rfl)
  refine ⟨hown, fun x hx => ?_, fun x hx => ?_, (h.bel.alloc h.bel.size o).grown hg (by have := h.bel.size; simp; omega) (fun k hk => (h.made.lt k hk).1)⟩
  · rcases List.mem_append.1 hx with hx | hx
    · exact ((h.ok x hx).keep fun b y _ h1 => hbb.block b (lt_of_heap h1)).keep hone
    · obtain rfl : x = m := by simpa using hx
      exact (h.okm.keep fun b y _ h1 => hbb.block b (lt_of_heap h1)).keep hone
  · rcases List.mem_append.1 hx with hx | hx
    · exact hk x hx
    · obtain rfl : x = m := by simpa using hx
      exact h.key
end
end Go.Proofs.Ytggecoekoilahaa
