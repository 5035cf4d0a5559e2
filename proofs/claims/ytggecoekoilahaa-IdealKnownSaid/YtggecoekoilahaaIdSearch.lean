/-
  The program's search.
-/
import Derived.Test.YtggecoekoilahaaIdSeen
import Derived.Test.YtggecoekoilahaaIdKey
import Derived.Test.YtggecoekoilahaaIdHeld
namespace Go.Proofs.Ytggecoekoilahaa
open Go.RowKit
set_option linter.unusedSimpArgs false
set_option linter.unusedVariables false

/-- What the search captured: the table of what was tried (in block bm), the row of calls, itself. -/
structure Scene (bs bl bf bm : Nat) (a : Option Addr) (n cap : Nat) (w : World) : Prop where
  s : w.heap[bs]? = some (.cells #[.map (some bm)] 57)
  l : w.heap[bl]? = some (.cells #[.slice a n cap] 22)
  f : w.heap[bf]? = some (.cells #[.func (.func 33) #[] #[.pointer (some ⟨bs, 0, none⟩), .pointer (some ⟨bl, 0, none⟩), .pointer (some ⟨bf, 0, none⟩)]] 58)
  ns : bs ≠ bm
  nl : bl ≠ bm
  nf : bf ≠ bm

theorem cells2 {W : World} {B : Nat} {a b : Value} {ty : TypeId} (hh : W.heap[B]? = some (.cells #[a, b] ty)) : W.cell? ⟨B, 0, none⟩ = some a ∧ W.cell? ⟨B, 1, none⟩ = some b :=
  ⟨cell_of_row W _ 0 _ _ (0, 0) hh, cell_of_row W _ 1 _ _ (0, 0) hh⟩

theorem gb_trans {a b c : World} {row : Option Nat} (h : a.grownBy b row) (k : b.grownBy c row) : a.grownBy c row :=
  ⟨k.os.trans h.os, k.tape.trans h.tape, k.output.trans h.output, Nat.le_trans h.size k.size, fun i hi hr => (k.block i (Nat.lt_of_lt_of_le hi h.size) hr).trans (h.block i hi hr)⟩
theorem gb_block {w w' : World} {bm g : Nat} {o : Obj} (h : w.grownBy w' (some bm)) (hb : w.heap[g]? = some o) (hne : g ≠ bm) : w'.heap[g]? = some o :=
  (h.block g (Array.getElem?_eq_some_iff.1 hb).1 (fun e => hne (Option.some.inj e))).trans hb
theorem Scene.kept {bs bl bf bm n cap : Nat} {a : Option Addr} {w w' : World} (h : Scene bs bl bf bm a n cap w) (hg : w.grownBy w' (some bm)) : Scene bs bl bf bm a n cap w' :=
  ⟨gb_block hg h.s h.ns, gb_block hg h.l h.nl, gb_block hg h.f h.nf, h.ns, h.nl, h.nf⟩
theorem gb_alloc (w : World) (bm : Nat) (o : Obj) : w.grownBy (w.alloc o) (some bm) := World.grownBy_alloc w o _
theorem gb_below {B0 : Nat} {w0 w w' : World} {bm : Nat} (h : Below B0 w0 w) (hg : w.grownBy w' (some bm)) (hB : B0 ≤ w.heap.size) (hm : B0 ≤ bm) : Below B0 w0 w' :=
  h.grown hg hB (fun k hk => by cases hk; exact hm)

def popB (l : List CM) (left : Nat) : Nat := (bitsLeft l.length left).length
def DeadB (l : List CM) (m : Nat) (S : Int → Int → Int) : Prop := ∀ (x : Nat) (y : Int), popB l x < m → 0 < S x y → aliveB l x y = false
/-- How many stores a search takes at most. -/
def costB (k : Nat) : Nat → Nat
  | 0 => 1
  | m + 1 => 1 + k * costB k m
def costC (k : Nat) : Nat → Nat
  | 0 => 0
  | m + 1 => costB k m
theorem costB_eq (k m : Nat) : costB k m = 1 + k * costC k m := by cases m <;> rfl

def SeenSt (l : List CM) (bm left : Nat) (last : Int) (m N : Nat) (S : Int → Int → Int) (I : Nat) (w : World) : Prop :=
  ∃ N' S', SeenIs w bm N' S' ∧ N' ≤ N + 1 + I * costC l.length m ∧ DeadB l m S' ∧ ∀ (x : Nat) (y : Int), m ≤ popB l x → S' x y = if (x : Int) = left ∧ y = last then 1 else S x y

theorem SeenSt.more {l : List CM} {bm left : Nat} {last : Int} {m N : Nat} {S : Int → Int → Int} {I J : Nat} {w : World} (h : SeenSt l bm left last m N S I w) (hI : I ≤ J) : SeenSt l bm left last m N S J w := by
  obtain ⟨N', S', s1, s2, s3, s4⟩ := h
  exact ⟨N', S', s1, Nat.le_trans s2 (Nat.add_le_add_left (Nat.mul_le_mul_right _ hI) _), s3, s4⟩

def SearchPost (l : List CM) (bm left : Nat) (last : Int) (m N : Nat) (S : Int → Int → Int) (w : World) (e : Ending) (w' : World) : Prop :=
  ∃ r : Bool, e = .returned (.bool r) ∧ w.grownBy w' (some bm) ∧ (r = true → aliveB l left last = true) ∧
    (r = false → aliveB l left last = false ∧ ∃ N' S', SeenIs w' bm N' S' ∧ N' ≤ N + costB l.length m ∧ DeadB l (m + 1) S' ∧ ∀ (x : Nat) (y : Int), m < popB l x → S' x y = S x y)

/-- What is fixed while the search runs. -/
structure Fixed (l : List CM) (bm n cap : Nat) (a : Option Addr) (w0 : World) : Prop where
  rd : RowRd w0 (.slice a n cap) (rcs l)
  all : AllRd w0 l
  hm : w0.heap.size ≤ bm
  hn : n = l.length
  h10 : l.length ≤ 20
  kd : ∀ k, k < l.length → (atC l k).c.kd = 1 ∨ (atC l k).c.kd = 2 ∨ (atC l k).c.kd = 3

/-- The search, of m calls that are left. -/
def SearchAt (l : List CM) (bs bl bf bm cap : Nat) (a : Option Addr) (w0 : World) (m : Nat) : Prop :=
  ∀ (left : Nat) (last : Int) (w : World) (N : Nat) (S : Int → Int → Int), popB l left = m → left < 2 ^ 20 → -1 ≤ last → last < l.length → Below w0.heap.size w0 w → Scene bs bl bf bm a l.length cap w → SeenIs w bm N S →
      N + costB l.length m < maxLen → DeadB l (m + 1) S →
      Calls Try.prog 33 #[keyV left last, .pointer (some ⟨bs, 0, none⟩), .pointer (some ⟨bl, 0, none⟩), .pointer (some ⟨bf, 0, none⟩)] w (SearchPost l bm left last m N S w)

set_option maxRecDepth 100000 in
set_option maxHeartbeats 2000000 in
theorem search_step (l : List CM) (bs bl bf bm cap : Nat) (a : Option Addr) (w0 : World) (hF : Fixed l bm l.length cap a w0) (m : Nat) (ih : ∀ M', m = M' + 1 → SearchAt l bs bl bf bm cap a w0 M') : SearchAt l bs bl bf bm cap a w0 m := by
  · intro left last w N S hp hleft hlast hlast2 hb hsc hs hN hd
    have wfx : (Lit.int .u64 (left : Int)).wf = true := by simp [Lit.wf, IntKind.min, IntKind.max, IntKind.bits, IntKind.signed]; omega
    have wfy : (Lit.int .i64 last).wf = true := by have := hF.h10; simp [Lit.wf, IntKind.min, IntKind.max, IntKind.bits, IntKind.signed]; omega
    have cs := cell_of_row w bs 0 _ _ (0, 0) hsc.s
    have cl := cell_of_row w bl 0 _ _ (0, 0) hsc.l
    have cf := cell_of_row w bf 0 _ _ (0, 0) hsc.f
    have hbs := lt_of_heap hsc.s
    have hbl := lt_of_heap hsc.l
    have hbf := lt_of_heap hsc.f
    have hlook := (hs.alloc (.cells #[.int .u64 left, .int .i64 last] 61)).look left last wfx wfy
    obtain ⟨w1, hput, hs1, hg1⟩ := (hs.alloc (.cells #[.int .u64 left, .int .i64 last] 61)).put (by omega) left last 1 wfx wfy (by decide)
    have cs1 := cell_of_row w1 bs 0 _ _ (0, 0) (hsc.kept (gb_trans (gb_alloc _ _ _) hg1)).s
    have cl1 := cell_of_row w1 bl 0 _ _ (0, 0) (hsc.kept (gb_trans (gb_alloc _ _ _) hg1)).l
    have HS := Lib.hid (SeenIs.lt hs)
    have HPOP := Lib.hid hp
    clear hp
    by_cases h0 : 0 < S left last
    · have h0' : decide (0 < S left last) = true := decide_eq_true h0
      have HDEAD : Hid (aliveB l left last = false) := Lib.hid (hd left last (by have := HPOP.out; omega) h0)
      have HSS := Lib.hid hs
      have HD := Lib.hid hd
      clear hs hs1 hg1 hsc hd h0 hput hF ih
      go_enter Try.func33, Try.ntmps33
      go_wp2
      go_ret
      exact ⟨false, rfl, gb_alloc _ _ _, (fun h => (by cases h)), fun _ => ⟨HDEAD.out, N, S, HSS.out.alloc _, by omega, HD.out, fun x y _ => rfl⟩⟩
    · have h0' : decide (0 < S left last) = false := decide_eq_false h0
      have HS1 := Lib.hid hs1
      have HG1 := Lib.hid hg1
      have HSC := Lib.hid hsc
      have HD := Lib.hid hd
      clear hs hs1 hg1 hsc hd h0
      have h20 := hF.h10
      have HF := Lib.hid hF
      have IH := Lib.hid ih
      clear hF ih
      go_enter Try.func33, Try.ntmps33
      go_wp2
      have hX : w1.heap[w.heap.size]? = some (.cells #[.int .u64 left, .int .i64 last] 61) := gb_block HG1.out (heap_newA _ _) (by have := HF.out.hm; have := HS.out; omega)
      have HX := Lib.hid hX
      have hB1 : Below w0.heap.size w0 w1 := gb_below (gb_below hb (gb_alloc _ _ _) hb.size HF.out.hm) HG1.out (by simp; have := hb.size; omega) HF.out.hm
      have hB4 : w.heap.size < w1.heap.size := by have := HG1.out.size; simp at this; omega
      have hsc1 : Scene bs bl bf bm a l.length cap w1 := HSC.out.kept (gb_trans (gb_alloc _ _ _) HG1.out)
      have HSC1 := Lib.hid hsc1
      have HGW : Hid (w.grownBy w1 (some bm)) := Lib.hid (gb_trans (gb_alloc _ _ _) HG1.out)
      clear hX hput hlook cs cl cf cs1 cl1 HG1 hsc1 HSC hb
      generalize hgB : w.heap.size = B4 at *
      have HGB := Lib.hid hgB
      clear hgB
      go_loopw [6, 23] (fun ov i wr => ∃ I : Nat, I ≤ l.length ∧ i = .int .i64 I ∧ ov = .bool (overUpto l left I) ∧ w1.grownBy wr (some bm) ∧ Hid (SeenSt l bm left last m N S I wr) ∧ Hid (NoneUpto l left last I)) (fun _ i _ => l.length - (intOf i).toNat)
      case atStart => exact ⟨0, by omega, rfl, rfl, World.grownBy.refl _ _, Lib.hid ⟨N + 1, _, HS1.out, by omega, fun x y hx h => by
          have e : ¬ ((x : Int) = left ∧ y = last) := fun e => by
            have : x = left := by have := e.1; omega
            subst this
            have := HPOP.out
            omega
          have h' : 0 < (if (x : Int) = left ∧ y = last then (1 : Int) else S x y) := h
          rw [if_neg e] at h'
          exact HD.out x y (by omega) h', fun x y _ => rfl⟩, Lib.hid (fun k hk => by omega)⟩
      case round =>
        obtain ⟨I, hI, rfl, rfl, hG, hSt, hNo⟩ := hrel
        by_cases hlt : I < l.length
        · obtain ⟨c, hc⟩ : ∃ c, l[I]? = some c := ⟨_, List.getElem?_eq_getElem hlt⟩
          have hBr : Below w0.heap.size w0 wr := gb_below hB1 hG (by have := hB1.size; omega) HF.out.hm
          obtain ⟨-, b, o, rfl, hbb, c0, c1, c2, c3, c4, c5, c6, c7⟩ := RowRd.at (HF.out.rd.below hBr) (rcs_at hc)
          go_upto_region 8 with fail
          generalize hw2 : wr.alloc (.cells #[.int .i64 c.c.cl, .int .u8 c.c.kd, .string c.c.key, .slice c.c.va c.c.vl c.c.vc, .int .i64 c.c.fr, .int .i64 c.c.to, .int .i64 c.c.co, .slice c.c.ga c.c.gl c.c.gc] 30) = W
          have hGW : wr.grownBy W (some bm) := by rw [← hw2]; exact gb_alloc _ _ _
          have hC8 : W.heap[wr.heap.size]? = some (.cells #[.int .i64 c.c.cl, .int .u8 c.c.kd, .string c.c.key, .slice c.c.va c.c.vl c.c.vc, .int .i64 c.c.fr, .int .i64 c.c.to, .int .i64 c.c.co, .slice c.c.ga c.c.gl c.c.gc] 30) := by rw [← hw2]; exact heap_newA _ _
          have hStW : SeenSt l bm left last m N S I W := by
            obtain ⟨N', S', s1, s2, s3, s4⟩ := hSt.out
            exact ⟨N', S', s1.kept (row := none) (by rw [← hw2]; exact World.grownBy_alloc _ _ _) (by simp), s2, s3, s4⟩
          have hGW1 := gb_trans hG hGW
          have hBW : Below w0.heap.size w0 W := gb_below hB1 hGW1 (by have := hB1.size; omega) HF.out.hm
          have hb8 : bm < wr.heap.size := by have := hG.size; have := HS.out; omega
          have hb48 : B4 < wr.heap.size := by have := hG.size; omega
          have HC8 := Lib.hid hC8
          have HSTW := Lib.hid hStW
          clear hw2 hGW hC8 hStW hG hSt hBr hbb c0 c1 c2 c3 c4 c5 c6 c7
          generalize wr.heap.size = B8 at *
          clear wr
          obtain ⟨e0, e1⟩ := cells2 (gb_block hGW1 HX.out (by have := HS.out; omega))
          obtain ⟨f0, f1, f2, f3, f4, f5, f6, f7⟩ := cells8 HC8.out
          have HC := Lib.hid hc
          clear hc
          have hb0 := bit_is0 left I hleft (by have := HF.out.h10; omega)
          cases hbt : left.testBit I with
          | false =>
            rw [hbt] at hb0
            have HBT := Lib.hid hbt
            have HOV : Hid (overUpto l left (I + 1) = overUpto l left I) := Lib.hid (by rw [overUpto_succ, HBT.out]; simp)
            have HNN : Hid (NoneUpto l left last (I + 1)) := Lib.hid (fun k hk hb => by
              by_cases e : k = I
              · subst e; rw [HBT.out] at hb; cases hb
              · exact hNo.out k (by omega) hb)
            clear hbt
            go_wp2
            go_roundw
            case rel => exact ⟨I + 1, by omega, by go_num, by rw [HOV.out], hGW1, Lib.hid (SeenSt.more HSTW.out (by omega)), HNN⟩
            case measure => simp [intOf]; omega
          | true =>
            rw [hbt] at hb0
            have HBT := Lib.hid hbt
            have HAT : Hid (atC l I = c) := Lib.hid (atC_of HC.out)
            have HOV : Hid (overUpto l left (I + 1) = (overUpto l left I && (c.c.to == -1))) := Lib.hid (by rw [overUpto_succ, HBT.out, HAT.out]; simp)
            clear hbt
            go_upto_region 9 with fail
            refine wp_region_units (.step 0 (.step 1 (.unit 1 true (.step 2 (.step 3 (.step 4 .done))) 5 4 (.step 6 .done)))) (by kernel_rfl) (by kernel_rfl) ?_
            simp only [mkUT, dstOf, bare, Oper.slim, List.contains_cons, List.contains_nil, Option.map_none, Option.map_some, List.getElem?_toArray, List.getElem?_cons_zero, List.getElem?_cons_succ, Option.bind_some, beq_self_eq_true, Bool.or_false, Nat.reduceBEq, Nat.reduceAdd, Nat.zero_add, Option.getD_some, Option.isSome_some, Option.isSome_none, Bool.false_and, Bool.true_and, Bool.false_eq_true, if_false, if_true, Option.some_beq_some, Option.some_beq_none, Option.none_beq_some, reduceCtorEq, ite_true, ite_false]
            repeat ((with_reducible refine wpUT_step (fun K hK => ?_)); go_simp; first | (refine hK _ _ ?_; clear hK K) | (refine ⟨by (intro kk hkk; first | exact hkk.elim | (simp (disch := (simp; omega)) only [hp_drew, hp_drewN, hp_alloc, hp_set]; done) | (simp [hp_drew, hp_drewN, hp_alloc_if, hkk]; done) | fail), hK _ _ ?_⟩; clear hK K))
            refine wpUT_unit (x := ?_) (by rfl) ?_ ?_
            rotate_left
            · intro hgd
              repeat ((with_reducible refine wpUT_step (fun K hK => ?_)); go_simp; first | (refine hK _ _ ?_; clear hK K) | (refine ⟨by (intro kk hkk; first | exact hkk.elim | (simp (disch := (simp; omega)) only [hp_drew, hp_drewN, hp_alloc, hp_set]; done) | (simp [hp_drew, hp_drewN, hp_alloc_if, hkk]; done) | fail), hK _ _ ?_⟩; clear hK K))
              exact wpUT_done ⟨by rfl, rfl⟩
            intro js
            simp only [UT.dsts, junk, SOp.dst, Option.toList_some, Option.toList_none, List.cons_append, List.nil_append, List.append_nil, cond_true, cond_false]
            repeat ((with_reducible refine wpUT_step (fun K hK => ?_)); go_simp; first | (refine hK _ _ ?_; clear hK K) | (refine ⟨by (intro kk hkk; first | exact hkk.elim | (simp (disch := (simp; omega)) only [hp_drew, hp_drewN, hp_alloc, hp_set]; done) | (simp [hp_drew, hp_drewN, hp_alloc_if, hkk]; done) | fail), hK _ _ ?_⟩; clear hK K))
            refine wpUT_done ?_
            generalize hov : (overUpto l left I && (c.c.to == -1)) = ov1 at *
            have HOV1 := Lib.hid hov
            clear hov
            have hscW := HSC1.out.kept hGW1
            have clW := cell_of_row W bl 0 _ _ (0, 0) hscW.l
            have hblW := lt_of_heap hscW.l
            go_wp2
            clear clW
            have HCLK : Hid (W.cell? ⟨bl, 0, none⟩ = some (.slice (some ⟨b, o, none⟩) l.length cap)) := Lib.hid (cell_of_row W bl 0 _ _ (0, 0) hscW.l)
            have HSCW := Lib.hid hscW
            clear hscW hb0
            have hBW0 : w0.heap.size ≤ W.heap.size := hBW.size
            have hB8 : B8 < W.heap.size := lt_of_heap HC8.out
            go_loopw [10, 43] (fun wv k wk => ∃ K : Nat, K ≤ l.length ∧ k = .int .i64 K ∧ wv = .bool (waitsUpto l left I K) ∧ Below W.heap.size W wk) (fun _ k _ => l.length - (intOf k).toNat)
            case atStart => exact ⟨0, by omega, rfl, rfl, Below.refl _ _⟩
            case round =>
              obtain ⟨K, hK, rfl, rfl, hBk⟩ := hrel
              by_cases hlt2 : K < l.length
              · obtain ⟨d, hd⟩ : ∃ d, l[K]? = some d := ⟨_, List.getElem?_eq_getElem hlt2⟩
                have hBwk : Below w0.heap.size w0 wr := hBW.trans (hBk.mono hBW0)
                obtain ⟨-, b', o', hab, hbb, d0, d1, d2, d3, d4, d5, d6, d7⟩ := RowRd.at (HF.out.rd.below hBwk) (rcs_at hd)
                cases hab
                go_upto_region 15 with fail
                generalize hw3 : wr.alloc (.cells #[.int .i64 d.c.cl, .int .u8 d.c.kd, .string d.c.key, .slice d.c.va d.c.vl d.c.vc, .int .i64 d.c.fr, .int .i64 d.c.to, .int .i64 d.c.co, .slice d.c.ga d.c.gl d.c.gc] 30) = W3
                have hBk3 : Below W.heap.size W W3 := by rw [← hw3]; exact hBk.alloc hBk.size _
                have hX3 : W3.heap[wr.heap.size]? = some (.cells #[.int .i64 d.c.cl, .int .u8 d.c.kd, .string d.c.key, .slice d.c.va d.c.vl d.c.vc, .int .i64 d.c.fr, .int .i64 d.c.to, .int .i64 d.c.co, .slice d.c.ga d.c.gl d.c.gc] 30) := by rw [← hw3]; exact heap_newA _ _
                obtain ⟨x0, x1, x2, x3, x4, x5, x6, x7⟩ := cells8 hX3
                have hB12 := lt_of_heap hX3
                clear hw3 hX3 hBk hBwk hbb d0 d1 d2 d3 d4 d5 d6 d7
                generalize wr.heap.size = B12 at *
                clear wr
                obtain ⟨e0, e1⟩ := cells2 ((hBk3.block _ (lt_of_heap (gb_block hGW1 HX.out (by have := HS.out; omega)))).trans (gb_block hGW1 HX.out (by have := HS.out; omega)))
                obtain ⟨f0, f1, f2, f3, f4, f5, f6, f7⟩ := cells8 ((hBk3.block _ hB8).trans HC8.out)
                have hB83 : B8 < W3.heap.size := Nat.lt_of_lt_of_le hB8 hBk3.size
                have hb1 := bit_is1 left K hleft (by omega)
                have HWS : Hid (waitsUpto l left I (K + 1) = (waitsUpto l left I K || (left.testBit K && d.c.ahead c.c))) := Lib.hid (by rw [waitsUpto_succ, atC_of hd, HAT.out])
                have HHELD := Lib.hid (held_any d.c c.c.fr B8 W3 f4 hB83)
                generalize hwt : waitsUpto l left I K = wt at *
                have HWT := Lib.hid hwt
                generalize hbk : left.testBit K = bk at *
                have HBK := Lib.hid hbk
                clear hwt hbk hd
                refine wp_region_units (.step 0 (.step 1 (.unit 1 false (.step 2 (.step 3 (.step 4 (.step 5 (.step 6 (.step 7 (.step 8 (.unit 8 true (.step 9 (.step 10 (.step 11 .done))) 12 11 .done)))))))) 13 12 (.step 14 .done)))) (by kernel_rfl) (by kernel_rfl) ?_
                simp only [mkUT, dstOf, bare, Oper.slim, List.contains_cons, List.contains_nil, Option.map_none, Option.map_some, List.getElem?_toArray, List.getElem?_cons_zero, List.getElem?_cons_succ, Option.bind_some, beq_self_eq_true, Bool.or_false, Nat.reduceBEq, Nat.reduceAdd, Nat.zero_add, Option.getD_some, Option.isSome_some, Option.isSome_none, Bool.false_and, Bool.true_and, Bool.false_eq_true, if_false, if_true, Option.some_beq_some, Option.some_beq_none, Option.none_beq_some, reduceCtorEq, ite_true, ite_false]
                repeat ((with_reducible refine wpUT_step (fun K hK => ?_)); go_simp; first | (refine hK _ _ ?_; clear hK K) | (refine ⟨by (intro kk hkk; first | exact hkk.elim | (simp (disch := (simp; omega)) only [hp_drew, hp_drewN, hp_alloc, hp_set]; done) | (simp [hp_drew, hp_drewN, hp_alloc_if, hkk]; done) | fail), hK _ _ ?_⟩; clear hK K)| (go_at_call 34; (with_reducible refine HHELD.out.mono ?_); rintro e wc ⟨rfl, hbc⟩; refine ⟨_, rfl, (fun kk hkk => hkk.elim), hK _ _ ?_⟩; clear hK K))
                refine wpUT_unit_below (x := ?_) (by rfl) ?_ ?_
                rotate_left
                · intro hgd
                  repeat ((with_reducible refine wpUT_step (fun K hK => ?_)); go_simp; first | (refine hK _ _ ?_; clear hK K) | (refine ⟨by (intro kk hkk; first | exact hkk.elim | (simp (disch := (simp; omega)) only [hp_drew, hp_drewN, hp_alloc, hp_set]; done) | (simp [hp_drew, hp_drewN, hp_alloc_if, hkk]; done) | fail), hK _ _ ?_⟩; clear hK K)| (go_at_call 34; (with_reducible refine HHELD.out.mono ?_); rintro e wc ⟨rfl, hbc⟩; refine ⟨_, rfl, (fun kk hkk => hkk.elim), hK _ _ ?_⟩; clear hK K))
                  refine wpUT_unit_below (x := ?_) (by rfl) ?_ ?_
                  rotate_left
                  · intro hgd
                    repeat ((with_reducible refine wpUT_step (fun K hK => ?_)); go_simp; first | (refine hK _ _ ?_; clear hK K) | (refine ⟨by (intro kk hkk; first | exact hkk.elim | (simp (disch := (simp; omega)) only [hp_drew, hp_drewN, hp_alloc, hp_set]; done) | (simp [hp_drew, hp_drewN, hp_alloc_if, hkk]; done) | fail), hK _ _ ?_⟩; clear hK K)| (go_at_call 34; (with_reducible refine HHELD.out.mono ?_); rintro e wc ⟨rfl, hbc⟩; refine ⟨_, rfl, (fun kk hkk => hkk.elim), hK _ _ ?_⟩; clear hK K))
                    exact wpUT_done ⟨by rfl, by (repeat' (first | (with_reducible exact RowKit.Below.refl _ _) | (with_reducible assumption) | (with_reducible refine RowKit.Below.drew ?_) | (with_reducible refine RowKit.Below.alloc ?_ ?_ _) | omega | (simp; done) | (simp; omega)))⟩
                  intro js wu hbu
                  simp only [UT.dsts, junk, SOp.dst, Option.toList_some, Option.toList_none, List.cons_append, List.nil_append, List.append_nil, cond_true, cond_false]
                  try go_simp
                  exact wpUT_done ⟨by rfl, by (repeat' (first | (with_reducible exact RowKit.Below.refl _ _) | (with_reducible assumption) | (with_reducible refine RowKit.Below.drew ?_) | (with_reducible refine RowKit.Below.alloc ?_ ?_ _) | omega | (simp; done) | (simp; omega)))⟩
                intro js wu hbu
                simp only [UT.dsts, junk, SOp.dst, Option.toList_some, Option.toList_none, List.cons_append, List.nil_append, List.append_nil, cond_true, cond_false]
                repeat ((with_reducible refine wpUT_step (fun K hK => ?_)); go_simp; first | (refine hK _ _ ?_; clear hK K) | (refine ⟨by (intro kk hkk; first | exact hkk.elim | (simp (disch := (simp; omega)) only [hp_drew, hp_drewN, hp_alloc, hp_set]; done) | (simp [hp_drew, hp_drewN, hp_alloc_if, hkk]; done) | fail), hK _ _ ?_⟩; clear hK K)| (go_at_call 34; (with_reducible refine HHELD.out.mono ?_); rintro e wc ⟨rfl, hbc⟩; refine ⟨_, rfl, (fun kk hkk => hkk.elim), hK _ _ ?_⟩; clear hK K))
                refine wpUT_done ?_
                have hBku : Below W.heap.size W wu := hBk3.trans (hbu.mono hBk3.size)
                go_wp2
                go_roundw
                case rel => exact ⟨K + 1, by omega, by go_num, by rw [HWS.out] <;> rfl, hBku⟩
                case measure => simp [intOf]; omega
              · obtain rfl : K = l.length := by omega
                have hBwk : Below w0.heap.size w0 wr := hBW.trans (hBk.mono hBW0)
                have hGk : W.grownBy wr (some bm) := ⟨hBk.os, hBk.tape, hBk.output, hBk.size, fun k hk _ => hBk.block k hk⟩
                have hGWk := gb_trans hGW1 hGk
                have hscK := HSCW.out.kept hGk
                have hStK : SeenSt l bm left last m N S I wr := by
                  obtain ⟨N', S', s1, s2, s3, s4⟩ := HSTW.out
                  exact ⟨N', S', s1.kept (row := none) ⟨hBk.os, hBk.tape, hBk.output, hBk.size, fun k hk _ => hBk.block k hk⟩ (by simp), s2, s3, s4⟩
                have HSTK := Lib.hid hStK
                have HSCK := Lib.hid hscK
                have HBWK := Lib.hid hBwk
                have HGWK := Lib.hid hGWk
                obtain ⟨e0, e1⟩ := cells2 ((hBk.block _ (lt_of_heap (gb_block hGW1 HX.out (by have := HS.out; omega)))).trans (gb_block hGW1 HX.out (by have := HS.out; omega)))
                obtain ⟨f0, f1, f2, f3, f4, f5, f6, f7⟩ := cells8 ((hBk.block _ hB8).trans HC8.out)
                have hB4r : B4 < wr.heap.size := lt_of_heap (gb_block hGWk HX.out (by have := HS.out; omega))
                have hB8r : B8 < wr.heap.size := Nat.lt_of_lt_of_le hB8 hBk.size
                have hbsr := lt_of_heap hscK.s
                have hblr := lt_of_heap hscK.l
                have hbfr := lt_of_heap hscK.f
                have hbmr : bm < wr.heap.size := by omega
                have cl := cell_of_row wr bl 0 _ _ (0, 0) hscK.l
                have cf := cell_of_row wr bf 0 _ _ (0, 0) hscK.f
                have hbc := bit_clrw left I hleft (by omega)
                rw [waitsUpto_all]
                clear hStK hscK hBwk hGWk hGk hBk HSTW HSCW HCLK hBW hGW1 hBW0 hB1
                go_upto_region 17 with fail
                have hgr := fun (w0 W : World) (p : Addr) (hp : (fun k => k < wr.heap.size) p.block) => graft_cell (w0 := w0) (keep := (fun k => k < wr.heap.size)) W hp
                refine wp_region_units_draw (fun k => k < wr.heap.size) [7, 8] (.step 0 (.step 1 (.step 2 (.step 3 (.step 4 (.step 5 (.step 6 (.step 7 (.step 8 .done))))))))) (.step 0 (.step 1 (.step 2 (.step 3 (.step 4 (.step 5 (.step 6 (.step 7 (.step 8 .done))))))))) (by kernel_rfl) (by kernel_rfl) (by kernel_rfl) (by kernel_rfl) ?_
                simp only [mkUT, dstOf, bare, Oper.slim, List.contains_cons, List.contains_nil, Option.map_none, Option.map_some, List.getElem?_toArray, List.getElem?_cons_zero, List.getElem?_cons_succ, Option.bind_some, beq_self_eq_true, Bool.or_false, Nat.reduceBEq, Nat.reduceAdd, Nat.zero_add, Option.getD_some, Option.isSome_some, Option.isSome_none, Bool.false_and, Bool.true_and, Bool.false_eq_true, if_false, if_true, Option.some_beq_some, Option.some_beq_none, Option.none_beq_some, reduceCtorEq, ite_true, ite_false]
                repeat ((with_reducible refine wpUT_step (fun K hK => ?_)); go_simp; first | (refine hK _ _ ?_; clear hK K) | (refine ⟨by (intro kk hkk; first | exact hkk.elim | (simp (disch := (simp; omega)) only [hp_drew, hp_drewN, hp_alloc, hp_set]; done) | (simp [hp_drew, hp_drewN, hp_alloc_if, hkk]; done) | fail), hK _ _ ?_⟩; clear hK K))
                refine wpUT_done ?_
                clear hgr
                clear hbc
                by_cases k2 : c.c.kd = 2
                · have f2 : (c.c.kd == 2) = true := by simpa using k2
                  have HNX := Lib.hid (nextL_get l last I c HAT.out k2)
                  have hpg := passB_get l last I c HAT.out k2
                  have HPG := Lib.hid hpg
                  clear hpg k2
                  by_cases hln : last < 0
                  · have fl : decide ((0 : Int) ≤ last) = false := decide_eq_false (by omega)
                    have hth : thereL l last = false := by unfold thereL; rw [fl]; rfl
                    have HTH := Lib.hid hth
                    clear hth
                    cases hco : (c.c.co == 0)
                    · have HPB : Hid (passB l last I = true) := Lib.hid (by rw [HPG.out, HTH.out, hco]; rfl)
                      go_upto_region 20 with fail
                      have hgr := fun (w0 W : World) (p : Addr) (hp : (fun k => k < wr.heap.size) p.block) => graft_cell (w0 := w0) (keep := (fun k => k < wr.heap.size)) W hp
                      refine wp_region_tree (fun k => k < wr.heap.size) [16] (.step 0 (.step 1 (.step 2 (.step 3 (.step 4 (.step 5 (.step 6 (.step 7 (.step 8 (.step 9 (.step 10 (.step 11 (.step 12 (.step 13 (.step 14 (.step 15 (.step 16 (.step 17 (.step 18 (.step 19 .done)))))))))))))))))))) (by kernel_rfl) (by kernel_rfl) ?_
                      simp only [slimTr, slimStep, Oper.slim, List.contains_cons, List.contains_nil, Option.map_none, Option.map_some, List.getElem?_toArray, List.getElem?_cons_zero, List.getElem?_cons_succ, Option.bind_some, beq_self_eq_true, Bool.or_false, Nat.reduceBEq, Nat.reduceAdd, Nat.zero_add]
                      repeat ((with_reducible refine wpSlimT_step (fun K hK => ?_)); go_simp; first | (refine hK _ _ ?_; clear hK K) | (refine ⟨by (intro kk hkk; first | (simp (disch := (simp; omega)) only [hp_drew, hp_drewN, hp_alloc, hp_set]; done) | (simp [hp_drew, hp_drewN, hp_alloc_if, hkk]; done) | fail), hK _ _ ?_⟩; clear hK K))
                      refine wpSlimT_done ?_
                      clear hgr
                      go_upto_region 22 with fail
                      generalize hw6 : (wr.alloc (.cells #[.int .u64 ((clrB left I : Nat) : Int), .int .i64 last] 61)).drew.drew = W6
                      have hN6 : wr.grownBy W6 none := by rw [← hw6]; exact ⟨rfl, rfl, rfl, (World.grownBy_alloc wr _ none).size, (World.grownBy_alloc wr _ none).block⟩
                      have hG6 : wr.grownBy W6 (some bm) := ⟨hN6.os, hN6.tape, hN6.output, hN6.size, fun k hk _ => hN6.block k hk (by simp)⟩
                      have hst6 : SeenSt l bm left last m N S I W6 := by
                        obtain ⟨N', S', s1, s2, s3, s4⟩ := HSTK.out
                        exact ⟨N', S', s1.kept hN6 (by simp), s2, s3, s4⟩
                      have HST6 := Lib.hid hst6
                      clear hst6 hN6
                      have hX6 : W6.heap[wr.heap.size]? = some (.cells #[.int .u64 ((clrB left I : Nat) : Int), .int .i64 last] 61) := by rw [← hw6]; exact heap_newA _ _
                      obtain ⟨n0, n1⟩ := cells2 hX6
                      have hB13 := lt_of_heap hX6
                      have cf6 := cell_of_row W6 bf 0 _ _ (0, 0) (HSCK.out.kept hG6).f
                      have hbf6 := lt_of_heap (HSCK.out.kept hG6).f
                      clear hw6 hX6
                      have HG6 := Lib.hid (gb_trans HGWK.out hG6)
                      have HG6r := Lib.hid hG6
                      clear hG6 cl cf e0 e1 f0 f1 f2 f3 f4 f5 f6 f7
                      cases hfb : firstB l left I
                      · have HFB := Lib.hid hfb
                        clear hfb
                        have HNN : Hid (NoneUpto l left last (I + 1)) := Lib.hid (fun k hk hb => by
                          by_cases e : k = I
                          · subst e; rw [HFB.out]; rfl
                          · exact hNo.out k (by omega) hb)
                        have HSTN : Hid (SeenSt l bm left last m N S (I + 1) W6) := Lib.hid (HST6.out.more (Nat.le_succ I))
                        go_wp2
                        go_roundw
                        case rel => exact ⟨I + 1, by omega, by go_num, by rw [HOV.out], HG6.out, HSTN, HNN⟩
                        case measure => simp [intOf]; omega
                      · have HFB := Lib.hid hfb
                        clear hfb
                        obtain ⟨N', S', s1, s2, s3, s4⟩ := HST6.out
                        have hmul : (I + 1) * costC l.length m ≤ l.length * costC l.length m := Nat.mul_le_mul_right _ hlt
                        rw [Nat.add_mul, Nat.one_mul] at hmul
                        obtain ⟨M', hpc, hM⟩ : ∃ M', popB l (clrB left I) = M' ∧ m = M' + 1 := ⟨_, rfl, by have := pop_clr l left I hleft hlt h20 HBT.out; have := HPOP.out; unfold popB at *; omega⟩
                        have hcc : costC l.length m = costB l.length M' := by rw [hM]; rfl
                        have hce := costB_eq l.length m
                        have HM := Lib.hid hM
                        have HCC := Lib.hid hcc
                        have HCALL := Lib.hid (IH.out M' hM (clrB left I) (last) W6 N' S' hpc (clrB_lt left I hleft) (by omega) (by omega) (gb_below HBWK.out HG6r.out HBWK.out.size HF.out.hm) (HSCK.out.kept HG6r.out) s1 (by rw [← hcc]; omega) (by rw [← hM]; exact s3))
                        have HS4 := Lib.hid s4
                        have HSB := Lib.hid s2
                        clear s1 s2 s3 s4 hmul hpc hM hcc hce
                        go_wp2_with (go_at_call 33; (with_reducible refine HCALL.out.mono ?_); rintro e w7 ⟨r, rfl, hg7, hT, hF7⟩; have HG7 := Lib.hid hg7; have HT := Lib.hid hT; have HF7 := Lib.hid hF7; clear hg7 hT hF7; cases r)
                        · have hst7 : SeenSt l bm left last m N S (I + 1) w7 := by
                            obtain ⟨_, N2, S2, u1, u2, u3, u4⟩ := HF7.out (by trivial)
                            exact ⟨N2, S2, u1, by have := HSB.out; have := HCC.out; rw [Nat.add_mul, Nat.one_mul]; omega, by rw [HM.out]; exact u3, fun x y hx => (u4 x y (by have := HM.out; omega)).trans (HS4.out x y hx)⟩
                          have HSTN := Lib.hid hst7
                          have HNN : Hid (NoneUpto l left last (I + 1)) := Lib.hid (fun k hk hb => by
                            by_cases e : k = I
                            · subst e; rw [HNX.out, (HF7.out (by trivial)).1]; simp
                            · exact hNo.out k (by omega) hb)
                          have HG71 := Lib.hid (gb_trans HG6.out HG7.out)
                          clear hst7
                          go_roundw
                          case rel => exact ⟨I + 1, by omega, by go_num, by rw [HOV.out], HG71.out, HSTN, HNN⟩
                          case measure => simp [intOf]; omega
                        · go_ret
                          refine ⟨true, rfl, gb_trans HGW.out (gb_trans HG6.out HG7.out), fun _ => ?_, (fun h => (by cases h))⟩
                          exact alive_some l left _ hleft h20 HF.out.kd I hlt HBT.out HFB.out HPB.out (by rw [HNX.out]; exact HT.out (by trivial))
                    · have HPB : Hid (passB l last I = false) := Lib.hid (by rw [HPG.out, HTH.out, hco]; rfl)
                      go_upto_region 20 with fail
                      have hgr := fun (w0 W : World) (p : Addr) (hp : (fun k => k < wr.heap.size) p.block) => graft_cell (w0 := w0) (keep := (fun k => k < wr.heap.size)) W hp
                      refine wp_region_tree (fun k => k < wr.heap.size) [16] (.step 0 (.step 1 (.step 2 (.step 3 (.step 4 (.step 5 (.step 6 (.step 7 (.step 8 (.step 9 (.step 10 (.step 11 (.step 12 (.step 13 (.step 14 (.step 15 (.step 16 (.step 17 (.step 18 (.step 19 .done)))))))))))))))))))) (by kernel_rfl) (by kernel_rfl) ?_
                      simp only [slimTr, slimStep, Oper.slim, List.contains_cons, List.contains_nil, Option.map_none, Option.map_some, List.getElem?_toArray, List.getElem?_cons_zero, List.getElem?_cons_succ, Option.bind_some, beq_self_eq_true, Bool.or_false, Nat.reduceBEq, Nat.reduceAdd, Nat.zero_add]
                      repeat ((with_reducible refine wpSlimT_step (fun K hK => ?_)); go_simp; first | (refine hK _ _ ?_; clear hK K) | (refine ⟨by (intro kk hkk; first | (simp (disch := (simp; omega)) only [hp_drew, hp_drewN, hp_alloc, hp_set]; done) | (simp [hp_drew, hp_drewN, hp_alloc_if, hkk]; done) | fail), hK _ _ ?_⟩; clear hK K))
                      refine wpSlimT_done ?_
                      clear hgr
                      generalize hw6 : (wr.alloc (.cells #[.int .u64 ((clrB left I : Nat) : Int), .int .i64 (I : Int)] 61)).drew.drew = W6
                      have hN6 : wr.grownBy W6 none := by rw [← hw6]; exact ⟨rfl, rfl, rfl, (World.grownBy_alloc wr _ none).size, (World.grownBy_alloc wr _ none).block⟩
                      have hG6 : wr.grownBy W6 (some bm) := ⟨hN6.os, hN6.tape, hN6.output, hN6.size, fun k hk _ => hN6.block k hk (by simp)⟩
                      have hst6 : SeenSt l bm left last m N S I W6 := by
                        obtain ⟨N', S', s1, s2, s3, s4⟩ := HSTK.out
                        exact ⟨N', S', s1.kept hN6 (by simp), s2, s3, s4⟩
                      have HST6 := Lib.hid hst6
                      clear hst6 hN6
                      have hX6 : W6.heap[wr.heap.size]? = some (.cells #[.int .u64 ((clrB left I : Nat) : Int), .int .i64 (I : Int)] 61) := by rw [← hw6]; exact heap_newA _ _
                      obtain ⟨n0, n1⟩ := cells2 hX6
                      have hB13 := lt_of_heap hX6
                      have cf6 := cell_of_row W6 bf 0 _ _ (0, 0) (HSCK.out.kept hG6).f
                      have hbf6 := lt_of_heap (HSCK.out.kept hG6).f
                      clear hw6 hX6
                      have HG6 := Lib.hid (gb_trans HGWK.out hG6)
                      have HG6r := Lib.hid hG6
                      clear hG6 cl cf e0 e1 f0 f1 f2 f3 f4 f5 f6 f7
                      have HNN : Hid (NoneUpto l left last (I + 1)) := Lib.hid (fun k hk hb => by
                        by_cases e : k = I
                        · subst e; rw [HPB.out]; simp
                        · exact hNo.out k (by omega) hb)
                      have HSTN := Lib.hid (HST6.out.more (Nat.le_succ I))
                      go_wp2
                      go_roundw
                      case rel => exact ⟨I + 1, by omega, by go_num, by rw [HOV.out], HG6.out, HSTN, HNN⟩
                      case measure => simp [intOf]; omega
                  · obtain ⟨J, hJ⟩ : ∃ J : Nat, last = (J : Int) := ⟨last.toNat, by omega⟩
                    subst hJ
                    have fl : decide ((0 : Int) ≤ (J : Int)) = true := decide_eq_true (by omega)
                    have hJl : J < l.length := by omega
                    obtain ⟨d, hd⟩ : ∃ d, l[J]? = some d := ⟨_, List.getElem?_eq_getElem hJl⟩
                    obtain ⟨-, b', o', hab, hbb, d0, d1, d2, d3, d4, d5, d6, d7⟩ := RowRd.at (HF.out.rd.below HBWK.out) (rcs_at hd)
                    cases hab
                    have HD' := Lib.hid hd
                    have hth := thereL_at l J d (atC_of hd)
                    have HTH := Lib.hid hth
                    clear hth hd
                    cases hdk : (d.c.kd == 1)
                    · have HTH2 : Hid (thereL l (J : Int) = false) := Lib.hid (by rw [HTH.out, hdk])
                      cases hco : (c.c.co == 0)
                      · have HPB : Hid (passB l (J : Int) I = true) := Lib.hid (by rw [HPG.out, HTH2.out, hco]; rfl)
                        go_upto_region 20 with fail
                        have hgr := fun (w0 W : World) (p : Addr) (hp : (fun k => k < wr.heap.size) p.block) => graft_cell (w0 := w0) (keep := (fun k => k < wr.heap.size)) W hp
                        refine wp_region_tree (fun k => k < wr.heap.size) [16] (.step 0 (.step 1 (.step 2 (.step 3 (.step 4 (.step 5 (.step 6 (.step 7 (.step 8 (.step 9 (.step 10 (.step 11 (.step 12 (.step 13 (.step 14 (.step 15 (.step 16 (.step 17 (.step 18 (.step 19 .done)))))))))))))))))))) (by kernel_rfl) (by kernel_rfl) ?_
                        simp only [slimTr, slimStep, Oper.slim, List.contains_cons, List.contains_nil, Option.map_none, Option.map_some, List.getElem?_toArray, List.getElem?_cons_zero, List.getElem?_cons_succ, Option.bind_some, beq_self_eq_true, Bool.or_false, Nat.reduceBEq, Nat.reduceAdd, Nat.zero_add]
                        repeat ((with_reducible refine wpSlimT_step (fun K hK => ?_)); go_simp; first | (refine hK _ _ ?_; clear hK K) | (refine ⟨by (intro kk hkk; first | (simp (disch := (simp; omega)) only [hp_drew, hp_drewN, hp_alloc, hp_set]; done) | (simp [hp_drew, hp_drewN, hp_alloc_if, hkk]; done) | fail), hK _ _ ?_⟩; clear hK K))
                        refine wpSlimT_done ?_
                        clear hgr
                        go_upto_region 22 with fail
                        generalize hw6 : (wr.alloc (.cells #[.int .u64 ((clrB left I : Nat) : Int), .int .i64 (J : Int)] 61)).drew.drew = W6
                        have hN6 : wr.grownBy W6 none := by rw [← hw6]; exact ⟨rfl, rfl, rfl, (World.grownBy_alloc wr _ none).size, (World.grownBy_alloc wr _ none).block⟩
                        have hG6 : wr.grownBy W6 (some bm) := ⟨hN6.os, hN6.tape, hN6.output, hN6.size, fun k hk _ => hN6.block k hk (by simp)⟩
                        have hst6 : SeenSt l bm left (J : Int) m N S I W6 := by
                          obtain ⟨N', S', s1, s2, s3, s4⟩ := HSTK.out
                          exact ⟨N', S', s1.kept hN6 (by simp), s2, s3, s4⟩
                        have HST6 := Lib.hid hst6
                        clear hst6 hN6
                        have hX6 : W6.heap[wr.heap.size]? = some (.cells #[.int .u64 ((clrB left I : Nat) : Int), .int .i64 (J : Int)] 61) := by rw [← hw6]; exact heap_newA _ _
                        obtain ⟨n0, n1⟩ := cells2 hX6
                        have hB13 := lt_of_heap hX6
                        have cf6 := cell_of_row W6 bf 0 _ _ (0, 0) (HSCK.out.kept hG6).f
                        have hbf6 := lt_of_heap (HSCK.out.kept hG6).f
                        clear hw6 hX6
                        have HG6 := Lib.hid (gb_trans HGWK.out hG6)
                        have HG6r := Lib.hid hG6
                        clear hG6 cl cf e0 e1 f0 f1 f2 f3 f4 f5 f6 f7
                        cases hfb : firstB l left I
                        · have HFB := Lib.hid hfb
                          clear hfb
                          have HNN : Hid (NoneUpto l left (J : Int) (I + 1)) := Lib.hid (fun k hk hb => by
                            by_cases e : k = I
                            · subst e; rw [HFB.out]; rfl
                            · exact hNo.out k (by omega) hb)
                          have HSTN : Hid (SeenSt l bm left (J : Int) m N S (I + 1) W6) := Lib.hid (HST6.out.more (Nat.le_succ I))
                          go_wp2
                          go_roundw
                          case rel => exact ⟨I + 1, by omega, by go_num, by rw [HOV.out], HG6.out, HSTN, HNN⟩
                          case measure => simp [intOf]; omega
                        · have HFB := Lib.hid hfb
                          clear hfb
                          obtain ⟨N', S', s1, s2, s3, s4⟩ := HST6.out
                          have hmul : (I + 1) * costC l.length m ≤ l.length * costC l.length m := Nat.mul_le_mul_right _ hlt
                          rw [Nat.add_mul, Nat.one_mul] at hmul
                          obtain ⟨M', hpc, hM⟩ : ∃ M', popB l (clrB left I) = M' ∧ m = M' + 1 := ⟨_, rfl, by have := pop_clr l left I hleft hlt h20 HBT.out; have := HPOP.out; unfold popB at *; omega⟩
                          have hcc : costC l.length m = costB l.length M' := by rw [hM]; rfl
                          have hce := costB_eq l.length m
                          have HM := Lib.hid hM
                          have HCC := Lib.hid hcc
                          have HCALL := Lib.hid (IH.out M' hM (clrB left I) ((J : Int)) W6 N' S' hpc (clrB_lt left I hleft) (by omega) (by omega) (gb_below HBWK.out HG6r.out HBWK.out.size HF.out.hm) (HSCK.out.kept HG6r.out) s1 (by rw [← hcc]; omega) (by rw [← hM]; exact s3))
                          have HS4 := Lib.hid s4
                          have HSB := Lib.hid s2
                          clear s1 s2 s3 s4 hmul hpc hM hcc hce
                          go_wp2_with (go_at_call 33; (with_reducible refine HCALL.out.mono ?_); rintro e w7 ⟨r, rfl, hg7, hT, hF7⟩; have HG7 := Lib.hid hg7; have HT := Lib.hid hT; have HF7 := Lib.hid hF7; clear hg7 hT hF7; cases r)
                          · have hst7 : SeenSt l bm left (J : Int) m N S (I + 1) w7 := by
                              obtain ⟨_, N2, S2, u1, u2, u3, u4⟩ := HF7.out (by trivial)
                              exact ⟨N2, S2, u1, by have := HSB.out; have := HCC.out; rw [Nat.add_mul, Nat.one_mul]; omega, by rw [HM.out]; exact u3, fun x y hx => (u4 x y (by have := HM.out; omega)).trans (HS4.out x y hx)⟩
                            have HSTN := Lib.hid hst7
                            have HNN : Hid (NoneUpto l left (J : Int) (I + 1)) := Lib.hid (fun k hk hb => by
                              by_cases e : k = I
                              · subst e; rw [HNX.out, (HF7.out (by trivial)).1]; simp
                              · exact hNo.out k (by omega) hb)
                            have HG71 := Lib.hid (gb_trans HG6.out HG7.out)
                            clear hst7
                            go_roundw
                            case rel => exact ⟨I + 1, by omega, by go_num, by rw [HOV.out], HG71.out, HSTN, HNN⟩
                            case measure => simp [intOf]; omega
                          · go_ret
                            refine ⟨true, rfl, gb_trans HGW.out (gb_trans HG6.out HG7.out), fun _ => ?_, (fun h => (by cases h))⟩
                            exact alive_some l left _ hleft h20 HF.out.kd I hlt HBT.out HFB.out HPB.out (by rw [HNX.out]; exact HT.out (by trivial))
                      · have HPB : Hid (passB l (J : Int) I = false) := Lib.hid (by rw [HPG.out, HTH2.out, hco]; rfl)
                        go_upto_region 20 with fail
                        have hgr := fun (w0 W : World) (p : Addr) (hp : (fun k => k < wr.heap.size) p.block) => graft_cell (w0 := w0) (keep := (fun k => k < wr.heap.size)) W hp
                        refine wp_region_tree (fun k => k < wr.heap.size) [16] (.step 0 (.step 1 (.step 2 (.step 3 (.step 4 (.step 5 (.step 6 (.step 7 (.step 8 (.step 9 (.step 10 (.step 11 (.step 12 (.step 13 (.step 14 (.step 15 (.step 16 (.step 17 (.step 18 (.step 19 .done)))))))))))))))))))) (by kernel_rfl) (by kernel_rfl) ?_
                        simp only [slimTr, slimStep, Oper.slim, List.contains_cons, List.contains_nil, Option.map_none, Option.map_some, List.getElem?_toArray, List.getElem?_cons_zero, List.getElem?_cons_succ, Option.bind_some, beq_self_eq_true, Bool.or_false, Nat.reduceBEq, Nat.reduceAdd, Nat.zero_add]
                        repeat ((with_reducible refine wpSlimT_step (fun K hK => ?_)); go_simp; first | (refine hK _ _ ?_; clear hK K) | (refine ⟨by (intro kk hkk; first | (simp (disch := (simp; omega)) only [hp_drew, hp_drewN, hp_alloc, hp_set]; done) | (simp [hp_drew, hp_drewN, hp_alloc_if, hkk]; done) | fail), hK _ _ ?_⟩; clear hK K))
                        refine wpSlimT_done ?_
                        clear hgr
                        generalize hw6 : (wr.alloc (.cells #[.int .u64 ((clrB left I : Nat) : Int), .int .i64 (I : Int)] 61)).drew.drew = W6
                        have hN6 : wr.grownBy W6 none := by rw [← hw6]; exact ⟨rfl, rfl, rfl, (World.grownBy_alloc wr _ none).size, (World.grownBy_alloc wr _ none).block⟩
                        have hG6 : wr.grownBy W6 (some bm) := ⟨hN6.os, hN6.tape, hN6.output, hN6.size, fun k hk _ => hN6.block k hk (by simp)⟩
                        have hst6 : SeenSt l bm left (J : Int) m N S I W6 := by
                          obtain ⟨N', S', s1, s2, s3, s4⟩ := HSTK.out
                          exact ⟨N', S', s1.kept hN6 (by simp), s2, s3, s4⟩
                        have HST6 := Lib.hid hst6
                        clear hst6 hN6
                        have hX6 : W6.heap[wr.heap.size]? = some (.cells #[.int .u64 ((clrB left I : Nat) : Int), .int .i64 (I : Int)] 61) := by rw [← hw6]; exact heap_newA _ _
                        obtain ⟨n0, n1⟩ := cells2 hX6
                        have hB13 := lt_of_heap hX6
                        have cf6 := cell_of_row W6 bf 0 _ _ (0, 0) (HSCK.out.kept hG6).f
                        have hbf6 := lt_of_heap (HSCK.out.kept hG6).f
                        clear hw6 hX6
                        have HG6 := Lib.hid (gb_trans HGWK.out hG6)
                        have HG6r := Lib.hid hG6
                        clear hG6 cl cf e0 e1 f0 f1 f2 f3 f4 f5 f6 f7
                        have HNN : Hid (NoneUpto l left (J : Int) (I + 1)) := Lib.hid (fun k hk hb => by
                          by_cases e : k = I
                          · subst e; rw [HPB.out]; simp
                          · exact hNo.out k (by omega) hb)
                        have HSTN := Lib.hid (HST6.out.more (Nat.le_succ I))
                        go_wp2
                        go_roundw
                        case rel => exact ⟨I + 1, by omega, by go_num, by rw [HOV.out], HG6.out, HSTN, HNN⟩
                        case measure => simp [intOf]; omega
                    · have HTH2 : Hid (thereL l (J : Int) = true) := Lib.hid (by rw [HTH.out, hdk])
                      cases hco : (c.c.co == 0)
                      · have HPB : Hid (passB l (J : Int) I = false) := Lib.hid (by rw [HPG.out, HTH2.out, hco]; rfl)
                        go_upto_region 20 with fail
                        have hgr := fun (w0 W : World) (p : Addr) (hp : (fun k => k < wr.heap.size) p.block) => graft_cell (w0 := w0) (keep := (fun k => k < wr.heap.size)) W hp
                        refine wp_region_tree (fun k => k < wr.heap.size) [16] (.step 0 (.step 1 (.step 2 (.step 3 (.step 4 (.step 5 (.step 6 (.step 7 (.step 8 (.step 9 (.step 10 (.step 11 (.step 12 (.step 13 (.step 14 (.step 15 (.step 16 (.step 17 (.step 18 (.step 19 .done)))))))))))))))))))) (by kernel_rfl) (by kernel_rfl) ?_
                        simp only [slimTr, slimStep, Oper.slim, List.contains_cons, List.contains_nil, Option.map_none, Option.map_some, List.getElem?_toArray, List.getElem?_cons_zero, List.getElem?_cons_succ, Option.bind_some, beq_self_eq_true, Bool.or_false, Nat.reduceBEq, Nat.reduceAdd, Nat.zero_add]
                        repeat ((with_reducible refine wpSlimT_step (fun K hK => ?_)); go_simp; first | (refine hK _ _ ?_; clear hK K) | (refine ⟨by (intro kk hkk; first | (simp (disch := (simp; omega)) only [hp_drew, hp_drewN, hp_alloc, hp_set]; done) | (simp [hp_drew, hp_drewN, hp_alloc_if, hkk]; done) | fail), hK _ _ ?_⟩; clear hK K))
                        refine wpSlimT_done ?_
                        clear hgr
                        generalize hw6 : (wr.alloc (.cells #[.int .u64 ((clrB left I : Nat) : Int), .int .i64 (I : Int)] 61)).drew.drew = W6
                        have hN6 : wr.grownBy W6 none := by rw [← hw6]; exact ⟨rfl, rfl, rfl, (World.grownBy_alloc wr _ none).size, (World.grownBy_alloc wr _ none).block⟩
                        have hG6 : wr.grownBy W6 (some bm) := ⟨hN6.os, hN6.tape, hN6.output, hN6.size, fun k hk _ => hN6.block k hk (by simp)⟩
                        have hst6 : SeenSt l bm left (J : Int) m N S I W6 := by
                          obtain ⟨N', S', s1, s2, s3, s4⟩ := HSTK.out
                          exact ⟨N', S', s1.kept hN6 (by simp), s2, s3, s4⟩
                        have HST6 := Lib.hid hst6
                        clear hst6 hN6
                        have hX6 : W6.heap[wr.heap.size]? = some (.cells #[.int .u64 ((clrB left I : Nat) : Int), .int .i64 (I : Int)] 61) := by rw [← hw6]; exact heap_newA _ _
                        obtain ⟨n0, n1⟩ := cells2 hX6
                        have hB13 := lt_of_heap hX6
                        have cf6 := cell_of_row W6 bf 0 _ _ (0, 0) (HSCK.out.kept hG6).f
                        have hbf6 := lt_of_heap (HSCK.out.kept hG6).f
                        clear hw6 hX6
                        have HG6 := Lib.hid (gb_trans HGWK.out hG6)
                        have HG6r := Lib.hid hG6
                        clear hG6 cl cf e0 e1 f0 f1 f2 f3 f4 f5 f6 f7
                        have HNN : Hid (NoneUpto l left (J : Int) (I + 1)) := Lib.hid (fun k hk hb => by
                          by_cases e : k = I
                          · subst e; rw [HPB.out]; simp
                          · exact hNo.out k (by omega) hb)
                        have HSTN := Lib.hid (HST6.out.more (Nat.le_succ I))
                        go_wp2
                        go_roundw
                        case rel => exact ⟨I + 1, by omega, by go_num, by rw [HOV.out], HG6.out, HSTN, HNN⟩
                        case measure => simp [intOf]; omega
                      · have HEQ : Hid (∀ w', Below wr.heap.size wr w' → Calls Try.prog 35 #[.slice d.c.va d.c.vl d.c.vc, .slice c.c.ga c.c.gl c.c.gc] w' fun e w'' => e = .returned (.bool (decide (d.val = c.got))) ∧ w' = w'') := Lib.hid (fun w' hb' =>
                          bytes_equal _ _ d.val c.got w' (((HF.out.all d (List.mem_of_getElem? HD'.out)).1.below HBWK.out).below hb') (((HF.out.all c (List.mem_of_getElem? HC.out)).2.below HBWK.out).below hb'))
                        have hvl := valL_at l J d (atC_of HD'.out) hdk
                        have HVL := Lib.hid hvl
                        clear hvl
                        cases hq : decide (d.val = c.got)
                        · have HPB : Hid (passB l (J : Int) I = false) := Lib.hid (by rw [HPG.out, HTH2.out, hco, HVL.out]; have : c.got ≠ d.val := fun e => (of_decide_eq_false hq) e.symm; simp [this])
                          rw [hq] at HEQ
                          have HQ := Lib.hid hq
                          clear hq
                          go_upto_region 20 with fail
                          have hgr := fun (w0 W : World) (p : Addr) (hp : (fun k => k < wr.heap.size) p.block) => graft_cell (w0 := w0) (keep := (fun k => k < wr.heap.size)) W hp
                          refine wp_region_tree (fun k => k < wr.heap.size) [16] (.step 0 (.step 1 (.step 2 (.step 3 (.step 4 (.step 5 (.step 6 (.step 7 (.step 8 (.step 9 (.step 10 (.step 11 (.step 12 (.step 13 (.step 14 (.step 15 (.step 16 (.step 17 (.step 18 (.step 19 .done)))))))))))))))))))) (by kernel_rfl) (by kernel_rfl) ?_
                          simp only [slimTr, slimStep, Oper.slim, List.contains_cons, List.contains_nil, Option.map_none, Option.map_some, List.getElem?_toArray, List.getElem?_cons_zero, List.getElem?_cons_succ, Option.bind_some, beq_self_eq_true, Bool.or_false, Nat.reduceBEq, Nat.reduceAdd, Nat.zero_add]
                          repeat ((with_reducible refine wpSlimT_step (fun K hK => ?_)); go_simp; first | (refine hK _ _ ?_; clear hK K) | (refine ⟨by (intro kk hkk; first | (simp (disch := (simp; omega)) only [hp_drew, hp_drewN, hp_alloc, hp_set]; done) | (simp [hp_drew, hp_drewN, hp_alloc_if, hkk]; done) | fail), hK _ _ ?_⟩; clear hK K)| (go_at_call 35; (with_reducible refine (HEQ.out _ (by (repeat' (first | (with_reducible exact RowKit.Below.refl _ _) | (with_reducible assumption) | (with_reducible refine RowKit.Below.drew ?_) | (with_reducible refine RowKit.Below.alloc ?_ ?_ _) | omega | (simp; done) | (simp; omega))))).mono ?_); rintro e wc ⟨rfl, rfl⟩; refine ⟨_, rfl, (fun kk hkk => rfl), hK _ _ ?_⟩; clear hK K))
                          refine wpSlimT_done ?_
                          clear hgr
                          generalize hw6 : (wr.alloc (.cells #[.int .u64 ((clrB left I : Nat) : Int), .int .i64 (I : Int)] 61)).drew.drew = W6
                          have hN6 : wr.grownBy W6 none := by rw [← hw6]; exact ⟨rfl, rfl, rfl, (World.grownBy_alloc wr _ none).size, (World.grownBy_alloc wr _ none).block⟩
                          have hG6 : wr.grownBy W6 (some bm) := ⟨hN6.os, hN6.tape, hN6.output, hN6.size, fun k hk _ => hN6.block k hk (by simp)⟩
                          have hst6 : SeenSt l bm left (J : Int) m N S I W6 := by
                            obtain ⟨N', S', s1, s2, s3, s4⟩ := HSTK.out
                            exact ⟨N', S', s1.kept hN6 (by simp), s2, s3, s4⟩
                          have HST6 := Lib.hid hst6
                          clear hst6 hN6
                          have hX6 : W6.heap[wr.heap.size]? = some (.cells #[.int .u64 ((clrB left I : Nat) : Int), .int .i64 (I : Int)] 61) := by rw [← hw6]; exact heap_newA _ _
                          obtain ⟨n0, n1⟩ := cells2 hX6
                          have hB13 := lt_of_heap hX6
                          have cf6 := cell_of_row W6 bf 0 _ _ (0, 0) (HSCK.out.kept hG6).f
                          have hbf6 := lt_of_heap (HSCK.out.kept hG6).f
                          clear hw6 hX6
                          have HG6 := Lib.hid (gb_trans HGWK.out hG6)
                          have HG6r := Lib.hid hG6
                          clear hG6 cl cf e0 e1 f0 f1 f2 f3 f4 f5 f6 f7
                          have HNN : Hid (NoneUpto l left (J : Int) (I + 1)) := Lib.hid (fun k hk hb => by
                            by_cases e : k = I
                            · subst e; rw [HPB.out]; simp
                            · exact hNo.out k (by omega) hb)
                          have HSTN := Lib.hid (HST6.out.more (Nat.le_succ I))
                          go_wp2
                          go_roundw
                          case rel => exact ⟨I + 1, by omega, by go_num, by rw [HOV.out], HG6.out, HSTN, HNN⟩
                          case measure => simp [intOf]; omega
                        · have HPB : Hid (passB l (J : Int) I = true) := Lib.hid (by rw [HPG.out, HTH2.out, hco, HVL.out]; have : c.got = d.val := (of_decide_eq_true hq).symm; simp [this])
                          rw [hq] at HEQ
                          have HQ := Lib.hid hq
                          clear hq
                          go_upto_region 20 with fail
                          have hgr := fun (w0 W : World) (p : Addr) (hp : (fun k => k < wr.heap.size) p.block) => graft_cell (w0 := w0) (keep := (fun k => k < wr.heap.size)) W hp
                          refine wp_region_tree (fun k => k < wr.heap.size) [16] (.step 0 (.step 1 (.step 2 (.step 3 (.step 4 (.step 5 (.step 6 (.step 7 (.step 8 (.step 9 (.step 10 (.step 11 (.step 12 (.step 13 (.step 14 (.step 15 (.step 16 (.step 17 (.step 18 (.step 19 .done)))))))))))))))))))) (by kernel_rfl) (by kernel_rfl) ?_
                          simp only [slimTr, slimStep, Oper.slim, List.contains_cons, List.contains_nil, Option.map_none, Option.map_some, List.getElem?_toArray, List.getElem?_cons_zero, List.getElem?_cons_succ, Option.bind_some, beq_self_eq_true, Bool.or_false, Nat.reduceBEq, Nat.reduceAdd, Nat.zero_add]
                          repeat ((with_reducible refine wpSlimT_step (fun K hK => ?_)); go_simp; first | (refine hK _ _ ?_; clear hK K) | (refine ⟨by (intro kk hkk; first | (simp (disch := (simp; omega)) only [hp_drew, hp_drewN, hp_alloc, hp_set]; done) | (simp [hp_drew, hp_drewN, hp_alloc_if, hkk]; done) | fail), hK _ _ ?_⟩; clear hK K)| (go_at_call 35; (with_reducible refine (HEQ.out _ (by (repeat' (first | (with_reducible exact RowKit.Below.refl _ _) | (with_reducible assumption) | (with_reducible refine RowKit.Below.drew ?_) | (with_reducible refine RowKit.Below.alloc ?_ ?_ _) | omega | (simp; done) | (simp; omega))))).mono ?_); rintro e wc ⟨rfl, rfl⟩; refine ⟨_, rfl, (fun kk hkk => rfl), hK _ _ ?_⟩; clear hK K))
                          refine wpSlimT_done ?_
                          clear hgr
                          go_upto_region 22 with fail
                          generalize hw6 : (wr.alloc (.cells #[.int .u64 ((clrB left I : Nat) : Int), .int .i64 (J : Int)] 61)).drew.drew = W6
                          have hN6 : wr.grownBy W6 none := by rw [← hw6]; exact ⟨rfl, rfl, rfl, (World.grownBy_alloc wr _ none).size, (World.grownBy_alloc wr _ none).block⟩
                          have hG6 : wr.grownBy W6 (some bm) := ⟨hN6.os, hN6.tape, hN6.output, hN6.size, fun k hk _ => hN6.block k hk (by simp)⟩
                          have hst6 : SeenSt l bm left (J : Int) m N S I W6 := by
                            obtain ⟨N', S', s1, s2, s3, s4⟩ := HSTK.out
                            exact ⟨N', S', s1.kept hN6 (by simp), s2, s3, s4⟩
                          have HST6 := Lib.hid hst6
                          clear hst6 hN6
                          have hX6 : W6.heap[wr.heap.size]? = some (.cells #[.int .u64 ((clrB left I : Nat) : Int), .int .i64 (J : Int)] 61) := by rw [← hw6]; exact heap_newA _ _
                          obtain ⟨n0, n1⟩ := cells2 hX6
                          have hB13 := lt_of_heap hX6
                          have cf6 := cell_of_row W6 bf 0 _ _ (0, 0) (HSCK.out.kept hG6).f
                          have hbf6 := lt_of_heap (HSCK.out.kept hG6).f
                          clear hw6 hX6
                          have HG6 := Lib.hid (gb_trans HGWK.out hG6)
                          have HG6r := Lib.hid hG6
                          clear hG6 cl cf e0 e1 f0 f1 f2 f3 f4 f5 f6 f7
                          cases hfb : firstB l left I
                          · have HFB := Lib.hid hfb
                            clear hfb
                            have HNN : Hid (NoneUpto l left (J : Int) (I + 1)) := Lib.hid (fun k hk hb => by
                              by_cases e : k = I
                              · subst e; rw [HFB.out]; rfl
                              · exact hNo.out k (by omega) hb)
                            have HSTN : Hid (SeenSt l bm left (J : Int) m N S (I + 1) W6) := Lib.hid (HST6.out.more (Nat.le_succ I))
                            go_wp2
                            go_roundw
                            case rel => exact ⟨I + 1, by omega, by go_num, by rw [HOV.out], HG6.out, HSTN, HNN⟩
                            case measure => simp [intOf]; omega
                          · have HFB := Lib.hid hfb
                            clear hfb
                            obtain ⟨N', S', s1, s2, s3, s4⟩ := HST6.out
                            have hmul : (I + 1) * costC l.length m ≤ l.length * costC l.length m := Nat.mul_le_mul_right _ hlt
                            rw [Nat.add_mul, Nat.one_mul] at hmul
                            obtain ⟨M', hpc, hM⟩ : ∃ M', popB l (clrB left I) = M' ∧ m = M' + 1 := ⟨_, rfl, by have := pop_clr l left I hleft hlt h20 HBT.out; have := HPOP.out; unfold popB at *; omega⟩
                            have hcc : costC l.length m = costB l.length M' := by rw [hM]; rfl
                            have hce := costB_eq l.length m
                            have HM := Lib.hid hM
                            have HCC := Lib.hid hcc
                            have HCALL := Lib.hid (IH.out M' hM (clrB left I) ((J : Int)) W6 N' S' hpc (clrB_lt left I hleft) (by omega) (by omega) (gb_below HBWK.out HG6r.out HBWK.out.size HF.out.hm) (HSCK.out.kept HG6r.out) s1 (by rw [← hcc]; omega) (by rw [← hM]; exact s3))
                            have HS4 := Lib.hid s4
                            have HSB := Lib.hid s2
                            clear s1 s2 s3 s4 hmul hpc hM hcc hce
                            go_wp2_with (go_at_call 33; (with_reducible refine HCALL.out.mono ?_); rintro e w7 ⟨r, rfl, hg7, hT, hF7⟩; have HG7 := Lib.hid hg7; have HT := Lib.hid hT; have HF7 := Lib.hid hF7; clear hg7 hT hF7; cases r)
                            · have hst7 : SeenSt l bm left (J : Int) m N S (I + 1) w7 := by
                                obtain ⟨_, N2, S2, u1, u2, u3, u4⟩ := HF7.out (by trivial)
                                exact ⟨N2, S2, u1, by have := HSB.out; have := HCC.out; rw [Nat.add_mul, Nat.one_mul]; omega, by rw [HM.out]; exact u3, fun x y hx => (u4 x y (by have := HM.out; omega)).trans (HS4.out x y hx)⟩
                              have HSTN := Lib.hid hst7
                              have HNN : Hid (NoneUpto l left (J : Int) (I + 1)) := Lib.hid (fun k hk hb => by
                                by_cases e : k = I
                                · subst e; rw [HNX.out, (HF7.out (by trivial)).1]; simp
                                · exact hNo.out k (by omega) hb)
                              have HG71 := Lib.hid (gb_trans HG6.out HG7.out)
                              clear hst7
                              go_roundw
                              case rel => exact ⟨I + 1, by omega, by go_num, by rw [HOV.out], HG71.out, HSTN, HNN⟩
                              case measure => simp [intOf]; omega
                            · go_ret
                              refine ⟨true, rfl, gb_trans HGW.out (gb_trans HG6.out HG7.out), fun _ => ?_, (fun h => (by cases h))⟩
                              exact alive_some l left _ hleft h20 HF.out.kd I hlt HBT.out HFB.out HPB.out (by rw [HNX.out]; exact HT.out (by trivial))
                · have f2 : (c.c.kd == 2) = false := by simpa using k2
                  have HNX := Lib.hid (nextL_other l last I c HAT.out k2)
                  have HPB := Lib.hid (passB_other l last I c HAT.out k2)
                  clear k2
                  go_upto_region 22 with fail
                  generalize hw6 : (wr.alloc (.cells #[.int .u64 ((clrB left I : Nat) : Int), .int .i64 (I : Int)] 61)).drew = W6
                  have hN6 : wr.grownBy W6 none := by rw [← hw6]; exact ⟨rfl, rfl, rfl, (World.grownBy_alloc wr _ none).size, (World.grownBy_alloc wr _ none).block⟩
                  have hG6 : wr.grownBy W6 (some bm) := ⟨hN6.os, hN6.tape, hN6.output, hN6.size, fun k hk _ => hN6.block k hk (by simp)⟩
                  have hst6 : SeenSt l bm left last m N S I W6 := by
                    obtain ⟨N', S', s1, s2, s3, s4⟩ := HSTK.out
                    exact ⟨N', S', s1.kept hN6 (by simp), s2, s3, s4⟩
                  have HST6 := Lib.hid hst6
                  clear hst6 hN6
                  have hX6 : W6.heap[wr.heap.size]? = some (.cells #[.int .u64 ((clrB left I : Nat) : Int), .int .i64 (I : Int)] 61) := by rw [← hw6]; exact heap_newA _ _
                  obtain ⟨n0, n1⟩ := cells2 hX6
                  have hB13 := lt_of_heap hX6
                  have cf6 := cell_of_row W6 bf 0 _ _ (0, 0) (HSCK.out.kept hG6).f
                  have hbf6 := lt_of_heap (HSCK.out.kept hG6).f
                  clear hw6 hX6
                  have HG6 := Lib.hid (gb_trans HGWK.out hG6)
                  have HG6r := Lib.hid hG6
                  clear hG6 cl cf e0 e1 f0 f1 f2 f3 f4 f5 f6 f7
                  cases hfb : firstB l left I
                  · have HFB := Lib.hid hfb
                    clear hfb
                    have HNN : Hid (NoneUpto l left last (I + 1)) := Lib.hid (fun k hk hb => by
                      by_cases e : k = I
                      · subst e; rw [HFB.out]; rfl
                      · exact hNo.out k (by omega) hb)
                    have HSTN : Hid (SeenSt l bm left last m N S (I + 1) W6) := Lib.hid (HST6.out.more (Nat.le_succ I))
                    go_wp2
                    go_roundw
                    case rel => exact ⟨I + 1, by omega, by go_num, by rw [HOV.out], HG6.out, HSTN, HNN⟩
                    case measure => simp [intOf]; omega
                  · have HFB := Lib.hid hfb
                    clear hfb
                    obtain ⟨N', S', s1, s2, s3, s4⟩ := HST6.out
                    have hmul : (I + 1) * costC l.length m ≤ l.length * costC l.length m := Nat.mul_le_mul_right _ hlt
                    rw [Nat.add_mul, Nat.one_mul] at hmul
                    obtain ⟨M', hpc, hM⟩ : ∃ M', popB l (clrB left I) = M' ∧ m = M' + 1 := ⟨_, rfl, by have := pop_clr l left I hleft hlt h20 HBT.out; have := HPOP.out; unfold popB at *; omega⟩
                    have hcc : costC l.length m = costB l.length M' := by rw [hM]; rfl
                    have hce := costB_eq l.length m
                    have HM := Lib.hid hM
                    have HCC := Lib.hid hcc
                    have HCALL := Lib.hid (IH.out M' hM (clrB left I) ((I : Int)) W6 N' S' hpc (clrB_lt left I hleft) (by omega) (by omega) (gb_below HBWK.out HG6r.out HBWK.out.size HF.out.hm) (HSCK.out.kept HG6r.out) s1 (by rw [← hcc]; omega) (by rw [← hM]; exact s3))
                    have HS4 := Lib.hid s4
                    have HSB := Lib.hid s2
                    clear s1 s2 s3 s4 hmul hpc hM hcc hce
                    go_wp2_with (go_at_call 33; (with_reducible refine HCALL.out.mono ?_); rintro e w7 ⟨r, rfl, hg7, hT, hF7⟩; have HG7 := Lib.hid hg7; have HT := Lib.hid hT; have HF7 := Lib.hid hF7; clear hg7 hT hF7; cases r)
                    · have hst7 : SeenSt l bm left last m N S (I + 1) w7 := by
                        obtain ⟨_, N2, S2, u1, u2, u3, u4⟩ := HF7.out (by trivial)
                        exact ⟨N2, S2, u1, by have := HSB.out; have := HCC.out; rw [Nat.add_mul, Nat.one_mul]; omega, by rw [HM.out]; exact u3, fun x y hx => (u4 x y (by have := HM.out; omega)).trans (HS4.out x y hx)⟩
                      have HSTN := Lib.hid hst7
                      have HNN : Hid (NoneUpto l left last (I + 1)) := Lib.hid (fun k hk hb => by
                        by_cases e : k = I
                        · subst e; rw [HNX.out, (HF7.out (by trivial)).1]; simp
                        · exact hNo.out k (by omega) hb)
                      have HG71 := Lib.hid (gb_trans HG6.out HG7.out)
                      clear hst7
                      go_roundw
                      case rel => exact ⟨I + 1, by omega, by go_num, by rw [HOV.out], HG71.out, HSTN, HNN⟩
                      case measure => simp [intOf]; omega
                    · go_ret
                      refine ⟨true, rfl, gb_trans HGW.out (gb_trans HG6.out HG7.out), fun _ => ?_, (fun h => (by cases h))⟩
                      exact alive_some l left _ hleft h20 HF.out.kd I hlt HBT.out HFB.out HPB.out (by rw [HNX.out]; exact HT.out (by trivial))
        · obtain rfl : I = l.length := by omega
          have HAL := Lib.hid (alive_none l left last hleft h20 HF.out.kd hNo.out)
          have HST := hSt
          generalize hov : overUpto l left l.length = ov at *
          clear hov
          go_wp2
          go_ret
          refine ⟨ov, rfl, gb_trans HGW.out hG, (fun h => (by rw [HAL.out, h])), fun h => ⟨(by rw [HAL.out, h]), ?_⟩⟩
          obtain ⟨N', S', s1, s2, s3, s4⟩ := HST.out
          have hce := costB_eq l.length m
          refine ⟨N', S', s1, by omega, fun x y hx h0 => ?_, fun x y hx => ?_⟩
          · by_cases e : popB l x < m
            · exact s3 x y e h0
            · have h1 := s4 x y (by omega)
              by_cases e2 : (x : Int) = left ∧ y = last
              · have e3 : x = left := by have := e2.1; omega
                rw [e3, e2.2, HAL.out, h]
              · rw [if_neg e2] at h1
                rw [h1] at h0
                exact HD.out x y hx h0
          · have h1 := s4 x y (by omega)
            rw [if_neg] at h1
            · exact h1
            · intro e2
              have e3 : x = left := by have := e2.1; omega
              subst e3
              have := HPOP.out
              omega

theorem search_any (l : List CM) (bs bl bf bm cap : Nat) (a : Option Addr) (w0 : World) (hF : Fixed l bm l.length cap a w0) : ∀ m, SearchAt l bs bl bf bm cap a w0 m := by
  intro m
  induction m with
  | zero => exact search_step l bs bl bf bm cap a w0 hF 0 (fun M' e => by omega)
  | succ m ih => exact search_step l bs bl bf bm cap a w0 hF (m + 1) (fun M' e => by cases e; exact ih)
end Go.Proofs.Ytggecoekoilahaa
