/-
  starfishlaw29.IdealRow, walked.
-/
import Derived.Test.YtggecoekoilahaaIdRowMem
import Derived.Deep.DeepCutAuto
import Derived.Deep.LoopGhost
import Derived.Deep.CutBlock
import Derived.Deep.QuietTactic
import Derived.BigQuiet
namespace Go.Proofs.Ytggecoekoilahaa
open Go.RowKit
set_option linter.unusedSimpArgs false
set_option linter.unusedVariables false

set_option maxHeartbeats 1000000 in
theorem name_any (k : Nat) (hk : k < 4) (w : World) : Calls Try.prog 12 #[.int .u8 k] w fun e w' => e = .returned (.string (nameK k)) ∧ w' = w.alloc (.cells #[.string ⟨#[97]⟩, .string ⟨#[98]⟩, .string ⟨#[97, 114, 109]⟩, .string ⟨#[]⟩] 9) := by
  match k, hk with
  | 0, _ =>
    go_enter Try.func12, Try.ntmps12
    go_wp2
    go_ret
    exact ⟨rfl, rfl⟩
  | 1, _ =>
    go_enter Try.func12, Try.ntmps12
    go_wp2
    go_ret
    exact ⟨rfl, rfl⟩
  | 2, _ =>
    go_enter Try.func12, Try.ntmps12
    go_wp2
    go_ret
    exact ⟨rfl, rfl⟩
  | 3, _ =>
    go_enter Try.func12, Try.ntmps12
    go_wp2
    go_ret
    exact ⟨rfl, rfl⟩

theorem cellsC {w : World} {cb : Nat} {c : RC} (h : w.heap[cb]? = some (.cells c.cells.toArray 30 (0, 0))) :
    w.cell? ⟨cb, 0, none⟩ = some (.int .i64 c.cl) ∧ w.cell? ⟨cb, 1, none⟩ = some (.int .u8 c.kd) ∧ w.cell? ⟨cb, 2, none⟩ = some (.string c.key) ∧ w.cell? ⟨cb, 3, none⟩ = some (.slice c.va c.vl c.vc) ∧
    w.cell? ⟨cb, 4, none⟩ = some (.int .i64 c.fr) ∧ w.cell? ⟨cb, 5, none⟩ = some (.int .i64 c.to) ∧ w.cell? ⟨cb, 6, none⟩ = some (.int .i64 c.co) ∧ w.cell? ⟨cb, 7, none⟩ = some (.slice c.ga c.gl c.gc) :=
  cells8 h
theorem heap_newS (w : World) (o : Obj) (n : Nat) (hn : n = w.heap.size) : (w.alloc o).heap[n]? = some o := hn ▸ heap_newA w o
/-- The new call and its value, in two blocks. -/
def C1 (wr : World) (I : Nat) (kd : Int) (k val : Nat) (s : Value) (wx : World) : Prop :=
  ∃ cb xb : Nat, s = .pointer (some ⟨cb, 0, none⟩) ∧ wr.heap.size ≤ cb ∧ wr.heap.size ≤ xb ∧ cb ≠ xb ∧
    wx.heap[cb]? = some (.cells #[.int .i64 I, .int .u8 kd, .string (nameK k), .slice (some ⟨xb, 0, none⟩) 1 1, .int .i64 (10 * (I : Int)), .int .i64 (10 * (I : Int) + 5), .int .i64 0, .slice none 0 0] 30 (0, 0)) ∧ OneB wx xb val ∧ Below wr.heap.size wr wx
theorem c1_mk (wr W : World) (I : Nat) (kd : Int) (k val cb xb : Nat) (hcb : W.heap[cb]? = some (.cells #[.int .i64 I, .int .u8 kd, .string (nameK k), .slice (some ⟨xb, 0, none⟩) 1 1, .int .i64 (10 * (I : Int)), .int .i64 (10 * (I : Int) + 5), .int .i64 0, .slice none 0 0] 30 (0, 0)))
    (hx : W.heap[xb]? = some (.cells #[.int .u8 (val : Nat)] 5 (0, 0))) (h1 : wr.heap.size ≤ cb) (h2 : wr.heap.size ≤ xb) (h3 : cb ≠ xb) (hb : Below wr.heap.size wr W) : C1 wr I kd k val (.pointer (some ⟨cb, 0, none⟩)) W := ⟨cb, xb, rfl, h1, h2, h3, hcb, hx, hb⟩
def IsB (s : Value) : Prop := ∃ b : Bool, s = .bool b
/-- What stands behind the first append. -/
structure RowFin (w : World) (l : List AB) (R L : List CM) (U : Value) (m : CM) (t : Nat → Bool) (v : Nat → Nat) (r : Bool) (a : AC) (cb : Nat) (V : Value) (wx : World) : Prop where
  mid : Mid2 w w.heap.size V U (R ++ [m]) L (a.nextT t) (a.nextV v) cb m.c wx
  is' : a.is R.length t v m
  play : Play R t v r
  late : LateOf R L
  lt : ∀ k, v k < 256
  val : a.val < 256
  more : R.length < l.length
theorem late_rd {w : World} {R L : List CM} (h : LateOf R L) (hR : AllRd w R) (m : CM) (hm : m ∈ L) : m.rd w := by
  obtain ⟨i, hi⟩ := List.getElem?_of_mem hm
  have hil : i < R.length := by rw [← h.1]; exact (List.getElem?_eq_some_iff.1 hi).1
  obtain ⟨y, hy, h2⟩ := h.2 i R[i] (List.getElem?_eq_getElem hil)
  rw [hi] at hy
  cases hy
  have h3 := hR R[i] (List.getElem_mem hil)
  rcases h2 with h2 | h2
  · rw [h2]; exact h3
  · rw [h2]; exact h3
theorem late_key {R L : List CM} (h : LateOf R L) (hR : KeysOk R) (m : CM) (hm : m ∈ L) : m.c.key.size ≤ maxLen := by
  obtain ⟨i, hi⟩ := List.getElem?_of_mem hm
  have hil : i < R.length := by rw [← h.1]; exact (List.getElem?_eq_some_iff.1 hi).1
  obtain ⟨y, hy, h2⟩ := h.2 i R[i] (List.getElem?_eq_getElem hil)
  rw [hi] at hy
  cases hy
  have h3 := hR R[i] (List.getElem_mem hil)
  rcases h2 with h2 | h2
  · rw [h2]; exact h3
  · rw [h2]; exact h3
theorem Play.keys {R : List CM} {t : Nat → Bool} {v : Nat → Nat} {r : Bool} (h : Play R t v r) : KeysOk R := by
  intro m hm
  obtain ⟨i, hi⟩ := List.getElem?_of_mem hm
  obtain ⟨_, _, ⟨k, hk, e⟩, _⟩ := h.at i m hi
  rw [e]
  match k, hk with
  | 0, _ => decide
  | 1, _ => decide
  | 2, _ => decide
  | 3, _ => decide
/-- The relation of the loop. -/
def RowRel (w : World) (l : List AB) (gk : Nat) (cv uv rv nv iv : Value) (wr : World) : Prop :=
  ∃ (V U : Value) (R L : List CM) (t : Nat → Bool) (v : Nat → Nat) (r : Bool), V = cv ∧ U = uv ∧ rv = .bool r ∧ R.length ≤ l.length ∧ gk = l.length - R.length ∧ nv = .int .i64 R.length ∧ iv = .int .i64 R.length ∧ Hid (RowSt w w.heap.size V U R L t v r wr)

theorem row_next {w : World} {l : List AB} {R L : List CM} {U V : Value} {m y : CM} {t : Nat → Bool} {v : Nat → Nat} {r : Bool} {a : AC} {cb : Nat} {c : RC} {wc wx w1 : World} {v1 : Value}
    (h : RowFin w l R L U m t v r a cb V wc) (h2 : Mid2 w w.heap.size V U (R ++ [m]) L (a.nextT t) (a.nextV v) cb c wx) (hy : y = m ∨ y = m.late) (o : Obj) (hown : MadeC w1 (w.heap.size + 2) v1 (L ++ [y]))
    (hg : (wx.alloc o).grownBy w1 U.ownBlock) (hat : v1.ownBlock = U.ownBlock ∨ v1.ownBlock = some (wx.alloc o).heap.size) :
    RowRel w l (l.length - (R.length + 1)) V v1 (.bool (r && !a.bad t v)) (.int .i64 ((R.length + 1 : Nat) : Int)) (.int .i64 ((R.length + 1 : Nat) : Int)) w1 := by
  have hlen : (R ++ [m]).length = R.length + 1 := by simp
  refine ⟨V, v1, R ++ [m], L ++ [y], a.nextT t, a.nextV v, _, rfl, rfl, rfl, by rw [hlen]; exact h.more, by rw [hlen], by rw [hlen], by rw [hlen], Lib.hid (mid2_append h2 o y hown hg hat (h.play.snoc a m h.is') (h.late.snoc m y hy) fun k => ?_)⟩
  unfold AC.nextV
  have := h.lt k
  have := h.val
  split
  · split <;> assumption
  · assumption

set_option maxRecDepth 100000 in
set_option maxHeartbeats 2000000 in
theorem law_row (v : Value) (l : List AB) (ov : Nat) (w : World) (h : ActRd w v l) (hok : ∀ a ∈ l, a.ok) (hov : ov < 65536) :
    Calls Try.prog 4 #[v, .int .u16 ov] w fun e w' => e = .returned (.bool true) ∧ Below w.heap.size w w' := by
  obtain ⟨a, cap, rfl⟩ := h.form
  have HW := Lib.hid (fun W => idworks_any W)
  by_cases hlen : 12 < l.length
  · clear h
    go_enter Try.func4, Try.ntmps4
    go_wp2_with (go_at_call 9; refine (HW.out _).mono ?_; rintro e w2 ⟨rfl, hb2⟩)
    go_ret
    exact ⟨rfl, hb2⟩
  have hl : l.length ≤ 12 := by omega
  have HREAD := Lib.hid h
  have HOK := Lib.hid hok
  obtain ⟨i0, hi, hz0, hz1, hz2⟩ := info_parts mcall_info
  clear hlen h hok
  have hmk1 : ∀ w : World, (Instr.makeSlice 34 (.int .i64 4) (.int .i64 4)).run Try.prog w = .ok (.slice (some ⟨w.heap.size, 0, none⟩) 4 4) (w.alloc (.cells #[.bool false, .bool false, .bool false, .bool false] 4)) := fun _ => by kernel_rfl
  have hmk2 : ∀ w : World, (Instr.makeSlice 27 (.int .i64 4) (.int .i64 4)).run Try.prog w = .ok (.slice (some ⟨w.heap.size, 0, none⟩) 4 4) (w.alloc (.cells #[.int .u8 0, .int .u8 0, .int .u8 0, .int .u8 0] 5)) := fun _ => by kernel_rfl
  go_enter Try.func4, Try.ntmps4
  go_wp2
  go_loopg [5, 6, 9, 10, 11] l.length (fun gk cv uv rv nv iv wr => RowRel w l gk cv uv rv nv iv wr)
  case atStart =>
    refine ⟨_, _, [], [], fun _ => false, fun _ => 0, true, rfl, rfl, rfl, by simp, by simp, by simp, by simp, Lib.hid ?_⟩
    exact ⟨World.ownsRow_nil _ _ _ _, World.ownsRow_nil _ _ _ _, fun k h => (by cases h), keepA (heap_newA w _) _, heap_newS _ _ _ (by simp), Play.nil, LateOf.nil, fun m hm => (by cases hm), ((Below.refl _ _).alloc (Nat.le_refl _) _).alloc (by simp) _, fun _ => by omega⟩
  case round =>
    obtain ⟨V, U, R, L, t, v, r, rfl, rfl, rfl, hI, rfl, rfl, rfl, hS⟩ := hrel
    by_cases hlt : R.length < l.length
    · obtain ⟨x, hx⟩ : ∃ x, l[R.length]? = some x := ⟨_, List.getElem?_eq_getElem hlt⟩
      obtain ⟨-, hcap, b, o, rfl, hb, hc⟩ := (HREAD.out.below hS.out.bel).at hx
      have c0 := hc 0 _ rfl
      have c1 := hc 1 _ rfl
      have c2 := hc 2 _ rfl
      have c3 := hc 3 _ rfl
      simp only [Nat.add_zero] at c0
      have hxo := HOK.out x (List.mem_of_getElem? hx)
      obtain ⟨x1, x2, x3⟩ := hxo
      have HX := Lib.hid hx
      have HC := Lib.hid hc
      clear hc hx
      obtain ⟨k, hk⟩ : ∃ k, k = x.key % 4 := ⟨_, rfl⟩
      have hk4 : k < 4 := by omega
      have k1 : ((x.key : Nat) : Int) % 4 = (k : Nat) := by omega
      have k2 : ((x.key : Nat) : Int).tmod 4 = (k : Nat) := by rw [Int.tmod_eq_emod_of_nonneg (by omega)]; exact k1
      obtain ⟨d, hd⟩ : ∃ d, d = x.kind % 3 := ⟨_, rfl⟩
      have hd3 : d < 3 := by omega
      have d1 : ((x.kind : Nat) : Int) % 3 = (d : Nat) := by omega
      have d2 : ((x.kind : Nat) : Int).tmod 3 = (d : Nat) := by rw [Int.tmod_eq_emod_of_nonneg (by omega)]; exact d1
      have HK := Lib.hid hk
      have HD := Lib.hid hd
      clear hk hd
      have HN := Lib.hid (fun W => name_any k hk4 W)
      have w1 : IntKind.u8.wrap (1 + (d : Int)) = ((1 + d : Nat) : Int) := by rw [IntWalk.u8_in _ (by omega)]; omega
      have w2 : IntKind.i64.wrap (10 * (R.length : Int)) = 10 * (R.length : Int) := IntWalk.i64_in _ (by omega)
      have w3 : IntKind.i64.wrap (10 * (R.length : Int) + 5) = 10 * (R.length : Int) + 5 := IntWalk.i64_in _ (by omega)
      go_upto_region 12 with fail
      go_cut [13] (fun s13 wx => C1 wr R.length (1 + (d : Int)) k x.val s13 wx)
      case first =>
        have hgr := fun (w0 W : World) (p : Addr) (hp : (fun k => k < wr.heap.size) p.block) => graft_cell (w0 := w0) (keep := (fun k => k < wr.heap.size)) W hp
        refine wp_region_tree (fun k => k < wr.heap.size) [9, 15, 22, 23] (.step 0 (.step 1 (.step 2 (.step 3 (.step 4 (.step 5 (.step 6 (.step 7 (.step 8 (.step 10 (.step 11 (.step 12 (.step 13 (.step 14 (.step 16 (.step 17 (.step 18 (.step 19 (.step 20 (.fork3 9 (.fork 15 (.step 21 (.step 22 (.step 23 .done))) 22 (.step 15 (.step 21 (.step 23 .done)))) 15 (.fork 9 (.step 21 (.step 22 (.step 23 .done))) 22 (.step 9 (.step 21 (.step 23 .done)))) 22 (.fork 9 (.step 15 (.step 21 (.step 23 .done))) 15 (.step 9 (.step 21 (.step 23 .done)))))))))))))))))))))))) (by kernel_rfl) (by kernel_rfl) ?_
        simp only [slimTr, slimStep, Oper.slim, List.contains_cons, List.contains_nil, Option.map_none, Option.map_some, List.getElem?_toArray, List.getElem?_cons_zero, List.getElem?_cons_succ, Option.bind_some, beq_self_eq_true, Bool.or_false, Nat.reduceBEq, Nat.reduceAdd, Nat.zero_add]
        repeat ((with_reducible refine wpSlimT_step (fun K hK => ?_)); go_simp; first | (refine hK _ _ ?_; clear hK K) | (refine ⟨by (intro kk hkk; first | (simp (disch := (simp; omega)) only [hp_drew, hp_drewN, hp_alloc, hp_set]; done) | (simp [hp_drew, hp_drewN, hp_alloc_if, hkk]; done) | fail), hK _ _ ?_⟩; clear hK K)| (go_at_call 12; (refine (HN.out _).mono ?_); rintro e wn ⟨rfl, rfl⟩; refine ⟨_, rfl, (by intro kk hkk; first | (simp (disch := (simp; omega)) only [hp_drew, hp_drewN, hp_alloc, hp_set]; done) | (simp [hp_drew, hp_drewN, hp_alloc_if, hkk]; done)), hK _ _ ?_⟩; clear hK K))
        refine wpSlimT_fork3 ?_ ?_ ?_
        all_goals
          repeat ((with_reducible refine wpSlimT_step (fun K hK => ?_)); go_simp; first | (refine hK _ _ ?_; clear hK K) | (refine ⟨by (intro kk hkk; first | (simp (disch := (simp; omega)) only [hp_drew, hp_drewN, hp_alloc, hp_set]; done) | (simp [hp_drew, hp_drewN, hp_alloc_if, hkk]; done) | fail), hK _ _ ?_⟩; clear hK K)| (go_at_call 12; (refine (HN.out _).mono ?_); rintro e wn ⟨rfl, rfl⟩; refine ⟨_, rfl, (by intro kk hkk; first | (simp (disch := (simp; omega)) only [hp_drew, hp_drewN, hp_alloc, hp_set]; done) | (simp [hp_drew, hp_drewN, hp_alloc_if, hkk]; done)), hK _ _ ?_⟩; clear hK K))
          refine wpSlimT_fork ?_ ?_
          all_goals
            repeat ((with_reducible refine wpSlimT_step (fun K hK => ?_)); go_simp; first | (refine hK _ _ ?_; clear hK K) | (refine ⟨by (intro kk hkk; first | (simp (disch := (simp; omega)) only [hp_drew, hp_drewN, hp_alloc, hp_set]; done) | (simp [hp_drew, hp_drewN, hp_alloc_if, hkk]; done) | fail), hK _ _ ?_⟩; clear hK K)| (go_at_call 12; (refine (HN.out _).mono ?_); rintro e wn ⟨rfl, rfl⟩; refine ⟨_, rfl, (by intro kk hkk; first | (simp (disch := (simp; omega)) only [hp_drew, hp_drewN, hp_alloc, hp_set]; done) | (simp [hp_drew, hp_drewN, hp_alloc_if, hkk]; done)), hK _ _ ?_⟩; clear hK K))
            refine wpSlimT_done ?_
        all_goals clear hgr
        all_goals
          go_wp2_with fail
          go_meet
          first | (exact c1_mk wr _ _ _ _ _ _ _ (alloc3 wr _ _ _).1 (alloc3 wr _ _ _).2.1 (by omega) (by omega) (by omega) ((((Below.refl _ _).alloc (Nat.le_refl _) _).alloc (by simp) _).alloc (by simp; omega) _).drew) | (exact c1_mk wr _ _ _ _ _ _ _ (alloc3 wr _ _ _).1 (alloc3 wr _ _ _).2.2 (by omega) (by omega) (by omega) ((((Below.refl _ _).alloc (Nat.le_refl _) _).alloc (by simp) _).alloc (by simp; omega) _).drew) | (exact c1_mk wr _ _ _ _ _ _ _ (alloc3 wr _ _ _).2.1 (alloc3 wr _ _ _).1 (by omega) (by omega) (by omega) ((((Below.refl _ _).alloc (Nat.le_refl _) _).alloc (by simp) _).alloc (by simp; omega) _).drew) | (exact c1_mk wr _ _ _ _ _ _ _ (alloc3 wr _ _ _).2.1 (alloc3 wr _ _ _).2.2 (by omega) (by omega) (by omega) ((((Below.refl _ _).alloc (Nat.le_refl _) _).alloc (by simp) _).alloc (by simp; omega) _).drew) | (exact c1_mk wr _ _ _ _ _ _ _ (alloc3 wr _ _ _).2.2 (alloc3 wr _ _ _).1 (by omega) (by omega) (by omega) ((((Below.refl _ _).alloc (Nat.le_refl _) _).alloc (by simp) _).alloc (by simp; omega) _).drew) | (exact c1_mk wr _ _ _ _ _ _ _ (alloc3 wr _ _ _).2.2 (alloc3 wr _ _ _).2.1 (by omega) (by omega) (by omega) ((((Below.refl _ _).alloc (Nat.le_refl _) _).alloc (by simp) _).alloc (by simp; omega) _).drew)
      case rest =>
        obtain ⟨cb, xb, rfl, hcb, hxb, hne, hat, hval, hbc⟩ := hcut
        have hS1 := hS.out.below hbc
        have hVc : V.ownBlock ≠ some cb := fun e => by have := (hS.out.made1.lt _ e).2; omega
        have hUc : U.ownBlock ≠ some cb := fun e => by have := (hS.out.made2.lt _ e).2; omega
        have hBr := hS.out.bel.size
        have hS2 : w.heap.size + 2 ≤ wr.heap.size := by have := (hS.out.vb.at (k := 0) (by omega)).2.2; omega
        have hbw : b < w.heap.size := by
          obtain ⟨-, -, b', o', e', h', -⟩ := HREAD.out.at HX.out
          cases e'
          exact h'
        obtain ⟨p0, p1, p2, p3, p4, p5, p6, p7⟩ := cells8 hat
        obtain ⟨t1, t2, t3⟩ := hS1.tb.at hk4
        obtain ⟨v1, v2, v3⟩ := hS1.vb.at hk4
        have q2 := (hbc.cell (p := ⟨b, o + R.length * 4 + 2, none⟩) (by show b < _; omega)).trans c2
        have q3 := (hbc.cell (p := ⟨b, o + R.length * 4 + 3, none⟩) (by show b < _; omega)).trans c3
        have fz : ∀ j, wc.frozen? ⟨cb, j, none⟩ = false := fun j => by unfold World.frozen?; simp [hat]
        have fz6 := fz 6
        have fz7 := fz 7
        have n1 : ¬ cb = w.heap.size := by omega
        have n2 : ¬ cb = w.heap.size + 1 := by omega
        have n3 : ¬ w.heap.size = cb := by omega
        have n4 : ¬ w.heap.size + 1 = cb := by omega
        have n5 : ¬ b = w.heap.size := by omega
        have n6 : ¬ b = w.heap.size + 1 := by omega
        have n7 : ¬ b = cb := by omega
        have hcbs : cb < wc.heap.size := lt_of_heap hat
        have hbs : b < wc.heap.size := by omega
        have HLF : Hid (Leaf w w.heap.size V U R L t v r wc cb xb (1 + (d : Int)) k x.val) := Lib.hid ⟨hS1, hVc, hUc, hat, hval, by omega, by omega, hne, hk4, x3⟩
        clear hS1 hVc hUc hat hval hbc fz c0 c1 c2 c3
        go_upto_block 2 with fail
        go_cut [9] (fun s9 wx => C2 w w.heap.size V U R L t v r ⟨1 + d, k, x.val, x.told⟩ cb s9 wx)
        case first =>
          obtain rfl | rfl | rfl : d = 0 ∨ d = 2 ∨ d = 1 := by omega
          · go_wp2_with fail
            go_meet
            exact leaf_put HLF.out _
          · go_wp2_with fail
            go_meet
            exact leaf_del HLF.out _
          · cases htk : t k
            · have HTK := Lib.hid htk
              rw [htk] at t1
              clear htk
              cases htl : x.told
              · rw [htl] at q3
                have HTL := Lib.hid htl
                clear htl
                go_upto_region 18 with fail
                go_quiet (fail)
                go_wp2_with fail
                go_meet
                exact leaf_none HLF.out HTL.out HTK.out _
              · rw [htl] at q3
                have HTL := Lib.hid htl
                clear htl
                go_upto_region 18 with fail
                go_quiet (fail)
                go_wp2_with fail
                go_meet
                exact leaf_bad1 HLF.out HTL.out HTK.out _
            · have HTK := Lib.hid htk
              rw [htk] at t1
              clear htk
              cases htl : x.told
              · rw [htl] at q3
                have HTL := Lib.hid htl
                clear htl
                go_upto_region 18 with fail
                go_quiet (fail)
                go_wp2_with fail
                go_meet
                exact leaf_get HLF.out _ HTK.out (.inl HTL.out) _
              · rw [htl] at q3
                have HTL := Lib.hid htl
                clear htl
                by_cases hvv : x.val = v k
                · have e1 : ((x.val : Int) != (v k : Int)) = false := by simp [hvv]
                  have e2 : ((x.val : Int) == (v k : Int)) = true := by simp [hvv]
                  have HVV := Lib.hid hvv
                  clear hvv
                  go_upto_region 18 with fail
                  go_quiet (fail)
                  go_wp2_with fail
                  go_meet
                  exact leaf_get HLF.out _ HTK.out (.inr HVV.out) _
                · have e1 : ((x.val : Int) != (v k : Int)) = true := by simp; omega
                  have e2 : ((x.val : Int) == (v k : Int)) = false := by simp; omega
                  have HVV := Lib.hid hvv
                  clear hvv
                  go_upto_region 18 with fail
                  go_quiet (fail)
                  go_wp2_with fail
                  go_meet
                  exact leaf_bad2 HLF.out HTL.out HTK.out HVV.out _
        case rest =>
          obtain ⟨wa, rfl⟩ : ∃ wa : World, wa = wc := ⟨_, rfl⟩
          obtain ⟨m, rfl, his, hmid⟩ := hcut
          have HIS := Lib.hid his
          have HMID := Lib.hid hmid
          obtain ⟨p0, p1, p2, p3, p4, p5, p6, p7⟩ := cellsC hmid.at'
          clear his hmid
          have hrl : R.length + 1 ≤ 12 := by omega
          have hml : L.length = R.length := hS.out.late.1
          have hsz : w.heap.size + 2 ≤ wa.heap.size := lt_of_heap HMID.out.vb
          have HO1 : Hid (MadeC wa (w.heap.size + 2) V R) := Lib.hid HMID.out.made1
          go_upto_region 28 with (at_builtin; refine wpList_append_own_at _ rfl (.tmp 119) (.tmp 121) 22 rfl (w.heap.size + 2) 30 i0 (.agg #[.int .i64 0, .int .u8 0, .string ⟨#[]⟩, .slice none 0 0, .int .i64 0, .int .i64 0, .int .i64 0, .slice none 0 0]) 8 104 Try.underlying22 hi hz0 hz1 hz2 rfl (by decide) _ _ _ rfl (HO1.out.alloc _) ⟨wa.heap.size, 0, none⟩ 1 1 m.c.cells rfl (by rfl) (cells_news (heap_newS _ _ _ (by simp))) (by intro u hu; exact flat_one [m.c] u (by simpa [flat] using hu)) (by unfold maxLen; omega) (by omega) (by simp; omega) ?_; intro ve we howne hgrowe _ hate)
          have HM2 := Lib.hid (mid_append HMID.out hS.out.apart _ (MadeC.next howne rfl) hgrowe hate)
          clear howne hgrowe hate p0 p1 p2 p3 p4 p5 p6 p7 HO1
          go_cut [127] (fun s wx => IsB s ∧ wx = we)
          case first =>
            go_wp2_with fail
            go_meet
            exact ⟨⟨_, rfl⟩, rfl⟩
          case rest =>
            obtain ⟨⟨bb, rfl⟩, rfl⟩ := hcut
            have hfin : RowFin w l R L U m t v r ⟨1 + d, k, x.val, x.told⟩ cb ve wc := ⟨HM2.out, HIS.out, hS.out.play, hS.out.late, hS.out.lt, x3, hlt⟩
            have HFIN := Lib.hid hfin
            have hszc : w.heap.size + 2 ≤ wc.heap.size := lt_of_heap HM2.out.vb
            obtain ⟨p0, p1, p2, p3, p4, p5, p6, p7⟩ := cellsC HM2.out.at'
            have fz5 : wc.frozen? ⟨cb, 5, none⟩ = false := by have := HM2.out.at'; unfold World.frozen?; simp [this]
            have hto : m.c.to = 10 * (R.length : Int) + 5 := HIS.out.2.2.2.2.2.2.2.1
            have hw : IntKind.i64.wrap (m.c.to + 10) = m.c.to + 10 := IntWalk.i64_in _ (by omega)
            have HTO := Lib.hid hto
            have hcbs2 : cb < wc.heap.size := lt_of_heap HM2.out.at'
            clear hfin hto
            cases bb
            · have HO2 : Hid (MadeC wc (w.heap.size + 2) U L) := Lib.hid HM2.out.made2
              go_wp2_with (at_builtin; refine wpList_append_own_at _ rfl (.tmp 132) (.tmp 134) 22 rfl (w.heap.size + 2) 30 i0 (.agg #[.int .i64 0, .int .u8 0, .string ⟨#[]⟩, .slice none 0 0, .int .i64 0, .int .i64 0, .int .i64 0, .slice none 0 0]) 8 104 Try.underlying22 hi hz0 hz1 hz2 rfl (by decide) _ _ _ rfl (HO2.out.alloc _) ⟨wc.heap.size, 0, none⟩ 1 1 m.c.cells rfl (by rfl) (cells_news (heap_newS _ _ _ (by simp))) (by intro u hu; exact flat_one [m.c] u (by simpa [flat] using hu)) (by unfold maxLen; omega) (by omega) (by simp; omega) ?_; intro vf wf hownf hgrowf _ hatf)
              have hfin : RowRel w l (l.length - (R.length + 1)) ve vf (.bool (r && !AC.bad ⟨1 + d, k, x.val, x.told⟩ t v)) (.int .i64 ((R.length + 1 : Nat) : Int)) (.int .i64 ((R.length + 1 : Nat) : Int)) wf := row_next HFIN.out HM2.out (.inl rfl) _ (MadeC.next hownf rfl) hgrowf hatf
              have HREL := Lib.hid hfin
              clear hfin hownf hgrowf hatf
              go_roundg (l.length - (R.length + 1))
              case measure => omega
              case rel => exact HREL.out
            · have HM3 := Lib.hid (HM2.out.set (m.c.to + 10) m.late.c rfl)
              have HO2 : Hid (MadeC (wc.setCell ⟨cb, 5, none⟩ (.int .i64 (m.c.to + 10))) (w.heap.size + 2) U L) := Lib.hid HM3.out.made2
              go_wp2_with (at_builtin; refine wpList_append_own_at _ rfl (.tmp 132) (.tmp 134) 22 rfl (w.heap.size + 2) 30 i0 (.agg #[.int .i64 0, .int .u8 0, .string ⟨#[]⟩, .slice none 0 0, .int .i64 0, .int .i64 0, .int .i64 0, .slice none 0 0]) 8 104 Try.underlying22 hi hz0 hz1 hz2 rfl (by decide) _ _ _ rfl (HO2.out.alloc _) ⟨wc.heap.size, 0, none⟩ 1 1 m.late.c.cells rfl (by rfl) (cells_news (heap_newS _ _ _ (by simp))) (by intro u hu; exact flat_one [m.late.c] u (by simpa [flat] using hu)) (by unfold maxLen; omega) (by omega) (by simp; omega) ?_; intro vf wf hownf hgrowf _ hatf)
              have hfin : RowRel w l (l.length - (R.length + 1)) ve vf (.bool (r && !AC.bad ⟨1 + d, k, x.val, x.told⟩ t v)) (.int .i64 ((R.length + 1 : Nat) : Int)) (.int .i64 ((R.length + 1 : Nat) : Int)) wf := row_next HFIN.out HM3.out (.inr rfl) _ (MadeC.next hownf rfl) hgrowf hatf
              have HREL := Lib.hid hfin
              clear hfin hownf hgrowf hatf
              go_roundg (l.length - (R.length + 1))
              case measure => omega
              case rel => exact HREL.out
    · have hRl : R.length = l.length := by omega
      clear hI hlt
      have hAR : AllRd wr R := fun m hm => (hS.out.ok m hm).rd
      have hAL : AllRd wr L := fun m hm => late_rd hS.out.late hAR m hm
      have hKR : KeysOk R := hS.out.play.keys
      have hKL : KeysOk L := fun m hm => late_key hS.out.late hKR m hm
      have hLl : L.length = R.length := hS.out.late.1
      obtain ⟨va', ca, hcf⟩ := hS.out.made1.rd.form
      obtain ⟨ua', ua, huf⟩ := hS.out.made2.rd.form
      obtain ⟨RB, hRB⟩ := someB (rightM (rcs R))
      have X1 := Lib.hid (retB_is (right_any V (rcs R) wr hS.out.made1.rd (by rw [rcs_length]; omega) hKR.rcs) RB hRB)
      have X2 := Lib.hid (fun (hr : rightM (rcs R)) W (hb : Below wr.heap.size wr W) => permits_is V R W (hS.out.made1.rd.below hb) (by omega) (hAR.below hb) hKR r (hS.out.play.perm hr))
      have X3 := Lib.hid (fun (hr : rightM (rcs R)) (ht : r = true) W (hb : Below wr.heap.size wr W) => permits_is U L W (hS.out.made2.rd.below hb) (by omega) (hAL.below hb) hKL true ⟨fun _ => rfl, fun _ => late_perm hS.out.play hS.out.late ((hS.out.play.perm hr).2 ht)⟩)
      have HB := Lib.hid hS.out.bel
      have hten : ¬ R.length ≤ 10 ∨ rightM (rcs R) := by
        by_cases h10 : R.length ≤ 10
        · exact .inr (hS.out.play.rightM h10)
        · exact .inl h10
      have HTEN := Lib.hid hten
      subst hcf
      subst huf
      clear hS hAR hAL hKR hKL hten
      cases RB
      · have h11 : 10 < R.length := by
          rcases HTEN.out with h | h
          · omega
          · have := hRB.2 h; cases this
        clear hRB
        go_wp2_with (first | (go_at_call 13; (with_reducible refine X1.out.mono ?_); rintro e y1 ⟨rfl, j1⟩) | (go_at_call 9; refine (HW.out _).mono ?_; rintro e y3 ⟨rfl, j3⟩))
        go_ret
        exact ⟨rfl, HB.out.trans ((j1.trans (j3.mono j1.size)).mono HB.out.size)⟩
      · have HRB := Lib.hid (hRB.1 rfl)
        clear hRB
        cases r
        · go_wp2_with (first | (go_at_call 13; (with_reducible refine X1.out.mono ?_); rintro e y1 ⟨rfl, j1⟩) | (go_at_call 8; (with_reducible refine (X2.out HRB.out _ j1).mono ?_); rintro e y2 ⟨rfl, j2⟩) | (go_at_call 9; refine (HW.out _).mono ?_; rintro e y3 ⟨rfl, j3⟩))
          go_ret
          have j12 := j1.trans (j2.mono j1.size)
          exact ⟨rfl, HB.out.trans ((j12.trans (j3.mono j12.size)).mono HB.out.size)⟩
        · go_wp2_with (first | (go_at_call 13; (with_reducible refine X1.out.mono ?_); rintro e y1 ⟨rfl, j1⟩) | (go_at_call 8; (with_reducible refine (X2.out HRB.out _ j1).mono ?_); rintro e y2 ⟨rfl, j2⟩; have j12 := j1.trans (j2.mono j1.size)) | (go_at_call 8; (with_reducible refine (X3.out HRB.out (by trivial) _ j12).mono ?_); rintro e y3 ⟨rfl, j3⟩; have j123 := j12.trans (j3.mono j12.size)) | (go_at_call 9; refine (HW.out _).mono ?_; rintro e y4 ⟨rfl, j4⟩))
          go_ret
          exact ⟨rfl, HB.out.trans ((j123.trans (j4.mono j123.size)).mono HB.out.size)⟩
end Go.Proofs.Ytggecoekoilahaa
