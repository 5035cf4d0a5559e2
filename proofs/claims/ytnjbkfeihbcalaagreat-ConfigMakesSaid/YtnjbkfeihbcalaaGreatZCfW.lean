/-
  The chapter's examples of config: the law's 'works'.
  Cells of a code and of what it amounts to.
-/
import Derived.Test.YtnjbkfeihbcalaaGreatZCfC
/- The chapter's examples of config: the law's 'works'. -/
namespace Go.Proofs.YtnjbkfeihbcalaaGreat
open Go.RowKit
set_option linter.unusedSimpArgs false
set_option linter.unusedVariables false

theorem row_cells {w:World} {g:Nat} {cs:Array Value} {t:TypeId} (h:w.heap[g]? = some (.cells cs t (0,0))) (i:Nat):w.cell? ⟨g,i,none⟩=cs[i]?:=cell_of_row w g i cs t (0,0) h
theorem heap_new (w:World) (o:Obj):(w.alloc o).heap[w.heap.size]? = some o:=by
 show (w.heap.push o)[w.heap.size]? = _
 rw [Array.getElem?_push,if_pos rfl]

theorem wk_1 (w:World):Calls Tryz.prog 5 #[.agg #[.int .u8 1,.int .i64 6,.int .i64 3,.int .i64 0,.int .i64 0,.int .i64 1,.int .i64 5]] w fun e w'=>e=.returned (.tuple #[.agg #[.int .i64 1,.int .i64 3,.int .i64 3,.int .i64 5,.int .i64 1],.int .i64 0])∧Below w.heap.size w w':=by
 have h:checkF 1 6 3 0 0 1 5=some ⟨1,3,3,5,1⟩:=by decide
 have h2:=check_any 1 6 3 0 0 1 5 w
 rw [h] at h2
 exact h2

theorem wk_2 (w:World):Calls Tryz.prog 5 #[.agg #[.int .u8 2,.int .i64 6,.int .i64 3,.int .i64 4,.int .i64 0,.int .i64 0,.int .i64 4]] w fun e w'=>e=.returned (.tuple #[.agg #[.int .i64 2,.int .i64 6,.int .i64 3,.int .i64 4,.int .i64 1],.int .i64 0])∧Below w.heap.size w w':=by
 have h:checkF 2 6 3 4 0 0 4=some ⟨2,6,3,4,1⟩:=by decide
 have h2:=check_any 2 6 3 4 0 0 4 w
 rw [h] at h2
 exact h2

theorem wk_3 (w:World):Calls Tryz.prog 5 #[.agg #[.int .u8 3,.int .i64 6,.int .i64 3,.int .i64 4,.int .i64 0,.int .i64 0,.int .i64 4]] w fun e w'=>e=.returned (.tuple #[.agg #[.int .i64 4,.int .i64 9,.int .i64 3,.int .i64 4,.int .i64 1],.int .i64 0])∧Below w.heap.size w w':=by
 have h:checkF 3 6 3 4 0 0 4=some ⟨4,9,3,4,1⟩:=by decide
 have h2:=check_any 3 6 3 4 0 0 4 w
 rw [h] at h2
 exact h2

theorem wk_4 (w:World):Calls Tryz.prog 5 #[.agg #[.int .u8 4,.int .i64 5,.int .i64 3,.int .i64 0,.int .i64 0,.int .i64 0,.int .i64 4]] w fun e w'=>e=.returned (.tuple #[.agg #[.int .i64 4,.int .i64 9,.int .i64 3,.int .i64 4,.int .i64 1],.int .i64 0])∧Below w.heap.size w w':=by
 have h:checkF 4 5 3 0 0 0 4=some ⟨4,9,3,4,1⟩:=by decide
 have h2:=check_any 4 5 3 0 0 0 4 w
 rw [h] at h2
 exact h2

theorem wk_5 (w:World):Calls Tryz.prog 5 #[.agg #[.int .u8 5,.int .i64 6,.int .i64 2,.int .i64 0,.int .i64 2,.int .i64 0,.int .i64 4]] w fun e w'=>e=.returned (.tuple #[.agg #[.int .i64 1,.int .i64 2,.int .i64 2,.int .i64 2,.int .i64 1],.int .i64 0])∧Below w.heap.size w w':=by
 have h:checkF 5 6 2 0 2 0 4=some ⟨1,2,2,2,1⟩:=by decide
 have h2:=check_any 5 6 2 0 2 0 4 w
 rw [h] at h2
 exact h2

theorem wk_6 (w:World):Calls Tryz.prog 5 #[.agg #[.int .u8 1,.int .i64 6,.int .i64 3,.int .i64 0,.int .i64 0,.int .i64 2,.int .i64 6]] w fun e w'=>e=.returned (.tuple #[.agg #[.int .i64 0,.int .i64 0,.int .i64 0,.int .i64 0,.int .i64 0],.int .i64 130])∧Below w.heap.size w w':=by
 have h:checkF 1 6 3 0 0 2 6=none:=by decide
 have h2:=check_any 1 6 3 0 0 2 6 w
 rw [h] at h2
 exact h2

theorem wk_7 (w:World):Calls Tryz.prog 5 #[.agg #[.int .u8 3,.int .i64 5,.int .i64 3,.int .i64 4,.int .i64 0,.int .i64 1,.int .i64 5]] w fun e w'=>e=.returned (.tuple #[.agg #[.int .i64 0,.int .i64 0,.int .i64 0,.int .i64 0,.int .i64 0],.int .i64 130])∧Below w.heap.size w w':=by
 have h:checkF 3 5 3 4 0 1 5=none:=by decide
 have h2:=check_any 3 5 3 4 0 1 5 w
 rw [h] at h2
 exact h2

set_option maxHeartbeats 4000000 in
theorem works_any (w:World):Calls Tryz.prog 6 #[] w fun e w'=>e=.returned (.bool true)∧Below w.heap.size w w':=by
 go_enter Tryz.func6,Tryz.ntmps6
 go_wp2_with fail
 refine (wk_1 _).mono ?_
 rintro e w1 ⟨rfl,hb1⟩
 have b1:=hb1
 clear hb1
 go_wp2_with fail
 refine (wk_2 _).mono ?_
 rintro e w2 ⟨rfl,hb2⟩
 have s2:=hb2.size
 simp only [World.size_alloc] at s2
 have x1_2:w2.heap[w1.heap.size]? = some (.cells #[.int .i64 1,.int .i64 3,.int .i64 3,.int .i64 5,.int .i64 1] 25 (0,0)):=(hb2.block _ (by simp)).trans (heap_new _ _)
 have b2:Below w.heap.size w w2:=(b1.alloc b1.size _).trans (hb2.mono (by have:=b1.size;simp;omega))
 clear hb2 b1
 go_wp2_with fail
 refine (wk_3 _).mono ?_
 rintro e w3 ⟨rfl,hb3⟩
 have s3:=hb3.size
 simp only [World.size_alloc] at s3
 have x1_3:w3.heap[w1.heap.size]? = some (.cells #[.int .i64 1,.int .i64 3,.int .i64 3,.int .i64 5,.int .i64 1] 25 (0,0)):=((hb3.block _ (by simp;omega)).trans (Below.heap_alloc _ _ _ (by omega))).trans x1_2
 clear x1_2
 have x2_3:w3.heap[w2.heap.size]? = some (.cells #[.int .i64 2,.int .i64 6,.int .i64 3,.int .i64 4,.int .i64 1] 25 (0,0)):=(hb3.block _ (by simp)).trans (heap_new _ _)
 have b3:Below w.heap.size w w3:=(b2.alloc b2.size _).trans (hb3.mono (by have:=b2.size;simp;omega))
 clear hb3 b2
 go_wp2_with fail
 refine (wk_4 _).mono ?_
 rintro e w4 ⟨rfl,hb4⟩
 have s4:=hb4.size
 simp only [World.size_alloc] at s4
 have x1_4:w4.heap[w1.heap.size]? = some (.cells #[.int .i64 1,.int .i64 3,.int .i64 3,.int .i64 5,.int .i64 1] 25 (0,0)):=((hb4.block _ (by simp;omega)).trans (Below.heap_alloc _ _ _ (by omega))).trans x1_3
 clear x1_3
 have x2_4:w4.heap[w2.heap.size]? = some (.cells #[.int .i64 2,.int .i64 6,.int .i64 3,.int .i64 4,.int .i64 1] 25 (0,0)):=((hb4.block _ (by simp;omega)).trans (Below.heap_alloc _ _ _ (by omega))).trans x2_3
 clear x2_3
 have x3_4:w4.heap[w3.heap.size]? = some (.cells #[.int .i64 4,.int .i64 9,.int .i64 3,.int .i64 4,.int .i64 1] 25 (0,0)):=(hb4.block _ (by simp)).trans (heap_new _ _)
 have b4:Below w.heap.size w w4:=(b3.alloc b3.size _).trans (hb4.mono (by have:=b3.size;simp;omega))
 clear hb4 b3
 go_wp2_with fail
 refine (wk_5 _).mono ?_
 rintro e w5 ⟨rfl,hb5⟩
 have s5:=hb5.size
 simp only [World.size_alloc] at s5
 have x1_5:w5.heap[w1.heap.size]? = some (.cells #[.int .i64 1,.int .i64 3,.int .i64 3,.int .i64 5,.int .i64 1] 25 (0,0)):=((hb5.block _ (by simp;omega)).trans (Below.heap_alloc _ _ _ (by omega))).trans x1_4
 clear x1_4
 have x2_5:w5.heap[w2.heap.size]? = some (.cells #[.int .i64 2,.int .i64 6,.int .i64 3,.int .i64 4,.int .i64 1] 25 (0,0)):=((hb5.block _ (by simp;omega)).trans (Below.heap_alloc _ _ _ (by omega))).trans x2_4
 clear x2_4
 have x3_5:w5.heap[w3.heap.size]? = some (.cells #[.int .i64 4,.int .i64 9,.int .i64 3,.int .i64 4,.int .i64 1] 25 (0,0)):=((hb5.block _ (by simp;omega)).trans (Below.heap_alloc _ _ _ (by omega))).trans x3_4
 clear x3_4
 have x4_5:w5.heap[w4.heap.size]? = some (.cells #[.int .i64 4,.int .i64 9,.int .i64 3,.int .i64 4,.int .i64 1] 25 (0,0)):=(hb5.block _ (by simp)).trans (heap_new _ _)
 have b5:Below w.heap.size w w5:=(b4.alloc b4.size _).trans (hb5.mono (by have:=b4.size;simp;omega))
 clear hb5 b4
 go_wp2_with fail
 refine (wk_6 _).mono ?_
 rintro e w6 ⟨rfl,hb6⟩
 have s6:=hb6.size
 simp only [World.size_alloc] at s6
 have x1_6:w6.heap[w1.heap.size]? = some (.cells #[.int .i64 1,.int .i64 3,.int .i64 3,.int .i64 5,.int .i64 1] 25 (0,0)):=((hb6.block _ (by simp;omega)).trans (Below.heap_alloc _ _ _ (by omega))).trans x1_5
 clear x1_5
 have x2_6:w6.heap[w2.heap.size]? = some (.cells #[.int .i64 2,.int .i64 6,.int .i64 3,.int .i64 4,.int .i64 1] 25 (0,0)):=((hb6.block _ (by simp;omega)).trans (Below.heap_alloc _ _ _ (by omega))).trans x2_5
 clear x2_5
 have x3_6:w6.heap[w3.heap.size]? = some (.cells #[.int .i64 4,.int .i64 9,.int .i64 3,.int .i64 4,.int .i64 1] 25 (0,0)):=((hb6.block _ (by simp;omega)).trans (Below.heap_alloc _ _ _ (by omega))).trans x3_5
 clear x3_5
 have x4_6:w6.heap[w4.heap.size]? = some (.cells #[.int .i64 4,.int .i64 9,.int .i64 3,.int .i64 4,.int .i64 1] 25 (0,0)):=((hb6.block _ (by simp;omega)).trans (Below.heap_alloc _ _ _ (by omega))).trans x4_5
 clear x4_5
 have x5_6:w6.heap[w5.heap.size]? = some (.cells #[.int .i64 1,.int .i64 2,.int .i64 2,.int .i64 2,.int .i64 1] 25 (0,0)):=(hb6.block _ (by simp)).trans (heap_new _ _)
 have b6:Below w.heap.size w w6:=(b5.alloc b5.size _).trans (hb6.mono (by have:=b5.size;simp;omega))
 clear hb6 b5
 go_wp2_with fail
 refine (wk_7 _).mono ?_
 rintro e w7 ⟨rfl,hb7⟩
 have s7:=hb7.size
 simp only [World.size_alloc] at s7
 have x1_7:w7.heap[w1.heap.size]? = some (.cells #[.int .i64 1,.int .i64 3,.int .i64 3,.int .i64 5,.int .i64 1] 25 (0,0)):=((hb7.block _ (by simp;omega)).trans (Below.heap_alloc _ _ _ (by omega))).trans x1_6
 clear x1_6
 have x2_7:w7.heap[w2.heap.size]? = some (.cells #[.int .i64 2,.int .i64 6,.int .i64 3,.int .i64 4,.int .i64 1] 25 (0,0)):=((hb7.block _ (by simp;omega)).trans (Below.heap_alloc _ _ _ (by omega))).trans x2_6
 clear x2_6
 have x3_7:w7.heap[w3.heap.size]? = some (.cells #[.int .i64 4,.int .i64 9,.int .i64 3,.int .i64 4,.int .i64 1] 25 (0,0)):=((hb7.block _ (by simp;omega)).trans (Below.heap_alloc _ _ _ (by omega))).trans x3_6
 clear x3_6
 have x4_7:w7.heap[w4.heap.size]? = some (.cells #[.int .i64 4,.int .i64 9,.int .i64 3,.int .i64 4,.int .i64 1] 25 (0,0)):=((hb7.block _ (by simp;omega)).trans (Below.heap_alloc _ _ _ (by omega))).trans x4_6
 clear x4_6
 have x5_7:w7.heap[w5.heap.size]? = some (.cells #[.int .i64 1,.int .i64 2,.int .i64 2,.int .i64 2,.int .i64 1] 25 (0,0)):=((hb7.block _ (by simp;omega)).trans (Below.heap_alloc _ _ _ (by omega))).trans x5_6
 clear x5_6
 have b7:Below w.heap.size w w7:=(b6.alloc b6.size _).trans (hb7.mono (by have:=b6.size;simp;omega))
 clear hb7 b6
 have y1:=row_cells x1_7
 have z1:w1.heap.size < w7.heap.size:=by omega
 have y2:=row_cells x2_7
 have z2:w2.heap.size < w7.heap.size:=by omega
 have y3:=row_cells x3_7
 have z3:w3.heap.size < w7.heap.size:=by omega
 have y4:=row_cells x4_7
 have z4:w4.heap.size < w7.heap.size:=by omega
 have y5:=row_cells x5_7
 have z5:w5.heap.size < w7.heap.size:=by omega
 clear x1_7 x2_7 x3_7 x4_7 x5_7
 go_wp2
 go_ret
 exact ⟨rfl,b7.alloc b7.size _⟩
end Go.Proofs.YtnjbkfeihbcalaaGreat
/- Cells of a code and of what it amounts to. -/
namespace Go.Proofs.YtnjbkfeihbcalaaGreat
open Go.RowKit
set_option linter.unusedSimpArgs false
set_option linter.unusedVariables false

theorem cells7 {W:World} {B:Nat} {a b c d e f g:Value} {ty:TypeId} (h:W.heap[B]? = some (.cells #[a,b,c,d,e,f,g] ty)) :
  W.cell? ⟨B,0,none⟩=some a∧W.cell? ⟨B,1,none⟩=some b∧W.cell? ⟨B,2,none⟩=some c∧W.cell? ⟨B,3,none⟩=some d∧W.cell? ⟨B,4,none⟩=some e∧W.cell? ⟨B,5,none⟩=some f∧W.cell? ⟨B,6,none⟩=some g :=
 ⟨cell_of_row W _ 0 _ _ (0,0) h,cell_of_row W _ 1 _ _ (0,0) h,cell_of_row W _ 2 _ _ (0,0) h,cell_of_row W _ 3 _ _ (0,0) h,cell_of_row W _ 4 _ _ (0,0) h,cell_of_row W _ 5 _ _ (0,0) h,cell_of_row W _ 6 _ _ (0,0) h⟩
theorem cells5 {W:World} {B:Nat} {a b c d e:Value} {ty:TypeId} (h:W.heap[B]? = some (.cells #[a,b,c,d,e] ty)) :
  W.cell? ⟨B,0,none⟩=some a∧W.cell? ⟨B,1,none⟩=some b∧W.cell? ⟨B,2,none⟩=some c∧W.cell? ⟨B,3,none⟩=some d∧W.cell? ⟨B,4,none⟩=some e :=
 ⟨cell_of_row W _ 0 _ _ (0,0) h,cell_of_row W _ 1 _ _ (0,0) h,cell_of_row W _ 2 _ _ (0,0) h,cell_of_row W _ 3 _ _ (0,0) h,cell_of_row W _ 4 _ _ (0,0) h⟩
theorem step_alloc {w W w':World} (o:Obj) (hb:Below w.heap.size w W) (hc:Below (W.alloc o).heap.size (W.alloc o) w') :
  Below w.heap.size w w'∧w'.heap[W.heap.size]? = some o∧W.heap.size < w'.heap.size∧Below W.heap.size W w':=by
 have h1:Below W.heap.size W w':=((Below.refl _ W).alloc (Nat.le_refl _) o).trans (hc.mono (by simp))
 have hs:=hc.size
 simp only [World.size_alloc] at hs
 refine ⟨hb.trans (h1.mono hb.size),(hc.block _ (by simp)).trans ?_,by omega,h1⟩
 show (W.heap.push o)[W.heap.size]? = _
 rw [Array.getElem?_push,if_pos rfl]

end Go.Proofs.YtnjbkfeihbcalaaGreat
