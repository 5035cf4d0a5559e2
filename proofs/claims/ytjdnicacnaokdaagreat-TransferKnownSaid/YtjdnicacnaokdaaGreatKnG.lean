/-
  The front of a row of bytes; numbers made bytes.
  What no code answers (transfer).
  Parts of a function's body: where a walk is cut into several texts.
-/
import Derived.Test.YtjdnicacnaokdaaGreatKit
import Derived.Test.YtjdnicacnaokdaaGreatRefsA
import Derived.ArgAppend
import Derived.Test.YtjdnicacnaokdaaGreatTrDec2
import Derived.Test.YtjdnicacnaokdaaGreatTrRepG
import Derived.Test.YtjdnicacnaokdaaGreatTrEnc
import Derived.Test.YtjdnicacnaokdaaGreatTrHelp
import Derived.WalkMore
import Derived.WalkKit
/- The front of a row of bytes; numbers made bytes. -/
namespace Go.Proofs.YtjdnicacnaokdaaGreat
open Go.RowKit Fld
set_option linter.unusedVariables false
set_option linter.unusedSimpArgs false

theorem slice_front (g n C:Nat) (hC:0 < C) (hn:n≤C):∀ W:World,(Instr.slice 34 (.slice (some ⟨g,0,none⟩) C C) none (some (.int .i64 (n:Nat))) none).run Tryz.prog W=.ok (.slice (some ⟨g,0,none⟩) n C) W:=fun W=>by
 rw [run_slice_h (P:=Tryz.prog) (w:=W) 34 (some ⟨g,0,none⟩) C C (by kernel_rfl) .i64 (n:Int) (by omega) (by omega),u8_size]
 simp only [Result.andThen_ok,sliced,Int.toNat_natCast]
 rw [if_neg (by omega)]
 simp [Addr.add_lit]
theorem slice_frontC (g n L C:Nat) (hC:0 < C) (hL:L≤C) (hn:n≤C):∀ W:World,(Instr.slice 34 (.slice (some ⟨g,0,none⟩) L C) none (some (.int .i64 (n:Nat))) none).run Tryz.prog W=.ok (.slice (some ⟨g,0,none⟩) n C) W:=fun W=>by
 rw [run_slice_h (P:=Tryz.prog) (w:=W) 34 (some ⟨g,0,none⟩) L C (by kernel_rfl) .i64 (n:Int) (by omega) (by omega),u8_size]
 simp only [Result.andThen_ok,sliced,Int.toNat_natCast]
 rw [if_neg (by omega)]
 simp [Addr.add_lit]
theorem u8_wrap (x:Int):∃ b:Nat,IntKind.u8.wrap x=(b:Int)∧b < 256:=by
 have h:IntKind.u8.wrap x=x % 256:=rfl
 exact ⟨(x % 256).toNat,by rw [h];omega,by omega⟩
theorem tmod_small {x q:Int} {m:Int} (hm:0 < m) (h:Int.tmod x m=q):-m < q∧q < m:=by
 rw [← h]
 exact ⟨Int.lt_tmod_of_pos _ hm,Int.tmod_lt_of_pos _ hm⟩
theorem GRd.frontK {w:World} {a:Option Addr} {n cap k:Nat} {l:List GF} (h:GRd w (.slice a n cap) l) (hk:k≤n):GRd w (.slice a k cap) (l.take k):=by
 obtain ⟨h0,a',cap',h1,h2,h3⟩:=h
 cases h1
 rw [List.length_map] at h2 hk
 refine ⟨fun x hx=>h0 x (by rw [List.map_take] at hx;exact List.mem_of_mem_take hx),a,cap,by rw [List.length_map,List.length_take,Nat.min_eq_left hk],by rw [List.length_map,List.length_take];omega,fun hne=>?_⟩
 obtain ⟨b,o,h4,h5,h6⟩:=h3 (fun e=>hne (by rw [List.map_eq_nil_iff] at e ⊢;rw [e,List.take_nil]))
 refine ⟨b,o,h4,h5,fun i hi=>?_⟩
 rw [List.length_map,List.length_take,Nat.min_eq_left hk] at hi
 rw [h6 i (by rw [List.length_map];omega)]
 congr 2
 rw [List.map_take,List.getD_eq_getElem?_getD,List.getD_eq_getElem?_getD,List.getElem?_take,if_pos hi]
end Go.Proofs.YtjdnicacnaokdaaGreat
/- What no code answers (transfer). -/
namespace Go.Proofs.YtjdnicacnaokdaaGreat
open Go.RowKit Fld
set_option linter.unusedVariables false
set_option linter.unusedSimpArgs false

theorem tenc_nil (w:World):Calls Tryz.prog 17 #[.pointer none,.slice none 0 0] w fun e w'=>e=.returned (.tuple #[.slice none 0 0,.int .i64 1])∧w=w':=by
 go_enter Tryz.func17,Tryz.ntmps17
 go_wp2
 go_ret2
 exact ⟨rfl,rfl⟩
theorem tdec_nil (w:World):Calls Tryz.prog 27 #[.pointer none,.slice none 0 0] w fun e w'=>e=.returned (.tuple #[.slice none 0 0,.int .i64 1])∧w=w':=by
 go_enter Tryz.func27,Tryz.ntmps27
 go_wp2
 go_ret2
 exact ⟨rfl,rfl⟩
theorem trep_nil (w:World):Calls Tryz.prog 25 #[.pointer none,.int .i64 0,.slice none 0 0] w fun e w'=>e=.returned (.tuple #[.slice none 0 0,.int .i64 1])∧Below w.heap.size w w':=by
 have HB:Hid (Below w.heap.size w (w.alloc (.cells #[.int .i64 0] 3))):=Lib.hid ((Below.refl _ _).alloc (Nat.le_refl _) _)
 go_enter Tryz.func25,Tryz.ntmps25
 go_wp2
 go_ret2
 exact ⟨rfl,HB.out⟩
theorem thelp_nil (w:World):Calls Tryz.prog 19 #[.pointer none,.int .i64 0,.int .i64 1,.slice none 0 0] w fun e w'=>e=.returned (.tuple #[.int .u8 0,.int .i64 1])∧Below w.heap.size w w':=by
 obtain ⟨w1,hw1⟩:∃ w1,w1=((w.alloc (.cells #[.int .i64 1] 3)).alloc (.cells #[.slice none 0 0] 34)).alloc (.cells #[.int .u8 0] 5):=⟨_,rfl⟩
 have hb1:Below w.heap.size w w1:=by rw [hw1];exact (((Below.refl _ _).alloc (Nat.le_refl _) _).alloc (by simp) _).alloc (by simp;omega) _
 have d2:w1.heap[w.heap.size+1+1]? = some (.cells #[.int .u8 0] 5 (0,0)):=by rw [hw1];exact heap_newE _ _ _ (by simp)
 have z2:=cell_of_heap d2 (j:=0) rfl
 have f2:=free_of_heap d2 0
 have l2:=lt_of_heap d2
 have hk3:Kp [w.heap.size+1+1] w1 (w1.setCell ⟨w.heap.size+1+1,0,none⟩ (.int .u8 0)):=(Kp.refl _ _).setCell (.inl (by simp)) _
 have HBW:Hid (Below w.heap.size w (w1.setCell ⟨w.heap.size+1+1,0,none⟩ (.int .u8 0))):=Lib.hid (hb1.trans (hk3.below hb1.size (by simp;omega)))
 have r1:(w1.setCell ⟨w.heap.size+1+1,0,none⟩ (.int .u8 0)).cell? ⟨w.heap.size+1+1,0,none⟩=some (.int .u8 0):=World.cell?_setCell_same _ _ _ z2
 clear hb1 d2 hk3
 go_enter Tryz.func19,Tryz.ntmps19
 go_upto_block 0 with fail
 rw [← hw1]
 clear hw1
 go_wp2
 refine bodyPost_ret (v:=.tuple #[.int .u8 0,.int .i64 1]) ?_ rfl ⟨rfl,HBW.out⟩
 simp [results,Tryz.results19,go_sem,r1]
theorem talpha_nil (w:World):Calls Tryz.prog 13 #[.pointer none] w fun e w'=>e=.returned (.int .i64 0)∧w=w':=by
 go_enter Tryz.func13,Tryz.ntmps13
 go_wp2
 go_ret
 exact ⟨rfl,rfl⟩
theorem tb_nil (w:World):Calls Tryz.prog 14 #[.pointer none] w fun e w'=>e=.returned (.int .i64 0)∧w=w':=by
 go_enter Tryz.func14,Tryz.ntmps14
 go_wp2
 go_ret
 exact ⟨rfl,rfl⟩
end Go.Proofs.YtjdnicacnaokdaaGreat
/- Parts of a function's body: where a walk is cut into several texts. -/
namespace Go.Proofs.YtjdnicacnaokdaaGreat
open Go.RowKit
set_option linter.unusedVariables false

def cAt:List Bool→Code→Code
 | false :: p,.seq x _=>cAt p x
 | true :: p,.seq _ y=>cAt p y
 | _,c=>c
def bodyC (fn:Func):Code:=match fn.body with
 | some c=>c
 | none=>.skip
theorem open_at {P:Program} {Q:Exit→Act→World→Prop} {a:Act} {w:World} {fn:Func} {b c:Code} (p:List Bool) (hb:fn.body=some b) (hc:cAt p b=c) (h:c.wp P Q a w):(cAt p (bodyC fn)).wp P Q a w:=by
 unfold bodyC
 rw [hb]
 rw [hc]
 exact h
end Go.Proofs.YtjdnicacnaokdaaGreat
