/-
  starfishref03.Mul: the document's product of bytes.
  The reference's values of polynomials, its inverses, and a word by definition.
  The reference's Trim and Add.
-/
import Derived.Test.YtcclhhjcejmepaaGreatRows
import Derived.Test.YtcclhhjcejmepaaGreatZBase
import Derived.WalkKit
import Derived.WalkSpells
import Derived.WalkLawsBesides
import Derived.Lib.Hide
import Derived.Handy
import Derived.Test.YtcclhhjcejmepaaGreatZKit
import Derived.Test.YtcclhhjcejmepaaGreatZPlains
/- starfishref03.Mul: the document's product of bytes. -/
namespace Go.Proofs.YtcclhhjcejmepaaGreat
open Go.RowKit
set_option linter.unusedVariables false
end Go.Proofs.YtcclhhjcejmepaaGreat
/- The reference's values of polynomials, its inverses, and a word by definition. -/
namespace Go.Proofs.YtcclhhjcejmepaaGreat
open Go.RowKit Fld
set_option linter.unusedVariables false
set_option linter.unusedSimpArgs false

theorem getD_of {l:List GF} {i:Nat} {c:GF} (h:l[i]? = some c):l.getD i 0=c:=by rw [List.getD_eq_getElem?_getD,h];rfl
theorem at_get {l:List GF} {i:Nat} (h:i < l.length):∃ c,l[i]? = some c∧l.getD i 0=c:=⟨_,List.getElem?_eq_getElem h,getD_of (List.getElem?_eq_getElem h)⟩
def gfn (n:Nat):GF:=⟨n % 256,Nat.mod_lt _ (by omega)⟩
end Go.Proofs.YtcclhhjcejmepaaGreat
/- The reference's Trim and Add. -/
namespace Go.Proofs.YtcclhhjcejmepaaGreat
open Go.RowKit Fld
set_option linter.unusedVariables false
set_option linter.unusedSimpArgs false

theorem u8_size:∀ w,(sizeOf (Tryz.prog.elem 22)).run Tryz.prog w=.ok 1 w:=by
 have:Tryz.prog.elem 22=5:=by kernel_rfl
 rw [this]
 obtain ⟨i0,hi,hz0,hz1,hz2⟩:=info_parts u8_info
 intro w
 simp [sizeOf,typeInfo,hi,hz1]
theorem slice_h (a:Option Addr) (n cap J:Nat) (hJ:J≤cap):∃ sa sc,(∀ W,(Instr.slice 22 (.slice a n cap) none (some (.int .i64 (J:Nat))) none).run Tryz.prog W=.ok (.slice sa J sc) W) ∧
  (∀ W l,GRd W (.slice a n cap) l→J≤l.length→GRd W (.slice sa J sc) (l.take J))∧(a ≠ none→sa ≠ none):=by
 refine ⟨if cap=0 then a else a.map (·.add (0 * 1)),cap - 0,fun W=>?_,fun W l h hJl=>?_,?_⟩
 ·rw [run_slice_h (P:=Tryz.prog) (w:=W) 22 a n cap (by kernel_rfl) .i64 (J:Int) (by omega) (by omega),u8_size]
  simp only [Result.andThen_ok,sliced,Int.toNat_natCast]
  rfl
 ·obtain ⟨hl,a',cap',h1,h2,h3⟩:=h
  obtain ⟨rfl,rfl,rfl⟩:=(Value.slice.injEq ..).mp h1
  rw [List.length_map] at h2 h3
  refine ⟨fun x hx=>?_,_,_,by rw [List.length_map,List.length_take,Nat.min_eq_left hJl],by rw [List.length_map,List.length_take,Nat.min_eq_left hJl];omega,fun hne=>?_⟩
  ·obtain ⟨y,_,rfl⟩:=List.mem_map.1 hx
   exact y.lt
  ·have hJ0:0 < J:=Nat.pos_of_ne_zero fun e=>hne (by rw [e];rfl)
   obtain ⟨b,o,rfl,h5,h6⟩:=h3 (fun e=>by
    have:=congrArg List.length e
    simp at this
    rw [this] at hJl
    simp at hJl
    omega)
   refine ⟨b,o,?_,h5,fun i hi=>?_⟩
   ·rw [if_neg (by omega)]
    simp [Addr.add]
   ·rw [List.length_map,List.length_take,Nat.min_eq_left hJl] at hi
    rw [h6 i (by omega),List.getD_eq_getElem?_getD,List.getD_eq_getElem?_getD,List.getElem?_map,List.getElem?_map,List.getElem?_take,if_pos hi]
 ·intro ha
  cases a with
  | none=>exact absurd rfl ha
  | some A=>split <;> simp
theorem slice_l (a:Option Addr) (n cap k:Nat) (hk:k≤n) (hn:n≤cap):∃ sa sc,(∀ W,(Instr.slice 22 (.slice a n cap) (some (.int .i64 (k:Nat))) none none).run Tryz.prog W=.ok (.slice sa (n - k) sc) W) ∧
  (∀ W l,GRd W (.slice a n cap) l→GRd W (.slice sa (n - k) sc) (l.drop k))∧(a ≠ none→sa ≠ none):=by
 refine ⟨if cap=k then a else a.map (·.add (k * 1)),cap - k,fun W=>?_,fun W l h=>?_,?_⟩
 ·rw [run_slice_l (P:=Tryz.prog) (w:=W) 22 a n cap (by kernel_rfl) .i64 (k:Int) (by omega) (by omega),u8_size]
  simp only [Result.andThen_ok,sliced,Int.toNat_natCast]
 ·obtain ⟨hl,a',cap',h1,h2,h3⟩:=h
  obtain ⟨rfl,rfl,rfl⟩:=(Value.slice.injEq ..).mp h1
  rw [List.length_map] at h2 h3 hk hn ⊢
  refine ⟨fun x hx=>?_,_,_,by rw [List.length_map,List.length_drop],by rw [List.length_map,List.length_drop];omega,fun hne=>?_⟩
  ·obtain ⟨y,_,rfl⟩:=List.mem_map.1 hx
   exact y.lt
  ·have hk0:k < l.length:=Nat.lt_of_not_le fun e=>hne (by rw [List.drop_eq_nil_of_le e];rfl)
   obtain ⟨b,o,rfl,h5,h6⟩:=h3 (fun e=>by
    have:=congrArg List.length e
    simp at this
    rw [this] at hk0
    simp at hk0)
   refine ⟨b,o+k,?_,h5,fun i hi=>?_⟩
   ·rw [if_neg (by omega)]
    simp only [Option.map_some,Nat.mul_one,Option.some.injEq]
    unfold Addr.add
    split <;> simp_all
   ·rw [List.length_map,List.length_drop] at hi
    have:=h6 (k+i) (by omega)
    rw [show o+(k+i)=o+k+i by omega] at this
    rw [this,List.getD_eq_getElem?_getD,List.getD_eq_getElem?_getD,List.getElem?_map,List.getElem?_map,List.getElem?_drop]
 ·intro ha
  cases a with
  | none=>exact absurd rfl ha
  | some A=>split <;> simp
theorem app_rows {W:World} {base:Nat} {V:Value} {l m:List GF} {A:Addr} {n cap:Nat} (h:OwnG W base V l) (hs:GRd W (.slice (some A) n cap) m) (hl:l.length≤1000000000) (hm:m.length≤1000000000) (hb:base≤W.heap.size) :
  ∃ v1 w3,(Builtin.append_ #[22,22] 22 #[V,.slice (some A) n cap]).run Tryz.prog W=.ok v1 w3∧OwnG w3 base v1 (l ++ m)∧Kp V.ownBlock.toList W w3∧Below base W w3:=by
 obtain ⟨i0,hi,hz0,hz1,hz2⟩:=info_parts u8_info
 obtain ⟨v1,w3,hap,hown1,hgrow1,-⟩:=run_append_own_at (P:=Tryz.prog) (w:=W) base 22 22 5 i0 (.int .u8 0) 1 1 Tryz.underlying22 hi hz0 hz1 hz2 rfl (by decide) V l.length _ h A m.length cap (gv m) (by rw [gv_length];omega) (by
  obtain ⟨a',c',e,_⟩:=hs.form
  exact hs.news) gv_one (by unfold maxLen;omega) (by omega) hb
 obtain ⟨a',c',e,_⟩:=hs.form
 cases e
 refine ⟨v1,w3,hap,?_,kp_grown hgrow1,(Below.refl base W).grown hgrow1 hb (fun b hb=>(h.lt b hb).1)⟩
 unfold OwnG
 rw [gv_append,List.length_append]
 exact hown1
theorem GRd.nil_of {w:World} {n cap:Nat} {l:List GF} (h:GRd w (.slice none n cap) l):l=[]:=by
 refine Classical.byContradiction fun hne=>?_
 obtain ⟨x,hx⟩:∃ x,l[0]? = some x:=⟨_,List.getElem?_eq_getElem (List.length_pos_iff.2 hne)⟩
 obtain ⟨b,o,e,_⟩:=h.at hx
 cases e
theorem app_nil {W:World} {m:List GF} {a:Option Addr} {n cap:Nat} (hs:GRd W (.slice a n cap) m) (hm:m.length≤1000000000) :
  ∃ v1 w3,(Builtin.append_ #[22,22] 22 #[.slice none 0 0,.slice a n cap]).run Tryz.prog W=.ok v1 w3∧OwnG w3 W.heap.size v1 m∧Below W.heap.size W w3:=by
 cases a with
 | none =>
  obtain rfl:=hs.nil_of
  obtain ⟨a',c',e,_⟩:=hs.form
  cases e
  obtain ⟨i0,hi,hz0,hz1,hz2⟩:=info_parts u8_info
  refine ⟨.slice none 0 0,W,?_,OwnG.nil _ _,Below.refl _ _⟩
  simp [Builtin.append_,run_underlying Tryz.underlying22,sizeOf,typeInfo,hi,Builtin.lenOf,Builtin.firstCells,loadCells,loadCellsFrom]
 | some A =>
  obtain ⟨v1,w3,h1,h2,-,h3⟩:=app_rows (OwnG.nil W W.heap.size) hs (by simp) hm (Nat.le_refl _)
  exact ⟨v1,w3,h1,by simpa using h2,h3⟩
end Go.Proofs.YtcclhhjcejmepaaGreat
