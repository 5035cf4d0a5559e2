/-
  starfishref03.Mul: the document's product of bytes.
  The reference's values of polynomials, its inverses, and a word by definition.
  The reference's Trim and Add.
-/
import Derived.Test.YtnjbkfeihbcalaaGreatRows
import Derived.Test.YtnjbkfeihbcalaaGreatZBase
import Derived.WalkKit
import Derived.WalkSpells
import Derived.WalkLawsBesides
import Derived.Lib.Hide
import Derived.Handy
import Derived.Test.YtnjbkfeihbcalaaGreatZKit
import Derived.Test.YtnjbkfeihbcalaaGreatZPlains
/- starfishref03.Mul: the document's product of bytes. -/
namespace Go.Proofs.YtnjbkfeihbcalaaGreat
open Go.RowKit
set_option linter.unusedVariables false
theorem redA_step (M j:Nat) (h1:8≤j) (h2:j≤14):redA M (14 - (j - 1))=if (redA M (14 - j)).testBit j then redA M (14 - j) ^^^ (285 * 2 ^ (j - 8)) else redA M (14 - j):=by
 rw [show 14 - (j - 1)=(14 - j)+1 by omega,redA,show 14 - (14 - j)=j by omega,show 6 - (14 - j)=j - 8 by omega]

set_option maxHeartbeats 400000 in
theorem mul_any (a b:Nat) (w:World) (ha:a < 256) (hb:b < 256) :
  Calls Tryz.prog 133 #[.int .u8 a,.int .u8 b] w fun e w'=>e=.returned (.int .u8 (gmul a b:Nat))∧w=w':=by
 go_enter Tryz.func133,Tryz.ntmps133
 go_wp2
 go_loop [5,6] (fun n i=>∃ k:Nat,k≤8∧i=.int .i64 k∧n=.int .i64 (mulA a b k:Nat)) (fun _ i=>8 - (intOf i).toNat)
 case atStart=>exact ⟨0,by omega,rfl,rfl⟩
 case round =>
  obtain ⟨k,hk,rfl,rfl⟩:=hrel
  have hm:=mulA_lt (b:=b) ha k
  have hm2:(2:Nat) ^ (8+k)≤2 ^ 16:=Nat.pow_le_pow_right (by omega) (by omega)
  have hm3:mulA a b k < 65536:=by omega
  clear hm hm2
  by_cases hlt:k < 8
  ·have hbit:=u8_bit b k hb
   have hp:a * 2 ^ k < 65536:=by
    have h1:(2:Nat) ^ k≤2 ^ 7:=Nat.pow_le_pow_right (by omega) (by omega)
    have:=Nat.mul_le_mul (Nat.le_of_lt_succ ha) h1
    omega
   have hw:wrap64 ((a:Int) * 2 ^ k)=((a * 2 ^ k:Nat):Int):=by
    rw [show ((a:Int) * 2 ^ k)=((a * 2 ^ k:Nat):Int) by simp]
    exact IntWalk.wrap64_in _ (by omega)
   have hx:=i64_xor_nat (mulA a b k) (a * 2 ^ k) (by omega) (by omega)
   have HX:Hid (bits .xor .i64 ((mulA a b k:Nat):Int) (wrap64 ((a:Int) * 2 ^ k))=((mulA a b k ^^^ (a * 2 ^ k):Nat):Int)):=by rw [hw];exact hx
   clear hw hx hp
   cases ht:b.testBit k
   all_goals
    rw [ht] at hbit
    have HT:=Lib.hid ht
    clear ht
    go_wp2
    go_round
    case rel=>exact ⟨k+1,by omega,by go_num,by first | rw [HX.out,mulA,if_pos HT.out] | rw [mulA,HT.out,if_neg (by simp)]⟩
    case measure=>simp [intOf];omega
  ·obtain rfl:k=8:=by omega
   go_wp2
   go_loop [5,7] (fun n i=>∃ j:Nat,7≤j∧j≤14∧i=.int .i64 j∧n=.int .i64 (redA (mulA a b 8) (14 - j):Nat)) (fun _ i=>(intOf i).toNat)
   case atStart=>exact ⟨14,by omega,by omega,rfl,rfl⟩
   case round =>
    obtain ⟨j,hj,hj2,rfl,rfl⟩:=hrel
    have hr:=redA_lt hm3 (14 - j) (by omega)
    obtain ⟨m,hm⟩:∃ m,m=redA (mulA a b 8) (14 - j):=⟨_,rfl⟩
    rw [← hm] at hr ⊢
    by_cases h8:8≤j
    ·have hbit:=i64_bit m j hr
     have HB:=Lib.hid hm
     clear hm
     have hw:wrap64 (285 * 2 ^ (j - 8))=((285 * 2 ^ (j - 8):Nat):Int):=by
      rw [show ((285:Int) * 2 ^ (j - 8))=((285 * 2 ^ (j - 8):Nat):Int) by simp]
      have h1:(2:Nat) ^ (j - 8)≤2 ^ 6:=Nat.pow_le_pow_right (by omega) (by omega)
      exact IntWalk.wrap64_in _ (by omega)
     have hp:285 * 2 ^ (j - 8) < 65536:=by
      have h1:(2:Nat) ^ (j - 8)≤2 ^ 6:=Nat.pow_le_pow_right (by omega) (by omega)
      omega
     have HX:Hid (bits .xor .i64 (m:Int) (wrap64 (285 * 2 ^ (j - 8)))=((m ^^^ (285 * 2 ^ (j - 8)):Nat):Int)):=by rw [hw];exact i64_xor_nat m _ (by omega) (by omega)
     clear hw hp
     cases ht:m.testBit j
     all_goals
      rw [ht] at hbit
      have HT:=Lib.hid ht
      clear ht
      go_wp2
      go_round
      case rel=>exact ⟨j - 1,by omega,by omega,by rw [show ((j - 1:Nat):Int)=(j:Int) - 1 by omega],by rw [redA_step _ _ h8 hj2,← HB.out];first | rw [HX.out,if_pos HT.out] | rw [HT.out,if_neg (by simp)]⟩
      case measure=>simp [intOf];omega
    ·obtain rfl:j=7:=by omega
     have hg:gmul a b=m % 256:=by rw [gmul,hm]
     have HG:=Lib.hid hg
     clear hm hg
     go_wp2
     go_ret
     exact ⟨by rw [HG.out];simp,rfl⟩
end Go.Proofs.YtnjbkfeihbcalaaGreat
/- The reference's values of polynomials, its inverses, and a word by definition. -/
namespace Go.Proofs.YtnjbkfeihbcalaaGreat
open Go.RowKit Fld
set_option linter.unusedVariables false
set_option linter.unusedSimpArgs false

theorem rmul_g (a b:GF) (w:World):Calls Tryz.prog 133 #[.int .u8 (a.n:Nat),.int .u8 (b.n:Nat)] w fun e w'=>e=.returned (.int .u8 ((a * b).n:Nat))∧w=w' :=
 mul_any a.n b.n w a.lt b.lt
theorem getD_of {l:List GF} {i:Nat} {c:GF} (h:l[i]? = some c):l.getD i 0=c:=by rw [List.getD_eq_getElem?_getD,h];rfl
theorem at_get {l:List GF} {i:Nat} (h:i < l.length):∃ c,l[i]? = some c∧l.getD i 0=c:=⟨_,List.getElem?_eq_getElem h,getD_of (List.getElem?_eq_getElem h)⟩
theorem inv_of_mul {a b:GF} (h:a * b=1):a ≠ 0∧b=Fld.inv a:=by
 have ha:a ≠ 0:=fun e=>one_ne0 (F:=GF) (by rw [← h,e,zmul])
 exact ⟨ha,mul_cancel ha (by rw [h,m_inv a ha])⟩
def gfn (n:Nat):GF:=⟨n % 256,Nat.mod_lt _ (by omega)⟩
end Go.Proofs.YtnjbkfeihbcalaaGreat
/- The reference's Trim and Add. -/
namespace Go.Proofs.YtnjbkfeihbcalaaGreat
open Go.RowKit Fld
set_option linter.unusedVariables false
set_option linter.unusedSimpArgs false

theorem u8_size:∀ w,(sizeOf (Tryz.prog.elem 50)).run Tryz.prog w=.ok 1 w:=by
 have:Tryz.prog.elem 50=5:=by kernel_rfl
 rw [this]
 obtain ⟨i0,hi,hz0,hz1,hz2⟩:=info_parts u8_info
 intro w
 simp [sizeOf,typeInfo,hi,hz1]
theorem slice_h (a:Option Addr) (n cap J:Nat) (hJ:J≤cap):∃ sa sc,(∀ W,(Instr.slice 50 (.slice a n cap) none (some (.int .i64 (J:Nat))) none).run Tryz.prog W=.ok (.slice sa J sc) W) ∧
  (∀ W l,GRd W (.slice a n cap) l→J≤l.length→GRd W (.slice sa J sc) (l.take J))∧(a ≠ none→sa ≠ none):=by
 refine ⟨if cap=0 then a else a.map (·.add (0 * 1)),cap - 0,fun W=>?_,fun W l h hJl=>?_,?_⟩
 ·rw [run_slice_h (P:=Tryz.prog) (w:=W) 50 a n cap (by kernel_rfl) .i64 (J:Int) (by omega) (by omega),u8_size]
  simp only [Result.andThen_ok,sliced,Int.toNat_natCast]
  rfl
 ·obtain ⟨hl,a',cap',h1,h2,h3⟩:=h
  obtain ⟨rfl,rfl,rfl⟩:=(Value.slice.injEq ..).mp h1
  rw [List.length_map] at h2 h3
  refine ⟨fun x hx=>?_,_,_,by rw [List.length_map,List.length_take,Nat.min_eq_left hJl],by rw [List.length_map,List.length_take,Nat.min_eq_left hJl];omega,fun hne=>?_⟩
  ·obtain ⟨y,_,rfl⟩:=List.mem_map.1 hx
   exact y.lt
  ·have hJ0:0 < J:=Nat.pos_of_ne_zero fun e=>hne (by rw [e];rfl)
   obtain ⟨b,o,rfl,h5,h6⟩:=h3 (fun e=>by
    have:=congrArg List.length e
    simp at this
    rw [this] at hJl
    simp at hJl
    omega)
   refine ⟨b,o,?_,h5,fun i hi=>?_⟩
   ·rw [if_neg (by omega)]
    simp [Addr.add]
   ·rw [List.length_map,List.length_take,Nat.min_eq_left hJl] at hi
    rw [h6 i (by omega),List.getD_eq_getElem?_getD,List.getD_eq_getElem?_getD,List.getElem?_map,List.getElem?_map,List.getElem?_take,if_pos hi]
 ·intro ha
  cases a with
  | none=>exact absurd rfl ha
  | some A=>split <;> simp
theorem app_rows {W:World} {base:Nat} {V:Value} {l m:List GF} {A:Addr} {n cap:Nat} (h:OwnG W base V l) (hs:GRd W (.slice (some A) n cap) m) (hl:l.length≤1000000000) (hm:m.length≤1000000000) (hb:base≤W.heap.size) :
  ∃ v1 w3,(Builtin.append_ #[50,50] 50 #[V,.slice (some A) n cap]).run Tryz.prog W=.ok v1 w3∧OwnG w3 base v1 (l ++ m)∧Kp V.ownBlock.toList W w3∧Below base W w3:=by
 obtain ⟨i0,hi,hz0,hz1,hz2⟩:=info_parts u8_info
 obtain ⟨v1,w3,hap,hown1,hgrow1,-⟩:=run_append_own_at (P:=Tryz.prog) (w:=W) base 50 50 5 i0 (.int .u8 0) 1 1 Tryz.underlying50 hi hz0 hz1 hz2 rfl (by decide) V l.length _ h A m.length cap (gv m) (by rw [gv_length];omega) (by
  obtain ⟨a',c',e,_⟩:=hs.form
  exact hs.news) gv_one (by unfold maxLen;omega) (by omega) hb
 obtain ⟨a',c',e,_⟩:=hs.form
 cases e
 refine ⟨v1,w3,hap,?_,kp_grown hgrow1,(Below.refl base W).grown hgrow1 hb (fun b hb=>(h.lt b hb).1)⟩
 unfold OwnG
 rw [gv_append,List.length_append]
 exact hown1
theorem GRd.nil_of {w:World} {n cap:Nat} {l:List GF} (h:GRd w (.slice none n cap) l):l=[]:=by
 refine Classical.byContradiction fun hne=>?_
 obtain ⟨x,hx⟩:∃ x,l[0]? = some x:=⟨_,List.getElem?_eq_getElem (List.length_pos_iff.2 hne)⟩
 obtain ⟨b,o,e,_⟩:=h.at hx
 cases e
theorem app_nil {W:World} {m:List GF} {a:Option Addr} {n cap:Nat} (hs:GRd W (.slice a n cap) m) (hm:m.length≤1000000000) :
  ∃ v1 w3,(Builtin.append_ #[50,50] 50 #[.slice none 0 0,.slice a n cap]).run Tryz.prog W=.ok v1 w3∧OwnG w3 W.heap.size v1 m∧Below W.heap.size W w3:=by
 cases a with
 | none =>
  obtain rfl:=hs.nil_of
  obtain ⟨a',c',e,_⟩:=hs.form
  cases e
  obtain ⟨i0,hi,hz0,hz1,hz2⟩:=info_parts u8_info
  refine ⟨.slice none 0 0,W,?_,OwnG.nil _ _,Below.refl _ _⟩
  simp [Builtin.append_,run_underlying Tryz.underlying50,sizeOf,typeInfo,hi,Builtin.lenOf,Builtin.firstCells,loadCells,loadCellsFrom]
 | some A =>
  obtain ⟨v1,w3,h1,h2,-,h3⟩:=app_rows (OwnG.nil W W.heap.size) hs (by simp) hm (Nat.le_refl _)
  exact ⟨v1,w3,h1,by simpa using h2,h3⟩
def RTrimPost (l:List GF) (w:World) (e:Ending) (w':World):Prop :=
 ∃ v p,e=.returned v∧TrimOf l p∧OwnG w' w.heap.size v p∧Below w.heap.size w w'
def RAddPost (l m:List GF) (w:World) (e:Ending) (w':World):Prop :=
 ∃ v p,e=.returned v∧OwnG w' w.heap.size v p∧Trimd p∧(∀ x,ev p x=ev l x+ev m x)∧p.length≤max l.length m.length∧Below w.heap.size w w'
theorem getD_over {l:List GF} {i:Nat} (h:l.length≤i):l.getD i 0=0:=by rw [List.getD_eq_getElem?_getD,List.getElem?_eq_none h];rfl
end Go.Proofs.YtnjbkfeihbcalaaGreat
