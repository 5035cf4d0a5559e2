/-
  config.Check.
  config.Check, where all numbers are bytes.
-/
import Derived.Test.YtnjbkfeihbcalaaGreatZCfM
import Derived.Test.YtnjbkfeihbcalaaGreatZCfP
/- config.Check. -/
namespace Go.Proofs.YtnjbkfeihbcalaaGreat
open Go.RowKit
set_option linter.unusedSimpArgs false
set_option linter.unusedVariables false

theorem bl_yes (x:Int) (w:World) (h:0≤x∧x≤255):Calls Tryz.prog 24 #[.int .i64 x] w fun e w'=>e=.returned (.bool true)∧w'=w:=by
 obtain ⟨h1,h2⟩:=h
 go_enter Tryz.func24,Tryz.ntmps24
 go_wp2
 go_ret
 exact ⟨rfl,rfl⟩
theorem bl_no (x:Int) (w:World) (h:x < 0 ∨ 255 < x):Calls Tryz.prog 24 #[.int .i64 x] w fun e w'=>e=.returned (.bool false)∧w'=w:=by
 rcases h with h | h
 ·have h1:decide (0≤x)=false:=decide_eq_false (by omega)
  go_enter Tryz.func24,Tryz.ntmps24
  go_wp2
  go_ret
  exact ⟨by simp [*],rfl⟩
 ·have h1:decide (x≤255)=false:=decide_eq_false (by omega)
  have h2:0≤x:=by omega
  go_enter Tryz.func24,Tryz.ntmps24
  go_wp2
  go_ret
  exact ⟨by simp [*],rfl⟩

set_option maxHeartbeats 4000000 in
theorem check_bad (c n k d r t q:Int) (w:World) (h:¬ inRange n k d r t) :
  Calls Tryz.prog 5 #[.agg #[.int .u8 c,.int .i64 n,.int .i64 k,.int .i64 d,.int .i64 r,.int .i64 t,.int .i64 q]] w fun e w'=>e=.returned (checkV none)∧Below w.heap.size w w':=by
 unfold inRange at h
 by_cases c1:n < 1
 ·have d1:decide (n < 1)=true:=decide_eq_true c1
  clear h
  go_enter Tryz.func5,Tryz.ntmps5
  go_wp2_with (first | (go_at_call 24;refine (bl_yes _ _ (by omega)).mono ?_;rintro e w' ⟨rfl,rfl⟩) | (go_at_call 24;refine (bl_no _ _ (by omega)).mono ?_;rintro e w' ⟨rfl,rfl⟩))
  refine bodyPost_ret (by simp [results,Tryz.results5,go_sem];rfl) rfl ?_
  exact ⟨rfl,by go_grown⟩
 have d1:decide (n < 1)=false:=decide_eq_false c1
 by_cases c2:n < 0 ∨ 255 < n
 ·clear h
  go_enter Tryz.func5,Tryz.ntmps5
  go_wp2_with (first | (go_at_call 24;refine (bl_yes _ _ (by omega)).mono ?_;rintro e w' ⟨rfl,rfl⟩) | (go_at_call 24;refine (bl_no _ _ (by omega)).mono ?_;rintro e w' ⟨rfl,rfl⟩))
  refine bodyPost_ret (by simp [results,Tryz.results5,go_sem];rfl) rfl ?_
  exact ⟨rfl,by go_grown⟩
 by_cases c3:k < 0 ∨ 255 < k
 ·clear h
  go_enter Tryz.func5,Tryz.ntmps5
  go_wp2_with (first | (go_at_call 24;refine (bl_yes _ _ (by omega)).mono ?_;rintro e w' ⟨rfl,rfl⟩) | (go_at_call 24;refine (bl_no _ _ (by omega)).mono ?_;rintro e w' ⟨rfl,rfl⟩))
  refine bodyPost_ret (by simp [results,Tryz.results5,go_sem];rfl) rfl ?_
  exact ⟨rfl,by go_grown⟩
 by_cases c4:d < 0 ∨ 255 < d
 ·clear h
  go_enter Tryz.func5,Tryz.ntmps5
  go_wp2_with (first | (go_at_call 24;refine (bl_yes _ _ (by omega)).mono ?_;rintro e w' ⟨rfl,rfl⟩) | (go_at_call 24;refine (bl_no _ _ (by omega)).mono ?_;rintro e w' ⟨rfl,rfl⟩))
  refine bodyPost_ret (by simp [results,Tryz.results5,go_sem];rfl) rfl ?_
  exact ⟨rfl,by go_grown⟩
 by_cases c5:r < 0 ∨ 255 < r
 ·clear h
  go_enter Tryz.func5,Tryz.ntmps5
  go_wp2_with (first | (go_at_call 24;refine (bl_yes _ _ (by omega)).mono ?_;rintro e w' ⟨rfl,rfl⟩) | (go_at_call 24;refine (bl_no _ _ (by omega)).mono ?_;rintro e w' ⟨rfl,rfl⟩))
  refine bodyPost_ret (by simp [results,Tryz.results5,go_sem];rfl) rfl ?_
  exact ⟨rfl,by go_grown⟩
 by_cases c6:t < 0
 ·have d6:decide (t < 0)=true:=decide_eq_true c6
  clear h
  go_enter Tryz.func5,Tryz.ntmps5
  go_wp2_with (first | (go_at_call 24;refine (bl_yes _ _ (by omega)).mono ?_;rintro e w' ⟨rfl,rfl⟩) | (go_at_call 24;refine (bl_no _ _ (by omega)).mono ?_;rintro e w' ⟨rfl,rfl⟩))
  refine bodyPost_ret (by simp [results,Tryz.results5,go_sem];rfl) rfl ?_
  exact ⟨rfl,by go_grown⟩
 have d6:decide (t < 0)=false:=decide_eq_false c6
 ·have d7:decide (127 < t)=true:=decide_eq_true (by omega)
  have c7:127 < t:=by omega
  clear h
  go_enter Tryz.func5,Tryz.ntmps5
  go_wp2_with (first | (go_at_call 24;refine (bl_yes _ _ (by omega)).mono ?_;rintro e w' ⟨rfl,rfl⟩) | (go_at_call 24;refine (bl_no _ _ (by omega)).mono ?_;rintro e w' ⟨rfl,rfl⟩))
  refine bodyPost_ret (by simp [results,Tryz.results5,go_sem];rfl) rfl ?_
  exact ⟨rfl,by go_grown⟩
end Go.Proofs.YtnjbkfeihbcalaaGreat
/- config.Check, where all numbers are bytes. -/
namespace Go.Proofs.YtnjbkfeihbcalaaGreat
open Go.RowKit
set_option linter.unusedSimpArgs false
set_option linter.unusedVariables false

theorem heap_two (w:World) (a b:Obj):((w.alloc a).alloc b).heap[w.heap.size]? = some a∧((w.alloc a).alloc b).heap[w.heap.size+1]? = some b:=by
 constructor
 ·show ((w.heap.push a).push b)[w.heap.size]? = _
  rw [Array.getElem?_push,if_neg (by simp),Array.getElem?_push,if_pos rfl]
 ·show ((w.heap.push a).push b)[w.heap.size+1]? = _
  rw [Array.getElem?_push,if_pos (by simp)]

set_option maxHeartbeats 4000000 in
theorem check_good (c n k d r t q:Int) (s:Sh) (w:World) (hn:1≤n∧n≤255) (hk:0≤k∧k≤255) (hd:0≤d∧d≤255) (hr:0≤r∧r≤255) (ht:0≤t∧t≤127)
  (hs:∀ w,Calls Tryz.prog 25 #[.agg #[.int .u8 c,.int .i64 n,.int .i64 k,.int .i64 d,.int .i64 r,.int .i64 t,.int .i64 q]] w fun e w'=>e=.returned (.agg #[.int .i64 s.al,.int .i64 s.b,.int .i64 s.te,.int .i64 s.as_,.int .i64 s.tol])∧Below w.heap.size w w')
  (ha:1≤s.al) (hte:1≤s.te∧s.te≤510) (has:1≤s.as_∧s.as_≤1020)
  (h1:s.te+2 * t≤q) (h2:q≤n) (h3:s.as_ < n) (h4:s.te+2 * t < n) :
  Calls Tryz.prog 5 #[.agg #[.int .u8 c,.int .i64 n,.int .i64 k,.int .i64 d,.int .i64 r,.int .i64 t,.int .i64 q]] w fun e w'=>e=.returned (.tuple #[s.v,.int .i64 0])∧Below w.heap.size w w':=by
 have d8:¬ s.al=0:=by omega
 have d9:decide (q < s.te+2 * t)=false:=decide_eq_false (by omega)
 have d10:decide (n < q)=false:=decide_eq_false (by omega)
 have d11:decide (n≤s.as_)=false:=decide_eq_false (by omega)
 have d12:decide (n≤s.te+2 * t)=false:=decide_eq_false (by omega)
 have d1:decide (n < 1)=false:=decide_eq_false (by omega)
 have d6:decide (t < 0)=false:=decide_eq_false (by omega)
 have d7:decide (127 < t)=false:=decide_eq_false (by omega)
 have HS:=Lib.hid hs
 clear hs
 go_enter Tryz.func5,Tryz.ntmps5
 go_wp2_with (first | (go_at_call 24;refine (bl_yes _ _ (by omega)).mono ?_;rintro e w' ⟨rfl,rfl⟩))
 have hs:=HS.out
 refine (hs _).mono ?_
 rintro e w1 ⟨rfl,hb1⟩
 have hz:=heap_two w (.cells #[.int .u8 c,.int .i64 n,.int .i64 k,.int .i64 d,.int .i64 r,.int .i64 t,.int .i64 q] 23) (.cells #[.int .i64 0,.int .i64 0,.int .i64 0,.int .i64 0,.int .i64 0] 25)
 have hB0:=(hb1.block w.heap.size (by simp;omega)).trans hz.1
 have hB1:=(hb1.block (w.heap.size+1) (by simp)).trans hz.2
 have hb0:Below w.heap.size w w1:=(((Below.refl _ w).alloc (Nat.le_refl _) _).alloc (by simp) _).trans (hb1.mono (by simp;omega))
 clear hb1 hz hs
 obtain ⟨w2,rfl,hz2,hp⟩:=put_of hB1
 have hb2:=hp (fun W=>Below w.heap.size w W) hb0
 have hB2:=hp (fun W=>W.heap[w.heap.size]? = _) hB0
 clear hB1 hb0 hp hB0
 obtain ⟨w3,rfl,hz3,hp⟩:=put_of hB2
 have hb3:=hp (fun W=>Below w.heap.size w W) hb2
 simp only [size_putBlk] at hz2
 clear hB2 hb2 hp
 go_wp2
 refine bodyPost_ret (by simp [results,Tryz.results5,go_sem,hz2,hz3];rfl) rfl ⟨rfl,?_⟩
 repeat' (first | (with_reducible assumption) | (with_reducible refine Below.alloc ?_ ?_ _) | (with_reducible refine bel_putBlk ?_ ?_ _) | (simp [size_putBlk];done) | (simp [size_putBlk];omega))

set_option maxHeartbeats 4000000 in
theorem check_zero (c n k d r t q:Int) (s:Sh) (w:World) (hn:1≤n∧n≤255) (hk:0≤k∧k≤255) (hd:0≤d∧d≤255) (hr:0≤r∧r≤255) (ht:0≤t∧t≤127)
  (hs:∀ w,Calls Tryz.prog 25 #[.agg #[.int .u8 c,.int .i64 n,.int .i64 k,.int .i64 d,.int .i64 r,.int .i64 t,.int .i64 q]] w fun e w'=>e=.returned (.agg #[.int .i64 0,.int .i64 0,.int .i64 0,.int .i64 0,.int .i64 0])∧Below w.heap.size w w') :
  Calls Tryz.prog 5 #[.agg #[.int .u8 c,.int .i64 n,.int .i64 k,.int .i64 d,.int .i64 r,.int .i64 t,.int .i64 q]] w fun e w'=>e=.returned (checkV none)∧Below w.heap.size w w':=by
 have d1:decide (n < 1)=false:=decide_eq_false (by omega)
 have d6:decide (t < 0)=false:=decide_eq_false (by omega)
 have d7:decide (127 < t)=false:=decide_eq_false (by omega)
 have HS:=Lib.hid hs
 clear hs
 go_enter Tryz.func5,Tryz.ntmps5
 go_wp2_with (first | (go_at_call 24;refine (bl_yes _ _ (by omega)).mono ?_;rintro e w' ⟨rfl,rfl⟩))
 have hs:=HS.out
 refine (hs _).mono ?_
 rintro e w1 ⟨rfl,hb1⟩
 have hz:=heap_two w (.cells #[.int .u8 c,.int .i64 n,.int .i64 k,.int .i64 d,.int .i64 r,.int .i64 t,.int .i64 q] 23) (.cells #[.int .i64 0,.int .i64 0,.int .i64 0,.int .i64 0,.int .i64 0] 25)
 have hB0:=(hb1.block w.heap.size (by simp;omega)).trans hz.1
 have hB1:=(hb1.block (w.heap.size+1) (by simp)).trans hz.2
 have hb0:Below w.heap.size w w1:=(((Below.refl _ w).alloc (Nat.le_refl _) _).alloc (by simp) _).trans (hb1.mono (by simp;omega))
 clear hb1 hz hs
 obtain ⟨w2,rfl,hz2,hp⟩:=put_of hB1
 have hb2:=hp (fun W=>Below w.heap.size w W) hb0
 have hB2:=hp (fun W=>W.heap[w.heap.size]? = _) hB0
 clear hB1 hb0 hp hB0
 obtain ⟨w3,rfl,hz3,hp⟩:=put_of hB2
 have hb3:=hp (fun W=>Below w.heap.size w W) hb2
 simp only [size_putBlk] at hz2
 clear hB2 hb2 hp
 go_wp2
 refine bodyPost_ret (by simp [results,Tryz.results5,go_sem,hz2,hz3];rfl) rfl ⟨rfl,?_⟩
 repeat' (first | (with_reducible assumption) | (with_reducible refine Below.alloc ?_ ?_ _) | (with_reducible refine bel_putBlk ?_ ?_ _) | (simp [size_putBlk];done) | (simp [size_putBlk];omega))

set_option maxHeartbeats 4000000 in
theorem check_w (c n k d r t q:Int) (s:Sh) (w:World) (hn:1≤n∧n≤255) (hk:0≤k∧k≤255) (hd:0≤d∧d≤255) (hr:0≤r∧r≤255) (ht:0≤t∧t≤127)
  (hs:∀ w,Calls Tryz.prog 25 #[.agg #[.int .u8 c,.int .i64 n,.int .i64 k,.int .i64 d,.int .i64 r,.int .i64 t,.int .i64 q]] w fun e w'=>e=.returned (.agg #[.int .i64 s.al,.int .i64 s.b,.int .i64 s.te,.int .i64 s.as_,.int .i64 s.tol])∧Below w.heap.size w w')
  (ha:1≤s.al) (hte:1≤s.te∧s.te≤510) (has:1≤s.as_∧s.as_≤1020)
  (h1:q < s.te+2 * t) :
  Calls Tryz.prog 5 #[.agg #[.int .u8 c,.int .i64 n,.int .i64 k,.int .i64 d,.int .i64 r,.int .i64 t,.int .i64 q]] w fun e w'=>e=.returned (checkV none)∧Below w.heap.size w w':=by
 have d8:¬ s.al=0:=by omega
 have d9:decide (q < s.te+2 * t)=true:=decide_eq_true (by omega)
 have d1:decide (n < 1)=false:=decide_eq_false (by omega)
 have d6:decide (t < 0)=false:=decide_eq_false (by omega)
 have d7:decide (127 < t)=false:=decide_eq_false (by omega)
 have HS:=Lib.hid hs
 clear hs
 go_enter Tryz.func5,Tryz.ntmps5
 go_wp2_with (first | (go_at_call 24;refine (bl_yes _ _ (by omega)).mono ?_;rintro e w' ⟨rfl,rfl⟩))
 have hs:=HS.out
 refine (hs _).mono ?_
 rintro e w1 ⟨rfl,hb1⟩
 have hz:=heap_two w (.cells #[.int .u8 c,.int .i64 n,.int .i64 k,.int .i64 d,.int .i64 r,.int .i64 t,.int .i64 q] 23) (.cells #[.int .i64 0,.int .i64 0,.int .i64 0,.int .i64 0,.int .i64 0] 25)
 have hB0:=(hb1.block w.heap.size (by simp;omega)).trans hz.1
 have hB1:=(hb1.block (w.heap.size+1) (by simp)).trans hz.2
 have hb0:Below w.heap.size w w1:=(((Below.refl _ w).alloc (Nat.le_refl _) _).alloc (by simp) _).trans (hb1.mono (by simp;omega))
 clear hb1 hz hs
 obtain ⟨w2,rfl,hz2,hp⟩:=put_of hB1
 have hb2:=hp (fun W=>Below w.heap.size w W) hb0
 have hB2:=hp (fun W=>W.heap[w.heap.size]? = _) hB0
 clear hB1 hb0 hp hB0
 obtain ⟨w3,rfl,hz3,hp⟩:=put_of hB2
 have hb3:=hp (fun W=>Below w.heap.size w W) hb2
 simp only [size_putBlk] at hz2
 clear hB2 hb2 hp
 go_wp2
 refine bodyPost_ret (by simp [results,Tryz.results5,go_sem,hz2,hz3];rfl) rfl ⟨rfl,?_⟩
 repeat' (first | (with_reducible assumption) | (with_reducible refine Below.alloc ?_ ?_ _) | (with_reducible refine bel_putBlk ?_ ?_ _) | (simp [size_putBlk];done) | (simp [size_putBlk];omega))

set_option maxHeartbeats 4000000 in
theorem check_wn (c n k d r t q:Int) (s:Sh) (w:World) (hn:1≤n∧n≤255) (hk:0≤k∧k≤255) (hd:0≤d∧d≤255) (hr:0≤r∧r≤255) (ht:0≤t∧t≤127)
  (hs:∀ w,Calls Tryz.prog 25 #[.agg #[.int .u8 c,.int .i64 n,.int .i64 k,.int .i64 d,.int .i64 r,.int .i64 t,.int .i64 q]] w fun e w'=>e=.returned (.agg #[.int .i64 s.al,.int .i64 s.b,.int .i64 s.te,.int .i64 s.as_,.int .i64 s.tol])∧Below w.heap.size w w')
  (ha:1≤s.al) (hte:1≤s.te∧s.te≤510) (has:1≤s.as_∧s.as_≤1020)
  (h1:s.te+2 * t≤q) (h2:n < q) :
  Calls Tryz.prog 5 #[.agg #[.int .u8 c,.int .i64 n,.int .i64 k,.int .i64 d,.int .i64 r,.int .i64 t,.int .i64 q]] w fun e w'=>e=.returned (checkV none)∧Below w.heap.size w w':=by
 have d8:¬ s.al=0:=by omega
 have d9:decide (q < s.te+2 * t)=false:=decide_eq_false (by omega)
 have d10:decide (n < q)=true:=decide_eq_true (by omega)
 have d1:decide (n < 1)=false:=decide_eq_false (by omega)
 have d6:decide (t < 0)=false:=decide_eq_false (by omega)
 have d7:decide (127 < t)=false:=decide_eq_false (by omega)
 have HS:=Lib.hid hs
 clear hs
 go_enter Tryz.func5,Tryz.ntmps5
 go_wp2_with (first | (go_at_call 24;refine (bl_yes _ _ (by omega)).mono ?_;rintro e w' ⟨rfl,rfl⟩))
 have hs:=HS.out
 refine (hs _).mono ?_
 rintro e w1 ⟨rfl,hb1⟩
 have hz:=heap_two w (.cells #[.int .u8 c,.int .i64 n,.int .i64 k,.int .i64 d,.int .i64 r,.int .i64 t,.int .i64 q] 23) (.cells #[.int .i64 0,.int .i64 0,.int .i64 0,.int .i64 0,.int .i64 0] 25)
 have hB0:=(hb1.block w.heap.size (by simp;omega)).trans hz.1
 have hB1:=(hb1.block (w.heap.size+1) (by simp)).trans hz.2
 have hb0:Below w.heap.size w w1:=(((Below.refl _ w).alloc (Nat.le_refl _) _).alloc (by simp) _).trans (hb1.mono (by simp;omega))
 clear hb1 hz hs
 obtain ⟨w2,rfl,hz2,hp⟩:=put_of hB1
 have hb2:=hp (fun W=>Below w.heap.size w W) hb0
 have hB2:=hp (fun W=>W.heap[w.heap.size]? = _) hB0
 clear hB1 hb0 hp hB0
 obtain ⟨w3,rfl,hz3,hp⟩:=put_of hB2
 have hb3:=hp (fun W=>Below w.heap.size w W) hb2
 simp only [size_putBlk] at hz2
 clear hB2 hb2 hp
 go_wp2
 refine bodyPost_ret (by simp [results,Tryz.results5,go_sem,hz2,hz3];rfl) rfl ⟨rfl,?_⟩
 repeat' (first | (with_reducible assumption) | (with_reducible refine Below.alloc ?_ ?_ _) | (with_reducible refine bel_putBlk ?_ ?_ _) | (simp [size_putBlk];done) | (simp [size_putBlk];omega))

set_option maxHeartbeats 4000000 in
theorem check_as (c n k d r t q:Int) (s:Sh) (w:World) (hn:1≤n∧n≤255) (hk:0≤k∧k≤255) (hd:0≤d∧d≤255) (hr:0≤r∧r≤255) (ht:0≤t∧t≤127)
  (hs:∀ w,Calls Tryz.prog 25 #[.agg #[.int .u8 c,.int .i64 n,.int .i64 k,.int .i64 d,.int .i64 r,.int .i64 t,.int .i64 q]] w fun e w'=>e=.returned (.agg #[.int .i64 s.al,.int .i64 s.b,.int .i64 s.te,.int .i64 s.as_,.int .i64 s.tol])∧Below w.heap.size w w')
  (ha:1≤s.al) (hte:1≤s.te∧s.te≤510) (has:1≤s.as_∧s.as_≤1020)
  (h1:s.te+2 * t≤q) (h2:q≤n) (h3:n≤s.as_) :
  Calls Tryz.prog 5 #[.agg #[.int .u8 c,.int .i64 n,.int .i64 k,.int .i64 d,.int .i64 r,.int .i64 t,.int .i64 q]] w fun e w'=>e=.returned (checkV none)∧Below w.heap.size w w':=by
 have d8:¬ s.al=0:=by omega
 have d9:decide (q < s.te+2 * t)=false:=decide_eq_false (by omega)
 have d10:decide (n < q)=false:=decide_eq_false (by omega)
 have d11:decide (n≤s.as_)=true:=decide_eq_true (by omega)
 have d1:decide (n < 1)=false:=decide_eq_false (by omega)
 have d6:decide (t < 0)=false:=decide_eq_false (by omega)
 have d7:decide (127 < t)=false:=decide_eq_false (by omega)
 have HS:=Lib.hid hs
 clear hs
 go_enter Tryz.func5,Tryz.ntmps5
 go_wp2_with (first | (go_at_call 24;refine (bl_yes _ _ (by omega)).mono ?_;rintro e w' ⟨rfl,rfl⟩))
 have hs:=HS.out
 refine (hs _).mono ?_
 rintro e w1 ⟨rfl,hb1⟩
 have hz:=heap_two w (.cells #[.int .u8 c,.int .i64 n,.int .i64 k,.int .i64 d,.int .i64 r,.int .i64 t,.int .i64 q] 23) (.cells #[.int .i64 0,.int .i64 0,.int .i64 0,.int .i64 0,.int .i64 0] 25)
 have hB0:=(hb1.block w.heap.size (by simp;omega)).trans hz.1
 have hB1:=(hb1.block (w.heap.size+1) (by simp)).trans hz.2
 have hb0:Below w.heap.size w w1:=(((Below.refl _ w).alloc (Nat.le_refl _) _).alloc (by simp) _).trans (hb1.mono (by simp;omega))
 clear hb1 hz hs
 obtain ⟨w2,rfl,hz2,hp⟩:=put_of hB1
 have hb2:=hp (fun W=>Below w.heap.size w W) hb0
 have hB2:=hp (fun W=>W.heap[w.heap.size]? = _) hB0
 clear hB1 hb0 hp hB0
 obtain ⟨w3,rfl,hz3,hp⟩:=put_of hB2
 have hb3:=hp (fun W=>Below w.heap.size w W) hb2
 simp only [size_putBlk] at hz2
 clear hB2 hb2 hp
 go_wp2
 refine bodyPost_ret (by simp [results,Tryz.results5,go_sem,hz2,hz3];rfl) rfl ⟨rfl,?_⟩
 repeat' (first | (with_reducible assumption) | (with_reducible refine Below.alloc ?_ ?_ _) | (with_reducible refine bel_putBlk ?_ ?_ _) | (simp [size_putBlk];done) | (simp [size_putBlk];omega))

set_option maxHeartbeats 4000000 in
theorem check_te (c n k d r t q:Int) (s:Sh) (w:World) (hn:1≤n∧n≤255) (hk:0≤k∧k≤255) (hd:0≤d∧d≤255) (hr:0≤r∧r≤255) (ht:0≤t∧t≤127)
  (hs:∀ w,Calls Tryz.prog 25 #[.agg #[.int .u8 c,.int .i64 n,.int .i64 k,.int .i64 d,.int .i64 r,.int .i64 t,.int .i64 q]] w fun e w'=>e=.returned (.agg #[.int .i64 s.al,.int .i64 s.b,.int .i64 s.te,.int .i64 s.as_,.int .i64 s.tol])∧Below w.heap.size w w')
  (ha:1≤s.al) (hte:1≤s.te∧s.te≤510) (has:1≤s.as_∧s.as_≤1020)
  (h1:s.te+2 * t≤q) (h2:q≤n) (h3:s.as_ < n) (h4:n≤s.te+2 * t) :
  Calls Tryz.prog 5 #[.agg #[.int .u8 c,.int .i64 n,.int .i64 k,.int .i64 d,.int .i64 r,.int .i64 t,.int .i64 q]] w fun e w'=>e=.returned (checkV none)∧Below w.heap.size w w':=by
 have d8:¬ s.al=0:=by omega
 have d9:decide (q < s.te+2 * t)=false:=decide_eq_false (by omega)
 have d10:decide (n < q)=false:=decide_eq_false (by omega)
 have d11:decide (n≤s.as_)=false:=decide_eq_false (by omega)
 have d12:decide (n≤s.te+2 * t)=true:=decide_eq_true (by omega)
 have d1:decide (n < 1)=false:=decide_eq_false (by omega)
 have d6:decide (t < 0)=false:=decide_eq_false (by omega)
 have d7:decide (127 < t)=false:=decide_eq_false (by omega)
 have HS:=Lib.hid hs
 clear hs
 go_enter Tryz.func5,Tryz.ntmps5
 go_wp2_with (first | (go_at_call 24;refine (bl_yes _ _ (by omega)).mono ?_;rintro e w' ⟨rfl,rfl⟩))
 have hs:=HS.out
 refine (hs _).mono ?_
 rintro e w1 ⟨rfl,hb1⟩
 have hz:=heap_two w (.cells #[.int .u8 c,.int .i64 n,.int .i64 k,.int .i64 d,.int .i64 r,.int .i64 t,.int .i64 q] 23) (.cells #[.int .i64 0,.int .i64 0,.int .i64 0,.int .i64 0,.int .i64 0] 25)
 have hB0:=(hb1.block w.heap.size (by simp;omega)).trans hz.1
 have hB1:=(hb1.block (w.heap.size+1) (by simp)).trans hz.2
 have hb0:Below w.heap.size w w1:=(((Below.refl _ w).alloc (Nat.le_refl _) _).alloc (by simp) _).trans (hb1.mono (by simp;omega))
 clear hb1 hz hs
 obtain ⟨w2,rfl,hz2,hp⟩:=put_of hB1
 have hb2:=hp (fun W=>Below w.heap.size w W) hb0
 have hB2:=hp (fun W=>W.heap[w.heap.size]? = _) hB0
 clear hB1 hb0 hp hB0
 obtain ⟨w3,rfl,hz3,hp⟩:=put_of hB2
 have hb3:=hp (fun W=>Below w.heap.size w W) hb2
 simp only [size_putBlk] at hz2
 clear hB2 hb2 hp
 go_wp2
 refine bodyPost_ret (by simp [results,Tryz.results5,go_sem,hz2,hz3];rfl) rfl ⟨rfl,?_⟩
 repeat' (first | (with_reducible assumption) | (with_reducible refine Below.alloc ?_ ?_ _) | (with_reducible refine bel_putBlk ?_ ?_ _) | (simp [size_putBlk];done) | (simp [size_putBlk];omega))

theorem check_any (c n k d r t q:Int) (w:World) :
  Calls Tryz.prog 5 #[.agg #[.int .u8 c,.int .i64 n,.int .i64 k,.int .i64 d,.int .i64 r,.int .i64 t,.int .i64 q]] w fun e w'=>e=.returned (checkV (checkF c n k d r t q))∧Below w.heap.size w w':=by
 by_cases h:inRange n k d r t
 ·obtain ⟨a1,a2,a3,a4,a5,a6,a7,a8,a9,a10⟩:=h
  have hs:=fun w=>shape_any c n k d r t q w ⟨a1,a2⟩ ⟨a3,a4⟩ ⟨a5,a6⟩ ⟨a7,a8⟩ ⟨a9,by omega⟩
  unfold checkF
  have hin:inRange n k d r t:=⟨a1,a2,a3,a4,a5,a6,a7,a8,a9,a10⟩
  rcases shapeF_ok (c:=c) (n:=n) (k:=k) (d:=d) (r:=r) (t:=t) ⟨a1,a2⟩ ⟨a3,a4⟩ ⟨a5,a6⟩ ⟨a7,a8⟩ ⟨a9,a10⟩ with hz | ⟨b1,b2,b3,b4,b5,b6,b7⟩
  ·rw [hz] at hs ⊢
   rw [if_neg (by rintro ⟨_,h,_⟩;exact h rfl)]
   exact check_zero c n k d r t q Sh.zero w ⟨a1,a2⟩ ⟨a3,a4⟩ ⟨a5,a6⟩ ⟨a7,a8⟩ ⟨a9,a10⟩ hs
  ·generalize shapeF c n k d r t=s at *
   have hne:s ≠ Sh.zero:=by
    rintro rfl
    exact absurd b1 (by decide)
   by_cases h1:s.te+2 * t≤q
   ·by_cases h2:q≤n
    ·by_cases h3:s.as_ < n
     ·by_cases h4:s.te+2 * t < n
      ·rw [if_pos ⟨hin,hne,h1,h2,h3,h4⟩]
       exact check_good c n k d r t q s w ⟨a1,a2⟩ ⟨a3,a4⟩ ⟨a5,a6⟩ ⟨a7,a8⟩ ⟨a9,a10⟩ hs b1 ⟨b3,b4⟩ ⟨b5,b6⟩ h1 h2 h3 h4
      ·rw [if_neg (by rintro ⟨_,_,_,_,_,h⟩;exact h4 h)]
       exact check_te c n k d r t q s w ⟨a1,a2⟩ ⟨a3,a4⟩ ⟨a5,a6⟩ ⟨a7,a8⟩ ⟨a9,a10⟩ hs b1 ⟨b3,b4⟩ ⟨b5,b6⟩ h1 h2 h3 (by omega)
     ·rw [if_neg (by rintro ⟨_,_,_,_,h,_⟩;exact h3 h)]
      exact check_as c n k d r t q s w ⟨a1,a2⟩ ⟨a3,a4⟩ ⟨a5,a6⟩ ⟨a7,a8⟩ ⟨a9,a10⟩ hs b1 ⟨b3,b4⟩ ⟨b5,b6⟩ h1 h2 (by omega)
    ·rw [if_neg (by rintro ⟨_,_,_,h,_⟩;exact h2 h)]
     exact check_wn c n k d r t q s w ⟨a1,a2⟩ ⟨a3,a4⟩ ⟨a5,a6⟩ ⟨a7,a8⟩ ⟨a9,a10⟩ hs b1 ⟨b3,b4⟩ ⟨b5,b6⟩ h1 (by omega)
   ·rw [if_neg (by rintro ⟨_,_,h,_⟩;exact h1 h)]
    exact check_w c n k d r t q s w ⟨a1,a2⟩ ⟨a3,a4⟩ ⟨a5,a6⟩ ⟨a7,a8⟩ ⟨a9,a10⟩ hs b1 ⟨b3,b4⟩ ⟨b5,b6⟩ (by omega)
 ·have hc:checkF c n k d r t q=none:=by unfold checkF;rw [if_neg (fun h'=>h h'.1)]
  rw [hc]
  exact check_bad c n k d r t q w h
end Go.Proofs.YtnjbkfeihbcalaaGreat
