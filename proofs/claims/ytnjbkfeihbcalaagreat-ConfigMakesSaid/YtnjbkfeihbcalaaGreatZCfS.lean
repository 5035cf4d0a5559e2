/-
  The greatest common divisor of config.
  The closures of config.shape: what each kind of code amounts to.
  The closures of config.shape: what each kind of code amounts to.
  The closures of config.shape: what each kind of code amounts to.
  The closures of config.shape: what each kind of code amounts to.
  The closures of config.shape: what each kind of code amounts to.
-/
import Derived.Test.YtnjbkfeihbcalaaGreatRows
import Derived.WalkKit
import Derived.WalkSpells
import Derived.WalkLawsBesides
import Derived.Deep.QuietTactic
import Derived.BigQuiet
import Derived.Lib.Hide
import Derived.Handy
import Derived.Test.YtnjbkfeihbcalaaGreatZReg
import Derived.Test.YtnjbkfeihbcalaaGreatZCfP
/- The greatest common divisor of config. -/
namespace Go.Proofs.YtnjbkfeihbcalaaGreat
open Go.RowKit

set_option maxHeartbeats 400000 in
theorem ccommon_any (a b:Int) (w:World) (ha0:0≤a) (hb0:0≤b) (ha:a≤255) (hb:b≤255) :
  Calls Tryz.prog 42 #[.int .i64 a,.int .i64 b] w fun e w'=>e=.returned (.int .i64 (Int.gcd a b:Nat))∧∃ n,w'=w.drewN n:=by
 obtain ⟨a,rfl⟩:=Int.eq_ofNat_of_zero_le ha0
 obtain ⟨b,rfl⟩:=Int.eq_ofNat_of_zero_le hb0
 have hfin:Int.gcd (a:Int) (b:Int)=Nat.gcd a b:=rfl
 rw [hfin]
 clear hfin
 go_enter Tryz.func42,Tryz.ntmps42
 go_wp2
 go_loopw [0,1] (fun x y wr=>∃ p q:Nat,p≤255∧q≤255∧x=.int .i64 p∧y=.int .i64 q∧Hid (Nat.gcd p q=Nat.gcd a b)∧∃ n,wr=w.drewN n)
  (fun _ y _=>(intOf y).toNat)
 case atStart=>exact ⟨a,b,by omega,by omega,rfl,rfl,Lib.hid rfl,0,rfl⟩
 case round =>
  obtain ⟨p,q,hp,hq,rfl,rfl,hg,n,rfl⟩:=hrel
  by_cases hz:0 < q
  ·have hlt:=Nat.mod_lt p hz
   go_wp2
   go_quiet (fail)
   go_wp2
   go_roundw
   case rel=>exact ⟨q,p % q,hq,by omega,rfl,by simp,Lib.hid (by rw [Nat.gcd_comm,← Nat.gcd_rec,Nat.gcd_comm];exact hg.out),_,World.drewN_drewN _ _ _⟩
   case measure=>simp [intOf];omega
  ·obtain rfl:q=0:=by omega
   go_wp2
   go_ret
   exact ⟨by rw [← hg.out];simp,_,rfl⟩
end Go.Proofs.YtnjbkfeihbcalaaGreat
/- The closures of config.shape: what each kind of code amounts to. -/
namespace Go.Proofs.YtnjbkfeihbcalaaGreat
open Go.RowKit
set_option linter.unusedSimpArgs false
set_option linter.unusedVariables false
set_option maxHeartbeats 8000000 in
theorem reed_any (b:Nat) (n k d r t:Int) (w:World) (hb:b < w.heap.size)
 (h1:w.cell? ⟨b,1,none⟩=some (.int .i64 n)) (h2:w.cell? ⟨b,2,none⟩=some (.int .i64 k)) (h3:w.cell? ⟨b,3,none⟩=some (.int .i64 d)) (h4:w.cell? ⟨b,4,none⟩=some (.int .i64 r)) (h5:w.cell? ⟨b,5,none⟩=some (.int .i64 t))
 (hn:1≤n∧n≤255) (hk:1≤k∧k≤255) (hd:0≤d∧d≤255) (hr:0≤r∧r≤255) (ht:0≤t∧t≤255) :
  Calls Tryz.prog 40 #[.pointer (some ⟨b,0,none⟩)] w fun e w'=>e=.returned (.tuple #[(shReed k t).v,.bool (okReed n k d r)])∧Below w.heap.size w w':=by
 have e1:IntKind.i64.wrap (2 * t)=2 * t:=IntWalk.i64_in _ (by omega)
 have e2:IntKind.i64.wrap (k+2 * t)=k+2 * t:=IntWalk.i64_in _ (by omega)
 by_cases c1:k≤n
 ·by_cases c2:d=0
  ·by_cases c3:r=0
   ·go_enter Tryz.func40,Tryz.ntmps40
    go_wp2
    have hgr:=fun (w0 W:World) (p:Addr) (hp:(fun k=>k < w.heap.size) p.block)=>graft_cell (w0:=w0) (keep:=(fun k=>k < w.heap.size)) W hp
    refine wp_region_here (fun k=>k < w.heap.size) [26] (by kernel_rfl) (by kernel_rfl) ?_
    simp only [slimAll,Oper.slim,List.contains_cons,List.contains_nil,Option.map_none,Option.map_some,List.getElem?_toArray,List.getElem?_cons_zero,List.getElem?_cons_succ,Option.bind_some,beq_self_eq_true,Bool.or_false,Nat.reduceBEq,Nat.reduceAdd,Nat.zero_add]
    repeat ((with_reducible refine wpSlim_step (fun K hK=>?_));go_simp;first | (refine hK _ _ ?_;clear hK K) | (refine ⟨by (intro kk hkk;first | (simp (disch:=(simp;omega)) only [hp_drew,hp_drewN,hp_alloc,hp_set];done) | (simp [hp_drew,hp_drewN,hp_alloc_if,hkk];done)),hK _ _ ?_⟩;clear hK K))
    refine wpSlim_nil ?_
    clear hgr
    go_wp2
    go_returns
    refine ⟨by simp [okReed,shReed,Sh.v, *],by (repeat' (first | (with_reducible exact Below.refl _ _) | (with_reducible assumption) | (with_reducible refine bel_drewN ?_ _) | (with_reducible refine Below.drew ?_) | (with_reducible refine Below.alloc ?_ ?_ _) | (with_reducible refine Below.setCell ?_ ?_ _) | (simp;done) | (simp;omega)))⟩
   ·have c3f0:decide (r=0)=false:=decide_eq_false c3
    have c3f1:(r == 0)=false:=by simpa using c3
    go_enter Tryz.func40,Tryz.ntmps40
    go_wp2
    have hgr:=fun (w0 W:World) (p:Addr) (hp:(fun k=>k < w.heap.size) p.block)=>graft_cell (w0:=w0) (keep:=(fun k=>k < w.heap.size)) W hp
    refine wp_region_here (fun k=>k < w.heap.size) [26] (by kernel_rfl) (by kernel_rfl) ?_
    simp only [slimAll,Oper.slim,List.contains_cons,List.contains_nil,Option.map_none,Option.map_some,List.getElem?_toArray,List.getElem?_cons_zero,List.getElem?_cons_succ,Option.bind_some,beq_self_eq_true,Bool.or_false,Nat.reduceBEq,Nat.reduceAdd,Nat.zero_add]
    repeat ((with_reducible refine wpSlim_step (fun K hK=>?_));go_simp;first | (refine hK _ _ ?_;clear hK K) | (refine ⟨by (intro kk hkk;first | (simp (disch:=(simp;omega)) only [hp_drew,hp_drewN,hp_alloc,hp_set];done) | (simp [hp_drew,hp_drewN,hp_alloc_if,hkk];done)),hK _ _ ?_⟩;clear hK K))
    refine wpSlim_nil ?_
    clear hgr
    go_wp2
    go_returns
    refine ⟨by simp [okReed,shReed,Sh.v, *],by (repeat' (first | (with_reducible exact Below.refl _ _) | (with_reducible assumption) | (with_reducible refine bel_drewN ?_ _) | (with_reducible refine Below.drew ?_) | (with_reducible refine Below.alloc ?_ ?_ _) | (with_reducible refine Below.setCell ?_ ?_ _) | (simp;done) | (simp;omega)))⟩
  ·have c2f0:decide (d=0)=false:=decide_eq_false c2
   have c2f1:(d == 0)=false:=by simpa using c2
   go_enter Tryz.func40,Tryz.ntmps40
   go_wp2
   have hgr:=fun (w0 W:World) (p:Addr) (hp:(fun k=>k < w.heap.size) p.block)=>graft_cell (w0:=w0) (keep:=(fun k=>k < w.heap.size)) W hp
   refine wp_region_here (fun k=>k < w.heap.size) [26] (by kernel_rfl) (by kernel_rfl) ?_
   simp only [slimAll,Oper.slim,List.contains_cons,List.contains_nil,Option.map_none,Option.map_some,List.getElem?_toArray,List.getElem?_cons_zero,List.getElem?_cons_succ,Option.bind_some,beq_self_eq_true,Bool.or_false,Nat.reduceBEq,Nat.reduceAdd,Nat.zero_add]
   repeat ((with_reducible refine wpSlim_step (fun K hK=>?_));go_simp;first | (refine hK _ _ ?_;clear hK K) | (refine ⟨by (intro kk hkk;first | (simp (disch:=(simp;omega)) only [hp_drew,hp_drewN,hp_alloc,hp_set];done) | (simp [hp_drew,hp_drewN,hp_alloc_if,hkk];done)),hK _ _ ?_⟩;clear hK K))
   refine wpSlim_nil ?_
   clear hgr
   go_wp2
   go_returns
   refine ⟨by simp [okReed,shReed,Sh.v, *],by (repeat' (first | (with_reducible exact Below.refl _ _) | (with_reducible assumption) | (with_reducible refine bel_drewN ?_ _) | (with_reducible refine Below.drew ?_) | (with_reducible refine Below.alloc ?_ ?_ _) | (with_reducible refine Below.setCell ?_ ?_ _) | (simp;done) | (simp;omega)))⟩
 ·have c1f0:decide (k≤n)=false:=decide_eq_false c1
  go_enter Tryz.func40,Tryz.ntmps40
  go_wp2
  have hgr:=fun (w0 W:World) (p:Addr) (hp:(fun k=>k < w.heap.size) p.block)=>graft_cell (w0:=w0) (keep:=(fun k=>k < w.heap.size)) W hp
  refine wp_region_here (fun k=>k < w.heap.size) [26] (by kernel_rfl) (by kernel_rfl) ?_
  simp only [slimAll,Oper.slim,List.contains_cons,List.contains_nil,Option.map_none,Option.map_some,List.getElem?_toArray,List.getElem?_cons_zero,List.getElem?_cons_succ,Option.bind_some,beq_self_eq_true,Bool.or_false,Nat.reduceBEq,Nat.reduceAdd,Nat.zero_add]
  repeat ((with_reducible refine wpSlim_step (fun K hK=>?_));go_simp;first | (refine hK _ _ ?_;clear hK K) | (refine ⟨by (intro kk hkk;first | (simp (disch:=(simp;omega)) only [hp_drew,hp_drewN,hp_alloc,hp_set];done) | (simp [hp_drew,hp_drewN,hp_alloc_if,hkk];done)),hK _ _ ?_⟩;clear hK K))
  refine wpSlim_nil ?_
  clear hgr
  go_wp2
  go_returns
  refine ⟨by simp [okReed,shReed,Sh.v, *],by (repeat' (first | (with_reducible exact Below.refl _ _) | (with_reducible assumption) | (with_reducible refine bel_drewN ?_ _) | (with_reducible refine Below.drew ?_) | (with_reducible refine Below.alloc ?_ ?_ _) | (with_reducible refine Below.setCell ?_ ?_ _) | (simp;done) | (simp;omega)))⟩
end Go.Proofs.YtnjbkfeihbcalaaGreat
/- The closures of config.shape: what each kind of code amounts to. -/
namespace Go.Proofs.YtnjbkfeihbcalaaGreat
open Go.RowKit
set_option linter.unusedSimpArgs false
set_option linter.unusedVariables false
set_option maxHeartbeats 8000000 in
theorem msr_any (b:Nat) (n k d r t:Int) (w:World) (hb:b < w.heap.size)
 (h1:w.cell? ⟨b,1,none⟩=some (.int .i64 n)) (h2:w.cell? ⟨b,2,none⟩=some (.int .i64 k)) (h3:w.cell? ⟨b,3,none⟩=some (.int .i64 d)) (h4:w.cell? ⟨b,4,none⟩=some (.int .i64 r)) (h5:w.cell? ⟨b,5,none⟩=some (.int .i64 t))
 (hn:1≤n∧n≤255) (hk:1≤k∧k≤255) (hd:0≤d∧d≤255) (hr:0≤r∧r≤255) (ht:0≤t∧t≤255) :
  Calls Tryz.prog 41 #[.pointer (some ⟨b,0,none⟩)] w fun e w'=>e=.returned (.tuple #[(shMsr k d t).v,.bool (okMsr n k d r)])∧Below w.heap.size w w':=by
 obtain ⟨al,hal⟩:∃ al,d - k+1=al:=⟨_,rfl⟩
 have qa:-254≤al∧al≤255:=by omega
 have q1:-64770≤k * al∧k * al≤65025:=by
  rcases Int.le_total 0 al with h | h
  ·have:=mul_bd (a:=k) (b:=al) (by omega) hk.2 h qa.2
   omega
  ·have:=mul_bd (a:=k) (b:=- al) (by omega) hk.2 (by omega) (show - al≤254 by omega)
   rw [Int.mul_neg] at this
   omega
 have e1:IntKind.i64.wrap (2 * t)=2 * t:=IntWalk.i64_in _ (by omega)
 have e2:IntKind.i64.wrap (d+2 * t)=d+2 * t:=IntWalk.i64_in _ (by omega)
 have e5:IntKind.i64.wrap (k * al)=k * al:=IntWalk.i64_in _ (by omega)
 have e6:IntKind.i64.wrap (n+d)=n+d:=IntWalk.i64_in _ (by omega)
 have e7:IntKind.i64.wrap (2 * k)=2 * k:=IntWalk.i64_in _ (by omega)
 have e8:IntKind.i64.wrap (n+d - 2 * k)=n+d - 2 * k:=IntWalk.i64_in _ (by omega)
 have e9:IntKind.i64.wrap (n+d - 2 * k+2)=n+d - 2 * k+2:=IntWalk.i64_in _ (by omega)
 by_cases c1:r=0
 ·by_cases c2:1 < k
  ·by_cases c3:2 * k - 2≤d
   ·by_cases c4:d < n
    ·by_cases c5:al≤16
     ·obtain ⟨g,hg⟩:∃ g:Int,g=(Int.gcd al 255:Nat):=⟨_,rfl⟩
      have hcall:∀ w,Calls Tryz.prog 42 #[.int .i64 al,.int .i64 255] w fun e w'=>e=.returned (.int .i64 g)∧∃ n,w'=w.drewN n:=fun w=>by
       rw [hg];exact ccommon_any _ _ w (by omega) (by omega) (by omega) (by omega)
      have g1:1≤g:=by
       have:Int.gcd al 255 ≠ 0:=by simp [Int.gcd_eq_zero_iff]
       omega
      have g2:g≤255:=by
       have:Int.gcd al 255≤255:=Nat.le_of_dvd (by omega) (Nat.gcd_dvd_right _ _)
       omega
      have hok:okMsr n k d r=(((((decide (r=0) && decide (1 < k)) && decide (2 * k - 2≤d)) && decide (d < n)) && decide (al≤16)) && decide (n+d - 2 * k+2≤255 / g)):=by unfold okMsr;rw [hal,← hg]
      have HC:=Lib.hid hcall
      have HO:=Lib.hid hok
      clear hcall hg hok
      have g3:¬ g=0:=by omega
      have g4:Int.tdiv 255 g=255 / g:=Int.tdiv_eq_ediv_of_nonneg (by omega)
      have g6:0≤255 / g∧255 / g≤255:=⟨Int.ediv_nonneg (by omega) (by omega),Int.ediv_le_self _ (by omega)⟩
      have g5:IntKind.i64.wrap (255 / g)=255 / g:=IntWalk.i64_in _ (by omega)
      go_enter Tryz.func41,Tryz.ntmps41
      go_wp2
      have hgr:=fun (w0 W:World) (p:Addr) (hp:(fun k=>k < w.heap.size) p.block)=>graft_cell (w0:=w0) (keep:=(fun k=>k < w.heap.size)) W hp
      refine wp_region_here (fun k=>k < w.heap.size) [27,31] (by kernel_rfl) (by kernel_rfl) ?_
      simp only [slimAll,Oper.slim,List.contains_cons,List.contains_nil,Option.map_none,Option.map_some,List.getElem?_toArray,List.getElem?_cons_zero,List.getElem?_cons_succ,Option.bind_some,beq_self_eq_true,Bool.or_false,Nat.reduceBEq,Nat.reduceAdd,Nat.zero_add]
      repeat ((with_reducible refine wpSlim_step (fun K hK=>?_));go_simp;first | (refine hK _ _ ?_;clear hK K) | (refine ⟨by (intro kk hkk;first | (simp (disch:=(simp;omega)) only [hp_drew,hp_drewN,hp_alloc,hp_set];done) | (simp [hp_drew,hp_drewN,hp_alloc_if,hkk];done)),hK _ _ ?_⟩;clear hK K)| (refine (HC.out _).mono ?_;rintro e w' ⟨rfl,nn,rfl⟩;refine ⟨_,rfl,by (intro kk hkk;first | (simp (disch:=(simp;omega)) only [hp_drew,hp_drewN,hp_alloc,hp_set];done) | (simp [hp_drew,hp_drewN,hp_alloc_if,hkk];done)),hK _ _ ?_⟩;clear hK K))
      refine wpSlim_nil ?_
      clear hgr
      go_wp2
      go_returns
      refine ⟨by first | (rw [HO.out];simp [shMsr,Sh.v, *]) | (simp [okMsr,shMsr,Sh.v, *]),by (repeat' (first | (with_reducible exact Below.refl _ _) | (with_reducible assumption) | (with_reducible refine bel_drewN ?_ _) | (with_reducible refine Below.drew ?_) | (with_reducible refine Below.alloc ?_ ?_ _) | (with_reducible refine Below.setCell ?_ ?_ _) | (simp;done) | (simp;omega)))⟩
     ·have c5f0:decide (al≤16)=false:=decide_eq_false c5
      go_enter Tryz.func41,Tryz.ntmps41
      go_wp2
      have hgr:=fun (w0 W:World) (p:Addr) (hp:(fun k=>k < w.heap.size) p.block)=>graft_cell (w0:=w0) (keep:=(fun k=>k < w.heap.size)) W hp
      refine wp_region_here (fun k=>k < w.heap.size) [27,31] (by kernel_rfl) (by kernel_rfl) ?_
      simp only [slimAll,Oper.slim,List.contains_cons,List.contains_nil,Option.map_none,Option.map_some,List.getElem?_toArray,List.getElem?_cons_zero,List.getElem?_cons_succ,Option.bind_some,beq_self_eq_true,Bool.or_false,Nat.reduceBEq,Nat.reduceAdd,Nat.zero_add]
      repeat ((with_reducible refine wpSlim_step (fun K hK=>?_));go_simp;first | (refine hK _ _ ?_;clear hK K) | (refine ⟨by (intro kk hkk;first | (simp (disch:=(simp;omega)) only [hp_drew,hp_drewN,hp_alloc,hp_set];done) | (simp [hp_drew,hp_drewN,hp_alloc_if,hkk];done)),hK _ _ ?_⟩;clear hK K))
      refine wpSlim_nil ?_
      clear hgr
      go_wp2
      go_returns
      refine ⟨by simp [okMsr,shMsr,Sh.v, *],by (repeat' (first | (with_reducible exact Below.refl _ _) | (with_reducible assumption) | (with_reducible refine bel_drewN ?_ _) | (with_reducible refine Below.drew ?_) | (with_reducible refine Below.alloc ?_ ?_ _) | (with_reducible refine Below.setCell ?_ ?_ _) | (simp;done) | (simp;omega)))⟩
    ·have c4f0:decide (d < n)=false:=decide_eq_false c4
     go_enter Tryz.func41,Tryz.ntmps41
     go_wp2
     have hgr:=fun (w0 W:World) (p:Addr) (hp:(fun k=>k < w.heap.size) p.block)=>graft_cell (w0:=w0) (keep:=(fun k=>k < w.heap.size)) W hp
     refine wp_region_here (fun k=>k < w.heap.size) [27,31] (by kernel_rfl) (by kernel_rfl) ?_
     simp only [slimAll,Oper.slim,List.contains_cons,List.contains_nil,Option.map_none,Option.map_some,List.getElem?_toArray,List.getElem?_cons_zero,List.getElem?_cons_succ,Option.bind_some,beq_self_eq_true,Bool.or_false,Nat.reduceBEq,Nat.reduceAdd,Nat.zero_add]
     repeat ((with_reducible refine wpSlim_step (fun K hK=>?_));go_simp;first | (refine hK _ _ ?_;clear hK K) | (refine ⟨by (intro kk hkk;first | (simp (disch:=(simp;omega)) only [hp_drew,hp_drewN,hp_alloc,hp_set];done) | (simp [hp_drew,hp_drewN,hp_alloc_if,hkk];done)),hK _ _ ?_⟩;clear hK K))
     refine wpSlim_nil ?_
     clear hgr
     go_wp2
     go_returns
     refine ⟨by simp [okMsr,shMsr,Sh.v, *],by (repeat' (first | (with_reducible exact Below.refl _ _) | (with_reducible assumption) | (with_reducible refine bel_drewN ?_ _) | (with_reducible refine Below.drew ?_) | (with_reducible refine Below.alloc ?_ ?_ _) | (with_reducible refine Below.setCell ?_ ?_ _) | (simp;done) | (simp;omega)))⟩
   ·have c3f0:decide (2 * k - 2≤d)=false:=decide_eq_false c3
    go_enter Tryz.func41,Tryz.ntmps41
    go_wp2
    have hgr:=fun (w0 W:World) (p:Addr) (hp:(fun k=>k < w.heap.size) p.block)=>graft_cell (w0:=w0) (keep:=(fun k=>k < w.heap.size)) W hp
    refine wp_region_here (fun k=>k < w.heap.size) [27,31] (by kernel_rfl) (by kernel_rfl) ?_
    simp only [slimAll,Oper.slim,List.contains_cons,List.contains_nil,Option.map_none,Option.map_some,List.getElem?_toArray,List.getElem?_cons_zero,List.getElem?_cons_succ,Option.bind_some,beq_self_eq_true,Bool.or_false,Nat.reduceBEq,Nat.reduceAdd,Nat.zero_add]
    repeat ((with_reducible refine wpSlim_step (fun K hK=>?_));go_simp;first | (refine hK _ _ ?_;clear hK K) | (refine ⟨by (intro kk hkk;first | (simp (disch:=(simp;omega)) only [hp_drew,hp_drewN,hp_alloc,hp_set];done) | (simp [hp_drew,hp_drewN,hp_alloc_if,hkk];done)),hK _ _ ?_⟩;clear hK K))
    refine wpSlim_nil ?_
    clear hgr
    go_wp2
    go_returns
    refine ⟨by simp [okMsr,shMsr,Sh.v, *],by (repeat' (first | (with_reducible exact Below.refl _ _) | (with_reducible assumption) | (with_reducible refine bel_drewN ?_ _) | (with_reducible refine Below.drew ?_) | (with_reducible refine Below.alloc ?_ ?_ _) | (with_reducible refine Below.setCell ?_ ?_ _) | (simp;done) | (simp;omega)))⟩
  ·have c2f0:decide (1 < k)=false:=decide_eq_false c2
   go_enter Tryz.func41,Tryz.ntmps41
   go_wp2
   have hgr:=fun (w0 W:World) (p:Addr) (hp:(fun k=>k < w.heap.size) p.block)=>graft_cell (w0:=w0) (keep:=(fun k=>k < w.heap.size)) W hp
   refine wp_region_here (fun k=>k < w.heap.size) [27,31] (by kernel_rfl) (by kernel_rfl) ?_
   simp only [slimAll,Oper.slim,List.contains_cons,List.contains_nil,Option.map_none,Option.map_some,List.getElem?_toArray,List.getElem?_cons_zero,List.getElem?_cons_succ,Option.bind_some,beq_self_eq_true,Bool.or_false,Nat.reduceBEq,Nat.reduceAdd,Nat.zero_add]
   repeat ((with_reducible refine wpSlim_step (fun K hK=>?_));go_simp;first | (refine hK _ _ ?_;clear hK K) | (refine ⟨by (intro kk hkk;first | (simp (disch:=(simp;omega)) only [hp_drew,hp_drewN,hp_alloc,hp_set];done) | (simp [hp_drew,hp_drewN,hp_alloc_if,hkk];done)),hK _ _ ?_⟩;clear hK K))
   refine wpSlim_nil ?_
   clear hgr
   go_wp2
   go_returns
   refine ⟨by simp [okMsr,shMsr,Sh.v, *],by (repeat' (first | (with_reducible exact Below.refl _ _) | (with_reducible assumption) | (with_reducible refine bel_drewN ?_ _) | (with_reducible refine Below.drew ?_) | (with_reducible refine Below.alloc ?_ ?_ _) | (with_reducible refine Below.setCell ?_ ?_ _) | (simp;done) | (simp;omega)))⟩
 ·have c1f0:decide (r=0)=false:=decide_eq_false c1
  have c1f1:(r == 0)=false:=by simpa using c1
  go_enter Tryz.func41,Tryz.ntmps41
  go_wp2
  have hgr:=fun (w0 W:World) (p:Addr) (hp:(fun k=>k < w.heap.size) p.block)=>graft_cell (w0:=w0) (keep:=(fun k=>k < w.heap.size)) W hp
  refine wp_region_here (fun k=>k < w.heap.size) [27,31] (by kernel_rfl) (by kernel_rfl) ?_
  simp only [slimAll,Oper.slim,List.contains_cons,List.contains_nil,Option.map_none,Option.map_some,List.getElem?_toArray,List.getElem?_cons_zero,List.getElem?_cons_succ,Option.bind_some,beq_self_eq_true,Bool.or_false,Nat.reduceBEq,Nat.reduceAdd,Nat.zero_add]
  repeat ((with_reducible refine wpSlim_step (fun K hK=>?_));go_simp;first | (refine hK _ _ ?_;clear hK K) | (refine ⟨by (intro kk hkk;first | (simp (disch:=(simp;omega)) only [hp_drew,hp_drewN,hp_alloc,hp_set];done) | (simp [hp_drew,hp_drewN,hp_alloc_if,hkk];done)),hK _ _ ?_⟩;clear hK K))
  refine wpSlim_nil ?_
  clear hgr
  go_wp2
  go_returns
  refine ⟨by simp [okMsr,shMsr,Sh.v, *],by (repeat' (first | (with_reducible exact Below.refl _ _) | (with_reducible assumption) | (with_reducible refine bel_drewN ?_ _) | (with_reducible refine Below.drew ?_) | (with_reducible refine Below.alloc ?_ ?_ _) | (with_reducible refine Below.setCell ?_ ?_ _) | (simp;done) | (simp;omega)))⟩
end Go.Proofs.YtnjbkfeihbcalaaGreat
/- The closures of config.shape: what each kind of code amounts to. -/
namespace Go.Proofs.YtnjbkfeihbcalaaGreat
open Go.RowKit
set_option linter.unusedSimpArgs false
set_option linter.unusedVariables false
set_option maxHeartbeats 8000000 in
theorem mbr_any (b:Nat) (n k d r t:Int) (w:World) (hb:b < w.heap.size)
 (h1:w.cell? ⟨b,1,none⟩=some (.int .i64 n)) (h2:w.cell? ⟨b,2,none⟩=some (.int .i64 k)) (h3:w.cell? ⟨b,3,none⟩=some (.int .i64 d)) (h4:w.cell? ⟨b,4,none⟩=some (.int .i64 r)) (h5:w.cell? ⟨b,5,none⟩=some (.int .i64 t))
 (hn:1≤n∧n≤255) (hk:1≤k∧k≤255) (hd:0≤d∧d≤255) (hr:0≤r∧r≤255) (ht:0≤t∧t≤255) :
  Calls Tryz.prog 43 #[.pointer (some ⟨b,0,none⟩)] w fun e w'=>e=.returned (.tuple #[(shMbr k d t).v,.bool (okMbr n k d r)])∧Below w.heap.size w w':=by
 have q1:=mul_bd (a:=k) (b:=k - 1) (by omega) hk.2 (by omega) (show k - 1≤254 by omega)
 have e3:IntKind.i64.wrap (k - 1)=k - 1:=IntWalk.i64_in _ (by omega)
 have e4:IntKind.i64.wrap (k * (k - 1))=k * (k - 1):=IntWalk.i64_in _ (by omega)
 have e6:(k * (k - 1)).tdiv 2=k * (k - 1) / 2:=Int.tdiv_eq_ediv_of_nonneg (by omega)
 have e7:IntKind.i64.wrap (k * (k - 1) / 2)=k * (k - 1) / 2:=IntWalk.i64_in _ (by omega)
 have q2:=mul_bd (a:=k) (b:=d) (by omega) hk.2 hd.1 hd.2
 have e1:IntKind.i64.wrap (2 * t)=2 * t:=IntWalk.i64_in _ (by omega)
 have e2:IntKind.i64.wrap (d+2 * t)=d+2 * t:=IntWalk.i64_in _ (by omega)
 have e5:IntKind.i64.wrap (k * d)=k * d:=IntWalk.i64_in _ (by omega)
 have e8:IntKind.i64.wrap (k * d - k * (k - 1) / 2)=k * d - k * (k - 1) / 2:=IntWalk.i64_in _ (by omega)
 by_cases c1:r=0
 ·by_cases c2:k≤d
  ·by_cases c3:d < n
   ·go_enter Tryz.func43,Tryz.ntmps43
    go_wp2
    have hgr:=fun (w0 W:World) (p:Addr) (hp:(fun k=>k < w.heap.size) p.block)=>graft_cell (w0:=w0) (keep:=(fun k=>k < w.heap.size)) W hp
    refine wp_region_here (fun k=>k < w.heap.size) [41] (by kernel_rfl) (by kernel_rfl) ?_
    simp only [slimAll,Oper.slim,List.contains_cons,List.contains_nil,Option.map_none,Option.map_some,List.getElem?_toArray,List.getElem?_cons_zero,List.getElem?_cons_succ,Option.bind_some,beq_self_eq_true,Bool.or_false,Nat.reduceBEq,Nat.reduceAdd,Nat.zero_add]
    repeat ((with_reducible refine wpSlim_step (fun K hK=>?_));go_simp;first | (refine hK _ _ ?_;clear hK K) | (refine ⟨by (intro kk hkk;first | (simp (disch:=(simp;omega)) only [hp_drew,hp_drewN,hp_alloc,hp_set];done) | (simp [hp_drew,hp_drewN,hp_alloc_if,hkk];done)),hK _ _ ?_⟩;clear hK K))
    refine wpSlim_nil ?_
    clear hgr
    go_wp2
    go_returns
    refine ⟨by simp [okMbr,shMbr,Sh.v, *],by (repeat' (first | (with_reducible exact Below.refl _ _) | (with_reducible assumption) | (with_reducible refine bel_drewN ?_ _) | (with_reducible refine Below.drew ?_) | (with_reducible refine Below.alloc ?_ ?_ _) | (with_reducible refine Below.setCell ?_ ?_ _) | (simp;done) | (simp;omega)))⟩
   ·have c3f0:decide (d < n)=false:=decide_eq_false c3
    go_enter Tryz.func43,Tryz.ntmps43
    go_wp2
    have hgr:=fun (w0 W:World) (p:Addr) (hp:(fun k=>k < w.heap.size) p.block)=>graft_cell (w0:=w0) (keep:=(fun k=>k < w.heap.size)) W hp
    refine wp_region_here (fun k=>k < w.heap.size) [41] (by kernel_rfl) (by kernel_rfl) ?_
    simp only [slimAll,Oper.slim,List.contains_cons,List.contains_nil,Option.map_none,Option.map_some,List.getElem?_toArray,List.getElem?_cons_zero,List.getElem?_cons_succ,Option.bind_some,beq_self_eq_true,Bool.or_false,Nat.reduceBEq,Nat.reduceAdd,Nat.zero_add]
    repeat ((with_reducible refine wpSlim_step (fun K hK=>?_));go_simp;first | (refine hK _ _ ?_;clear hK K) | (refine ⟨by (intro kk hkk;first | (simp (disch:=(simp;omega)) only [hp_drew,hp_drewN,hp_alloc,hp_set];done) | (simp [hp_drew,hp_drewN,hp_alloc_if,hkk];done)),hK _ _ ?_⟩;clear hK K))
    refine wpSlim_nil ?_
    clear hgr
    go_wp2
    go_returns
    refine ⟨by simp [okMbr,shMbr,Sh.v, *],by (repeat' (first | (with_reducible exact Below.refl _ _) | (with_reducible assumption) | (with_reducible refine bel_drewN ?_ _) | (with_reducible refine Below.drew ?_) | (with_reducible refine Below.alloc ?_ ?_ _) | (with_reducible refine Below.setCell ?_ ?_ _) | (simp;done) | (simp;omega)))⟩
  ·have c2f0:decide (k≤d)=false:=decide_eq_false c2
   go_enter Tryz.func43,Tryz.ntmps43
   go_wp2
   have hgr:=fun (w0 W:World) (p:Addr) (hp:(fun k=>k < w.heap.size) p.block)=>graft_cell (w0:=w0) (keep:=(fun k=>k < w.heap.size)) W hp
   refine wp_region_here (fun k=>k < w.heap.size) [41] (by kernel_rfl) (by kernel_rfl) ?_
   simp only [slimAll,Oper.slim,List.contains_cons,List.contains_nil,Option.map_none,Option.map_some,List.getElem?_toArray,List.getElem?_cons_zero,List.getElem?_cons_succ,Option.bind_some,beq_self_eq_true,Bool.or_false,Nat.reduceBEq,Nat.reduceAdd,Nat.zero_add]
   repeat ((with_reducible refine wpSlim_step (fun K hK=>?_));go_simp;first | (refine hK _ _ ?_;clear hK K) | (refine ⟨by (intro kk hkk;first | (simp (disch:=(simp;omega)) only [hp_drew,hp_drewN,hp_alloc,hp_set];done) | (simp [hp_drew,hp_drewN,hp_alloc_if,hkk];done)),hK _ _ ?_⟩;clear hK K))
   refine wpSlim_nil ?_
   clear hgr
   go_wp2
   go_returns
   refine ⟨by simp [okMbr,shMbr,Sh.v, *],by (repeat' (first | (with_reducible exact Below.refl _ _) | (with_reducible assumption) | (with_reducible refine bel_drewN ?_ _) | (with_reducible refine Below.drew ?_) | (with_reducible refine Below.alloc ?_ ?_ _) | (with_reducible refine Below.setCell ?_ ?_ _) | (simp;done) | (simp;omega)))⟩
 ·have c1f0:decide (r=0)=false:=decide_eq_false c1
  have c1f1:(r == 0)=false:=by simpa using c1
  go_enter Tryz.func43,Tryz.ntmps43
  go_wp2
  have hgr:=fun (w0 W:World) (p:Addr) (hp:(fun k=>k < w.heap.size) p.block)=>graft_cell (w0:=w0) (keep:=(fun k=>k < w.heap.size)) W hp
  refine wp_region_here (fun k=>k < w.heap.size) [41] (by kernel_rfl) (by kernel_rfl) ?_
  simp only [slimAll,Oper.slim,List.contains_cons,List.contains_nil,Option.map_none,Option.map_some,List.getElem?_toArray,List.getElem?_cons_zero,List.getElem?_cons_succ,Option.bind_some,beq_self_eq_true,Bool.or_false,Nat.reduceBEq,Nat.reduceAdd,Nat.zero_add]
  repeat ((with_reducible refine wpSlim_step (fun K hK=>?_));go_simp;first | (refine hK _ _ ?_;clear hK K) | (refine ⟨by (intro kk hkk;first | (simp (disch:=(simp;omega)) only [hp_drew,hp_drewN,hp_alloc,hp_set];done) | (simp [hp_drew,hp_drewN,hp_alloc_if,hkk];done)),hK _ _ ?_⟩;clear hK K))
  refine wpSlim_nil ?_
  clear hgr
  go_wp2
  go_returns
  refine ⟨by simp [okMbr,shMbr,Sh.v, *],by (repeat' (first | (with_reducible exact Below.refl _ _) | (with_reducible assumption) | (with_reducible refine bel_drewN ?_ _) | (with_reducible refine Below.drew ?_) | (with_reducible refine Below.alloc ?_ ?_ _) | (with_reducible refine Below.setCell ?_ ?_ _) | (simp;done) | (simp;omega)))⟩
end Go.Proofs.YtnjbkfeihbcalaaGreat
/- The closures of config.shape: what each kind of code amounts to. -/
namespace Go.Proofs.YtnjbkfeihbcalaaGreat
open Go.RowKit
set_option linter.unusedSimpArgs false
set_option linter.unusedVariables false
set_option maxHeartbeats 8000000 in
theorem tr_any (b:Nat) (n k d r t:Int) (w:World) (hb:b < w.heap.size)
 (h1:w.cell? ⟨b,1,none⟩=some (.int .i64 n)) (h2:w.cell? ⟨b,2,none⟩=some (.int .i64 k)) (h3:w.cell? ⟨b,3,none⟩=some (.int .i64 d)) (h4:w.cell? ⟨b,4,none⟩=some (.int .i64 r)) (h5:w.cell? ⟨b,5,none⟩=some (.int .i64 t))
 (hn:1≤n∧n≤255) (hk:1≤k∧k≤255) (hd:0≤d∧d≤255) (hr:0≤r∧r≤255) (ht:0≤t∧t≤255) :
  Calls Tryz.prog 44 #[.pointer (some ⟨b,0,none⟩)] w fun e w'=>e=.returned (.tuple #[(shTr n k).v,.bool (okTr n k d r t)])∧Below w.heap.size w w':=by
 have q1:=mul_bd (a:=k) (b:=k - 1) (by omega) hk.2 (by omega) (show k - 1≤254 by omega)
 have e3:IntKind.i64.wrap (k - 1)=k - 1:=IntWalk.i64_in _ (by omega)
 have e4:IntKind.i64.wrap (k * (k - 1))=k * (k - 1):=IntWalk.i64_in _ (by omega)
 have e6:(k * (k - 1)).tdiv 2=k * (k - 1) / 2:=Int.tdiv_eq_ediv_of_nonneg (by omega)
 have e7:IntKind.i64.wrap (k * (k - 1) / 2)=k * (k - 1) / 2:=IntWalk.i64_in _ (by omega)
 have q2:=mul_bd (a:=k) (b:=n - 1) (by omega) hk.2 (by omega) (show n - 1≤254 by omega)
 have e1:IntKind.i64.wrap (n - 1)=n - 1:=IntWalk.i64_in _ (by omega)
 have e5:IntKind.i64.wrap (k * (n - 1))=k * (n - 1):=IntWalk.i64_in _ (by omega)
 have e8:IntKind.i64.wrap (k * (n - 1) - k * (k - 1) / 2)=k * (n - 1) - k * (k - 1) / 2:=IntWalk.i64_in _ (by omega)
 by_cases c1:d=0
 ·by_cases c2:r=0
  ·by_cases c3:t=0
   ·by_cases c4:k < n
    ·by_cases c5:n≤23
     ·go_enter Tryz.func44,Tryz.ntmps44
      go_wp2
      have hgr:=fun (w0 W:World) (p:Addr) (hp:(fun k=>k < w.heap.size) p.block)=>graft_cell (w0:=w0) (keep:=(fun k=>k < w.heap.size)) W hp
      refine wp_region_here (fun k=>k < w.heap.size) [48] (by kernel_rfl) (by kernel_rfl) ?_
      simp only [slimAll,Oper.slim,List.contains_cons,List.contains_nil,Option.map_none,Option.map_some,List.getElem?_toArray,List.getElem?_cons_zero,List.getElem?_cons_succ,Option.bind_some,beq_self_eq_true,Bool.or_false,Nat.reduceBEq,Nat.reduceAdd,Nat.zero_add]
      repeat ((with_reducible refine wpSlim_step (fun K hK=>?_));go_simp;first | (refine hK _ _ ?_;clear hK K) | (refine ⟨by (intro kk hkk;first | (simp (disch:=(simp;omega)) only [hp_drew,hp_drewN,hp_alloc,hp_set];done) | (simp [hp_drew,hp_drewN,hp_alloc_if,hkk];done)),hK _ _ ?_⟩;clear hK K))
      refine wpSlim_nil ?_
      clear hgr
      go_wp2
      go_returns
      refine ⟨by simp [okTr,shTr,Sh.v, *],by (repeat' (first | (with_reducible exact Below.refl _ _) | (with_reducible assumption) | (with_reducible refine bel_drewN ?_ _) | (with_reducible refine Below.drew ?_) | (with_reducible refine Below.alloc ?_ ?_ _) | (with_reducible refine Below.setCell ?_ ?_ _) | (simp;done) | (simp;omega)))⟩
     ·have c5f0:decide (n≤23)=false:=decide_eq_false c5
      go_enter Tryz.func44,Tryz.ntmps44
      go_wp2
      have hgr:=fun (w0 W:World) (p:Addr) (hp:(fun k=>k < w.heap.size) p.block)=>graft_cell (w0:=w0) (keep:=(fun k=>k < w.heap.size)) W hp
      refine wp_region_here (fun k=>k < w.heap.size) [48] (by kernel_rfl) (by kernel_rfl) ?_
      simp only [slimAll,Oper.slim,List.contains_cons,List.contains_nil,Option.map_none,Option.map_some,List.getElem?_toArray,List.getElem?_cons_zero,List.getElem?_cons_succ,Option.bind_some,beq_self_eq_true,Bool.or_false,Nat.reduceBEq,Nat.reduceAdd,Nat.zero_add]
      repeat ((with_reducible refine wpSlim_step (fun K hK=>?_));go_simp;first | (refine hK _ _ ?_;clear hK K) | (refine ⟨by (intro kk hkk;first | (simp (disch:=(simp;omega)) only [hp_drew,hp_drewN,hp_alloc,hp_set];done) | (simp [hp_drew,hp_drewN,hp_alloc_if,hkk];done)),hK _ _ ?_⟩;clear hK K))
      refine wpSlim_nil ?_
      clear hgr
      go_wp2
      go_returns
      refine ⟨by simp [okTr,shTr,Sh.v, *],by (repeat' (first | (with_reducible exact Below.refl _ _) | (with_reducible assumption) | (with_reducible refine bel_drewN ?_ _) | (with_reducible refine Below.drew ?_) | (with_reducible refine Below.alloc ?_ ?_ _) | (with_reducible refine Below.setCell ?_ ?_ _) | (simp;done) | (simp;omega)))⟩
    ·have c4f0:decide (k < n)=false:=decide_eq_false c4
     go_enter Tryz.func44,Tryz.ntmps44
     go_wp2
     have hgr:=fun (w0 W:World) (p:Addr) (hp:(fun k=>k < w.heap.size) p.block)=>graft_cell (w0:=w0) (keep:=(fun k=>k < w.heap.size)) W hp
     refine wp_region_here (fun k=>k < w.heap.size) [48] (by kernel_rfl) (by kernel_rfl) ?_
     simp only [slimAll,Oper.slim,List.contains_cons,List.contains_nil,Option.map_none,Option.map_some,List.getElem?_toArray,List.getElem?_cons_zero,List.getElem?_cons_succ,Option.bind_some,beq_self_eq_true,Bool.or_false,Nat.reduceBEq,Nat.reduceAdd,Nat.zero_add]
     repeat ((with_reducible refine wpSlim_step (fun K hK=>?_));go_simp;first | (refine hK _ _ ?_;clear hK K) | (refine ⟨by (intro kk hkk;first | (simp (disch:=(simp;omega)) only [hp_drew,hp_drewN,hp_alloc,hp_set];done) | (simp [hp_drew,hp_drewN,hp_alloc_if,hkk];done)),hK _ _ ?_⟩;clear hK K))
     refine wpSlim_nil ?_
     clear hgr
     go_wp2
     go_returns
     refine ⟨by simp [okTr,shTr,Sh.v, *],by (repeat' (first | (with_reducible exact Below.refl _ _) | (with_reducible assumption) | (with_reducible refine bel_drewN ?_ _) | (with_reducible refine Below.drew ?_) | (with_reducible refine Below.alloc ?_ ?_ _) | (with_reducible refine Below.setCell ?_ ?_ _) | (simp;done) | (simp;omega)))⟩
   ·have c3f0:decide (t=0)=false:=decide_eq_false c3
    have c3f1:(t == 0)=false:=by simpa using c3
    go_enter Tryz.func44,Tryz.ntmps44
    go_wp2
    have hgr:=fun (w0 W:World) (p:Addr) (hp:(fun k=>k < w.heap.size) p.block)=>graft_cell (w0:=w0) (keep:=(fun k=>k < w.heap.size)) W hp
    refine wp_region_here (fun k=>k < w.heap.size) [48] (by kernel_rfl) (by kernel_rfl) ?_
    simp only [slimAll,Oper.slim,List.contains_cons,List.contains_nil,Option.map_none,Option.map_some,List.getElem?_toArray,List.getElem?_cons_zero,List.getElem?_cons_succ,Option.bind_some,beq_self_eq_true,Bool.or_false,Nat.reduceBEq,Nat.reduceAdd,Nat.zero_add]
    repeat ((with_reducible refine wpSlim_step (fun K hK=>?_));go_simp;first | (refine hK _ _ ?_;clear hK K) | (refine ⟨by (intro kk hkk;first | (simp (disch:=(simp;omega)) only [hp_drew,hp_drewN,hp_alloc,hp_set];done) | (simp [hp_drew,hp_drewN,hp_alloc_if,hkk];done)),hK _ _ ?_⟩;clear hK K))
    refine wpSlim_nil ?_
    clear hgr
    go_wp2
    go_returns
    refine ⟨by simp [okTr,shTr,Sh.v, *],by (repeat' (first | (with_reducible exact Below.refl _ _) | (with_reducible assumption) | (with_reducible refine bel_drewN ?_ _) | (with_reducible refine Below.drew ?_) | (with_reducible refine Below.alloc ?_ ?_ _) | (with_reducible refine Below.setCell ?_ ?_ _) | (simp;done) | (simp;omega)))⟩
  ·have c2f0:decide (r=0)=false:=decide_eq_false c2
   have c2f1:(r == 0)=false:=by simpa using c2
   go_enter Tryz.func44,Tryz.ntmps44
   go_wp2
   have hgr:=fun (w0 W:World) (p:Addr) (hp:(fun k=>k < w.heap.size) p.block)=>graft_cell (w0:=w0) (keep:=(fun k=>k < w.heap.size)) W hp
   refine wp_region_here (fun k=>k < w.heap.size) [48] (by kernel_rfl) (by kernel_rfl) ?_
   simp only [slimAll,Oper.slim,List.contains_cons,List.contains_nil,Option.map_none,Option.map_some,List.getElem?_toArray,List.getElem?_cons_zero,List.getElem?_cons_succ,Option.bind_some,beq_self_eq_true,Bool.or_false,Nat.reduceBEq,Nat.reduceAdd,Nat.zero_add]
   repeat ((with_reducible refine wpSlim_step (fun K hK=>?_));go_simp;first | (refine hK _ _ ?_;clear hK K) | (refine ⟨by (intro kk hkk;first | (simp (disch:=(simp;omega)) only [hp_drew,hp_drewN,hp_alloc,hp_set];done) | (simp [hp_drew,hp_drewN,hp_alloc_if,hkk];done)),hK _ _ ?_⟩;clear hK K))
   refine wpSlim_nil ?_
   clear hgr
   go_wp2
   go_returns
   refine ⟨by simp [okTr,shTr,Sh.v, *],by (repeat' (first | (with_reducible exact Below.refl _ _) | (with_reducible assumption) | (with_reducible refine bel_drewN ?_ _) | (with_reducible refine Below.drew ?_) | (with_reducible refine Below.alloc ?_ ?_ _) | (with_reducible refine Below.setCell ?_ ?_ _) | (simp;done) | (simp;omega)))⟩
 ·have c1f0:decide (d=0)=false:=decide_eq_false c1
  have c1f1:(d == 0)=false:=by simpa using c1
  go_enter Tryz.func44,Tryz.ntmps44
  go_wp2
  have hgr:=fun (w0 W:World) (p:Addr) (hp:(fun k=>k < w.heap.size) p.block)=>graft_cell (w0:=w0) (keep:=(fun k=>k < w.heap.size)) W hp
  refine wp_region_here (fun k=>k < w.heap.size) [48] (by kernel_rfl) (by kernel_rfl) ?_
  simp only [slimAll,Oper.slim,List.contains_cons,List.contains_nil,Option.map_none,Option.map_some,List.getElem?_toArray,List.getElem?_cons_zero,List.getElem?_cons_succ,Option.bind_some,beq_self_eq_true,Bool.or_false,Nat.reduceBEq,Nat.reduceAdd,Nat.zero_add]
  repeat ((with_reducible refine wpSlim_step (fun K hK=>?_));go_simp;first | (refine hK _ _ ?_;clear hK K) | (refine ⟨by (intro kk hkk;first | (simp (disch:=(simp;omega)) only [hp_drew,hp_drewN,hp_alloc,hp_set];done) | (simp [hp_drew,hp_drewN,hp_alloc_if,hkk];done)),hK _ _ ?_⟩;clear hK K))
  refine wpSlim_nil ?_
  clear hgr
  go_wp2
  go_returns
  refine ⟨by simp [okTr,shTr,Sh.v, *],by (repeat' (first | (with_reducible exact Below.refl _ _) | (with_reducible assumption) | (with_reducible refine bel_drewN ?_ _) | (with_reducible refine Below.drew ?_) | (with_reducible refine Below.alloc ?_ ?_ _) | (with_reducible refine Below.setCell ?_ ?_ _) | (simp;done) | (simp;omega)))⟩
end Go.Proofs.YtnjbkfeihbcalaaGreat
/- The closures of config.shape: what each kind of code amounts to. -/
namespace Go.Proofs.YtnjbkfeihbcalaaGreat
open Go.RowKit
set_option linter.unusedSimpArgs false
set_option linter.unusedVariables false
set_option maxHeartbeats 8000000 in
theorem loc_any (b:Nat) (n k d r t:Int) (w:World) (hb:b < w.heap.size)
 (h1:w.cell? ⟨b,1,none⟩=some (.int .i64 n)) (h2:w.cell? ⟨b,2,none⟩=some (.int .i64 k)) (h3:w.cell? ⟨b,3,none⟩=some (.int .i64 d)) (h4:w.cell? ⟨b,4,none⟩=some (.int .i64 r)) (h5:w.cell? ⟨b,5,none⟩=some (.int .i64 t))
 (hn:1≤n∧n≤255) (hk:1≤k∧k≤255) (hd:0≤d∧d≤255) (hr:0≤r∧r≤255) (ht:0≤t∧t≤255) :
  Calls Tryz.prog 45 #[.pointer (some ⟨b,0,none⟩)] w fun e w'=>e=.returned (.tuple #[(locSh n k d r t).v,.bool (okLoc n k d r)])∧Below w.heap.size w w':=by
 by_cases c1:d=0
 ·by_cases c2:1≤r
  ·by_cases c3:255 % (r+1)=0
   ·by_cases c4:n % (r+1)=0
    ·by_cases c5:k % r=0
     ·have hbne:¬ b=w.heap.size:=by omega
      have hr1:decide (r < 1)=false:=decide_eq_false (by omega)
      have r3:¬ r=0:=by omega
      have q1:0≤k / r∧k / r≤k:=⟨Int.ediv_nonneg (by omega) (by omega),Int.ediv_le_self _ (by omega)⟩
      have e0:k.tdiv r=k / r:=Int.tdiv_eq_ediv_of_nonneg (by omega)
      have e1:IntKind.i64.wrap (k / r)=k / r:=IntWalk.i64_in _ (by omega)
      have e2:IntKind.i64.wrap (k+k / r)=k+k / r:=IntWalk.i64_in _ (by omega)
      have e3:IntKind.i64.wrap (k+k / r - 1)=k+k / r - 1:=IntWalk.i64_in _ (by omega)
      have e4:IntKind.i64.wrap (2 * t)=2 * t:=IntWalk.i64_in _ (by omega)
      have e5:IntKind.i64.wrap (k+k / r - 1+2 * t)=k+k / r - 1+2 * t:=IntWalk.i64_in _ (by omega)
      have c6:0 < t ∨ t=0:=by omega
      rcases c6 with c6 | c6
      ·skip
       go_enter Tryz.func45,Tryz.ntmps45
       go_wp2
       have hgr:=fun (w0 W:World) (p:Addr) (hp:(fun k=>k < w.heap.size+1) p.block)=>graft_cell (w0:=w0) (keep:=(fun k=>k < w.heap.size+1)) W hp
       refine wp_region_here (fun k=>k < w.heap.size+1) [14,15] (by kernel_rfl) (by kernel_rfl) ?_
       simp only [slimAll,Oper.slim,List.contains_cons,List.contains_nil,Option.map_none,Option.map_some,List.getElem?_toArray,List.getElem?_cons_zero,List.getElem?_cons_succ,Option.bind_some,beq_self_eq_true,Bool.or_false,Nat.reduceBEq,Nat.reduceAdd,Nat.zero_add]
       repeat ((with_reducible refine wpSlim_step (fun K hK=>?_));go_simp;first | (refine hK _ _ ?_;clear hK K) | (refine ⟨by (intro kk hkk;first | (simp (disch:=(simp;omega)) only [hp_drew,hp_drewN,hp_alloc,hp_set];done) | (simp [hp_drew,hp_drewN,hp_alloc_if,hkk];done)),hK _ _ ?_⟩;clear hK K))
       refine wpSlim_nil ?_
       clear hgr
       go_wp2
       have hgr:=fun (w0 W:World) (p:Addr) (hp:(fun k=>k ≠ w.heap.size) p.block)=>graft_cell (w0:=w0) (keep:=(fun k=>k ≠ w.heap.size)) W hp
       refine wp_region_here (fun k=>k ≠ w.heap.size) [6] (by kernel_rfl) (by kernel_rfl) ?_
       simp only [slimAll,Oper.slim,List.contains_cons,List.contains_nil,Option.map_none,Option.map_some,List.getElem?_toArray,List.getElem?_cons_zero,List.getElem?_cons_succ,Option.bind_some,beq_self_eq_true,Bool.or_false,Nat.reduceBEq,Nat.reduceAdd,Nat.zero_add]
       repeat ((with_reducible refine wpSlim_step (fun K hK=>?_));go_simp;first | (refine hK _ _ ?_;clear hK K) | (refine ⟨by (intro kk hkk;first | (simp (disch:=(simp;omega)) only [hp_drew,hp_drewN,hp_alloc,hp_set];done) | (simp [hp_drew,hp_drewN,hp_alloc_if,hkk];done)),hK _ _ ?_⟩;clear hK K))
       refine wpSlim_nil ?_
       clear hgr
       go_wp2
       go_returns
       refine ⟨by simp [locSh,okLoc0,okLoc,shLoc,Sh.v, *],by (repeat' (first | (with_reducible exact Below.refl _ _) | (with_reducible assumption) | (with_reducible refine bel_drewN ?_ _) | (with_reducible refine Below.drew ?_) | (with_reducible refine Below.alloc ?_ ?_ _) | (with_reducible refine Below.setCell ?_ ?_ _) | (simp;done) | (simp;omega)))⟩
      ·subst c6
       go_enter Tryz.func45,Tryz.ntmps45
       go_wp2
       have hgr:=fun (w0 W:World) (p:Addr) (hp:(fun k=>k < w.heap.size+1) p.block)=>graft_cell (w0:=w0) (keep:=(fun k=>k < w.heap.size+1)) W hp
       refine wp_region_here (fun k=>k < w.heap.size+1) [14,15] (by kernel_rfl) (by kernel_rfl) ?_
       simp only [slimAll,Oper.slim,List.contains_cons,List.contains_nil,Option.map_none,Option.map_some,List.getElem?_toArray,List.getElem?_cons_zero,List.getElem?_cons_succ,Option.bind_some,beq_self_eq_true,Bool.or_false,Nat.reduceBEq,Nat.reduceAdd,Nat.zero_add]
       repeat ((with_reducible refine wpSlim_step (fun K hK=>?_));go_simp;first | (refine hK _ _ ?_;clear hK K) | (refine ⟨by (intro kk hkk;first | (simp (disch:=(simp;omega)) only [hp_drew,hp_drewN,hp_alloc,hp_set];done) | (simp [hp_drew,hp_drewN,hp_alloc_if,hkk];done)),hK _ _ ?_⟩;clear hK K))
       refine wpSlim_nil ?_
       clear hgr
       go_wp2
       have hgr:=fun (w0 W:World) (p:Addr) (hp:(fun k=>k ≠ w.heap.size) p.block)=>graft_cell (w0:=w0) (keep:=(fun k=>k ≠ w.heap.size)) W hp
       refine wp_region_here (fun k=>k ≠ w.heap.size) [6] (by kernel_rfl) (by kernel_rfl) ?_
       simp only [slimAll,Oper.slim,List.contains_cons,List.contains_nil,Option.map_none,Option.map_some,List.getElem?_toArray,List.getElem?_cons_zero,List.getElem?_cons_succ,Option.bind_some,beq_self_eq_true,Bool.or_false,Nat.reduceBEq,Nat.reduceAdd,Nat.zero_add]
       repeat ((with_reducible refine wpSlim_step (fun K hK=>?_));go_simp;first | (refine hK _ _ ?_;clear hK K) | (refine ⟨by (intro kk hkk;first | (simp (disch:=(simp;omega)) only [hp_drew,hp_drewN,hp_alloc,hp_set];done) | (simp [hp_drew,hp_drewN,hp_alloc_if,hkk];done)),hK _ _ ?_⟩;clear hK K))
       refine wpSlim_nil ?_
       clear hgr
       go_wp2
       go_returns
       refine ⟨by simp [locSh,okLoc0,okLoc,shLoc,Sh.v, *],by (repeat' (first | (with_reducible exact Below.refl _ _) | (with_reducible assumption) | (with_reducible refine bel_drewN ?_ _) | (with_reducible refine Below.drew ?_) | (with_reducible refine Below.alloc ?_ ?_ _) | (with_reducible refine Below.setCell ?_ ?_ _) | (simp;done) | (simp;omega)))⟩
     ·have c5f0:(k % r != 0)=true:=by simpa using c5
      go_enter Tryz.func45,Tryz.ntmps45
      go_wp2
      go_returns
      refine ⟨by simp [locSh,okLoc0,okLoc,Sh.zero,Sh.v, *],by (repeat' (first | (with_reducible exact Below.refl _ _) | (with_reducible assumption) | (with_reducible refine bel_drewN ?_ _) | (with_reducible refine Below.drew ?_) | (with_reducible refine Below.alloc ?_ ?_ _) | (with_reducible refine Below.setCell ?_ ?_ _) | (simp;done) | (simp;omega)))⟩
    ·have c4f0:(n % (r+1) != 0)=true:=by simpa using c4
     go_enter Tryz.func45,Tryz.ntmps45
     go_wp2
     go_returns
     refine ⟨by simp [locSh,okLoc0,okLoc,Sh.zero,Sh.v, *],by (repeat' (first | (with_reducible exact Below.refl _ _) | (with_reducible assumption) | (with_reducible refine bel_drewN ?_ _) | (with_reducible refine Below.drew ?_) | (with_reducible refine Below.alloc ?_ ?_ _) | (with_reducible refine Below.setCell ?_ ?_ _) | (simp;done) | (simp;omega)))⟩
   ·have c3f0:(255 % (r+1) != 0)=true:=by simpa using c3
    go_enter Tryz.func45,Tryz.ntmps45
    go_wp2
    go_returns
    refine ⟨by simp [locSh,okLoc0,okLoc,Sh.zero,Sh.v, *],by (repeat' (first | (with_reducible exact Below.refl _ _) | (with_reducible assumption) | (with_reducible refine bel_drewN ?_ _) | (with_reducible refine Below.drew ?_) | (with_reducible refine Below.alloc ?_ ?_ _) | (with_reducible refine Below.setCell ?_ ?_ _) | (simp;done) | (simp;omega)))⟩
  ·have c2f0:(r < 1):=by omega
   have c2f1:decide (1≤r)=false:=decide_eq_false c2
   go_enter Tryz.func45,Tryz.ntmps45
   go_wp2
   go_returns
   refine ⟨by simp [locSh,okLoc0,okLoc,Sh.zero,Sh.v, *],by (repeat' (first | (with_reducible exact Below.refl _ _) | (with_reducible assumption) | (with_reducible refine bel_drewN ?_ _) | (with_reducible refine Below.drew ?_) | (with_reducible refine Below.alloc ?_ ?_ _) | (with_reducible refine Below.setCell ?_ ?_ _) | (simp;done) | (simp;omega)))⟩
 ·have c1f0:(d != 0)=true:=by simpa using c1
  have c1f1:decide (d=0)=false:=decide_eq_false c1
  go_enter Tryz.func45,Tryz.ntmps45
  go_wp2
  go_returns
  refine ⟨by simp [locSh,okLoc0,okLoc,Sh.zero,Sh.v, *],by (repeat' (first | (with_reducible exact Below.refl _ _) | (with_reducible assumption) | (with_reducible refine bel_drewN ?_ _) | (with_reducible refine Below.drew ?_) | (with_reducible refine Below.alloc ?_ ?_ _) | (with_reducible refine Below.setCell ?_ ?_ _) | (simp;done) | (simp;omega)))⟩
end Go.Proofs.YtnjbkfeihbcalaaGreat
