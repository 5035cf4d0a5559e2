import Derived.Test.YtcclhhjcejmepaaGreatZStL
import Derived.Sort.Walk13
import Derived.Sort.AssemblyPlain
import Derived.Sort.WalkA14
import Derived.Lib.SliceRun
import Derived.Lib.SlicesS
import Derived.Lib.SlicesCompact
set_option linter.all false
set_option maxRecDepth 100000
set_option maxHeartbeats 4000000
namespace Go.Proofs.YtcclhhjcejmepaaGreat
open Go.RowKit Go.Sort
variable {α:Type} [Inhabited α]
theorem zm5 (x:Int) (w:World):Calls Tryz.prog 168 #[.int .u8 x] w fun e w'=>e=.returned (.bool false)∧w'=w:=by go_enter Tryz.func168,Tryz.ntmps168;go_wp2;go_ret;exact⟨by simp,rfl⟩
theorem zir (x y:Int) (w:World):Calls Tryz.prog 141 #[.int .u8 x,.int .u8 y] w fun e w'=>e=.returned (.bool (Sort.ltInt x y))∧w'=w:=by go_enter Tryz.func141,Tryz.ntmps141;go_wp2_with (go_at_call 168;refine (zm5 _ _).mono ?_;rintro e w' ⟨rfl,rfl⟩);go_ret;exact⟨rfl,rfl⟩
theorem zhr (blk off cap a b:Nat) (d:Array Int) (w:World) (hH:Holds (Value.int .u8) w blk off d) (hab:a≤b) (hb:b≤d.size) (hsz:d.size<4611686018427387904) :
  Calls Tryz.prog 135 #[.slice (some ⟨blk,off,none⟩) d.size cap,.int .i64 a,.int .i64 b] w fun e w' =>
   e=.returned (.tuple #[])∧∃n,w'=putRow (Value.int .u8) (Sort.ahead w n) blk off (Sort.insertionSort ltInt d a b):=by
 go_enter Tryz.func135,Tryz.ntmps135;go_wp2;go_loopw [6] (fun vi wr=>∃(i n:Nat) (dk:Array Int),vi=.int .i64 i∧a<i∧i≤b+1∧dk.size=d.size∧wr=putRow (Value.int .u8) (Sort.ahead w n) blk off dk ∧
   insOuter ltInt a b i dk=insOuter ltInt a b (a+1) d) (fun vi _=>b+1-(intOf vi).toNat)
 case atStart=>exact⟨a+1,0,d,by go_num,by omega,by omega,rfl,(putRow_self _ _ _ _ _ hH).symm,rfl⟩
 case round =>
  obtain⟨i,n,dk,rfl,hai,hib,hsk,hwr,hO⟩:=hrel;have HO:Hid (insOuter ltInt a b i dk=insOuter ltInt a b (a+1) d):=hO;clear hO;go_wp2
  ·
   go_loopw [7] (fun vj wr2=>∃(j m:Nat) (dj:Array Int),vj=.int .i64 j∧a≤j∧j≤i∧dj.size=d.size∧wr2=putRow (Value.int .u8) (Sort.ahead w m) blk off dj ∧
     insInner ltInt a j dj=insInner ltInt a i dk) (fun vj _=>(intOf vj).toNat)
   case atStart=>exact⟨i,n,dk,rfl,by omega,Nat.le_refl _,hsk,rfl,rfl⟩
   case round =>
    obtain⟨j,m,dj,rfl,haj,hji,hsj,hw2,hI⟩:=hrel;have hlt:i<b:=by assumption
    obtain⟨G,hG⟩:∃G:Nat→Int,∀t,G t=dj[t]!:=⟨fun t=>dj[t]!,fun _=>rfl⟩;have hcw:∀t,t<d.size→wr.cell? ⟨blk,off+t,none⟩=some (.int .u8 (G t)):=fun t ht=>by rw[hw2,hG];exact cell?_putRow _ _ _ _ d dj (holds_ahead _ _ _ _ _ _ hH) hsj t (by omega)
    have hfw:∀t,t<d.size→wr.frozen? ⟨blk,off+t,none⟩=false:=fun t ht=>by rw[hw2,frozen?_putRow];exact ((holds_ahead _ _ m _ _ _ hH) t ht).2
    have HW:Hid (wr=putRow (Value.int .u8) (Sort.ahead w m) blk off dj):=hw2;have HG:Hid (∀t,G t=dj[t]!):=hG;have HI:Hid (insInner ltInt a j dj=insInner ltInt a i dk):=hI;clear hw2 hG hI hH;have out:(j≤a∨ltInt dj[j]! dj[j-1]! = false)→∀q,∃i' n' dk',Value.int .i64 ((i:Int)+1)=.int .i64 (i':Nat)∧a<i'∧i'≤b+1∧dk'.size=d.size ∧
      wr.drewN q=putRow (Value.int .u8) (Sort.ahead w n') blk off dk'∧insOuter ltInt a b i' dk'=insOuter ltInt a b (a+1) d:=fun hs q =>
     ⟨i+1,m+q,dj,by go_num,by omega,by omega,hsj,by rw[HW.out];exact putRow_drewN _ _ _ _ _ _ _,
      by rw[←HO.out,insOuter_go _ _ _ _ _ hlt,←HI.out,insInner_stop _ _ _ _ hs]⟩
    have OUT:Hid _:=out;clear out;go_wp2;by_cases hja:a<j
    ·go_quiet (first|(go_at_call 141;refine Calls.quiet_of_same (zir _ _ _)));go_wp2
     ·
      have hl:ltInt (G j) (G (j-1))=true:=by assumption
      go_region
      all_goals go_wp2
      go_roundw
      case rel =>
       refine⟨j-1,m+(nq+1),swp dj j (j-1),by congr 1;omega,by omega,by omega,by rw[size_swp];exact hsj,?_,?_⟩
       ·rw[HW.out,HG.out,HG.out];exact swap_worldA _ w m (nq+1) blk off dj j (j-1) (by omega) (by omega)
       ·rw[←HI.out,insInner_go ltInt a j dj hja (by rw[←HG.out,←HG.out];exact hl)]
      case measure=>simp[intOf];omega
     ·
      have hl:ltInt (G j) (G (j-1))=false:=by assumption
      go_roundw
      case rel=>exact OUT.out (Or.inr (by rw[←HG.out,←HG.out];exact hl)) nq
      case measure=>simp[intOf];omega
    ·go_quiet (first|(go_at_call 141;refine Calls.quiet_of_same (zir _ _ _)));go_wp2;go_roundw
     case rel=>exact OUT.out (Or.inl (by omega)) nq
     case measure=>simp[intOf];omega
  ·
   have hge:¬i<b:=by assumption
   go_end0;exact⟨rfl,n,by unfold Sort.insertionSort;rw[←HO.out,insOuter_stop _ _ _ _ _ hge]⟩
end Go.Proofs.YtcclhhjcejmepaaGreat
namespace Go.Proofs.YtcclhhjcejmepaaGreat
open Go.RowKit Go.Sort
variable {α:Type} [Inhabited α]
def zbl:Nat:=12
theorem ybb (blk off cap limit:Nat) (d:Array Int) (w:World) (hH:Holds (Value.int .u8) w blk off d) (h12:d.size≤12) (hlimit:limit<4611686018427387904) :
  Calls Tryz.prog 111 #[.slice (some ⟨blk,off,none⟩) d.size cap,.int .i64 (0:Nat),.int .i64 d.size,.int .i64 limit] w fun e w' =>
   e=.returned (.tuple #[])∧∃n os,w'=grow (putRow (Value.int .u8) (Sort.ahead w n) blk off (Sort.pdq ltInt d 0 d.size limit true true)) os:=by
 have hc:=zhr blk off cap 0 d.size d w hH (Nat.zero_le _) (Nat.le_refl _) (by omega);have hp:Sort.pdq ltInt d 0 d.size limit true true=Sort.insertionSort ltInt d 0 d.size:=pdq_small (by omega);rw[hp];obtain⟨n,hn⟩:∃n,d.size=n:=⟨_,rfl⟩;rw[hn] at hc h12 ⊢;have h12z:(n:Int)≤12:=by omega
 go_enter Tryz.func111,Tryz.ntmps111;go_wp2;refine wp_loop_rounds 1 ?_;rw[rounds_succ];go_wp2_with (first|(go_at_call 135;refine hc.mono ?_;rintro e w1 ⟨rfl,q,rfl⟩));refine bodyPost_ret (results_none rfl _ _ _) rfl ?_;exact⟨rfl,q,#[],(grow_empty _).symm⟩
theorem ybc (blk off cap:Nat) (d:Array Int) (w:World) (hH:Holds (Value.int .u8) w blk off d) (hblk:blk<w.heap.size) (hsz:d.size≤12) :
  Calls Tryz.prog 75 #[.slice (some ⟨blk,off,none⟩) d.size cap] w fun e w'=>e=.returned (.tuple #[])∧∃n os,w'=grow (putRow (Value.int .u8) (Sort.ahead w n) blk off (Sort.sort ltInt d)) os:=by
 have HH:Hid (Holds (Value.int .u8) w blk off d):=hH;clear hH;have hLen:∀w,Calls Tryz.prog 106 #[.int .u64 (d.size:Int)] w fun e w'=>e=.returned (.int .i64 (bitsLen d.size:Nat))∧w'=w:=fun w=>by have h:=zis (d.size:Int) w (by omega) (by omega);rwa[Int.toNat_natCast,bitLen_eq _ (by omega)] at h
 have hk:bitsLen d.size≤62:=(bitsLen_le_iff d.size 62).2 (by omega);go_enter Tryz.func75,Tryz.ntmps75;go_wp2_with (first
  | (go_at_call 106;refine (hLen _).mono ?_;rintro e w' ⟨rfl,rfl⟩)
  | (go_at_call 111;refine (ybb blk off cap (bitsLen d.size) d _ (by exact HH.out) hsz (by omega)).mono ?_;rintro e w' ⟨rfl,n,os,rfl⟩))
 go_end0;exact⟨rfl,n,os,rfl⟩
theorem zdm (p:Option Addr) (cap:Nat) (w:World) :
  Calls Tryz.prog 135 #[.slice p 0 cap,.int .i64 0,.int .i64 0] w fun e w'=>e=.returned (.tuple #[])∧w'=w:=by
 go_enter Tryz.func135,Tryz.ntmps135;go_wp2;refine wp_loop_rounds 1 ?_;rw[rounds_succ];go_wp2;go_end0;exact⟨rfl,rfl⟩
theorem zft (p:Option Addr) (cap:Nat) (w:World) :
  Calls Tryz.prog 111 #[.slice p 0 cap,.int .i64 0,.int .i64 0,.int .i64 0] w fun e w'=>e=.returned (.tuple #[])∧w'=w:=by
 go_enter Tryz.func111,Tryz.ntmps111;go_wp2;refine wp_loop_rounds 1 ?_;rw[rounds_succ];go_wp2_with (first|(go_at_call 135;refine (zdm p cap _).mono ?_;rintro e w' ⟨rfl,rfl⟩));refine bodyPost_ret (results_none rfl _ _ _) rfl ?_;exact⟨rfl,rfl⟩
theorem zit (p:Option Addr) (cap:Nat) (w:World) :
  Calls Tryz.prog 75 #[.slice p 0 cap] w fun e w'=>e=.returned (.tuple #[])∧w'=w:=by
 have hLen:∀w,Calls Tryz.prog 106 #[.int .u64 0] w fun e w'=>e=.returned (.int .i64 0)∧w'=w:=fun w=>zis 0 w (by omega) (by omega);go_enter Tryz.func75,Tryz.ntmps75;go_wp2_with (first
  | (go_at_call 106;refine (hLen _).mono ?_;rintro e w' ⟨rfl,rfl⟩)
  | (go_at_call 111;refine (zft p cap _).mono ?_;rintro e w' ⟨rfl,rfl⟩))
 go_end0;exact⟨rfl,rfl⟩
theorem zou (zs:List Int):Sort.sort ltInt zs.toArray=(zs.mergeSort fun x y=>decide (x≤y)).toArray:=by rw[←sortInt zs]
theorem zj4 (blk off cap:Nat) (zs:List Int) (w:World) (hH:Holds (Value.int .u8) w blk off zs.toArray) (hblk:blk<w.heap.size) (hsz:zs.length≤zbl) :
  Calls Tryz.prog 75 #[.slice (some ⟨blk,off,none⟩) zs.length cap] w fun e w' =>
   e=.returned (.tuple #[])∧∃n os,w'=grow (putRow (Value.int .u8) (Sort.ahead w n) blk off (zs.mergeSort fun x y=>decide (x≤y)).toArray) os:=by
 have h:=ybc blk off cap zs.toArray w hH hblk (by simpa[zbl] using hsz);rw[zou] at h;simpa using h
end Go.Proofs.YtcclhhjcejmepaaGreat
namespace Go.Proofs.YtcclhhjcejmepaaGreat
open Go.RowKit Go.Lib Go.Sort
theorem zzs {w wr:World} {n blk off:Nat} {dk:Array Int} {i:Nat} (hi:i<dk.size) (hwr:wr=putRow (Value.int .u8) (Sort.ahead w n) blk off dk) (x:Int) :
  (wr.setCell ⟨blk,off+i,none⟩ ((Value.int .u8) x)).drew=putRow (Value.int .u8) (Sort.ahead w (n+1)) blk off (dk.setIfInBounds i x):=by
 subst hwr;rw[putRow_set (Value.int .u8) _ blk off dk i x hi,←ahead_drew];rfl
theorem ztd (blk off cap:Nat) (d:Array Int) (w:World) (hH:Holds (Value.int .u8) w blk off d) (hsz:d.size≤9223372036854775807) (hcap:d.size≤cap) :
  Calls Tryz.prog 76 #[.slice (some ⟨blk,off,none⟩) d.size cap] w fun e w'=>e=.returned (.slice (some ⟨blk,off,none⟩) (compactUpTo d d.size).length cap)∧∃q,w'=putRow (Value.int .u8) (Sort.ahead w q) blk off (compactUpTo d d.size++List.replicate (d.size-(compactUpTo d d.size).length) 0).toArray:=by
 have same:∀q,(∀j,j<d.size→keeps d j=true)→(compactUpTo d d.size).length=d.size∧w.drewN q=putRow (Value.int .u8) (Sort.ahead w q) blk off (compactUpTo d d.size++List.replicate (d.size-(compactUpTo d d.size).length) 0).toArray:=by
  intro q hall;have e:compactUpTo d d.size=d.toList:=by rw[compactUpTo_all d _ hall,range_map_get]
  rw[e];refine⟨by simp,?_⟩;simp only[Array.length_toList,Nat.sub_self,List.replicate_zero,List.append_nil,Array.toArray_toList];exact (putRow_self (Value.int .u8) (Sort.ahead w q) blk off d (holds_ahead (Value.int .u8) w q blk off d hH)).symm
 have HS:Aside (∀q,(∀j,j<d.size→keeps d j=true)→(compactUpTo d d.size).length=d.size∧w.drewN q=putRow (Value.int .u8) (Sort.ahead w q) blk off (compactUpTo d d.size++List.replicate (d.size-(compactUpTo d d.size).length) 0).toArray):=same;clear same;by_cases h2:d.size<2
 ·have HH:Aside (Holds (Value.int .u8) w blk off d):=hH;clear hH;go_enter Tryz.func76,Tryz.ntmps76;go_wp2;go_ret;obtain⟨e1,e2⟩:=HS.out 0 (fun j hj=>keeps_lt_one d j (by omega));exact⟨by rw[e1];rfl,0,e2⟩
 ·go_enter Tryz.func76,Tryz.ntmps76;go_wp2;go_loopg [3] d.size (fun g s3 wr=>∃k q:Nat,1≤k∧k≤d.size∧d.size-k≤g∧s3=.int .i64 k∧wr=w.drewN q∧∀j,j<k→keeps d j=true)
  case atStart=>exact⟨1,0,Nat.le_refl _,by omega,by omega,rfl,rfl,keeps_lt_one d⟩
  case round =>
   obtain⟨k,q,hk1,hk,hg,rfl,rfl,hall⟩:=hrel;by_cases hlt:k<d.size
   ·obtain⟨c1,f1⟩:=hH k hlt;obtain⟨c0,f0⟩:=hH (k-1) (by omega);have A:Aside (∀j,j<k→keeps d j=true):=hall;have HH:Aside (Holds (Value.int .u8) w blk off d):=hH;clear hall hH;generalize hx:d[k]! = x at c1;generalize hy:d[k-1]! = y at c0;have B:Aside (d[k]! = x∧d[k-1]! = y):=⟨hx,hy⟩;clear hx hy;by_cases hdup:x=y
    ·subst hdup;go_wp2_with fail;go_region;go_wp2;clear c0 c1 f0 f1;go_loopg [3,5] d.size (fun g s3 s5 wr=>∃(kk k2 q2:Nat) (dk:Array Int),s3=.int .i64 kk∧s5=.int .i64 k2∧1≤k2∧k+k2≤d.size∧d.size-(k+k2)≤g∧wr=putRow (Value.int .u8) (Sort.ahead w q2) blk off dk∧CompInv d (k+k2) kk dk)
     case atStart=>exact⟨k,1,q+1,d,rfl,rfl,Nat.le_refl _,by omega,by omega,(putRow_self (Value.int .u8) (Sort.ahead w (q+1)) blk off d (holds_ahead (Value.int .u8) w (q+1) blk off d HH.out)).symm,CompInv.start A.out (keeps_neg (by omega) (by rw[B.out.1,B.out.2]))⟩
     case round =>
      obtain⟨kk,k2,q2,dk,rfl,rfl,h1,hle,hg2,hwr,hI⟩:=hrel;have hkk:=hI.lt;have hds:=hI.size;have hHk:Holds (Value.int .u8) wr blk off dk:=by rw[hwr];exact holds_putRow (Value.int .u8) _ blk off d dk (holds_ahead (Value.int .u8) w q2 blk off d HH.out) hds
      have W2:Aside (wr=putRow (Value.int .u8) (Sort.ahead w q2) blk off dk):=hwr;have I2:Aside (CompInv d (k+k2) kk dk):=hI;clear hwr;by_cases hlt2:k+k2<d.size
      ·obtain⟨cm,_⟩:=hHk (k+k2) (by omega);obtain⟨cp,_⟩:=hHk (k+k2-1) (by omega);obtain⟨ck,fk⟩:=hHk kk (by omega);rw[hI.high (k+k2) (by omega),show off+(k+k2)=off+k+k2 by omega] at cm;rw[hI.high (k+k2-1) (by omega),show off+(k+k2-1)=off+k+(k2-1) by omega] at cp;clear hHk hI;generalize hu:d[k+k2]! = u at cm;generalize hv:d[k+k2-1]! = v at cp;generalize dk[kk]! = old at ck;have C:Aside (d[k+k2]! = u∧d[k+k2-1]! = v):=⟨hu,hv⟩;clear hu hv;by_cases huv:u=v
       ·subst huv;go_wp2_with fail;go_region;go_wp2;go_roundg (d.size-(k+(k2+1)))
        case measure=>omega
        case rel=>exact⟨kk,k2+1,q2+1,dk,rfl,by go_num,by omega,by omega,Nat.le_refl _,by rw[W2.out];rfl,I2.out.skip (keeps_neg (by omega) (by rw[C.out.1,C.out.2]))⟩
       ·go_wp2_with fail;go_region;go_wp2;go_roundg (d.size-(k+(k2+1)))
        case measure=>omega
        case rel=>exact⟨kk+1,k2+1,q2+1,dk.setIfInBounds kk u,by go_num,by go_num,by omega,by omega,Nat.le_refl _,zzs (by omega) W2.out u,by have:=I2.out.keep hlt2 (keeps_pos (by rw[C.out.1,C.out.2];exact huv));rwa[C.out.1] at this⟩
      ·have hend:k+k2=d.size:=by omega
       have hcl:∀ty,(Builtin.clear_ #[22] ty #[.slice (some ⟨blk,off+kk,none⟩) (d.size-kk) (cap-kk)]).run Tryz.prog wr=.ok (.tuple #[]) (wr.setCells blk (off+kk) (List.replicate (d.size-kk) ((Value.int .u8) 0))) :=
        fun ty=>Lib.run_clear_slice wr _ _ ty _ Tryz.underlying22 Tryz.zeroValue5 rfl rfl blk (off+kk) _ _ (by omega) (fun j hj=>by rw[show off+kk+j=off+(kk+j) by omega,(hHk (kk+j) (by omega)).1];rfl) (fun j hj=>by rw[show off+kk+j=off+(kk+j) by omega];exact (hHk (kk+j) (by omega)).2)
       clear hHk hI;go_wp2;go_ret;have hI:=I2.out;rw[hend] at hI;refine⟨by rw[hI.len];rfl,q2,?_⟩;rw[hI.len,←hI.done 0,←putRow_setCells (Value.int .u8) _ blk off _ dk kk (by simp;omega),←W2.out,List.map_replicate]
    ·go_wp2_with fail;go_region;go_wp2;go_roundg (d.size-(k+1))
     case measure=>omega
     case rel =>
      refine⟨k+1,q+1,by omega,by omega,Nat.le_refl _,by go_num,rfl,fun j hj=>?_⟩;by_cases e:j=k
      ·subst e;exact keeps_pos (by rw[B.out.1,B.out.2];exact hdup)
      ·exact A.out j (by omega)
   ·have:k=d.size:=by omega
    subst this;have HH:Aside (Holds (Value.int .u8) w blk off d):=hH;clear hH;go_wp2;go_ret;obtain⟨e1,e2⟩:=HS.out q hall;exact⟨by rw[e1];rfl,q,e2⟩
theorem yej (blk off cap:Nat) (zs:List Int) (w:World) (hH:Holds (Value.int .u8) w blk off zs.toArray) (hsz:zs.length≤9223372036854775807) (hcap:zs.length≤cap) :
  Calls Tryz.prog 76 #[.slice (some ⟨blk,off,none⟩) zs.length cap] w fun e w'=>e=.returned (.slice (some ⟨blk,off,none⟩) (Lib.compact zs).length cap)∧∃q,w'=putRow (Value.int .u8) (Sort.ahead w q) blk off (Lib.compact zs++List.replicate (zs.length-(Lib.compact zs).length) 0).toArray:=by
 have h:=ztd blk off cap zs.toArray w hH (by simpa using hsz) (by simpa using hcap);simpa[Lib.compact] using h
theorem zoa (a:Option Addr) (cap:Nat) (w:World) :
  Calls Tryz.prog 76 #[.slice a 0 cap] w fun e w'=>e=.returned (.slice a 0 cap)∧w'=w:=by
 go_enter Tryz.func76,Tryz.ntmps76;go_wp2;go_ret;exact⟨rfl,rfl⟩
end Go.Proofs.YtcclhhjcejmepaaGreat
