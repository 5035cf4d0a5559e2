import Derived.Test.YtcclhhjcejmepaaGreatZPlains
set_option linter.all false
namespace Go.Proofs.YtcclhhjcejmepaaGreat
open Go.RowKit Fld
def zco (w:World) (b N:Nat) (g:Nat→Nat):Prop:=b<w.heap.size∧∀j,j<N→w.cell? ⟨b,j,none⟩=some (.int .i64 ((g j:Nat):Int))∧w.frozen? ⟨b,j,none⟩=false
theorem zco.kp {S:List Nat} {w w':World} {b N:Nat} {g:Nat→Nat} (h:zco w b N g) (hk:Kp S w w') (hn:b∉S):zco w' b N g :=
 ⟨Zaf h.1 hk.size,fun j hj=>⟨(hk.cell (p:=⟨b,j,none⟩) h.1 hn).trans (h.2 j hj).1,(hk.frozen (p:=⟨b,j,none⟩) h.1 hn).trans (h.2 j hj).2⟩⟩
theorem zco.below {w w':World} {b N:Nat} {g:Nat→Nat} (h:zco w b N g) (hb:Below w.heap.size w w'):zco w' b N g:=h.kp (S:=[]) (Kp.of_below hb) (by simp)
theorem zco.congr {w:World} {b N:Nat} {g g':Nat→Nat} (h:zco w b N g) (e:∀j,j<N→g j=g' j):zco w b N g':=⟨h.1,fun j hj=>by rw[←e j hj];exact h.2 j hj⟩
theorem zco.set {w:World} {b N:Nat} {g:Nat→Nat} (h:zco w b N g) {i:Nat} (hi:i<N) (x:Nat):zco (w.setCell ⟨b,i,none⟩ (.int .i64 (x:Int))) b N (fun j=>if j=i then x else g j):=by
 refine⟨by simpa[World.setCell] using h.1,fun j hj=>?_⟩;by_cases e:j=i
 ·subst e;dsimp only;rw[if_pos rfl];exact⟨World.cell?_setCell_same _ _ _ (h.2 j hj).1,by rw[Zcg];exact (h.2 j hj).2⟩
 ·dsimp only;rw[if_neg e];exact⟨(Zcn _ ⟨b,i,none⟩ ⟨b,j,none⟩ _ (by simp<;>omega)).trans (h.2 j hj).1,by rw[Zcg];exact (h.2 j hj).2⟩
theorem zco.rd {w:World} {b N cap:Nat} {g:Nat→Nat} (h:zco w b N g) (hc:N≤cap):IRd w (.slice (some ⟨b,0,none⟩) N cap) (zqg N g):=by
 have:=IRd.mk (w:=w) (b:=b) (o:=0) (cap:=cap) (l:=zqg N g) (by rw[zf0];exact hc) h.1 fun i x hi=>by
  have hiN:i<N:=by
   have:=(Zah.1 hi).1
   rwa[zf0] at this
  rw[zqf hiN] at hi;cases hi;rw[Zbe];exact (h.2 i hiN).1
 rwa[zf0] at this
theorem za4.view {w:World} {B k:Nat} {v:Value} {g:Nat→Nat} (h:za4 w B v (zqg k g)) (hk:0<k):∃b cap,v=.slice (some ⟨b,0,none⟩) k cap∧B≤b∧k≤cap∧zco w b k g:=by
 have hl:(zqg k g).length=k:=zf0 k g;unfold za4 at h;rw[hl] at h;rcases h.2 with ⟨_,h2⟩|⟨b,cap,cur,rfl,h2,h3,h4,h5,h6,h7⟩
 ·omega
 ·refine⟨b,cap,rfl,h2,h4,lOH h3,fun j hj=>⟨?_,by simp[World.frozen?,h3]⟩⟩;have:=h.cells (g:=b) rfl j (.int .i64 ((g j:Nat):Int)) (by rw[Zae,zqf hj];rfl);have e:(⟨b,0,none⟩:Addr).add j=⟨b,j,none⟩:=by unfold Addr.add;split<;>simp_all
  rwa[e] at this
noncomputable def zh2 (ps:List Int) (r:Nat→Nat) (J:Nat):List Int:=(List.range J).map fun j=>ps.getD (r j) 0
noncomputable def zor (ys:List GF) (r:Nat→Nat) (J:Nat):List GF:=rowF (fun j=>ys.getD (r j) 0) J
theorem zes (ps:List Int) (r:Nat→Nat) (J:Nat):(zh2 ps r J).length=J:=by simp[zh2]
theorem zuw (ps:List Int) (r:Nat→Nat) (J:Nat):zh2 ps r (J+1)=zh2 ps r J++[ps.getD (r J) 0]:=by simp[zh2,Zbh]
theorem zh1 (ps:List Int) (r:Nat→Nat) {J i:Nat} (h:i<J):(zh2 ps r J).getD i 0=ps.getD (r i) 0:=by rw[zh2,zE2,Zae,Zax h];rfl
theorem zsb {ps:List Int} {r r':Nat→Nat} {J:Nat} (h:∀j,j<J→r j=r' j):zh2 ps r J=zh2 ps r' J:=by unfold zh2;exact Zbu fun i hi=>by rw[h i (Zaj.1 hi)]
theorem zsa {ys:List GF} {r r':Nat→Nat} {J:Nat} (h:∀j,j<J→r j=r' j):zor ys r J=zor ys r' J:=by unfold zor rowF;exact Zbu fun i hi=>by rw[h i (Zaj.1 hi)]
theorem zo4 {k n:Nat} {r:Nat→Nat} (h:Ris k n r) {i j:Nat} (hi:i<k) (hj:j<k) (e:r i=r j):i=j:=by
 rcases Nat.lt_trichotomy i j with h1|h1|h1
 ·have:=zgx h i (j-i) (by omega)
  rw[show i+(j-i)=j by omega] at this;omega
 ·exact h1
 ·have:=zgx h j (i-j) (by omega)
  rw[show j+(i-j)=i by omega] at this;omega
section
variable {xs ys:List GF} {ps:List Int} {k t:Nat}
theorem zl0 {N:Nat} {r:Nat→Nat} (hg:zbc N ps) (h:Ris k ps.length r):zbc N (zh2 ps r k):=by
 refine⟨fun x hx=>?_,Zbz.2 (List.nodup_range.imp_of_mem fun {a b} ha hb hne e=>hne ?_)⟩
 ·obtain⟨j,hj,rfl⟩:=Zau.1 hx;refine hg.1 _ ?_;rw[zE2,zE1 (h.1 j (Zaj.1 hj))];exact Zbx _
 ·have ha':=Zaj.1 ha;have hb':=Zaj.1 hb;exact zo4 h ha' hb' (zgd hg.2 (h.1 a ha') (h.1 b hb') e)
theorem zwv {r:Nat→Nat} {m:List GF}:ztp xs k (zh2 ps r k) (zor ys r k) m↔m.length=k∧∀j,j<k→ev m (xs.getD (ps.getD (r j) 0).toNat 0)=ys.getD (r j) 0:=by
 unfold ztp;rw[zes];constructor
 ·rintro ⟨h1,h2⟩;refine⟨h1,fun j hj=>?_⟩;have:=h2 j hj;rw[zh1 _ _ hj,zor,zam _ hj] at this;exact this
 ·rintro ⟨h1,h2⟩;refine⟨h1,fun j hj=>?_⟩;rw[zh1 _ _ hj,zor,zam _ hj];exact h2 j hj
def zms (xs:List GF) (ps:List Int) (ys:List GF) (k t:Nat) (r:Nat→Nat):Prop:=∀m,ztp xs k (zh2 ps r k) (zor ys r k) m→¬(wrS xs ps ys m).length≤t
theorem zk5 {r r':Nat→Nat} (h:∀j,j<k→r j=r' j) (hf:zms xs ps ys k t r'):zms xs ps ys k t r:=by intro m hm;rw[zsb h,zsa h] at hm;exact hf m hm
theorem zzi {r:Nat→Nat} {m:List GF} (hn:xs.Nodup) (hg:zbc xs.length ps) (h:Ris k ps.length r) (hm:ztp xs k (zh2 ps r k) (zor ys r k) m) (hw:¬(wrS xs ps ys m).length≤t):zms xs ps ys k t r:=by intro m' hm';rw[zzf hn (zl0 hg h) (by rw[zes];exact zE3 _) hm' hm];exact hw
theorem zz2 (hk:k+t≤ps.length) (h:∀r,Ris k ps.length r→zms xs ps ys k t r):zbs xs k ps ys t none:=by intro m hm hw;have hw':=hw;rw[zif] at hw';obtain⟨r,hr,hf⟩:=zu2 hw' (by rw[zci];exact hk);rw[zci] at hr;refine h r hr m (zwv.2 ⟨hm,fun j hj=>?_⟩) hw;have:=hf j hj;rwa[zfg xs (hr.1 j hj)] at this
end
open Go.Shelf Go.Sort
structure RdZ (w:World) (B:Nat) (v:Value) (l:List Int):Prop where
 rd:IRd w v l
 lo:∀k,v.ownBlock=some k→B≤k∧k<w.heap.size
theorem RdZ.kp {S:List Nat} {w w':World} {B:Nat} {v:Value} {l:List Int} (h:RdZ w B v l) (hk:Kp S w w') (hS:∀x∈S,x<B):RdZ w' B v l :=
 ⟨IRd.kp h.rd hk fun k hk' hm=>by have:=(h.lo k hk').1;have:=hS k hm;omega,fun k hk'=>⟨(h.lo k hk').1,Zaf (h.lo k hk').2 hk.size⟩⟩
theorem RdZ.below {w w':World} {B:Nat} {v:Value} {l:List Int} (h:RdZ w B v l) (hb:Go.RowKit.Below w.heap.size w w'):RdZ w' B v l:=h.kp (S:=[]) (Kp.of_below hb) (by simp)
theorem RdZ.mono {w:World} {B B':Nat} {v:Value} {l:List Int} (h:RdZ w B v l) (hb:B'≤B):RdZ w B' v l:=⟨h.rd,fun k hk=>⟨Zat hb (h.lo k hk).1,(h.lo k hk).2⟩⟩
theorem RdZ.of_own {w:World} {B:Nat} {v:Value} {l:List Int} (h:za4 w B v l):RdZ w B v l:=⟨h.rd,fun k hk=>⟨(h.lt k hk).1,(h.lt k hk).2⟩⟩
theorem RdZ.nil (w:World) (B:Nat):RdZ w B (.slice none 0 0) []:=RdZ.of_own (za4.nil w B)
end Go.Proofs.YtcclhhjcejmepaaGreat
namespace Go.Proofs.YtcclhhjcejmepaaGreat
open Go.RowKit Fld
theorem zux (J:Nat) (l:Nat→Nat):zqg (J+1) l=zqg J l++[((l J:Nat):Int)]:=by simp[zqg,Zbh]
def zoh (B:Nat) (xs:List GF) (k:Nat) (ps:List Int) (ys:List GF) (t:Int) (e:Ending) (w':World):Prop :=
 (¬(zbc xs.length ps∧ps.length=ys.length)∨t<0)∧e=.returned (.tuple #[.slice none 0 0,.slice none 0 0,.int .i64 2]) ∨
 ((zbc xs.length ps∧ps.length=ys.length)∧0≤t)∧((ps.length:Int)<(k:Int)+2*t∧e=.returned (.tuple #[.slice none 0 0,.slice none 0 0,.int .i64 70]) ∨
  (k:Int)+2*t≤(ps.length:Int)∧((∃m v1 v2,e=.returned (.tuple #[v1,v2,.int .i64 0])∧zbs xs k ps ys t.toNat (some m)∧zao w' B v1 m∧RdZ w' B v2 (wrS xs ps ys m)) ∨
   e=.returned (.tuple #[.slice none 0 0,.slice none 0 0,.int .i64 80])∧zbs xs k ps ys t.toNat none))
theorem zog (V:Value):za0 V (Value.slice none 0 0).ownBlock.toList:=fun k _ hm=>by simp[Value.ownBlock] at hm
theorem zyc (xs m:List GF):rowF (fun i=>ev m (xs.getD i 0)) xs.length=xs.map (ev m):=by refine Zco (by simp[rowF]) fun i h1 h2=>?_;rw[zaa] at h1;simp[rowF,zE1 h1]
end Go.Proofs.YtcclhhjcejmepaaGreat
