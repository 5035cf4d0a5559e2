import Derived.Test.YtcclhhjcejmepaaGreatZKnB
import Derived.Test.YtcclhhjcejmepaaGreatZTells
import Derived.Test.YtcclhhjcejmepaaGreatZMends
import Derived.ShutString
set_option linter.all false
set_option maxRecDepth 100000
set_option maxHeartbeats 8000000
namespace Go.Proofs.YtcclhhjcejmepaaGreat
open Go.RowKit Fld
theorem land1 {z:Int} (h1:-1≤z) (h2:z<5):∃k:Nat,k<256∧_root_.Go.bits .and .i64 z 1=(k:Int)∧IntKind.i64.wrap (k:Int)=(k:Int)∧IntKind.u8.wrap (k:Int)=(k:Int):=by
 have:z=-1∨z=0∨z=1∨z=2∨z=3∨z=4:=by omega
 rcases this with rfl|rfl|rfl|rfl|rfl|rfl
 ·exact⟨1,by decide,by decide,by decide,by decide⟩
 ·exact⟨0,by decide,by decide,by decide,by decide⟩
 ·exact⟨1,by decide,by decide,by decide,by decide⟩
 ·exact⟨0,by decide,by decide,by decide,by decide⟩
 ·exact⟨1,by decide,by decide,by decide,by decide⟩
 ·exact⟨0,by decide,by decide,by decide,by decide⟩
theorem lknown10_any (w:World):Calls Tryz.prog 10 #[] w fun e w'=>e=.returned (.bool true)∧Below w.heap.size w w':=by
 go_enter Tryz.func10,Tryz.ntmps10;go_wp2_with fail;refine (zv7 w).mono ?_;rintro e w' ⟨rfl,rfl⟩;go_wp2_with fail;refine (zsw w).mono ?_;rintro e w' ⟨rfl,rfl⟩;go_wp2_with fail;refine (zv5 w).mono ?_;rintro e w0 ⟨rfl,hb0⟩;go_wp2_with fail;refine (zv8 w0).mono ?_;rintro e w1 ⟨rfl,hb1⟩;have HB1:Hid (Below w.heap.size w w1):=Hd (hb0.trans (hb1.mono hb0.size));clear hb0 hb1;go_wp2_with fail;refine (yb0 w1).mono ?_;rintro e w' ⟨rfl,rfl⟩;go_wp2_with fail;refine (ybz w1).mono ?_;rintro e w' ⟨rfl,rfl⟩;have HM2:Hid (GRd (w1.alloc (.cells (gv zwk).toArray 5)) (.slice (some ⟨w1.heap.size,0,none⟩) 9 9) zwk):=Hd (GRd.lit zwk (nwA _ _) rfl);have HB2:Hid (Below w.heap.size w (w1.alloc (.cells (gv zwk).toArray 5))):=Hd (HB1.out.trans (((Zaa _ _).alloc (zE3 _) _).mono HB1.out.size));obtain⟨w2,hw2⟩:=zE5 (w1.alloc (.cells (gv zwk).toArray 5));have hw2':w2=w1.alloc (.cells #[.int .u8 5,.int .u8 6,.int .u8 200,.int .u8 0,.int .u8 77,.int .u8 1,.int .u8 9,.int .u8 255,.int .u8 3] 5):=hw2;rw[←hw2] at HM2 HB2;obtain⟨mb,hmb⟩:=zE4 w1.heap.size;rw[hmb] at HM2;go_wp2;rw[←hw2'];have hs2:=HB2.out.size;clear hw2 hw2' HB1 hmb;go_loopg [13] 8 (fun gk p wr=>∃(I:Nat) (z:Int),I≤8∧gk=8-I∧p=.int .i64 z∧z+1=(I:Int)∧Hid (Below w2.heap.size w2 wr))
 case atStart=>exact⟨0,-1,by omega,rfl,rfl,by omega,Hd (Zaa _ _)⟩
 case round =>
  obtain⟨I,zn,hI,rfl,rfl,hzn,HBR⟩:=hrel;by_cases hlt:zn<7
  ·go_wp2;go_loopg [14] 6 (fun gk p wr=>∃(I:Nat) (z:Int),I≤6∧gk=6-I∧p=.int .i64 z∧z+1=(I:Int)∧Hid (Below w2.heap.size w2 wr))
   case atStart=>exact⟨0,-1,by omega,rfl,rfl,by omega,HBR⟩
   case round =>
    clear HBR;obtain⟨I2,zk,hI2,rfl,rfl,hzk,HBR⟩:=hrel;by_cases hltk:zk<5
    ·go_wp2;go_loopg [15] 8 (fun gk p wr=>∃(I:Nat) (z:Int),I≤8∧gk=8-I∧p=.int .i64 z∧z+1=(I:Int)∧Hid (Below w2.heap.size w2 wr))
     case atStart=>exact⟨0,-1,by omega,rfl,rfl,by omega,HBR⟩
     case round =>
      clear HBR;obtain⟨I3,zd,hI3,rfl,rfl,hzd,HBR⟩:=hrel;have hsr:=HBR.out.size;by_cases hltd:zd<7
      ·obtain⟨nb,hnb,hnb2⟩:=zos zn;obtain⟨kb,hkb,hkb2⟩:=zos zk;obtain⟨db,hdb,hdb2⟩:=zos zd;obtain⟨k1,hk1,hk2,hk3,hk4⟩:=land1 (show -1≤zk by omega) hltk;obtain⟨dm,hdm⟩:=zE4 (Int.tmod zd 2);have hdm2:IntKind.i64.wrap dm=dm:=by
        have:=zrv (by omega) hdm
        exact Zbd _ (by omega)
       have HNB:Hid (I64 zn∧I64 zk∧I64 zd):=Hd ⟨⟨by omega,by omega⟩,⟨by omega,by omega⟩,⟨by omega,by omega⟩⟩;have HM:=Hd (HM2.out.below HBR.out);go_wp2_with fail;refine (zew zn zk zd wr HNB.out).mono ?_;rintro e w3 ⟨rfl,hb3⟩;have HB3:Hid (Below w2.heap.size w2 w3):=Hd (HBR.out.trans (hb3.mono hsr));have HM3:=Hd (HM.out.below hb3);clear hb3 HM;go_wp2_with fail;refine (znq zn zk zd _ _ _ zwk [(⟨nb,hnb2⟩:GF)] [(⟨9,by decide⟩:GF)] 63 k1 _ _ HNB.out (HM3.out.below (((Zaa _ _).alloc (zE3 _) _).alloc (by simp) _)) (GRd.lit [(⟨nb,hnb2⟩:GF)] (zaw (nwA _ _) _) rfl) (GRd.lit [(⟨9,by decide⟩:GF)] (nwE _ _ _ (by simp)) rfl) (by omega) hk1).mono ?_;rintro e w4 ⟨rfl,hb4⟩;have hb34:Below w3.heap.size w3 w4:=(((Zaa _ _).alloc (zE3 _) _).alloc (by simp) _).trans (hb4.mono (by simp;omega));have HB4:Hid (Below w2.heap.size w2 w4):=Hd (HB3.out.trans (hb34.mono HB3.out.size));have HM4:=Hd (HM3.out.below hb34);clear hb4 hb34 HM3 HB3;go_wp2_with fail;refine (znr zn zk zd _ _ _ zwk [(⟨db,hdb2⟩:GF)] [(⟨7,by decide⟩:GF)] kb 63 nb _ HNB.out (HM4.out.below (((Zaa _ _).alloc (zE3 _) _).alloc (by simp) _)) hkb2 (by omega) (GRd.lit [(⟨db,hdb2⟩:GF)] (zaw (nwA _ _) _) rfl) (GRd.lit [(⟨7,by decide⟩:GF)] (nwE _ _ _ (by simp)) rfl) hnb2).mono ?_;rintro e w5 ⟨rfl,hb5⟩;have HB5:Hid (Below w2.heap.size w2 w5):=Hd (HB4.out.trans (Below.mono ((((Zaa _ _).alloc (zE3 _) _).alloc (by simp) _).trans (hb5.mono (by simp;omega))) HB4.out.size));clear hb5 HM4 HB4;go_wp2;go_roundg (8-(I3+1))
       case measure=>omega
       case rel=>exact⟨I3+1,zd+1,by omega,rfl,by go_num,by omega,HB5⟩
      ·go_wp2;go_roundg (6-(I2+1))
       case measure=>omega
       case rel=>exact⟨I2+1,zk+1,by omega,rfl,by go_num,by omega,HBR⟩
    ·go_wp2;go_roundg (8-(I+1))
     case measure=>omega
     case rel=>exact⟨I+1,zn+1,by omega,rfl,by go_num,by omega,HBR⟩
  ·obtain⟨w3,rfl⟩:=zE5 (wr:World);have HM3:=Hd (HM2.out.below HBR.out);have HB3:Hid (Below w.heap.size w w3):=Hd (HB2.out.trans (HBR.out.mono HB2.out.size));have hs3:=HBR.out.size;clear HBR hzn hI;have hsl:=zd0 mb 5 9 (by omega) (by omega);go_wp2_with fail;refine (zi4 w3 6 2 3 _ (zwk.take 5) (by omega) (HM3.out.frontK (by omega)) (by decide)).mono ?_;rintro e w5 ⟨hb5,hcase⟩;rcases hcase with ⟨hne,-⟩|⟨-,v,S,rfl,hro,hsh⟩
   ·exact absurd (by decide) hne
   have HB5:Hid (Below w.heap.size w w5):=Hd (HB3.out.trans (hb5.mono HB3.out.size));have HM5:=Hd (HM3.out.below hb5);have HA5:=Hd hro.all;have hsl6:S.length=6:=by have:=congrArg List.length hsh;simpa using this
   have HSL:=Hd hsl6;have HSD:Hid (∀s∈S,s.d.length=3):=Hd fun s hs=>by
    have:s.d∈S.map Ro.d:=Zau.2 ⟨s,hs,rfl⟩
    rw[hsh] at this;obtain⟨x,-,hx⟩:=Zau.1 this;rw[←hx,za5]
   have hs5:=hb5.size;clear hb5 hsh hro hsl6 hsl HM3;go_upto_block 6 with fail
   apply yd6 w5 mb v S _ _ HM5.out HA5.out HSL.out HSD.out (u12:=.pointer none) (u16:=.pointer none) (u18:=.pointer none);intro u0 u1 u2 u3 u4 u5 u6 u7 u8 u9 u10 u11 u12 u13 u14 u15 u16 u17 u18 u19 u20 u21 u22 u23 u24 u25 u26 u27 u28 u29 u30 u31 u32 u33 u34 u35 u36 u37 u38 u39 u40 u41 u42 u43 u44 u45 u46 u47 u48 u49 u50 u51 u52 u53 u54 u55 u56 u57 u58 u59 u60 u61 u62 u63 u64 u65 u66 u67 u68 u69 u70 u71 u72 u73 u74 u75 u76 u77 u78 u79 u80 u81 u82 u83 u84 u85 u86 u87 u88 u89 u90 u91 u92 u93 u94 u95 u96 u97 u98 u99 u100 u101 u102 u103 u104 u105 u106 u107 u108 u109 u110 u111 u112 u113 u114 u115 u116 u117 u118 u119 u120 u121 u122 u123 u124 u125 u126 u127 u128 u129 u130 u131 u132 u133 u134 u135 u136 u137 u138 u139 u140 u141 u142 u143 u144 u145 u146 u147 u148 u149 u150 u151 u152 u153 u154 u155 u156 u157 u158 u159 u160 u161 u162 u163 u164 u165 u166 u167 u168 u169 u170 u171 u172 u173 u174 u175 u176 u177 u178 u179 u180 u181 u182 u183 u184 u185 u186 u187 u188 u189 u190 u191 u192 u193 u194 u195 u196 u197 u198 u199 u200 u201 u202 u203 u204 u205 u206 u207 u208 u209 u210 u211 u212 u213 u214 u215 u216 u217 u218 u219 u220 u221 u222 u223 u224 u225 u226 u227 u228 u229 u230 u231 u232 u233 u234 u235 u236 u237 u238 u239 u240 u241 u242 u243 u244 u245 u246 u247 u248 u249 u250 u251 u252 u253 u254 u255 u256 u257 u258 u259 u260 u261 u262 u263 wz hbz;have hbw:=HB5.out.trans (hbz.mono HB5.out.size);go_step;apply yd5 w wz hbw
end Go.Proofs.YtcclhhjcejmepaaGreat
namespace Go.Proofs.YtcclhhjcejmepaaGreat
open Go.RowKit
theorem law_mbknown (w:World) :
  Calls Tryz.prog 10 #[] w fun e w'=>e=.returned (.bool true)∧Below w.heap.size w w':=by
 exact lknown10_any w
end Go.Proofs.YtcclhhjcejmepaaGreat
namespace Go.Proofs.YtcclhhjcejmepaaGreat.mbrKnownFrame
open Go.ChangeShapes Go.WideShapes Go.ChangeAt Go.RowKit
open Go.ChangeMaps (open_string shut_string)
theorem own:ownKnob Tryz.prog.godebug=none:=by kernel_rfl
theorem laidOut:laidOutB Tryz.prog=true:=by kernel_rfl
theorem lifted (os:Os) (started:os.Started) (H:Type) (enc:TypeId×Value→H) :
  ReturnsInHanded {} Tryz.checked os 10 .any (Rows.mbrKnownSpec.pre6 enc Tryz.prog Tryz.f10 Rows.mbrKnownRow.domain false) (Rows.mbrKnownSpec.post enc Tryz.prog Tryz.f10 false true false false):=by
 refine returnsInHanded_of_change (C:=Tryz.checked) own started (by kernel_rfl) Tryz.func10
  (ChangeSpec.witness6 (enc:=enc) (C:=Tryz.checked) false ⟨#[],#[],[]⟩ 8 (by kernel_rfl) (by kernel_rfl) (by kernel_rfl) (by kernel_rfl)) ?_
 intro W base args ds gs before hval0 hW hcnd _;have hval:∀(j:Nat) t v,Tryz.f10.params[j]? = some t→args[j]? = some v→Value.okWide Tryz.prog W .any base t v:=hval0;have hW':=hW;obtain⟨p,q,hA0,hV,rfl,hfz,hnd⟩:=hW;have hA:DataW.TrodAll enc Tryz.prog W 0 (fun _=>true) true Tryz.f10.params.toList args.toList ds p:=hA0;rw[Tryz.params10] at hA hval;obtain⟨rfl,rfl,rfl⟩:=trodAll_none hA;obtain⟨rfl,rfl⟩:=trodVars_none hV;clear hA0 hval0;refine (law_mbknown  W ).mono fun e W' ⟨he,bel⟩=>?_;subst he;exact⟨_,rfl,_,_,_,[],_,[],hW',trodAll_mk1 (shut_bool Tryz.underlying4 _),trodAll_mk0,rfl,bel.frame _,fun h=>by cases h⟩
theorem proved:Rows.MbrKnownSaid :=
 OpenClaim.holds_of_wide 10 Tryz.f10 rfl rfl rfl rfl rfl rfl rfl ⟨rfl,rfl,rfl,rfl,rfl⟩ rfl rfl rfl rfl rfl (by kernel_rfl) Tryz.func10 (by kernel_rfl)
  (of_decide_eq_true (by kernel_rfl)) (by unfold Func.isWrapper;first|(rw[if_pos (by decide +kernel)];kernel_rfl)|(rw[if_neg (by decide +kernel)];exact⟨rfl,rfl⟩))
  (fun os started H enc _=>lifted os started H enc)
#print axioms proved
end Go.Proofs.YtcclhhjcejmepaaGreat.mbrKnownFrame
