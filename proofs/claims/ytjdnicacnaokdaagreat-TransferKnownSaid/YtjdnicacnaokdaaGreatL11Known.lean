/-
  The law TransferKnown.
-/
import Derived.Test.YtjdnicacnaokdaaGreatL11KnB
import Derived.Test.YtjdnicacnaokdaaGreatL11KnC
import Derived.Test.YtjdnicacnaokdaaGreatL11Tells
import Derived.Test.YtjdnicacnaokdaaGreatL11Mends
import Derived.Test.YtjdnicacnaokdaaGreatKnG
import Derived.Deep.DeepCutAuto
import Derived.Deep.LoopGhost
import Derived.Deep.CutBlock
namespace Go.Proofs.YtjdnicacnaokdaaGreat
open Go.RowKit Fld
set_option linter.unusedVariables false
set_option linter.unusedSimpArgs false

set_option maxRecDepth 100000 in
set_option maxHeartbeats 8000000 in
theorem lknown11_any (w:World):Calls Tryz.prog 8 #[] w fun e w'=>e=.returned (.bool true)∧Below w.heap.size w w':=by
 have HW:=Lib.hid (fun W=>works11_any W)
 go_enter Tryz.func8,Tryz.ntmps8
 go_wp2_with fail
 refine (tenc_nil w).mono ?_
 rintro e w' ⟨rfl,rfl⟩
 go_wp2_with fail
 refine (thelp_nil w).mono ?_
 rintro e w0 ⟨rfl,hb0⟩
 go_wp2_with fail
 refine (trep_nil w0).mono ?_
 rintro e w1 ⟨rfl,hb1⟩
 have HB1:Hid (Below w.heap.size w w1):=Lib.hid (hb0.trans (hb1.mono hb0.size))
 clear hb0 hb1
 go_wp2_with fail
 refine (tdec_nil w1).mono ?_
 rintro e w' ⟨rfl,rfl⟩
 go_wp2_with fail
 refine (talpha_nil w1).mono ?_
 rintro e w' ⟨rfl,rfl⟩
 go_wp2_with fail
 refine (tb_nil w1).mono ?_
 rintro e w' ⟨rfl,rfl⟩
 have HM2:Hid (GRd (w1.alloc (.cells (gv kMsg).toArray 5)) (.slice (some ⟨w1.heap.size,0,none⟩) 9 9) kMsg):=Lib.hid (GRd.lit kMsg (heap_newA _ _) rfl)
 have HB2:Hid (Below w.heap.size w (w1.alloc (.cells (gv kMsg).toArray 5))):=Lib.hid (HB1.out.trans (((Below.refl _ _).alloc (Nat.le_refl _) _).mono HB1.out.size))
 obtain ⟨w2,hw2⟩:∃ w2,w2=w1.alloc (.cells (gv kMsg).toArray 5):=⟨_,rfl⟩
 have hw2':w2=w1.alloc (.cells #[.int .u8 5,.int .u8 6,.int .u8 200,.int .u8 0,.int .u8 77,.int .u8 1,.int .u8 9,.int .u8 255,.int .u8 3] 5):=hw2
 rw [← hw2] at HM2 HB2
 obtain ⟨mb,hmb⟩:∃ mb,w1.heap.size=mb:=⟨_,rfl⟩
 have HMX:Hid (w2.heap[mb]? = some (.cells (gv kMsg).toArray 5 (0,0))):=Lib.hid (by rw [hw2,← hmb];exact heap_newA _ _)
 rw [hmb] at HM2
 go_wp2
 rw [← hw2']
 have hs2:=HB2.out.size
 clear hw2 hw2' HB1 hmb
 go_loopg [11] 8 (fun gk p wr=>∃ (I:Nat) (z:Int),I≤8∧gk=8 - I∧p=.int .i64 z∧z+1=(I:Int)∧Hid (Below w2.heap.size w2 wr))
 case atStart=>exact ⟨0,-1,by omega,rfl,rfl,by omega,Lib.hid (Below.refl _ _)⟩
 case round =>
  obtain ⟨I,zn,hI,rfl,rfl,hzn,HBR⟩:=hrel
  by_cases hlt:zn < 7
  ·go_wp2
   go_loopg [12] 8 (fun gk p wr=>∃ (I:Nat) (z:Int),I≤8∧gk=8 - I∧p=.int .i64 z∧z+1=(I:Int)∧Hid (Below w2.heap.size w2 wr))
   case atStart=>exact ⟨0,-1,by omega,rfl,rfl,by omega,HBR⟩
   case round =>
    clear HBR
    obtain ⟨I2,zk,hI2,rfl,rfl,hzk,HBR⟩:=hrel
    have hnb:I64 zn∧I64 zk:=⟨⟨by omega,by omega⟩,⟨by omega,by omega⟩⟩
    have HNBB:=Lib.hid hnb
    clear hnb
    by_cases hltk:zk < 7
    ·go_wp2
     go_loopg [13] 8 (fun gk p wr=>∃ C:Nat,C≤8∧gk=8 - C∧p=.int .i64 C∧Hid (Below w2.heap.size w2 wr))
     case atStart=>exact ⟨0,by omega,rfl,rfl,HBR⟩
     case round =>
      clear HBR
      obtain ⟨C,hC,rfl,rfl,HBR⟩:=hrel
      have hsr:=HBR.out.size
      by_cases hltc:C < 8
      ·obtain ⟨kb,hkb,hkb2⟩:=u8_wrap zk
       have HM:=Lib.hid (HM2.out.below HBR.out)
       obtain ⟨C9,hC9⟩:∃ C9,C * 9=C9:=⟨_,rfl⟩
       obtain ⟨C33,hC33⟩:∃ C33,C * 33=C33:=⟨_,rfl⟩
       obtain ⟨C3,hC3⟩:∃ C3,C % 3=C3:=⟨_,rfl⟩
       obtain ⟨C2,hC2⟩:∃ C2,C % 2=C2:=⟨_,rfl⟩
       have e1:(C:Int) * 9=(C9:Int):=by omega
       have e2:IntKind.i64.wrap (C9:Int)=(C9:Int):=IntWalk.i64_in _ (by omega)
       have e3:IntKind.u64.wrap (C9:Int)=(C9:Int):=by
        have:IntKind.u64.wrap (C9:Int)=(C9:Int) % 18446744073709551616:=rfl
        rw [this]
        omega
       have e4:(C:Int) * 33=(C33:Int):=by omega
       have e5:IntKind.i64.wrap (C33:Int)=(C33:Int):=IntWalk.i64_in _ (by omega)
       have e6:IntKind.u8.wrap (C33:Int)=(C33:Int):=IntWalk.u8_in _ (by omega)
       have e7:(C:Int) % 3=(C3:Int):=by omega
       have e8:IntKind.i64.wrap (C3:Int)=(C3:Int):=IntWalk.i64_in _ (by omega)
       have e9:IntKind.u8.wrap (C3:Int)=(C3:Int):=IntWalk.u8_in _ (by omega)
       have e10:(C:Int) % 2=(C2:Int):=by omega
       have e11:IntKind.i64.wrap (C2:Int)=(C2:Int):=IntWalk.i64_in _ (by omega)
       have e12:IntKind.u8.wrap (C:Int)=(C:Int):=IntWalk.u8_in _ (by omega)
       have hb9:C9 < 18446744073709551616:=by omega
       have hb33:C33 < 256:=by omega
       have hb3:C3 < 256:=by omega
       clear hC9 hC33 hC3 hC2
       go_wp2_with fail
       refine (ltells11_any zn zk _ kMsg C9 C33 C3 _ wr HNBB.out HM.out hb9 hb33 hb3).mono ?_
       rintro e w3 ⟨rfl,hb3⟩
       have HB3:Hid (Below w2.heap.size w2 w3):=Lib.hid (HBR.out.trans (hb3.mono hsr))
       have HM3:=Lib.hid (HM.out.below hb3)
       clear hb3 HM
       go_wp2_with fail
       refine (lmends11_any zn zk _ kMsg C kb w3 HNBB.out HM3.out (by omega) hkb2).mono ?_
       rintro e w4 ⟨rfl,hb4⟩
       have HB4:Hid (Below w2.heap.size w2 w4):=Lib.hid (HB3.out.trans (hb4.mono HB3.out.size))
       clear hb4 HM3 HB3
       go_wp2
       go_roundg (8 - (C+1))
       case measure=>omega
       case rel=>exact ⟨C+1,by omega,rfl,by go_num,HB4⟩
      ·have HM:=Lib.hid (HM2.out.below HBR.out)
       go_wp2_with fail
       refine (ltrnew_any zn zk wr HNBB.out.1 HNBB.out.2).mono ?_
       rintro e w3 ⟨rfl,hb3⟩
       have HB3:Hid (Below w2.heap.size w2 w3):=Lib.hid (HBR.out.trans (hb3.mono hsr))
       have HM3:=Lib.hid (HM.out.below hb3)
       clear hb3 HM
       go_wp2_with fail
       refine (ltells11_any zn zk _ kMsg 63 7 1 true w3 HNBB.out HM3.out (by omega) (by omega) (by omega)).mono ?_
       rintro e w4 ⟨rfl,hb4⟩
       have HB4:Hid (Below w2.heap.size w2 w4):=Lib.hid (HB3.out.trans (hb4.mono HB3.out.size))
       clear hb4 HM3 HB3
       go_wp2
       go_roundg (8 - (I2+1))
       case measure=>omega
       case rel=>exact ⟨I2+1,zk+1,by omega,rfl,by go_num,by omega,HB4⟩
    ·go_wp2
     go_roundg (8 - (I+1))
     case measure=>omega
     case rel=>exact ⟨I+1,zn+1,by omega,rfl,by go_num,by omega,HBR⟩
  ·obtain ⟨w3,rfl⟩:∃ w3:World,w3=wr:=⟨_,rfl⟩
   have HM3:=Lib.hid (HM2.out.below HBR.out)
   have HB3:Hid (Below w.heap.size w w3):=Lib.hid (HB2.out.trans (HBR.out.mono HB2.out.size))
   have hs3:=HBR.out.size
   have hmb3:mb < w3.heap.size:=by
    have:=lt_of_heap HMX.out
    omega
   clear HBR hzn hI
   have hsl:=slice_front mb 5 9 (by omega) (by omega)
   go_wp2_with fail
   refine (rtenc_any w3 4 2 _ (kMsg.take 5) (by omega) (by omega) (by omega) (HM3.out.frontK (by omega)) (by decide)).mono ?_
   rintro e w5 ⟨hb5,hcase⟩
   rcases hcase with ⟨hne,-⟩ | ⟨-,v,S,rfl,hsh⟩
   ·exact absurd (by decide) hne
   have HB5:Hid (Below w.heap.size w w5):=Lib.hid (HB3.out.trans (hb5.mono HB3.out.size))
   have HM5:=Lib.hid (HM3.out.below hb5)
   have HA5:=Lib.hid hsh.all
   have hsl4:S.length=4:=by have:=congrArg List.length hsh.eq;simpa using this
   have HSL:=Lib.hid hsl4
   have HSD:Hid (∀ s ∈ S,s.d.length=3):=Lib.hid fun s hs=>by
    have:s.d ∈ S.map Ro.d:=List.mem_map.2 ⟨s,hs,rfl⟩
    rw [hsh.eq] at this
    obtain ⟨x,-,hx⟩:=List.mem_map.1 this
    rw [← hx,trSh_len]
   have hs5:=hb5.size
   clear hb5 hsh hsl4 hsl HM3
   go_upto_block 6 with fail
   apply kn11_b w5 mb v S _ _ HM5.out (by omega) HA5.out HSL.out HSD.out (u10:=.pointer none) (u14:=.pointer none) (u16:=.pointer none)
   intro u0 u1 u2 u3 u4 u5 u6 u7 u8 u9 u10 u11 u12 u13 u14 u15 u16 u17 u18 u19 u20 u21 u22 u23 u24 u25 u26 u27 u28 u29 u30 u31 u32 u33 u34 u35 u36 u37 u38 u39 u40 u41 u42 u43 u44 u45 u46 u47 u48 u49 u50 u51 u52 u53 u54 u55 u56 u57 u58 u59 u60 u61 u62 u63 u64 u65 u66 u67 u68 u69 u70 u71 u72 u73 u74 u75 u76 u77 u78 u79 u80 u81 u82 u83 u84 u85 u86 u87 u88 u89 u90 u91 u92 u93 u94 u95 u96 u97 u98 u99 u100 u101 u102 u103 u104 u105 u106 u107 u108 u109 u110 u111 u112 u113 u114 u115 u116 u117 u118 u119 u120 u121 u122 u123 u124 u125 u126 u127 u128 u129 u130 u131 u132 u133 u134 u135 u136 u137 u138 u139 u140 u141 u142 u143 u144 u145 u146 u147 u148 u149 u150 u151 u152 u153 u154 u155 u156 u157 u158 u159 u160 u161 u162 u163 u164 u165 u166 u167 u168 u169 u170 u171 u172 u173 u174 u175 u176 u177 u178 u179 u180 u181 u182 u183 u184 u185 u186 u187 u188 u189 u190 u191 u192 u193 u194 u195 u196 u197 u198 u199 u200 u201 u202 u203 u204 u205 u206 u207 u208 u209 u210 u211 u212 u213 u214 u215 u216 u217 u218 u219 u220 u221 u222 u223 u224 u225 u226 u227 u228 u229 u230 u231 u232 u233 u234 u235 u236 u237 u238 u239 u240 u241 u242 u243 u244 u245 u246 u247 u248 wz hbz
   have hbw:=HB5.out.trans (hbz.mono HB5.out.size)
   go_step
   apply kn11_c w wz hbw
end Go.Proofs.YtjdnicacnaokdaaGreat
