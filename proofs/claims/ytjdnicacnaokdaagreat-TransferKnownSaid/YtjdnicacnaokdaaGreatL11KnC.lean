/-
  The law TransferKnown: its end.
-/
import Derived.Test.YtjdnicacnaokdaaGreatL11New
import Derived.Test.YtjdnicacnaokdaaGreatKnG
namespace Go.Proofs.YtjdnicacnaokdaaGreat
open Go.RowKit Fld
set_option linter.unusedVariables false
set_option linter.unusedSimpArgs false

theorem open_c11 {P:Program} {Q:Exit→Act→World→Prop} {a:Act} {w:World} {fn:Func} {r0 r1 r2 r3 r4 r5 r6 r8 r9 r22 c d:Code} (hb:fn.body=some (.seq r0 (.seq r1 (.seq r2 (.seq r3 (.seq r4 (.seq r5 (.seq r6 (.seq r8 (.seq r9 (.seq r22 (.seq c d))))))))))))  (h:d.wp P Q a w):(cAt [true,true,true,true,true,true,true,true,true,true,true] (bodyC fn)).wp P Q a w:=by
 unfold bodyC
 rw [hb]
 exact h
set_option maxRecDepth 100000 in
set_option maxHeartbeats 8000000 in
theorem kn11_c (w wr:World) (hB:Below w.heap.size w wr) (u0 u1 u2 u3 u4 u5 u6 u7 u8 u9 u10 u11 u12 u13 u14 u15 u16 u17 u18 u19 u20 u21 u22 u23 u24 u25 u26 u27 u28 u29 u30 u31 u32 u33 u34 u35 u36 u37 u38 u39 u40 u41 u42 u43 u44 u45 u46 u47 u48 u49 u50 u51 u52 u53 u54 u55 u56 u57 u58 u59 u60 u61 u62 u63 u64 u65 u66 u67 u68 u69 u70 u71 u72 u73 u74 u75 u76 u77 u78 u79 u80 u81 u82 u83 u84 u85 u86 u87 u88 u89 u90 u91 u92 u93 u94 u95 u96 u97 u98 u99 u100 u101 u102 u103 u104 u105 u106 u107 u108 u109 u110 u111 u112 u113 u114 u115 u116 u117 u118 u119 u120 u121 u122 u123 u124 u125 u126 u127 u128 u129 u130 u131 u132 u133 u134 u135 u136 u137 u138 u139 u140 u141 u142 u143 u144 u145 u146 u147 u148 u149 u150 u151 u152 u153 u154 u155 u156 u157 u158 u159 u160 u161 u162 u163 u164 u165 u166 u167 u168 u169 u170 u171 u172 u173 u174 u175 u176 u177 u178 u179 u180 u181 u182 u183 u184 u185 u186 u187 u188 u189 u190 u191 u192 u193 u194 u195 u196 u197 u198 u199 u200 u201 u202 u203 u204 u205 u206 u207 u208 u209 u210 u211 u212 u213 u214 u215 u216 u217 u218 u219 u220 u221 u222 u223 u224 u225 u226 u227 u228 u229 u230 u231 u232 u233 u234 u235 u236 u237 u238 u239 u240 u241 u242 u243 u244 u245 u246 u247 u248:Value) :
  (cAt [true,true,true,true,true,true,true,true,true,true,true] (bodyC Tryz.f8)).wp Tryz.prog (bodyPost Tryz.prog Tryz.f8 (fun e w'=>e=.returned (.bool true)∧Below w.heap.size w w')) { tmps:=#[u0,u1,u2,u3,u4,u5,u6,u7,u8,u9,u10,u11,u12,u13,u14,u15,u16,u17,u18,u19,u20,u21,u22,u23,u24,u25,u26,u27,u28,u29,u30,u31,u32,u33,u34,u35,u36,u37,u38,u39,u40,u41,u42,u43,u44,u45,u46,u47,u48,u49,u50,u51,u52,u53,u54,u55,u56,u57,u58,u59,u60,u61,u62,u63,u64,u65,u66,u67,u68,u69,u70,u71,u72,u73,u74,u75,u76,u77,u78,u79,u80,u81,u82,u83,u84,u85,u86,u87,u88,u89,u90,u91,u92,u93,u94,u95,u96,u97,u98,u99,u100,u101,u102,u103,u104,u105,u106,u107,u108,u109,u110,u111,u112,u113,u114,u115,u116,u117,u118,u119,u120,u121,u122,u123,u124,u125,u126,u127,u128,u129,u130,u131,u132,u133,u134,u135,u136,u137,u138,u139,u140,u141,u142,u143,u144,u145,u146,u147,u148,u149,u150,u151,u152,u153,u154,u155,u156,u157,u158,u159,u160,u161,u162,u163,u164,u165,u166,u167,u168,u169,u170,u171,u172,u173,u174,u175,u176,u177,u178,u179,u180,u181,u182,u183,u184,u185,u186,u187,u188,u189,u190,u191,u192,u193,u194,u195,u196,u197,u198,u199,u200,u201,u202,u203,u204,u205,u206,u207,u208,u209,u210,u211,u212,u213,u214,u215,u216,u217,u218,u219,u220,u221,u222,u223,u224,u225,u226,u227,u228,u229,u230,u231,u232,u233,u234,u235,u236,u237,u238,u239,u240,u241,u242,u243,u244,u245,u246,u247,u248],defers:=[] } wr:=by
 have HW:=Lib.hid (fun W=>works11_any W)
 have HB:=Lib.hid hB
 clear hB
 refine open_c11 rfl ?_
 go_wp2_with fail
 refine (ltrnew_any 23 22 wr ⟨by omega,by omega⟩ ⟨by omega,by omega⟩).mono ?_
 rintro e wa ⟨rfl,hbq⟩
 have HBa:Hid (Below w.heap.size w wa):=Lib.hid (HB.out.trans (hbq.mono HB.out.size))
 clear hbq
 go_wp2_with fail
 refine (ltrnew_any 24 2 wa ⟨by omega,by omega⟩ ⟨by omega,by omega⟩).mono ?_
 rintro e wb ⟨rfl,hbq⟩
 have HBb:Hid (Below w.heap.size w wb):=Lib.hid (HBa.out.trans (hbq.mono HBa.out.size))
 clear hbq
 go_wp2_with fail
 refine (ltrnew_any 23 23 wb ⟨by omega,by omega⟩ ⟨by omega,by omega⟩).mono ?_
 rintro e wc ⟨rfl,hbq⟩
 have HBc:Hid (Below w.heap.size w wc):=Lib.hid (HBb.out.trans (hbq.mono HBb.out.size))
 clear hbq
 go_wp2_with fail
 refine (ltrnew_any 4611686018427387904 1 wc ⟨by omega,by omega⟩ ⟨by omega,by omega⟩).mono ?_
 rintro e wd ⟨rfl,hbq⟩
 have HBd:Hid (Below w.heap.size w wd):=Lib.hid (HBc.out.trans (hbq.mono HBc.out.size))
 clear hbq
 go_wp2_with fail
 refine (ltrnew_any 4611686018427387904 2305843009213693952 wd ⟨by omega,by omega⟩ ⟨by omega,by omega⟩).mono ?_
 rintro e we ⟨rfl,hbq⟩
 have HBe:Hid (Below w.heap.size w we):=Lib.hid (HBd.out.trans (hbq.mono HBd.out.size))
 clear hbq
 go_wp2_with fail
 refine (ltrnew_any (-9223372036854775808) (-9223372036854775808) we ⟨by omega,by omega⟩ ⟨by omega,by omega⟩).mono ?_
 rintro e wf ⟨rfl,hbq⟩
 have HBW:Hid (Below w.heap.size w wf):=Lib.hid (HBe.out.trans (hbq.mono HBe.out.size))
 clear hbq
 go_wp2_with fail
 refine (HW.out _).mono ?_
 rintro e w20 ⟨rfl,hb20⟩
 have HB20:Hid (Below w.heap.size w w20):=Lib.hid (HBW.out.trans (hb20.mono HBW.out.size))
 clear hb20
 go_wp2
 go_ret
 exact ⟨rfl,HB20.out⟩
end Go.Proofs.YtjdnicacnaokdaaGreat
