import Derived.Test.YtcclhhjcejmepaaGreatZNewL
set_option linter.all false
set_option maxRecDepth 100000
set_option maxHeartbeats 8000000
namespace Go.Proofs.YtcclhhjcejmepaaGreat
open Go.RowKit Fld
theorem zv7 (w:World):Calls Tryz.prog 15 #[.pointer none,.slice none 0 0] w fun e w'=>e=.returned (.tuple #[.slice none 0 0,.int .i64 1])∧w=w':=by go_enter Tryz.func15,Tryz.ntmps15;go_wp2;go_ret2;exact⟨rfl,rfl⟩
theorem zsw (w:World):Calls Tryz.prog 17 #[.pointer none,.int .i64 0,.int .i64 1,.slice none 0 0] w fun e w'=>e=.returned (.tuple #[.int .u8 0,.int .i64 1])∧w=w':=by go_enter Tryz.func17,Tryz.ntmps17;go_wp2;go_ret2;exact⟨rfl,rfl⟩
theorem zv5 (w:World):Calls Tryz.prog 23 #[.pointer none,.int .i64 0,.slice none 0 0,.int .i64 0] w fun e w'=>e=.returned (.tuple #[.slice none 0 0,.slice none 0 0,.int .i64 1])∧Below w.heap.size w w':=by have HB:Hid (Below w.heap.size w (w.alloc (.cells #[.int .i64 0] 3))):=Hd ((Zaa _ _).alloc (zE3 _) _);go_enter Tryz.func23,Tryz.ntmps23;go_wp2;refine bodyPost_ret (v:=.tuple #[.slice none 0 0,.slice none 0 0,.int .i64 1]) ?_ rfl ⟨rfl,HB.out⟩;simp[results,Tryz.results23,go_sem]
def yeu (w:World) (e:Ending) (w':World):Prop:=e=.returned (.tuple #[.slice none 0 0,.slice none 0 0,.int .i64 1])∧Below w.heap.size w w'
theorem zv8 (w:World):Calls Tryz.prog 27 #[.pointer none,.slice none 0 0,.int .i64 0] w (yeu w):=by
 obtain⟨w1,hw1⟩:=zE5 (((w.alloc (.cells #[.pointer none] 25)).alloc (.cells #[.slice none 0 0] 41)).alloc (.cells #[.int .i64 0] 3));have hb1:Below w.heap.size w w1:=by rw[hw1];exact (((Zaa _ _).alloc (zE3 _) _).alloc (by simp) _).alloc (by simp;omega) _
 have e3:w1.heap[w.heap.size]? = some (.cells #[.pointer none] 25 (0,0)):=by rw[hw1];exact zaw (zaw (nwA _ _) _) _
 have y3:w1.cell? ⟨w.heap.size,0,none⟩=some (.pointer none):=cOH e3 rfl;have HB:Hid (Below w.heap.size w w1):=Hd hb1;clear hb1 e3;refine zav Tryz.func27 rfl ?_;simp only[Tryz.ntmps27,TR,Nat.reduceAdd,Nat.reduceSub];go_wp2;refine wp_scope_jumps 0 (fun _ _=>False) (fun _ _=>0) rfl ?first ?pass
 case pass =>
  rintro a' W' h;exact h.elim
 case first =>
  subst hw1;go_wp2;refine zal (B:=w.heap.size) [] _ (zbf.nil _ _) fun w' hk=>⟨.tuple #[.slice none 0 0,.slice none 0 0,.int .i64 1],?_,?_⟩
  ·simp[results,Tryz.results27,go_sem]
  ·exact⟨rfl,HB.out.trans (hk.below HB.out.size (fun x hx=>by cases hx))⟩
theorem yb0 (w:World):Calls Tryz.prog 33 #[.pointer none] w fun e w'=>e=.returned (.int .i64 0)∧w=w':=by go_enter Tryz.func33,Tryz.ntmps33;go_wp2;go_ret;exact⟨rfl,rfl⟩
theorem ybz (w:World):Calls Tryz.prog 30 #[.pointer none] w fun e w'=>e=.returned (.int .i64 0)∧w=w':=by go_enter Tryz.func30,Tryz.ntmps30;go_wp2;go_ret;exact⟨rfl,rfl⟩
end Go.Proofs.YtcclhhjcejmepaaGreat
namespace Go.Proofs.YtcclhhjcejmepaaGreat
open Go.RowKit
def cAt:List Bool→Code→Code
 | false :: p,.seq x _=>cAt p x
 | true :: p,.seq _ y=>cAt p y
 | _,c=>c
def ztj (fn:Func):Code:=match fn.body with
 | some c=>c
 | none=>.skip
open Fld
theorem zys {P:Program} {Q:Exit→Act→World→Prop} {a:Act} {w:World} {fn:Func} {r0 r1 r2 r3 r4 r5 r6 r8 r9 r22 c d:Code} (hb:fn.body=some (.seq r0 (.seq r1 (.seq r2 (.seq r3 (.seq r4 (.seq r5 (.seq r6 (.seq r8 (.seq r9 (.seq r22 (.seq c d))))))))))))  (h:d.wp P Q a w):(cAt [true,true,true,true,true,true,true,true,true,true,true] (ztj fn)).wp P Q a w:=by unfold ztj;rw[hb];exact h
theorem yd5 (w wr:World) (hB:Below w.heap.size w wr) (u0 u1 u2 u3 u4 u5 u6 u7 u8 u9 u10 u11 u12 u13 u14 u15 u16 u17 u18 u19 u20 u21 u22 u23 u24 u25 u26 u27 u28 u29 u30 u31 u32 u33 u34 u35 u36 u37 u38 u39 u40 u41 u42 u43 u44 u45 u46 u47 u48 u49 u50 u51 u52 u53 u54 u55 u56 u57 u58 u59 u60 u61 u62 u63 u64 u65 u66 u67 u68 u69 u70 u71 u72 u73 u74 u75 u76 u77 u78 u79 u80 u81 u82 u83 u84 u85 u86 u87 u88 u89 u90 u91 u92 u93 u94 u95 u96 u97 u98 u99 u100 u101 u102 u103 u104 u105 u106 u107 u108 u109 u110 u111 u112 u113 u114 u115 u116 u117 u118 u119 u120 u121 u122 u123 u124 u125 u126 u127 u128 u129 u130 u131 u132 u133 u134 u135 u136 u137 u138 u139 u140 u141 u142 u143 u144 u145 u146 u147 u148 u149 u150 u151 u152 u153 u154 u155 u156 u157 u158 u159 u160 u161 u162 u163 u164 u165 u166 u167 u168 u169 u170 u171 u172 u173 u174 u175 u176 u177 u178 u179 u180 u181 u182 u183 u184 u185 u186 u187 u188 u189 u190 u191 u192 u193 u194 u195 u196 u197 u198 u199 u200 u201 u202 u203 u204 u205 u206 u207 u208 u209 u210 u211 u212 u213 u214 u215 u216 u217 u218 u219 u220 u221 u222 u223 u224 u225 u226 u227 u228 u229 u230 u231 u232 u233 u234 u235 u236 u237 u238 u239 u240 u241 u242 u243 u244 u245 u246 u247 u248 u249 u250 u251 u252 u253 u254 u255 u256 u257 u258 u259 u260 u261 u262 u263:Value) :
  (cAt [true,true,true,true,true,true,true,true,true,true,true] (ztj Tryz.f10)).wp Tryz.prog (bodyPost Tryz.prog Tryz.f10 (fun e w'=>e=.returned (.bool true)∧Below w.heap.size w w')) { tmps:=#[u0,u1,u2,u3,u4,u5,u6,u7,u8,u9,u10,u11,u12,u13,u14,u15,u16,u17,u18,u19,u20,u21,u22,u23,u24,u25,u26,u27,u28,u29,u30,u31,u32,u33,u34,u35,u36,u37,u38,u39,u40,u41,u42,u43,u44,u45,u46,u47,u48,u49,u50,u51,u52,u53,u54,u55,u56,u57,u58,u59,u60,u61,u62,u63,u64,u65,u66,u67,u68,u69,u70,u71,u72,u73,u74,u75,u76,u77,u78,u79,u80,u81,u82,u83,u84,u85,u86,u87,u88,u89,u90,u91,u92,u93,u94,u95,u96,u97,u98,u99,u100,u101,u102,u103,u104,u105,u106,u107,u108,u109,u110,u111,u112,u113,u114,u115,u116,u117,u118,u119,u120,u121,u122,u123,u124,u125,u126,u127,u128,u129,u130,u131,u132,u133,u134,u135,u136,u137,u138,u139,u140,u141,u142,u143,u144,u145,u146,u147,u148,u149,u150,u151,u152,u153,u154,u155,u156,u157,u158,u159,u160,u161,u162,u163,u164,u165,u166,u167,u168,u169,u170,u171,u172,u173,u174,u175,u176,u177,u178,u179,u180,u181,u182,u183,u184,u185,u186,u187,u188,u189,u190,u191,u192,u193,u194,u195,u196,u197,u198,u199,u200,u201,u202,u203,u204,u205,u206,u207,u208,u209,u210,u211,u212,u213,u214,u215,u216,u217,u218,u219,u220,u221,u222,u223,u224,u225,u226,u227,u228,u229,u230,u231,u232,u233,u234,u235,u236,u237,u238,u239,u240,u241,u242,u243,u244,u245,u246,u247,u248,u249,u250,u251,u252,u253,u254,u255,u256,u257,u258,u259,u260,u261,u262,u263],defers:=[] } wr:=by
 have HW:=Hd (yf6 w);have HB:=Hd hB;clear hB;refine zys rfl ?_;go_wp2_with fail;refine (zew 256 2 2 wr ⟨⟨by omega,by omega⟩,⟨by omega,by omega⟩,⟨by omega,by omega⟩⟩).mono ?_;rintro e wa ⟨rfl,hbq⟩;have HBa:Hid (Below w.heap.size w wa):=Hd (HB.out.trans (hbq.mono HB.out.size));clear hbq;go_wp2_with fail;refine (zew 4611686018427387904 4611686018427387904 4611686018427387904 wa ⟨⟨by omega,by omega⟩,⟨by omega,by omega⟩,⟨by omega,by omega⟩⟩).mono ?_;rintro e wb ⟨rfl,hbq⟩;have HBb:Hid (Below w.heap.size w wb):=Hd (HBa.out.trans (hbq.mono HBa.out.size));clear hbq;go_wp2_with fail;refine (zew (-9223372036854775808) (-9223372036854775808) (-9223372036854775808) wb ⟨⟨by omega,by omega⟩,⟨by omega,by omega⟩,⟨by omega,by omega⟩⟩).mono ?_;rintro e wc ⟨rfl,hbq⟩;have HBW:Hid (Below w.heap.size w wc):=Hd (HBb.out.trans (hbq.mono HBb.out.size));clear hbq;go_wp2_with fail;refine (HW.out _ HBW.out).mono ?_;rintro e w20 ⟨rfl,HB20⟩;go_wp2;go_ret;exact⟨rfl,HB20.out⟩
end Go.Proofs.YtcclhhjcejmepaaGreat
