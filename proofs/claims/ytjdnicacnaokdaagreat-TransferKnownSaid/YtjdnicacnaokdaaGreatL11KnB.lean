/-
  The law TransferKnown: its second loop.
-/
import Derived.Test.YtjdnicacnaokdaaGreatL11Told
import Derived.Test.YtjdnicacnaokdaaGreatEncG
import Derived.Test.YtjdnicacnaokdaaGreatKnG
import Derived.Test.YtjdnicacnaokdaaGreatOwnSyG
import Derived.Test.YtjdnicacnaokdaaGreatToldG
import Derived.Deep.DeepCutAuto
import Derived.Deep.LoopGhost
import Derived.Deep.CutBlock
namespace Go.Proofs.YtjdnicacnaokdaaGreat
open Go.RowKit Fld
set_option linter.unusedVariables false
set_option linter.unusedSimpArgs false

def kMsg:List GF:=gl [5,6,200,0,77,1,9,255,3]
theorem k11_two:∀ c,c < 12→2≤(smL (15 - c % 5) 4).length:=by decide
theorem k11_four:(smL 15 4).length=4:=by decide
theorem RoAll.lit {W:World} {b:Nat} {t:TypeId} (l:List Ro) (h:W.heap[b]? = some (.cells (l.map Ro.v).toArray t (0,0))) {n:Nat} (hn:l.length=n) (hs:∀ s ∈ l,GRd W s.v s.d):RoAll W (.slice (some ⟨b,0,none⟩) n n) l:=by
 subst hn
 refine ⟨⟨_,_,rfl,Nat.le_refl _,fun _=>⟨b,0,rfl,lt_of_heap h,fun i c hi j u hj=>?_⟩⟩,hs⟩
 have hj0:j=0:=by
  have:=(List.getElem?_eq_some_iff.1 hj).1
  simpa [Ro.cells] using this
 subst hj0
 have hu:u=c.v:=by simpa [Ro.cells] using hj.symm
 rw [hu]
 refine cell_of_heap h (j:=0+i * 1+0) ?_
 simp only [Nat.zero_add,Nat.mul_one,Nat.add_zero,List.getElem?_toArray,List.getElem?_map,hi,Option.map_some]
theorem k42:I64 4∧I64 2:=⟨⟨by omega,by omega⟩,⟨by omega,by omega⟩⟩
theorem kn_num {C:Nat} (h:C < 12):∃ (C6 C7:Nat) (za zc:Int),(C:Int) % 6=(C6:Int)∧(C:Int) % 7=(C7:Int)∧Int.tmod (C:Int) 6=(C6:Int)∧Int.tmod (C:Int) 7=(C7:Int)∧C7 < 7∧IntKind.i64.wrap (C6:Int)=(C6:Int)∧IntKind.i64.wrap (C7:Int)=(C7:Int)∧(C6:Int) - 1=za∧(C:Int) - 1=zc∧IntKind.i64.wrap za=za∧IntKind.i64.wrap zc=zc :=
 ⟨C % 6,C % 7,_,_,rfl,rfl,by rw [Int.tmod_eq_emod_of_nonneg (by omega)];rfl,by rw [Int.tmod_eq_emod_of_nonneg (by omega)];rfl,Nat.mod_lt _ (by decide),IntWalk.i64_in _ (by omega),IntWalk.i64_in _ (by omega),rfl,rfl,IntWalk.i64_in _ (by omega),IntWalk.i64_in _ (by omega)⟩
theorem open_b11 {P:Program} {Q:Exit→Act→World→Prop} {a:Act} {w:World} {fn:Func} {r0 r1 r2 r3 r4 r5 r6 r8 r9 r22 r23 c d:Code} (hb:fn.body=some (.seq r0 (.seq r1 (.seq r2 (.seq r3 (.seq r4 (.seq r5 (.seq r6 (.seq r8 (.seq r9 (.seq r22 (.seq (.seq r23 c) d)))))))))))) (h:c.wp P Q a w):(cAt [true,true,true,true,true,true,true,true,true,true,false,true] (bodyC fn)).wp P Q a w:=by
 unfold bodyC
 rw [hb]
 exact h
set_option maxRecDepth 100000 in
set_option maxHeartbeats 8000000 in
theorem kn11_b (w5:World) (mb:Nat) (v:Value) (S:List Ro) (Kz:Act→World→Prop) (QQ:Exit→Act→World→Prop)
  (hm:GRd w5 (.slice (some ⟨mb,0,none⟩) 9 9) kMsg) (hmb3:mb < w5.heap.size) (ha:RoAll w5 v S) (hsl:S.length=4) (hsd:∀ s ∈ S,s.d.length=3)
  (u0 u1 u2 u3 u4 u5 u6 u7 u8 u9 u10 u11 u12 u13 u14 u15 u16 u17 u18 u19 u20 u21 u22 u23 u24 u25 u26 u27 u28 u29 u30 u31 u32 u33 u34 u35 u36 u37 u38 u39 u40 u41 u42 u43 u44 u45 u46 u47 u48 u49 u50 u51 u52 u53 u54 u55 u56 u57 u58 u59 u60 u61 u62 u63 u64 u65 u66 u67 u68 u69 u70 u71 u72 u73 u74 u75 u76 u77 u78 u79 u80 u81 u82 u83 u84 u85 u86 u87 u88 u89 u90 u91 u92 u93 u94 u95 u96 u97 u98 u99 u100 u101 u102 u103 u104 u105 u106 u107 u108 u109 u110 u111 u112 u113 u114 u115 u116 u117 u118 u119 u120 u121 u122 u123 u124 u125 u126 u127 u128 u129 u130 u131 u132 u133 u134 u135 u136 u137 u138 u139 u140 u141 u142 u143 u144 u145 u146 u147 u148 u149 u150 u151 u152 u153 u154 u155 u156 u157 u158 u159 u160 u161 u162 u163 u164 u165 u166 u167 u168 u169 u170 u171 u172 u173 u174 u175 u176 u177 u178 u179 u180 u181 u182 u183 u184 u185 u186 u187 u188 u189 u190 u191 u192 u193 u194 u195 u196 u197 u198 u199 u200 u201 u202 u203 u204 u205 u206 u207 u208 u209 u210 u211 u212 u213 u214 u215 u216 u217 u218 u219 u220 u221 u222 u223 u224 u225 u226 u227 u228 u229 u230 u231 u232 u233 u234 u235 u236 u237 u238 u239 u240 u241 u242 u243 u244 u245 u246 u247 u248:Value) (hKz:∀ (u0 u1 u2 u3 u4 u5 u6 u7 u8 u9 u10 u11 u12 u13 u14 u15 u16 u17 u18 u19 u20 u21 u22 u23 u24 u25 u26 u27 u28 u29 u30 u31 u32 u33 u34 u35 u36 u37 u38 u39 u40 u41 u42 u43 u44 u45 u46 u47 u48 u49 u50 u51 u52 u53 u54 u55 u56 u57 u58 u59 u60 u61 u62 u63 u64 u65 u66 u67 u68 u69 u70 u71 u72 u73 u74 u75 u76 u77 u78 u79 u80 u81 u82 u83 u84 u85 u86 u87 u88 u89 u90 u91 u92 u93 u94 u95 u96 u97 u98 u99 u100 u101 u102 u103 u104 u105 u106 u107 u108 u109 u110 u111 u112 u113 u114 u115 u116 u117 u118 u119 u120 u121 u122 u123 u124 u125 u126 u127 u128 u129 u130 u131 u132 u133 u134 u135 u136 u137 u138 u139 u140 u141 u142 u143 u144 u145 u146 u147 u148 u149 u150 u151 u152 u153 u154 u155 u156 u157 u158 u159 u160 u161 u162 u163 u164 u165 u166 u167 u168 u169 u170 u171 u172 u173 u174 u175 u176 u177 u178 u179 u180 u181 u182 u183 u184 u185 u186 u187 u188 u189 u190 u191 u192 u193 u194 u195 u196 u197 u198 u199 u200 u201 u202 u203 u204 u205 u206 u207 u208 u209 u210 u211 u212 u213 u214 u215 u216 u217 u218 u219 u220 u221 u222 u223 u224 u225 u226 u227 u228 u229 u230 u231 u232 u233 u234 u235 u236 u237 u238 u239 u240 u241 u242 u243 u244 u245 u246 u247 u248:Value) (w':World),Below w5.heap.size w5 w'→Kz { tmps:=#[u0,u1,u2,u3,u4,u5,u6,u7,u8,u9,u10,u11,u12,u13,u14,u15,u16,u17,u18,u19,u20,u21,u22,u23,u24,u25,u26,u27,u28,u29,u30,u31,u32,u33,u34,u35,u36,u37,u38,u39,u40,u41,u42,u43,u44,u45,u46,u47,u48,u49,u50,u51,u52,u53,u54,u55,u56,u57,u58,u59,u60,u61,u62,u63,u64,u65,u66,u67,u68,u69,u70,u71,u72,u73,u74,u75,u76,u77,u78,u79,u80,u81,u82,u83,u84,u85,u86,u87,u88,u89,u90,u91,u92,u93,u94,u95,u96,u97,u98,u99,u100,u101,u102,u103,u104,u105,u106,u107,u108,u109,u110,u111,u112,u113,u114,u115,u116,u117,u118,u119,u120,u121,u122,u123,u124,u125,u126,u127,u128,u129,u130,u131,u132,u133,u134,u135,u136,u137,u138,u139,u140,u141,u142,u143,u144,u145,u146,u147,u148,u149,u150,u151,u152,u153,u154,u155,u156,u157,u158,u159,u160,u161,u162,u163,u164,u165,u166,u167,u168,u169,u170,u171,u172,u173,u174,u175,u176,u177,u178,u179,u180,u181,u182,u183,u184,u185,u186,u187,u188,u189,u190,u191,u192,u193,u194,u195,u196,u197,u198,u199,u200,u201,u202,u203,u204,u205,u206,u207,u208,u209,u210,u211,u212,u213,u214,u215,u216,u217,u218,u219,u220,u221,u222,u223,u224,u225,u226,u227,u228,u229,u230,u231,u232,u233,u234,u235,u236,u237,u238,u239,u240,u241,u242,u243,u244,u245,u246,u247,u248],defers:=[] } w') :
  (cAt [true,true,true,true,true,true,true,true,true,true,false,true] (bodyC Tryz.f8)).wp Tryz.prog (Exit.then Kz QQ) { tmps:=#[u0,u1,u2,u3,u4,u5,u6,u7,u8,u9,.slice (some ⟨mb,0,none⟩) 9 9,u11,u12,u13,v,u15,.int .i64 0,u17,u18,u19,u20,u21,u22,u23,u24,u25,u26,u27,u28,u29,u30,u31,u32,u33,u34,u35,u36,u37,u38,u39,u40,u41,u42,u43,u44,u45,u46,u47,u48,u49,u50,u51,u52,u53,u54,u55,u56,u57,u58,u59,u60,u61,u62,u63,u64,u65,u66,u67,u68,u69,u70,u71,u72,u73,u74,u75,u76,u77,u78,u79,u80,u81,u82,u83,u84,u85,u86,u87,u88,u89,u90,u91,u92,u93,u94,u95,u96,u97,u98,u99,u100,u101,u102,u103,u104,u105,u106,u107,u108,u109,u110,u111,u112,u113,u114,u115,u116,u117,u118,u119,u120,u121,u122,u123,u124,u125,u126,u127,u128,u129,u130,u131,u132,u133,u134,u135,u136,u137,u138,u139,u140,u141,u142,u143,u144,u145,u146,u147,u148,u149,u150,u151,u152,u153,u154,u155,u156,u157,u158,u159,u160,u161,u162,u163,u164,u165,u166,u167,u168,u169,u170,u171,u172,u173,u174,u175,u176,u177,u178,u179,u180,u181,u182,u183,u184,u185,u186,u187,u188,u189,u190,u191,u192,u193,u194,u195,u196,u197,u198,u199,u200,u201,u202,u203,u204,u205,u206,u207,u208,u209,u210,u211,u212,u213,u214,u215,u216,u217,u218,u219,u220,u221,u222,u223,u224,u225,u226,u227,u228,u229,u230,u231,u232,u233,u234,u235,u236,u237,u238,u239,u240,u241,u242,u243,u244,u245,u246,u247,u248],defers:=[] } w5:=by
 have HM5:=Lib.hid hm
 have HA5:=Lib.hid ha
 have HSL:=Lib.hid hsl
 have HSD:=Lib.hid hsd
 clear hm ha hsl hsd
 refine open_b11 rfl ?_
 dsimp only
 go_wp2
 go_loopg [16] 12 (fun gk p wr=>∃ C:Nat,C≤12∧gk=12 - C∧p=.int .i64 C∧Hid (Below w5.heap.size w5 wr))
 case atStart=>exact ⟨0,by omega,rfl,rfl,Lib.hid (Below.refl _ _)⟩
 case round =>
  obtain ⟨C,hC,rfl,rfl,HBR⟩:=hrel
  have hsr:=HBR.out.size
  by_cases hlt:C < 12
  ·have hCb:C < 256:=by omega
   obtain ⟨D,hD⟩:∃ D,C % 3=D:=⟨_,rfl⟩
   have hD3:D < 256:=by rw [← hD];have:=Nat.mod_lt C (show 0 < 3 by omega);omega
   obtain ⟨C5,hC5⟩:∃ C5,C % 5=C5:=⟨_,rfl⟩
   obtain ⟨B,hB⟩:∃ B,15 - C5=B:=⟨_,rfl⟩
   have hC5l:C5 < 5:=by rw [← hC5];exact Nat.mod_lt _ (by omega)
   have h2:2≤(smL B 4).length:=by rw [← hB,← hC5];exact k11_two C hlt
   have H2:=Lib.hid h2
   obtain ⟨C2,hC2⟩:∃ C2,C % 2=C2:=⟨_,rfl⟩
   have b1:(15:Int) - (C5:Int)=(B:Int):=by omega
   have b2:IntKind.i64.wrap (B:Int)=(B:Int):=IntWalk.i64_in _ (by omega)
   have b3:IntKind.u64.wrap (B:Int)=(B:Int):=by
    have:IntKind.u64.wrap (B:Int)=(B:Int) % 18446744073709551616:=rfl
    rw [this]
    omega
   have b4:IntKind.u8.wrap (C:Int)=(C:Int):=IntWalk.u8_in _ (by omega)
   have b5:(C:Int) % 3=(D:Int):=by omega
   have b6:IntKind.u8.wrap (D:Int)=(D:Int):=IntWalk.u8_in _ (by omega)
   have b7:IntKind.i64.wrap (D:Int)=(D:Int):=IntWalk.i64_in _ (by omega)
   have b8:(C:Int) % 5=(C5:Int):=by omega
   have b9:IntKind.i64.wrap (C5:Int)=(C5:Int):=IntWalk.i64_in _ (by omega)
   have b10:(C:Int) % 2=(C2:Int):=by omega
   have b11:IntKind.i64.wrap (C2:Int)=(C2:Int):=IntWalk.i64_in _ (by omega)
   have hBb:B < 18446744073709551616:=by omega
   have HCB:=Lib.hid hC5
   clear hB hD h2 hC2 hC5
   go_wp2_with fail
   refine (toldR_any v S 15 1 _ _ _ [(⟨C,hCb⟩:GF)] [(⟨D,hD3⟩:GF)] _ ((HA5.out.below HBR.out).below (((Below.refl _ _).alloc (Nat.le_refl _) _).alloc (by simp) _)) (by rw [HSL.out];omega) (fun s hs=>by rw [HSD.out s hs];omega) (by omega) (GRd.lit [(⟨C,hCb⟩:GF)] (keepA (heap_newA _ _) _) rfl) (GRd.lit [(⟨D,hD3⟩:GF)] (heap_newE _ _ _ (by simp)) rfl) (by omega)).mono ?_
   rintro e w6 ⟨tv,ov,l,zs,rfl,htr,-,hb6,hnd,hti⟩
   have htr2:TRow w6 wr.heap.size tv l:=htr.mono (by simp;omega)
   have HB6:Hid (Below w5.heap.size w5 w6):=Lib.hid (HBR.out.trans (Below.mono ((((Below.refl _ _).alloc (Nat.le_refl _) _).alloc (by simp) _).trans (hb6.mono (by simp;omega))) hsr))
   have hll:l.length=4:=by
    have:=congrArg List.length hnd
    rw [intsOf_len,tlL_len,HSL.out,k11_four] at this
    simpa [Sy.nodes] using this
   obtain ⟨av,vc,rfl⟩:=htr2.own.all.rd.form
   rw [hll] at htr2 ⊢
   obtain ⟨g,rfl,hg5,hg6,hvc⟩:=htr2.own.form0 (by omega)
   obtain ⟨s0,hs0⟩:∃ s0,l[0]? = some s0:=⟨_,List.getElem?_eq_getElem (by omega)⟩
   obtain ⟨s1,hs1⟩:∃ s1,l[1]? = some s1:=⟨_,List.getElem?_eq_getElem (by omega)⟩
   have hd0:s0.d.length=3:=by
    have h1:=hti.good.1 s0.node (List.mem_map.2 ⟨s0,List.mem_of_getElem? hs0,rfl⟩)
    rw [List.length_map,HSL.out] at h1
    obtain ⟨r,hr⟩:∃ r,S[s0.node.toNat]? = some r:=⟨_,List.getElem?_eq_getElem (by rw [HSL.out];omega)⟩
    rw [hti.len s0 (List.mem_of_getElem? hs0),dAt hr]
    exact HSD.out r (List.mem_of_getElem? hr)
   obtain ⟨b0,hb0,hcap0,hv0⟩:=htr2.view s0 (List.mem_of_getElem? hs0)
   have hrd0:=htr2.own.each s0 (List.mem_of_getElem? hs0)
   have hnw0:=htr2.own.new s0 (List.mem_of_getElem? hs0) _ hb0
   unfold Sy.rd at hrd0
   rw [hb0,hd0] at hrd0
   rw [hd0] at hcap0
   have HS0:=Lib.hid hs0
   have HS1:=Lib.hid hs1
   have HRD0:=Lib.hid hrd0
   have HNW0:=Lib.hid hnw0
   have HTR:=Lib.hid htr2
   have HLL:=Lib.hid hll
   clear htr hb6 hnd hti htr2 hll hs0 hs1 hrd0 hnw0 hv0
   go_simp
   go_wp2_with fail
   obtain ⟨w7,hw7⟩:∃ w7,w7=((((w6.alloc (.cells #[.int .u8 1] 5)).alloc (.cells #[.int .u8 2] 5)).alloc (.cells #[.int .u8 3] 5)).alloc (.cells #[.int .u8 4] 5)).alloc (.cells #[.slice (some ⟨w6.heap.size,0,none⟩) 1 1,.slice (some ⟨w6.heap.size+1,0,none⟩) 1 1,.slice (some ⟨w6.heap.size+1+1,0,none⟩) 1 1,.slice (some ⟨w6.heap.size+1+1+1,0,none⟩) 1 1] 34):=⟨_,rfl⟩
   have hw7s:w7.heap.size=w6.heap.size+5:=by rw [hw7];simp
   have hb7:Below w6.heap.size w6 w7:=by rw [hw7];exact (((((Below.refl _ _).alloc (Nat.le_refl _) _).alloc (by simp) _).alloc (by simp;omega) _).alloc (by simp;omega) _).alloc (by simp;omega) _
   have q0:w7.heap[w6.heap.size]? = some (.cells (gv (gl [1])).toArray 5 (0,0)):=by rw [hw7];exact keepA (keepA (keepA (keepA (heap_newA _ _) _) _) _) _
   have q1:w7.heap[w6.heap.size+1]? = some (.cells (gv (gl [2])).toArray 5 (0,0)):=by rw [hw7];exact keepA (keepA (keepA (heap_newE _ _ _ (by simp)) _) _) _
   have q2:w7.heap[w6.heap.size+1+1]? = some (.cells (gv (gl [3])).toArray 5 (0,0)):=by rw [hw7];exact keepA (keepA (heap_newE _ _ _ (by simp)) _) _
   have q3:w7.heap[w6.heap.size+1+1+1]? = some (.cells (gv (gl [4])).toArray 5 (0,0)):=by rw [hw7];exact keepA (heap_newE _ _ _ (by simp)) _
   have q4:w7.heap[w6.heap.size+1+1+1+1]? = some (.cells (([⟨some ⟨w6.heap.size,0,none⟩,1,gl [1]⟩,⟨some ⟨w6.heap.size+1,0,none⟩,1,gl [2]⟩,⟨some ⟨w6.heap.size+1+1,0,none⟩,1,gl [3]⟩,⟨some ⟨w6.heap.size+1+1+1,0,none⟩,1,gl [4]⟩]:List Ro).map Ro.v).toArray 34 (0,0)):=by rw [hw7];exact heap_newE _ _ _ (by simp)
   have hra:=RoAll.lit (n:=4) _ q4 rfl (fun s hs=>by
    simp only [List.mem_cons,List.not_mem_nil,or_false] at hs
    rcases hs with rfl | rfl | rfl | rfl
    ·exact GRd.lit (gl [1]) q0 rfl
    ·exact GRd.lit (gl [2]) q1 rfl
    ·exact GRd.lit (gl [3]) q2 rfl
    ·exact GRd.lit (gl [4]) q3 rfl)
   have HT2:=Lib.hid (toldR_any _ _ B 0 ((C2:Int) == 1) (.slice none 0 0) (.slice none 0 0) [] [] w7 hra (by simp) (fun s hs=>by
    simp only [List.mem_cons,List.not_mem_nil,or_false] at hs
    rcases hs with rfl | rfl | rfl | rfl <;> exact (by decide:1≤1000000)) hBb (OwnG.nil w7 0).rd (OwnG.nil w7 0).rd (by omega))
   unfold ToldRPost at HT2
   have e0:((0:Nat):Int)=0:=rfl
   rw [e0] at HT2
   have HB7:Hid (Below w5.heap.size w5 w7):=Lib.hid (HB6.out.trans (hb7.mono HB6.out.size))
   have HB67:=Lib.hid hb7
   rw [← hw7]
   have HC5:=Lib.hid (And.intro b8 b9)
   clear b1 b2 b3 b4 b5 b6 b7 b8 b9 b10 b11
   clear hw7 hw7s hb7 q0 q1 q2 q3 q4 hra e0
   refine HT2.out.mono ?_
   rintro e w8 ⟨tv2,ov2,m,zs2,rfl,htr,-,hb8,hnd,-⟩
   have HB8:Hid (Below w5.heap.size w5 w8):=Lib.hid (HB7.out.trans (hb8.mono HB7.out.size))
   have hs67:=HB67.out.size
   have HB68:Hid (Below w6.heap.size w6 w8):=Lib.hid (HB67.out.trans (hb8.mono hs67))
   have HM8:=Lib.hid (HM5.out.below HB8.out)
   have hso2:=htr.own
   obtain ⟨NN,hNN⟩:∃ NN,m.length=NN:=⟨_,rfl⟩
   have hnn:2≤NN:=by
    have:=congrArg List.length hnd
    rw [intsOf_len,tlL_len] at this
    have h2:=H2.out
    simp only [Sy.nodes,List.length_map] at this
    have h3:(smL B 4).length=NN:=this.symm.trans hNN
    omega
   obtain ⟨av,vc2,rfl⟩:=hso2.all.rd.form
   rw [hNN] at hso2 ⊢
   obtain ⟨h2,rfl,hh5,hh6,hhc⟩:=hso2.form0 (by omega)
   obtain ⟨t0,ht0⟩:∃ t0,m[0]? = some t0:=⟨_,List.getElem?_eq_getElem (by omega)⟩
   obtain ⟨t1,ht1⟩:∃ t1,m[1]? = some t1:=⟨_,List.getElem?_eq_getElem (by omega)⟩
   have HT0:=Lib.hid ht0
   have HSO2:=Lib.hid hso2
   have HTR8:=Lib.hid (HTR.out.below HB68.out)
   have HTA:Hid (SyApart (.slice (some ⟨g,0,none⟩) 4 vc) l [h2]):=Lib.hid ⟨fun _ k hk hm=>by simp [Value.ownBlock] at hk hm;omega,fun s hs _ k hk hm=>by
    cases e:s.a with
    | none=>rw [e] at hk;simp [Value.ownBlock] at hk
    | some a =>
     rw [e] at hk
     simp [Value.ownBlock] at hk hm
     have:=(HTR.out.own.new s hs a e).2.2
     omega⟩
   have HHA:=Lib.hid (hso2.apart (S:=[g]) (by simp;omega))
   obtain ⟨d0,d1⟩:=HTR8.out.own.at0 HS0.out
   obtain ⟨d2,-⟩:=HTR8.out.own.at0 HS1.out
   obtain ⟨p0,p1⟩:=hso2.at0 ht0
   obtain ⟨p2,-⟩:=hso2.at0 ht1
   rw [hb0,hd0] at d1
   simp only [Nat.zero_mul,Nat.one_mul,Nat.zero_add] at d0 d1 d2 p0 p1 p2
   have i0:(0:Int)≤0∧(0:Int) < (NN:Int):=by omega
   have i1:(0:Int)≤1∧(1:Int) < (NN:Int):=by omega
   have hNN2:1 < NN:=by omega
   have hNN0:0 < NN:=by omega
   obtain ⟨x0,hx0⟩:∃ x0,s0.node=x0:=⟨_,rfl⟩
   obtain ⟨x1,hx1⟩:∃ x1,s1.node=x1:=⟨_,rfl⟩
   obtain ⟨y1,hy1⟩:∃ y1,t1.node=y1:=⟨_,rfl⟩
   rw [hx0] at d0
   rw [hx1] at d2
   rw [hy1] at p2
   obtain ⟨cp0,hcp0⟩:∃ cp0,s0.cp=cp0:=⟨_,rfl⟩
   rw [hcp0] at d1 hcap0
   have HRD8:Hid (GRd w8 (.slice (some ⟨b0,0,none⟩) 3 cp0) s0.d):=Lib.hid (by rw [← hcp0];exact HRD0.out.below HB68.out)
   obtain ⟨AA,dd,hslt,hslr⟩:=slice_syA_h HTR8.out.own.all (j:=1) (J:=1) rfl (by rw [HLL.out];omega)
   have HSLR:=Lib.hid hslr
   have hslb:=slice_frontC b0 1 3 cp0 (by omega) hcap0 (by omega)
   have hs8:=HB68.out.size
   have HK8:Hid (Kp [g] w8 w8):=Lib.hid (Kp.refl _ _)
   clear htr hb8 hnd hNN hso2 ht0 ht1 hx0 hx1 hy1 hslr HT2 HRD0 H2 HCB hb0 hd0 hcp0
   go_simp
   go_upto_block 8 with fail
   go_cut [17] from 124 to 229 (fun tv wx=>∃ (V1:Value) (l1 m1:List Sy),V1=tv∧Hid (SyAll wx V1 l1∧SyAll wx (.slice (some ⟨h2,0,none⟩) NN vc2) m1∧GRd wx (.slice (some ⟨mb,0,none⟩) 9 9) kMsg∧Below w5.heap.size w5 wx))
   case first =>
    by_cases h3:C=3
    ·have f3:decide ((C:Int)=3)=true:=decide_eq_true (by omega)
     have m3:decide (C=3)=true:=decide_eq_true (by omega)
     have l3:((C:Int) == 3)=true:=by simp;omega
     clear h3
     have hput:=HTR8.out.own.node HS0.out 4
     rw [Nat.zero_mul] at hput
     have hkx:Kp [g] w8 (w8.setCell ⟨g,0,none⟩ (.int .i64 4)):=hput.2.1
     have hs1:=hput.1.all
     have hs2:=SyAll.kp HSO2.out.all hkx HHA.out
     have hfx:=hput.2.2
     clear hput
     have HALL:Hid (SyAll (w8.setCell ⟨g,0,none⟩ (.int .i64 4)) (.slice (some ⟨g,0,none⟩) 4 vc) _∧SyAll (w8.setCell ⟨g,0,none⟩ (.int .i64 4)) (.slice (some ⟨h2,0,none⟩) NN vc2) _∧GRd (w8.setCell ⟨g,0,none⟩ (.int .i64 4)) (.slice (some ⟨mb,0,none⟩) 9 9) kMsg∧Below w5.heap.size w5 (w8.setCell ⟨g,0,none⟩ (.int .i64 4))):=Lib.hid ⟨hs1,hs2,HM8.out.kp hkx (fun k hk hm=>by simp [Value.ownBlock] at hk hm;omega),HB8.out.trans (hkx.below (by omega) (by simp;omega))⟩
     clear hs1 hs2 hkx
     go_wp2
     go_meet
     exact ⟨_,_,_,rfl,HALL⟩
    have f3:¬ (C:Int)=3:=by omega
    by_cases h4:C=4
    ·have f4:decide ((C:Int)=4)=true:=decide_eq_true (by omega)
     have m4:decide (C=4)=true:=decide_eq_true (by omega)
     have l4:((C:Int) == 4)=true:=by simp;omega
     clear h4
     have hput:=HTR8.out.own.node HS0.out (-1)
     rw [Nat.zero_mul] at hput
     have hkx:Kp [g] w8 (w8.setCell ⟨g,0,none⟩ (.int .i64 (-1))):=hput.2.1
     have hs1:=hput.1.all
     have hs2:=SyAll.kp HSO2.out.all hkx HHA.out
     have hfx:=hput.2.2
     clear hput
     have HALL:Hid (SyAll (w8.setCell ⟨g,0,none⟩ (.int .i64 (-1))) (.slice (some ⟨g,0,none⟩) 4 vc) _∧SyAll (w8.setCell ⟨g,0,none⟩ (.int .i64 (-1))) (.slice (some ⟨h2,0,none⟩) NN vc2) _∧GRd (w8.setCell ⟨g,0,none⟩ (.int .i64 (-1))) (.slice (some ⟨mb,0,none⟩) 9 9) kMsg∧Below w5.heap.size w5 (w8.setCell ⟨g,0,none⟩ (.int .i64 (-1)))):=Lib.hid ⟨hs1,hs2,HM8.out.kp hkx (fun k hk hm=>by simp [Value.ownBlock] at hk hm;omega),HB8.out.trans (hkx.below (by omega) (by simp;omega))⟩
     clear hs1 hs2 hkx
     go_wp2
     go_meet
     exact ⟨_,_,_,rfl,HALL⟩
    have f4:¬ (C:Int)=4:=by omega
    by_cases h5:C=5
    ·have f5:decide ((C:Int)=5)=true:=decide_eq_true (by omega)
     have m5:decide (C=5)=true:=decide_eq_true (by omega)
     have l5:((C:Int) == 5)=true:=by simp;omega
     clear h5
     have hput:=HTR8.out.own.node HS0.out x1
     rw [Nat.zero_mul] at hput
     have hkx:Kp [g] w8 (w8.setCell ⟨g,0,none⟩ (.int .i64 x1)):=hput.2.1
     have hs1:=hput.1.all
     have hs2:=SyAll.kp HSO2.out.all hkx HHA.out
     have hfx:=hput.2.2
     clear hput
     have HALL:Hid (SyAll (w8.setCell ⟨g,0,none⟩ (.int .i64 x1)) (.slice (some ⟨g,0,none⟩) 4 vc) _∧SyAll (w8.setCell ⟨g,0,none⟩ (.int .i64 x1)) (.slice (some ⟨h2,0,none⟩) NN vc2) _∧GRd (w8.setCell ⟨g,0,none⟩ (.int .i64 x1)) (.slice (some ⟨mb,0,none⟩) 9 9) kMsg∧Below w5.heap.size w5 (w8.setCell ⟨g,0,none⟩ (.int .i64 x1))):=Lib.hid ⟨hs1,hs2,HM8.out.kp hkx (fun k hk hm=>by simp [Value.ownBlock] at hk hm;omega),HB8.out.trans (hkx.below (by omega) (by simp;omega))⟩
     clear hs1 hs2 hkx
     go_wp2
     go_meet
     exact ⟨_,_,_,rfl,HALL⟩
    have f5:¬ (C:Int)=5:=by omega
    by_cases h6:C=6
    ·have f6:decide ((C:Int)=6)=true:=decide_eq_true (by omega)
     have m6:decide (C=6)=true:=decide_eq_true (by omega)
     have l6:((C:Int) == 6)=true:=by simp;omega
     clear h6
     have hput:=HTR8.out.own.bytes HS0.out (d:=s0.d.take 1) (a:=some ⟨b0,0,none⟩) (n:=1) (cp:=cp0) (HRD8.out.frontK (by omega)) (fun x hx=>by
      cases hx
      have:=HNW0.out
      exact ⟨this.1,fun e=>this.2.1 (by rw [← e];rfl),by have:=this.2.2;omega⟩)
     rw [Nat.zero_mul,Nat.zero_add] at hput
     have hkx:Kp [g] w8 (w8.setCell ⟨g,1,none⟩ (.slice (some ⟨b0,0,none⟩) 1 cp0)):=hput.2.1
     have hs1:=hput.1.all
     have hs2:=SyAll.kp HSO2.out.all hkx HHA.out
     have hfx:=hput.2.2
     clear hput
     have HALL:Hid (SyAll (w8.setCell ⟨g,1,none⟩ (.slice (some ⟨b0,0,none⟩) 1 cp0)) (.slice (some ⟨g,0,none⟩) 4 vc) _∧SyAll (w8.setCell ⟨g,1,none⟩ (.slice (some ⟨b0,0,none⟩) 1 cp0)) (.slice (some ⟨h2,0,none⟩) NN vc2) _∧GRd (w8.setCell ⟨g,1,none⟩ (.slice (some ⟨b0,0,none⟩) 1 cp0)) (.slice (some ⟨mb,0,none⟩) 9 9) kMsg∧Below w5.heap.size w5 (w8.setCell ⟨g,1,none⟩ (.slice (some ⟨b0,0,none⟩) 1 cp0))):=Lib.hid ⟨hs1,hs2,HM8.out.kp hkx (fun k hk hm=>by simp [Value.ownBlock] at hk hm;omega),HB8.out.trans (hkx.below (by omega) (by simp;omega))⟩
     clear hs1 hs2 hkx
     go_wp2
     go_meet
     exact ⟨_,_,_,rfl,HALL⟩
    have f6:¬ (C:Int)=6:=by omega
    by_cases h7:C=7
    ·have f7:decide ((C:Int)=7)=true:=decide_eq_true (by omega)
     have m7:decide (C=7)=true:=decide_eq_true (by omega)
     have l7:((C:Int) == 7)=true:=by simp;omega
     clear h7
     have hs1:=HSLR.out
     have hs2:=HSO2.out.all
     have hkx:=HK8.out
     have HALL:Hid (SyAll w8 (.slice (some AA) 1 dd) _∧SyAll w8 (.slice (some ⟨h2,0,none⟩) NN vc2) _∧GRd w8 (.slice (some ⟨mb,0,none⟩) 9 9) kMsg∧Below w5.heap.size w5 w8):=Lib.hid ⟨hs1,hs2,HM8.out.kp hkx (fun k hk hm=>by simp [Value.ownBlock] at hk hm;omega),HB8.out.trans (hkx.below (by omega) (by simp;omega))⟩
     clear hs1 hs2 hkx
     go_wp2
     go_meet
     exact ⟨_,_,_,rfl,HALL⟩
    have f7:¬ (C:Int)=7:=by omega
    by_cases h8:C=8
    ·have f8:decide ((C:Int)=8)=true:=decide_eq_true (by omega)
     have m8:decide (C=8)=true:=decide_eq_true (by omega)
     have l8:((C:Int) == 8)=true:=by simp;omega
     clear h8
     have hput:=HSO2.out.bytes HT0.out (d:=[]) (a:=none) (n:=0) (cp:=0) (GRd.nil0 _) (fun x hx=>by cases hx)
     rw [Nat.zero_mul,Nat.zero_add] at hput
     have hkx:Kp [h2] w8 (w8.setCell ⟨h2,1,none⟩ (.slice none 0 0)):=hput.2.1
     have hs1:=SyAll.kp HTR8.out.own.all hkx HTA.out
     have hs2:=hput.1.all
     have hfx:=hput.2.2
     clear hput
     have HALL:Hid (SyAll (w8.setCell ⟨h2,1,none⟩ (.slice none 0 0)) (.slice (some ⟨g,0,none⟩) 4 vc) _∧SyAll (w8.setCell ⟨h2,1,none⟩ (.slice none 0 0)) (.slice (some ⟨h2,0,none⟩) NN vc2) _∧GRd (w8.setCell ⟨h2,1,none⟩ (.slice none 0 0)) (.slice (some ⟨mb,0,none⟩) 9 9) kMsg∧Below w5.heap.size w5 (w8.setCell ⟨h2,1,none⟩ (.slice none 0 0))):=Lib.hid ⟨hs1,hs2,HM8.out.kp hkx (fun k hk hm=>by simp [Value.ownBlock] at hk hm;omega),HB8.out.trans (hkx.below (by omega) (by simp;omega))⟩
     clear hs1 hs2 hkx
     go_wp2
     go_meet
     exact ⟨_,_,_,rfl,HALL⟩
    have f8:¬ (C:Int)=8:=by omega
    by_cases h9:C=9
    ·have f9:decide ((C:Int)=9)=true:=decide_eq_true (by omega)
     have m9:decide (C=9)=true:=decide_eq_true (by omega)
     have l9:((C:Int) == 9)=true:=by simp;omega
     clear h9
     have hput:=HSO2.out.node HT0.out y1
     rw [Nat.zero_mul] at hput
     have hkx:Kp [h2] w8 (w8.setCell ⟨h2,0,none⟩ (.int .i64 y1)):=hput.2.1
     have hs1:=SyAll.kp HTR8.out.own.all hkx HTA.out
     have hs2:=hput.1.all
     have hfx:=hput.2.2
     clear hput
     have HALL:Hid (SyAll (w8.setCell ⟨h2,0,none⟩ (.int .i64 y1)) (.slice (some ⟨g,0,none⟩) 4 vc) _∧SyAll (w8.setCell ⟨h2,0,none⟩ (.int .i64 y1)) (.slice (some ⟨h2,0,none⟩) NN vc2) _∧GRd (w8.setCell ⟨h2,0,none⟩ (.int .i64 y1)) (.slice (some ⟨mb,0,none⟩) 9 9) kMsg∧Below w5.heap.size w5 (w8.setCell ⟨h2,0,none⟩ (.int .i64 y1))):=Lib.hid ⟨hs1,hs2,HM8.out.kp hkx (fun k hk hm=>by simp [Value.ownBlock] at hk hm;omega),HB8.out.trans (hkx.below (by omega) (by simp;omega))⟩
     clear hs1 hs2 hkx
     go_wp2
     go_meet
     exact ⟨_,_,_,rfl,HALL⟩
    have f9:¬ (C:Int)=9:=by omega
    have hs1:=HTR8.out.own.all
    have hs2:=HSO2.out.all
    have hkx:=HK8.out
    have HALL:Hid (SyAll w8 (.slice (some ⟨g,0,none⟩) 4 vc) _∧SyAll w8 (.slice (some ⟨h2,0,none⟩) NN vc2) _∧GRd w8 (.slice (some ⟨mb,0,none⟩) 9 9) kMsg∧Below w5.heap.size w5 w8):=Lib.hid ⟨hs1,hs2,HM8.out.kp hkx (fun k hk hm=>by simp [Value.ownBlock] at hk hm;omega),HB8.out.trans (hkx.below (by omega) (by simp;omega))⟩
    clear hs1 hs2 hkx
    go_wp2
    go_meet
    exact ⟨_,_,_,rfl,HALL⟩
   case rest =>
    obtain ⟨V1,l1,m1,rfl,HCUT⟩:=hcut
    obtain ⟨b8,b9⟩:=HC5.out
    obtain ⟨C6,C7,za,zc,c1,c2,t6,t7,c3,c4,c5,hza,hzc,c6,c7⟩:=kn_num hlt
    have t5:Int.tmod (C:Int) 5=(C5:Int):=by rw [Int.tmod_eq_emod_of_nonneg (Int.natCast_nonneg C),b8]
    have c8:C5≤9:=Nat.le_trans (Nat.le_of_lt hC5l) (by decide)
    have hsl7:=slice_front mb C7 9 (by decide) (Nat.le_trans (Nat.le_of_lt c3) (by decide))
    have hsl5:=slice_front mb C5 9 (by decide) c8
    have HCT:=Lib.hid (ltold11_any 4 2 za (.slice (some ⟨h2,0,none⟩) NN vc2) V1 m1 l1 wc.drew k42 (HCUT.out.2.1.below ((Below.refl _ wc).drew)) (HCUT.out.1.below ((Below.refl _ wc).drew)))
    have HCE:Hid (∀ W,Below wc.heap.size wc W→Calls Tryz.prog 4 #[.int .i64 4,.int .i64 2,.slice (some ⟨mb,0,none⟩) C7 9,.int .i64 zc,.int .i64 C5,.slice (some ⟨mb,0,none⟩) C5 9] W fun e w'=>e=.returned (.bool true)∧Below W.heap.size W w'):=Lib.hid fun W hW =>
     lenc11_any 4 2 zc C5 _ _ (kMsg.take C7) (kMsg.take C5) W k42 ((HCUT.out.2.2.1.below hW).frontK (Nat.le_trans (Nat.le_of_lt c3) (by decide))) ((HCUT.out.2.2.1.below hW).frontK c8)
    have HBX:=Lib.hid HCUT.out.2.2.2
    clear HB8 HM8 HSO2 HTR8 HTR HTA HHA HS0 HS1 HT0 HRD8 HNW0 HSLR HCUT HK8 HB7 HB67 HB68 d0 d1 d2 p0 p1 p2 hslt hslb
    go_upto_region 43 with fail
    have hgr:=fun (w0 W:World) (p:Addr) (hp:(fun kk=>kk < wc.heap.size) p.block)=>graft_cell (w0:=w0) (keep:=(fun kk=>kk < wc.heap.size)) W hp
    refine wp_region_units_draw (fun kk=>kk < wc.heap.size) [5,20] (.sq [0,1,2,3,4,5,6,7,8,9,10,11,12,13,14,15,16,17,18,19,20,21,22] .done) (.step 0 (.step 1 (.step 2 (.step 3 (.step 4 (.step 5 (.step 6 (.step 7 (.unit 7 false (.step 8 (.step 9 (.step 10 (.step 11 (.step 12 (.step 13 (.step 14 (.step 15 (.step 16 (.step 17 (.step 18 (.step 19 (.step 20 (.step 21 .done)))))))))))))) 22 21 .done))))))))) (by kernel_rfl) (by kernel_rfl) (by kernel_rfl) (by kernel_rfl) ?_
    simp only [mkUT,dstOf,bare,Oper.slim,List.contains_cons,List.contains_nil,Option.map_none,Option.map_some,List.getElem?_toArray,List.getElem?_cons_zero,List.getElem?_cons_succ,Option.bind_some,beq_self_eq_true,Bool.or_false,Nat.reduceBEq,Nat.reduceAdd,Nat.zero_add,Option.getD_some,Option.isSome_some,Option.isSome_none,Bool.false_and,Bool.true_and,Bool.false_eq_true,if_false,if_true,Option.some_beq_some,Option.some_beq_none,Option.none_beq_some,reduceCtorEq,ite_true,ite_false]
    repeat ((with_reducible refine wpUT_step (fun K hK=>?_));go_simp;first | (refine hK _ _ ?_;clear hK K) | (refine ⟨by (intro kk hkk;first | exact hkk.elim | (simp (disch:=(simp;omega)) only [hp_drew,hp_drewN,hp_alloc,hp_set];done) | (simp [hp_drew,hp_drewN,hp_alloc_if,hkk];done) | fail),hK _ _ ?_⟩;clear hK K)| (go_at_call 5;(with_reducible refine HCT.out.mono ?_);rintro e wq ⟨rfl,hbq⟩;have HBQ:Hid (Below wc.heap.size wc wq):=Lib.hid (((Below.refl wc.heap.size wc).drew).trans hbq);refine ⟨_,rfl,(fun kk hkk=>HBQ.out.block kk hkk),hK _ _ ?_⟩;clear hbq hK K) | (go_at_call 4;(with_reducible refine (HCE.out _ HBQ.out).mono ?_);rintro e wz ⟨rfl,hbz⟩;refine ⟨_,rfl,(fun kk hkk=>(HBQ.out.trans (hbz.mono HBQ.out.size)).block kk hkk),hK _ _ ?_⟩;clear hK K))
    refine wpUT_unit_below (x:=?_) (by rfl) ?_ ?_
    rotate_left
    ·intro hgd
     repeat ((with_reducible refine wpUT_step (fun K hK=>?_));go_simp;first | (refine hK _ _ ?_;clear hK K) | (refine ⟨by (intro kk hkk;first | exact hkk.elim | (simp (disch:=(simp;omega)) only [hp_drew,hp_drewN,hp_alloc,hp_set];done) | (simp [hp_drew,hp_drewN,hp_alloc_if,hkk];done) | fail),hK _ _ ?_⟩;clear hK K)| (go_at_call 5;(with_reducible refine HCT.out.mono ?_);rintro e wq ⟨rfl,hbq⟩;have HBQ:Hid (Below wc.heap.size wc wq):=Lib.hid (((Below.refl wc.heap.size wc).drew).trans hbq);refine ⟨_,rfl,(fun kk hkk=>HBQ.out.block kk hkk),hK _ _ ?_⟩;clear hbq hK K) | (go_at_call 4;(with_reducible refine (HCE.out _ HBQ.out).mono ?_);rintro e wz ⟨rfl,hbz⟩;refine ⟨_,rfl,(fun kk hkk=>(HBQ.out.trans (hbz.mono HBQ.out.size)).block kk hkk),hK _ _ ?_⟩;clear hK K))
     exact wpUT_done ⟨by rfl,by (repeat' (first | (with_reducible exact RowKit.Below.refl _ _) | (with_reducible assumption) | (with_reducible refine RowKit.Below.drew ?_) | (with_reducible refine RowKit.Below.alloc ?_ ?_ _) | omega | (simp;done) | (simp;omega)))⟩
    intro js wu hbu
    simp only [UT.dsts,junk,SOp.dst,Option.toList_some,Option.toList_none,List.cons_append,List.nil_append,List.append_nil,cond_true,cond_false]
    try go_simp
    refine wpUT_done ?_
    try go_simp
    clear hgr
    have HBZ:Hid (Below w5.heap.size w5 wu):=Lib.hid (HBX.out.trans ((HBQ.out.trans (hbu.mono HBQ.out.size)).mono HBX.out.size))
    clear hbu HBX HBQ HCT HCE
    go_wp2
    go_roundg (12 - (C+1))
    case measure=>exact Nat.sub_lt_sub_left hlt (Nat.lt_succ_self C)
    case rel=>exact ⟨C+1,hlt,rfl,by go_num,HBZ⟩
  ·obtain rfl:C=12:=by omega
   have HBX:=HBR
   go_wp2
   exact HBX.out
end Go.Proofs.YtjdnicacnaokdaaGreat
