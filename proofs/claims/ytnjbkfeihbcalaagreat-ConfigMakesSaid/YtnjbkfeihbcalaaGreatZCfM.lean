/-
  Maps that a call fills with a literal's entries, keyed by numbers: what an insert and a look-up give.
  config.shape: what a code amounts to, as far as its kind goes.
  config.shape for every code whose numbers are bytes.
-/
import Derived.WalkKit
import Derived.WideKeyElems
import Derived.Test.YtnjbkfeihbcalaaGreatZCfS
import Derived.Test.YtnjbkfeihbcalaaGreatZBase
/- Maps that a call fills with a literal's entries, keyed by numbers: what an insert and a look-up give. -/
namespace Go.Proofs.YtnjbkfeihbcalaaGreat
open Go.RowKit

section
variable {P:Program} {w:World}

theorem run_lit_insert {T kt et:TypeId} {K:IntKind} (hT:P.underlying T=some (.map kt et)) (hk:P.underlying kt=some (.int K)) (w:World) (es:Array MapEntry) (c:Nat) (q:Int) (v:Value) (b:Nat)
  (hb:b=w.heap.size) (hnew:Instr.findNow (.int K) (.int K q) es.toList 0=some none) :
  (Instr.mapUpdate T (.map (some b)) (.int K q) v).run P (w.alloc (.map es c))=.ok () (w.alloc (.map (es.push ⟨.int K q,v,c⟩) (c+1))):=by
 subst hb
 have h0:(w.alloc (.map es c)).heap[w.heap.size]? = some (.map es c):=by show (w.heap.push _)[w.heap.size]? = _;simp
 have hg:=MapKept.run_getObj_map (P:=P) h0
 have hs:(setObj w.heap.size (.map (es.push ⟨.int K q,v,c⟩) (c+1))).run P (w.alloc (.map es c))=.ok () (w.alloc (.map (es.push ⟨.int K q,v,c⟩) (c+1))):=by
  rw [MapKept.run_setObj_map _ h0]
  show Result.ok () _=Result.ok () _
  congr 1
  show ({ (w.alloc (.map es c)) with heap:=(w.heap.push (.map es c)).setIfInBounds w.heap.size _ }:World)={ w with heap:=w.heap.push _ }
  have:(w.heap.push (.map es c)).setIfInBounds w.heap.size (.map (es.push ⟨.int K q,v,c⟩) (c+1))=w.heap.push (.map (es.push ⟨.int K q,v,c⟩) (c+1)):=by
   apply Array.ext_getElem?
   intro i
   simp only [Array.getElem?_setIfInBounds,Array.getElem?_push,Array.size_push]
   by_cases hi:w.heap.size=i
   ·subst hi;simp
   ·rw [if_neg hi,if_neg (fun e=>hi e.symm),if_neg (fun e=>hi e.symm)]
  rw [this]
  rfl
 have hc:(Instr.checkKey false 10000 kt (.int K q)).run P (w.alloc (.map es c))=.ok () (w.alloc (.map es c)):=by
  exact MapKept.run_checkKey (n:=9999) (k:=.int K q) hk rfl _
 have hf:(Instr.findKey kt (.int K q) es.toList).run P (w.alloc (.map es c))=.ok none (w.alloc (.map es c)):=by
  simp [Instr.findKey,run_underlying hk,hnew]
 simp [Instr.mapUpdate,run_underlying hT,hg,hc,hf,hs]

theorem run_lit_lookup {T kt et:TypeId} {K:IntKind} (hT:P.underlying T=some (.map kt et)) (hk:P.underlying kt=some (.int K)) (w:World) (es:Array MapEntry) (c:Nat) (q:Int) (b i:Nat) (v:Value)
  (hb:w.heap[b]? = some (.map es c)) (hf:Instr.findNow (.int K) (.int K q) es.toList 0=some (some (i,v))) :
  (Instr.lookup T (.map (some b)) (.int K q) true).run P w=.ok (.tuple #[v,.bool true]) w:=by
 have hg:=MapKept.run_getObj_map (P:=P) hb
 have hc:(Instr.checkKey es.isEmpty 10000 kt (.int K q)).run P w=.ok () w:=by
  exact MapKept.run_checkKey (n:=9999) (k:=.int K q) hk rfl _
 have hf:(Instr.findKey kt (.int K q) es.toList).run P w=.ok (some (i,v)) w:=by
  simp [Instr.findKey,run_underlying hk,hf]
 simp [Instr.lookup,run_underlying hT,hg,hc,hf]

theorem run_lit_lookup_none {T kt et:TypeId} {K:IntKind} (hT:P.underlying T=some (.map kt et)) (hk:P.underlying kt=some (.int K)) (w:World) (es:Array MapEntry) (c:Nat) (q:Int) (b:Nat) (z:Value)
  (hz:(zeroValue et).run P w=.ok z w) (hb:w.heap[b]? = some (.map es c)) (hf:Instr.findNow (.int K) (.int K q) es.toList 0=some none) :
  (Instr.lookup T (.map (some b)) (.int K q) true).run P w=.ok (.tuple #[z,.bool false]) w:=by
 have hg:=MapKept.run_getObj_map (P:=P) hb
 have hc:(Instr.checkKey es.isEmpty 10000 kt (.int K q)).run P w=.ok () w:=by
  exact MapKept.run_checkKey (n:=9999) (k:=.int K q) hk rfl _
 have hf:(Instr.findKey kt (.int K q) es.toList).run P w=.ok none w:=by
  simp [Instr.findKey,run_underlying hk,hf]
 simp [Instr.lookup,run_underlying hT,hg,hc,hf,hz]

def lookRes (z:Value):Option (Option (Nat × Value))→Value
 | some (some (_,v))=>.tuple #[v,.bool true]
 | _=>.tuple #[z,.bool false]

theorem run_lit_look {T kt et:TypeId} {K:IntKind} (hT:P.underlying T=some (.map kt et)) (hk:P.underlying kt=some (.int K)) (w:World) (es:Array MapEntry) (c:Nat) (q:Int) (b:Nat) (z:Value)
  (hz:∀ w,(zeroValue et).run P w=.ok z w) (hb:b=w.heap.size) (hf:(Instr.findNow (.int K) (.int K q) es.toList 0).isSome=true) :
  (Instr.lookup T (.map (some b)) (.int K q) true).run P (w.alloc (.map es c))=.ok (lookRes z (Instr.findNow (.int K) (.int K q) es.toList 0)) (w.alloc (.map es c)):=by
 subst hb
 have h0:(w.alloc (.map es c)).heap[w.heap.size]? = some (.map es c):=by show (w.heap.push _)[w.heap.size]? = _;simp
 cases hf2:Instr.findNow (.int K) (.int K q) es.toList 0 with
 | none=>rw [hf2] at hf;cases hf
 | some r =>
  cases r with
  | none=>exact run_lit_lookup_none hT hk _ es c q _ z (hz _) h0 hf2
  | some p=>exact run_lit_lookup hT hk _ es c q _ p.1 p.2 h0 hf2

attribute [go_sem] lookRes
end
end Go.Proofs.YtnjbkfeihbcalaaGreat
/- config.shape: what a code amounts to, as far as its kind goes. -/
namespace Go.Proofs.YtnjbkfeihbcalaaGreat
open Go.RowKit
set_option linter.unusedSimpArgs false
set_option linter.unusedVariables false
attribute [local go_sem] run_makeMap

theorem heap_mid (w:World) (a b c:Obj):(((w.alloc a).alloc b).alloc c).heap[w.heap.size+1]? = some b:=by
 show (((w.heap.push a).push b).push c)[w.heap.size+1]? = _
 rw [Array.getElem?_push,if_neg (by simp),Array.getElem?_push,if_pos (by simp)]

theorem zero_func (w:World):(zeroValue 102).run Tryz.prog w=.ok .nilFunc w:=by kernel_rfl


set_option maxHeartbeats 2000000 in
theorem shape_1 (n k d r t q:Int) (w:World) (hn:1≤n∧n≤255) (hk:1≤k∧k≤255) (hd:0≤d∧d≤255) (hr:0≤r∧r≤255) (ht:0≤t∧t≤255) :
  Calls Tryz.prog 25 #[.agg #[.int .u8 1,.int .i64 n,.int .i64 k,.int .i64 d,.int .i64 r,.int .i64 t,.int .i64 q]] w fun e w'=>e=.returned (shapeF 1 n k d r t).v∧Below w.heap.size w w':=by
 have hins:=fun (w:World) (es:Array MapEntry) (c:Nat) (q:Int) (v:Value) (b:Nat) hb hnew=>run_lit_insert (P:=Tryz.prog) Tryz.underlying104 Tryz.underlying5 w es c q v b hb hnew
 have hlk:=fun (w:World) (es:Array MapEntry) (c:Nat) (q:Int) (b:Nat) hb hf=>run_lit_look (P:=Tryz.prog) Tryz.underlying104 Tryz.underlying5 w es c q b .nilFunc zero_func hb hf
 have HI:=Lib.hid hins
 have HL:=Lib.hid hlk
 clear hins hlk
 have hlt:decide (k < 1)=false:=decide_eq_false (by omega)
 have hfin:shapeF 1 n k d r t=if okReed n k d r then shReed k t else Sh.zero:=by unfold shapeF;rw [if_neg (by omega)];simp
 have HF:=Lib.hid hfin
 clear hfin
 cases hok:okReed n k d r
 all_goals
  go_enter Tryz.func25,Tryz.ntmps25
  go_wp2_with (first | (rw [HI.out _ _ _ _ _ _ (by simp;done) (by simp [Instr.findNow,Instr.sameNow];done)]) | (rw [HL.out _ _ _ _ _ (by simp;done) (by simp [Instr.findNow,Instr.sameNow];done)];simp only [Instr.findNow,Instr.sameNow,lookRes,List.push_toArray,List.nil_append,List.cons_append]))
  refine (reed_any _ n k d r t _ (by simp;omega) (by simp [go_sem]) (by simp [go_sem]) (by simp [go_sem]) (by simp [go_sem]) (by simp [go_sem]) hn hk hd hr ht).mono ?_
  rintro e w1 ⟨rfl,hb1⟩
  have hB1:=(hb1.block (w.heap.size+1) (by simp)).trans (heap_mid w _ _ _)
  have hz1:=hb1.size
  have hb0:Below w.heap.size w w1:=((((Below.refl _ w).alloc (Nat.le_refl _) _).alloc (by simp) _).alloc (by simp;omega) _).trans (hb1.mono (by simp;omega))
  clear hb1
  obtain ⟨w2,rfl,hz2,hp⟩:=put_of hB1
  have hb2:=hp (fun W=>Below w.heap.size w W) hb0
  clear hB1 hz1 hb0 hp
  simp only [hok,Sh.v]
  go_wp2
  refine bodyPost_ret (by simp [results,Tryz.results25,go_sem,hz2];rfl) rfl ?_
  refine ⟨by rw [HF.out,hok];rfl,?_⟩
  repeat' (first | (with_reducible assumption) | (with_reducible refine Below.alloc ?_ ?_ _) | (with_reducible refine bel_putBlk ?_ ?_ _) | (simp [size_putBlk];done) | (have:=hb2.size;simp [size_putBlk];omega))
set_option maxHeartbeats 2000000 in
theorem shape_2 (n k d r t q:Int) (w:World) (hn:1≤n∧n≤255) (hk:1≤k∧k≤255) (hd:0≤d∧d≤255) (hr:0≤r∧r≤255) (ht:0≤t∧t≤255) :
  Calls Tryz.prog 25 #[.agg #[.int .u8 2,.int .i64 n,.int .i64 k,.int .i64 d,.int .i64 r,.int .i64 t,.int .i64 q]] w fun e w'=>e=.returned (shapeF 2 n k d r t).v∧Below w.heap.size w w':=by
 have hins:=fun (w:World) (es:Array MapEntry) (c:Nat) (q:Int) (v:Value) (b:Nat) hb hnew=>run_lit_insert (P:=Tryz.prog) Tryz.underlying104 Tryz.underlying5 w es c q v b hb hnew
 have hlk:=fun (w:World) (es:Array MapEntry) (c:Nat) (q:Int) (b:Nat) hb hf=>run_lit_look (P:=Tryz.prog) Tryz.underlying104 Tryz.underlying5 w es c q b .nilFunc zero_func hb hf
 have HI:=Lib.hid hins
 have HL:=Lib.hid hlk
 clear hins hlk
 have hlt:decide (k < 1)=false:=decide_eq_false (by omega)
 have hfin:shapeF 2 n k d r t=if okMsr n k d r then shMsr k d t else Sh.zero:=by unfold shapeF;rw [if_neg (by omega)];simp
 have HF:=Lib.hid hfin
 clear hfin
 cases hok:okMsr n k d r
 all_goals
  go_enter Tryz.func25,Tryz.ntmps25
  go_wp2_with (first | (rw [HI.out _ _ _ _ _ _ (by simp;done) (by simp [Instr.findNow,Instr.sameNow];done)]) | (rw [HL.out _ _ _ _ _ (by simp;done) (by simp [Instr.findNow,Instr.sameNow];done)];simp only [Instr.findNow,Instr.sameNow,lookRes,List.push_toArray,List.nil_append,List.cons_append]))
  refine (msr_any _ n k d r t _ (by simp;omega) (by simp [go_sem]) (by simp [go_sem]) (by simp [go_sem]) (by simp [go_sem]) (by simp [go_sem]) hn hk hd hr ht).mono ?_
  rintro e w1 ⟨rfl,hb1⟩
  have hB1:=(hb1.block (w.heap.size+1) (by simp)).trans (heap_mid w _ _ _)
  have hz1:=hb1.size
  have hb0:Below w.heap.size w w1:=((((Below.refl _ w).alloc (Nat.le_refl _) _).alloc (by simp) _).alloc (by simp;omega) _).trans (hb1.mono (by simp;omega))
  clear hb1
  obtain ⟨w2,rfl,hz2,hp⟩:=put_of hB1
  have hb2:=hp (fun W=>Below w.heap.size w W) hb0
  clear hB1 hz1 hb0 hp
  simp only [hok,Sh.v]
  go_wp2
  refine bodyPost_ret (by simp [results,Tryz.results25,go_sem,hz2];rfl) rfl ?_
  refine ⟨by rw [HF.out,hok];rfl,?_⟩
  repeat' (first | (with_reducible assumption) | (with_reducible refine Below.alloc ?_ ?_ _) | (with_reducible refine bel_putBlk ?_ ?_ _) | (simp [size_putBlk];done) | (have:=hb2.size;simp [size_putBlk];omega))
set_option maxHeartbeats 2000000 in
theorem shape_3 (n k d r t q:Int) (w:World) (hn:1≤n∧n≤255) (hk:1≤k∧k≤255) (hd:0≤d∧d≤255) (hr:0≤r∧r≤255) (ht:0≤t∧t≤255) :
  Calls Tryz.prog 25 #[.agg #[.int .u8 3,.int .i64 n,.int .i64 k,.int .i64 d,.int .i64 r,.int .i64 t,.int .i64 q]] w fun e w'=>e=.returned (shapeF 3 n k d r t).v∧Below w.heap.size w w':=by
 have hins:=fun (w:World) (es:Array MapEntry) (c:Nat) (q:Int) (v:Value) (b:Nat) hb hnew=>run_lit_insert (P:=Tryz.prog) Tryz.underlying104 Tryz.underlying5 w es c q v b hb hnew
 have hlk:=fun (w:World) (es:Array MapEntry) (c:Nat) (q:Int) (b:Nat) hb hf=>run_lit_look (P:=Tryz.prog) Tryz.underlying104 Tryz.underlying5 w es c q b .nilFunc zero_func hb hf
 have HI:=Lib.hid hins
 have HL:=Lib.hid hlk
 clear hins hlk
 have hlt:decide (k < 1)=false:=decide_eq_false (by omega)
 have hfin:shapeF 3 n k d r t=if okMbr n k d r then shMbr k d t else Sh.zero:=by unfold shapeF;rw [if_neg (by omega)];simp
 have HF:=Lib.hid hfin
 clear hfin
 cases hok:okMbr n k d r
 all_goals
  go_enter Tryz.func25,Tryz.ntmps25
  go_wp2_with (first | (rw [HI.out _ _ _ _ _ _ (by simp;done) (by simp [Instr.findNow,Instr.sameNow];done)]) | (rw [HL.out _ _ _ _ _ (by simp;done) (by simp [Instr.findNow,Instr.sameNow];done)];simp only [Instr.findNow,Instr.sameNow,lookRes,List.push_toArray,List.nil_append,List.cons_append]))
  refine (mbr_any _ n k d r t _ (by simp;omega) (by simp [go_sem]) (by simp [go_sem]) (by simp [go_sem]) (by simp [go_sem]) (by simp [go_sem]) hn hk hd hr ht).mono ?_
  rintro e w1 ⟨rfl,hb1⟩
  have hB1:=(hb1.block (w.heap.size+1) (by simp)).trans (heap_mid w _ _ _)
  have hz1:=hb1.size
  have hb0:Below w.heap.size w w1:=((((Below.refl _ w).alloc (Nat.le_refl _) _).alloc (by simp) _).alloc (by simp;omega) _).trans (hb1.mono (by simp;omega))
  clear hb1
  obtain ⟨w2,rfl,hz2,hp⟩:=put_of hB1
  have hb2:=hp (fun W=>Below w.heap.size w W) hb0
  clear hB1 hz1 hb0 hp
  simp only [hok,Sh.v]
  go_wp2
  refine bodyPost_ret (by simp [results,Tryz.results25,go_sem,hz2];rfl) rfl ?_
  refine ⟨by rw [HF.out,hok];rfl,?_⟩
  repeat' (first | (with_reducible assumption) | (with_reducible refine Below.alloc ?_ ?_ _) | (with_reducible refine bel_putBlk ?_ ?_ _) | (simp [size_putBlk];done) | (have:=hb2.size;simp [size_putBlk];omega))
set_option maxHeartbeats 2000000 in
theorem shape_4 (n k d r t q:Int) (w:World) (hn:1≤n∧n≤255) (hk:1≤k∧k≤255) (hd:0≤d∧d≤255) (hr:0≤r∧r≤255) (ht:0≤t∧t≤255) :
  Calls Tryz.prog 25 #[.agg #[.int .u8 4,.int .i64 n,.int .i64 k,.int .i64 d,.int .i64 r,.int .i64 t,.int .i64 q]] w fun e w'=>e=.returned (shapeF 4 n k d r t).v∧Below w.heap.size w w':=by
 have hins:=fun (w:World) (es:Array MapEntry) (c:Nat) (q:Int) (v:Value) (b:Nat) hb hnew=>run_lit_insert (P:=Tryz.prog) Tryz.underlying104 Tryz.underlying5 w es c q v b hb hnew
 have hlk:=fun (w:World) (es:Array MapEntry) (c:Nat) (q:Int) (b:Nat) hb hf=>run_lit_look (P:=Tryz.prog) Tryz.underlying104 Tryz.underlying5 w es c q b .nilFunc zero_func hb hf
 have HI:=Lib.hid hins
 have HL:=Lib.hid hlk
 clear hins hlk
 have hlt:decide (k < 1)=false:=decide_eq_false (by omega)
 have hfin:shapeF 4 n k d r t=if okTr n k d r t then shTr n k else Sh.zero:=by unfold shapeF;rw [if_neg (by omega)];simp
 have HF:=Lib.hid hfin
 clear hfin
 cases hok:okTr n k d r t
 all_goals
  go_enter Tryz.func25,Tryz.ntmps25
  go_wp2_with (first | (rw [HI.out _ _ _ _ _ _ (by simp;done) (by simp [Instr.findNow,Instr.sameNow];done)]) | (rw [HL.out _ _ _ _ _ (by simp;done) (by simp [Instr.findNow,Instr.sameNow];done)];simp only [Instr.findNow,Instr.sameNow,lookRes,List.push_toArray,List.nil_append,List.cons_append]))
  refine (tr_any _ n k d r t _ (by simp;omega) (by simp [go_sem]) (by simp [go_sem]) (by simp [go_sem]) (by simp [go_sem]) (by simp [go_sem]) hn hk hd hr ht).mono ?_
  rintro e w1 ⟨rfl,hb1⟩
  have hB1:=(hb1.block (w.heap.size+1) (by simp)).trans (heap_mid w _ _ _)
  have hz1:=hb1.size
  have hb0:Below w.heap.size w w1:=((((Below.refl _ w).alloc (Nat.le_refl _) _).alloc (by simp) _).alloc (by simp;omega) _).trans (hb1.mono (by simp;omega))
  clear hb1
  obtain ⟨w2,rfl,hz2,hp⟩:=put_of hB1
  have hb2:=hp (fun W=>Below w.heap.size w W) hb0
  clear hB1 hz1 hb0 hp
  simp only [hok,Sh.v]
  go_wp2
  refine bodyPost_ret (by simp [results,Tryz.results25,go_sem,hz2];rfl) rfl ?_
  refine ⟨by rw [HF.out,hok];rfl,?_⟩
  repeat' (first | (with_reducible assumption) | (with_reducible refine Below.alloc ?_ ?_ _) | (with_reducible refine bel_putBlk ?_ ?_ _) | (simp [size_putBlk];done) | (have:=hb2.size;simp [size_putBlk];omega))
set_option maxHeartbeats 2000000 in
theorem shape_5 (n k d r t q:Int) (w:World) (hn:1≤n∧n≤255) (hk:1≤k∧k≤255) (hd:0≤d∧d≤255) (hr:0≤r∧r≤255) (ht:0≤t∧t≤255) :
  Calls Tryz.prog 25 #[.agg #[.int .u8 5,.int .i64 n,.int .i64 k,.int .i64 d,.int .i64 r,.int .i64 t,.int .i64 q]] w fun e w'=>e=.returned (shapeF 5 n k d r t).v∧Below w.heap.size w w':=by
 have hins:=fun (w:World) (es:Array MapEntry) (c:Nat) (q:Int) (v:Value) (b:Nat) hb hnew=>run_lit_insert (P:=Tryz.prog) Tryz.underlying104 Tryz.underlying5 w es c q v b hb hnew
 have hlk:=fun (w:World) (es:Array MapEntry) (c:Nat) (q:Int) (b:Nat) hb hf=>run_lit_look (P:=Tryz.prog) Tryz.underlying104 Tryz.underlying5 w es c q b .nilFunc zero_func hb hf
 have HI:=Lib.hid hins
 have HL:=Lib.hid hlk
 clear hins hlk
 have hlt:decide (k < 1)=false:=decide_eq_false (by omega)
 have hfin:shapeF 5 n k d r t=if okLoc n k d r then locSh n k d r t else Sh.zero:=by unfold shapeF;rw [if_neg (by omega)];(by_cases h:okLoc n k d r <;> simp [h];unfold okLoc at h;simp only [Bool.and_eq_true] at h;simp [locSh,h.1])
 have HF:=Lib.hid hfin
 clear hfin
 cases hok:okLoc n k d r
 all_goals
  go_enter Tryz.func25,Tryz.ntmps25
  go_wp2_with (first | (rw [HI.out _ _ _ _ _ _ (by simp;done) (by simp [Instr.findNow,Instr.sameNow];done)]) | (rw [HL.out _ _ _ _ _ (by simp;done) (by simp [Instr.findNow,Instr.sameNow];done)];simp only [Instr.findNow,Instr.sameNow,lookRes,List.push_toArray,List.nil_append,List.cons_append]))
  refine (loc_any _ n k d r t _ (by simp;omega) (by simp [go_sem]) (by simp [go_sem]) (by simp [go_sem]) (by simp [go_sem]) (by simp [go_sem]) hn hk hd hr ht).mono ?_
  rintro e w1 ⟨rfl,hb1⟩
  have hB1:=(hb1.block (w.heap.size+1) (by simp)).trans (heap_mid w _ _ _)
  have hz1:=hb1.size
  have hb0:Below w.heap.size w w1:=((((Below.refl _ w).alloc (Nat.le_refl _) _).alloc (by simp) _).alloc (by simp;omega) _).trans (hb1.mono (by simp;omega))
  clear hb1
  obtain ⟨w2,rfl,hz2,hp⟩:=put_of hB1
  have hb2:=hp (fun W=>Below w.heap.size w W) hb0
  clear hB1 hz1 hb0 hp
  simp only [hok,Sh.v]
  go_wp2
  refine bodyPost_ret (by simp [results,Tryz.results25,go_sem,hz2];rfl) rfl ?_
  refine ⟨by rw [HF.out,hok];rfl,?_⟩
  repeat' (first | (with_reducible assumption) | (with_reducible refine Below.alloc ?_ ?_ _) | (with_reducible refine bel_putBlk ?_ ?_ _) | (simp [size_putBlk];done) | (have:=hb2.size;simp [size_putBlk];omega))
end Go.Proofs.YtnjbkfeihbcalaaGreat
/- config.shape for every code whose numbers are bytes. -/
namespace Go.Proofs.YtnjbkfeihbcalaaGreat
open Go.RowKit
set_option linter.unusedSimpArgs false
set_option linter.unusedVariables false
attribute [local go_sem] run_makeMap
set_option maxHeartbeats 2000000 in
theorem shape_low_1 (n k d r t q:Int) (w:World) (hk:k < 1) :
  Calls Tryz.prog 25 #[.agg #[.int .u8 1,.int .i64 n,.int .i64 k,.int .i64 d,.int .i64 r,.int .i64 t,.int .i64 q]] w fun e w'=>e=.returned (.agg #[.int .i64 0,.int .i64 0,.int .i64 0,.int .i64 0,.int .i64 0])∧Below w.heap.size w w':=by
 have hins:=fun (w:World) (es:Array MapEntry) (c:Nat) (q:Int) (v:Value) (b:Nat) hb hnew=>run_lit_insert (P:=Tryz.prog) Tryz.underlying104 Tryz.underlying5 w es c q v b hb hnew
 have hlk:=fun (w:World) (es:Array MapEntry) (c:Nat) (q:Int) (b:Nat) hb hf=>run_lit_look (P:=Tryz.prog) Tryz.underlying104 Tryz.underlying5 w es c q b .nilFunc zero_func hb hf
 have HI:=Lib.hid hins
 have HL:=Lib.hid hlk
 clear hins hlk
 go_enter Tryz.func25,Tryz.ntmps25
 go_wp2_with (first | (rw [HI.out _ _ _ _ _ _ (by simp;done) (by simp [Instr.findNow,Instr.sameNow];done)]) | (rw [HL.out _ _ _ _ _ (by simp;done) (by simp [Instr.findNow,Instr.sameNow, *];done)];simp only [Instr.findNow,Instr.sameNow,lookRes,List.push_toArray,List.nil_append,List.cons_append]))
 refine bodyPost_ret (by simp [results,Tryz.results25,go_sem];rfl) rfl ?_
 exact ⟨rfl,by go_grown⟩
set_option maxHeartbeats 2000000 in
theorem shape_low_2 (n k d r t q:Int) (w:World) (hk:k < 1) :
  Calls Tryz.prog 25 #[.agg #[.int .u8 2,.int .i64 n,.int .i64 k,.int .i64 d,.int .i64 r,.int .i64 t,.int .i64 q]] w fun e w'=>e=.returned (.agg #[.int .i64 0,.int .i64 0,.int .i64 0,.int .i64 0,.int .i64 0])∧Below w.heap.size w w':=by
 have hins:=fun (w:World) (es:Array MapEntry) (c:Nat) (q:Int) (v:Value) (b:Nat) hb hnew=>run_lit_insert (P:=Tryz.prog) Tryz.underlying104 Tryz.underlying5 w es c q v b hb hnew
 have hlk:=fun (w:World) (es:Array MapEntry) (c:Nat) (q:Int) (b:Nat) hb hf=>run_lit_look (P:=Tryz.prog) Tryz.underlying104 Tryz.underlying5 w es c q b .nilFunc zero_func hb hf
 have HI:=Lib.hid hins
 have HL:=Lib.hid hlk
 clear hins hlk
 go_enter Tryz.func25,Tryz.ntmps25
 go_wp2_with (first | (rw [HI.out _ _ _ _ _ _ (by simp;done) (by simp [Instr.findNow,Instr.sameNow];done)]) | (rw [HL.out _ _ _ _ _ (by simp;done) (by simp [Instr.findNow,Instr.sameNow, *];done)];simp only [Instr.findNow,Instr.sameNow,lookRes,List.push_toArray,List.nil_append,List.cons_append]))
 refine bodyPost_ret (by simp [results,Tryz.results25,go_sem];rfl) rfl ?_
 exact ⟨rfl,by go_grown⟩
set_option maxHeartbeats 2000000 in
theorem shape_low_3 (n k d r t q:Int) (w:World) (hk:k < 1) :
  Calls Tryz.prog 25 #[.agg #[.int .u8 3,.int .i64 n,.int .i64 k,.int .i64 d,.int .i64 r,.int .i64 t,.int .i64 q]] w fun e w'=>e=.returned (.agg #[.int .i64 0,.int .i64 0,.int .i64 0,.int .i64 0,.int .i64 0])∧Below w.heap.size w w':=by
 have hins:=fun (w:World) (es:Array MapEntry) (c:Nat) (q:Int) (v:Value) (b:Nat) hb hnew=>run_lit_insert (P:=Tryz.prog) Tryz.underlying104 Tryz.underlying5 w es c q v b hb hnew
 have hlk:=fun (w:World) (es:Array MapEntry) (c:Nat) (q:Int) (b:Nat) hb hf=>run_lit_look (P:=Tryz.prog) Tryz.underlying104 Tryz.underlying5 w es c q b .nilFunc zero_func hb hf
 have HI:=Lib.hid hins
 have HL:=Lib.hid hlk
 clear hins hlk
 go_enter Tryz.func25,Tryz.ntmps25
 go_wp2_with (first | (rw [HI.out _ _ _ _ _ _ (by simp;done) (by simp [Instr.findNow,Instr.sameNow];done)]) | (rw [HL.out _ _ _ _ _ (by simp;done) (by simp [Instr.findNow,Instr.sameNow, *];done)];simp only [Instr.findNow,Instr.sameNow,lookRes,List.push_toArray,List.nil_append,List.cons_append]))
 refine bodyPost_ret (by simp [results,Tryz.results25,go_sem];rfl) rfl ?_
 exact ⟨rfl,by go_grown⟩
set_option maxHeartbeats 2000000 in
theorem shape_low_4 (n k d r t q:Int) (w:World) (hk:k < 1) :
  Calls Tryz.prog 25 #[.agg #[.int .u8 4,.int .i64 n,.int .i64 k,.int .i64 d,.int .i64 r,.int .i64 t,.int .i64 q]] w fun e w'=>e=.returned (.agg #[.int .i64 0,.int .i64 0,.int .i64 0,.int .i64 0,.int .i64 0])∧Below w.heap.size w w':=by
 have hins:=fun (w:World) (es:Array MapEntry) (c:Nat) (q:Int) (v:Value) (b:Nat) hb hnew=>run_lit_insert (P:=Tryz.prog) Tryz.underlying104 Tryz.underlying5 w es c q v b hb hnew
 have hlk:=fun (w:World) (es:Array MapEntry) (c:Nat) (q:Int) (b:Nat) hb hf=>run_lit_look (P:=Tryz.prog) Tryz.underlying104 Tryz.underlying5 w es c q b .nilFunc zero_func hb hf
 have HI:=Lib.hid hins
 have HL:=Lib.hid hlk
 clear hins hlk
 go_enter Tryz.func25,Tryz.ntmps25
 go_wp2_with (first | (rw [HI.out _ _ _ _ _ _ (by simp;done) (by simp [Instr.findNow,Instr.sameNow];done)]) | (rw [HL.out _ _ _ _ _ (by simp;done) (by simp [Instr.findNow,Instr.sameNow, *];done)];simp only [Instr.findNow,Instr.sameNow,lookRes,List.push_toArray,List.nil_append,List.cons_append]))
 refine bodyPost_ret (by simp [results,Tryz.results25,go_sem];rfl) rfl ?_
 exact ⟨rfl,by go_grown⟩
set_option maxHeartbeats 2000000 in
theorem shape_low_5 (n k d r t q:Int) (w:World) (hk:k < 1) :
  Calls Tryz.prog 25 #[.agg #[.int .u8 5,.int .i64 n,.int .i64 k,.int .i64 d,.int .i64 r,.int .i64 t,.int .i64 q]] w fun e w'=>e=.returned (.agg #[.int .i64 0,.int .i64 0,.int .i64 0,.int .i64 0,.int .i64 0])∧Below w.heap.size w w':=by
 have hins:=fun (w:World) (es:Array MapEntry) (c:Nat) (q:Int) (v:Value) (b:Nat) hb hnew=>run_lit_insert (P:=Tryz.prog) Tryz.underlying104 Tryz.underlying5 w es c q v b hb hnew
 have hlk:=fun (w:World) (es:Array MapEntry) (c:Nat) (q:Int) (b:Nat) hb hf=>run_lit_look (P:=Tryz.prog) Tryz.underlying104 Tryz.underlying5 w es c q b .nilFunc zero_func hb hf
 have HI:=Lib.hid hins
 have HL:=Lib.hid hlk
 clear hins hlk
 go_enter Tryz.func25,Tryz.ntmps25
 go_wp2_with (first | (rw [HI.out _ _ _ _ _ _ (by simp;done) (by simp [Instr.findNow,Instr.sameNow];done)]) | (rw [HL.out _ _ _ _ _ (by simp;done) (by simp [Instr.findNow,Instr.sameNow, *];done)];simp only [Instr.findNow,Instr.sameNow,lookRes,List.push_toArray,List.nil_append,List.cons_append]))
 refine bodyPost_ret (by simp [results,Tryz.results25,go_sem];rfl) rfl ?_
 exact ⟨rfl,by go_grown⟩
set_option maxHeartbeats 2000000 in
theorem shape_other (c n k d r t q:Int) (w:World) (h1:(c == 1)=false) (h2:(c == 2)=false) (h3:(c == 3)=false) (h4:(c == 4)=false) (h5:(c == 5)=false) :
  Calls Tryz.prog 25 #[.agg #[.int .u8 c,.int .i64 n,.int .i64 k,.int .i64 d,.int .i64 r,.int .i64 t,.int .i64 q]] w fun e w'=>e=.returned (.agg #[.int .i64 0,.int .i64 0,.int .i64 0,.int .i64 0,.int .i64 0])∧Below w.heap.size w w':=by
 have hins:=fun (w:World) (es:Array MapEntry) (c:Nat) (q:Int) (v:Value) (b:Nat) hb hnew=>run_lit_insert (P:=Tryz.prog) Tryz.underlying104 Tryz.underlying5 w es c q v b hb hnew
 have hlk:=fun (w:World) (es:Array MapEntry) (c:Nat) (q:Int) (b:Nat) hb hf=>run_lit_look (P:=Tryz.prog) Tryz.underlying104 Tryz.underlying5 w es c q b .nilFunc zero_func hb hf
 have HI:=Lib.hid hins
 have HL:=Lib.hid hlk
 clear hins hlk
 go_enter Tryz.func25,Tryz.ntmps25
 go_wp2_with (first | (rw [HI.out _ _ _ _ _ _ (by simp;done) (by simp [Instr.findNow,Instr.sameNow];done)]) | (rw [HL.out _ _ _ _ _ (by simp;done) (by simp [Instr.findNow,Instr.sameNow, *];done)];simp only [Instr.findNow,Instr.sameNow,lookRes,List.push_toArray,List.nil_append,List.cons_append]))
 refine bodyPost_ret (by simp [results,Tryz.results25,go_sem];rfl) rfl ?_
 exact ⟨rfl,by go_grown⟩

theorem shape_any (c n k d r t q:Int) (w:World) (hn:1≤n∧n≤255) (hk:0≤k∧k≤255) (hd:0≤d∧d≤255) (hr:0≤r∧r≤255) (ht:0≤t∧t≤255) :
  Calls Tryz.prog 25 #[.agg #[.int .u8 c,.int .i64 n,.int .i64 k,.int .i64 d,.int .i64 r,.int .i64 t,.int .i64 q]] w fun e w'=>e=.returned (shapeF c n k d r t).v∧Below w.heap.size w w':=by
 by_cases hc:c=1 ∨ c=2 ∨ c=3 ∨ c=4 ∨ c=5
 ·by_cases hk1:k < 1
  ·have hz:shapeF c n k d r t=Sh.zero:=by unfold shapeF;rw [if_pos hk1]
   rw [hz]
   rcases hc with rfl | rfl | rfl | rfl | rfl
   ·exact shape_low_1 n k d r t q w hk1
   ·exact shape_low_2 n k d r t q w hk1
   ·exact shape_low_3 n k d r t q w hk1
   ·exact shape_low_4 n k d r t q w hk1
   ·exact shape_low_5 n k d r t q w hk1
  ·have hk':1≤k∧k≤255:=by omega
   rcases hc with rfl | rfl | rfl | rfl | rfl
   ·exact shape_1 n k d r t q w hn hk' hd hr ht
   ·exact shape_2 n k d r t q w hn hk' hd hr ht
   ·exact shape_3 n k d r t q w hn hk' hd hr ht
   ·exact shape_4 n k d r t q w hn hk' hd hr ht
   ·exact shape_5 n k d r t q w hn hk' hd hr ht
 ·have hz:shapeF c n k d r t=Sh.zero:=by
   unfold shapeF
   split
   ·rfl
   ·rw [if_neg (by omega),if_neg (by omega),if_neg (by omega),if_neg (by omega),if_neg (by omega)]
  rw [hz]
  exact shape_other c n k d r t q w (by simp;omega) (by simp;omega) (by simp;omega) (by simp;omega) (by simp;omega)
end Go.Proofs.YtnjbkfeihbcalaaGreat
