/- penstockalike: Sum, Total, Batch: how large a thing is. A struct that lies in a block of its own is read at one step. event.Check: may a batch be, its sizes too? event.Encode: a batch as bytes. -/
import Derived.Test.YtcmjgghkmdbphaaGreatDoorT04
import Derived.Test.YtcmjgghkmdbphaaGreatDoorT01
import Derived.Laws.Rows
import Derived.Deep.WholeRow
import Derived.BigQuiet
set_option maxRecDepth 20000
set_option maxHeartbeats 25600000
namespace Go.Proofs.YtcmjgghkmdbphaaGreatDoor
open Go.RowKit
def GotSum (a : Int) (l : List Int) (e : Ending) : Prop := ∃ n : Int, e = .returned (.int .i64 n) ∧ 0 ≤ n ∧ n ≤ 1099511627776 ∧ (n < 1099511627776 → n = a + l.sum)
theorem sum_mono {l : List Int} (h : ∀ x ∈ l, 0 ≤ x) (k : Nat) : (l.take k).sum ≤ l.sum := by
 induction l generalizing k with
 | nil => simp
 | cons x l ih =>
   cases k with
   | zero =>
     have := ih (fun y hy => h y (List.mem_cons_of_mem _ hy)) 0
     have := h x (List.mem_cons_self ..)
     simp at *
     omega
   | succ k =>
     have := ih (fun y hy => h y (List.mem_cons_of_mem _ hy)) k
     simp
     omega
theorem sum_any (a : Int) (l : List Int) (b : Nat) (w : World) (hb : Blk w b 3 (l.map fun n => .int .i64 n)) (ha : 0 ≤ a ∧ a ≤ 1099511627776) (hl : ∀ x ∈ l, 0 ≤ x) (hlen : l.length ≤ 1000000) :
 Calls Tryz.prog 48 #[.int .i64 a, .slice (some ⟨b, 0, none⟩) l.length l.length] w fun e w' => GotSum a l e ∧ w = w' := by
 have HB := jh (ja hb hl); clear hb hl
 obtain ⟨ha0, ha1⟩ := ha
 go_enter Tryz.func48, Tryz.ntmps48
 go_wp2
 go_loopw [0, 5] (fun x i wr => ∃ (k : Nat) (n : Int), k ≤ l.length ∧ i = .int .i64 k ∧ x = .int .i64 n ∧ 0 ≤ n ∧ n ≤ 1099511627776 ∧ n = a + (l.take k).sum ∧ wr = w) (fun _ i _ => l.length - (intOf i).toNat)
 case atStart => exact ⟨0, a, Nat.zero_le _, rfl, rfl, ha0, ha1, by simp, rfl⟩
 case round =>
  obtain ⟨k, n, hkl, rfl, rfl, hn0, hn1, hs, rfl⟩ := hrel
  have HS := jh hs; clear hs
  by_cases hlt : k < l.length
  ·have hlk := jg hlt
   have hts := take_snoc l k hlt
   have hx := HB.out.2 l[k] (List.getElem_mem hlt)
   have y0 : wr.cell? ⟨b, k, none⟩ = some (.int .i64 l[k]) := by rw [HB.out.1.cell, List.getElem?_map, hlk]; rfl
   generalize l[k] = x at *
   have HTS := jh (ja hts hlk); clear hts hlk
   have hlt' : (k : Int) < l.length := by omega
   by_cases h1 : 1099511627776 - n < x
   ·go_wp2_with fail
    go_ret
    exact ⟨⟨1099511627776, rfl, by omega, by omega, fun h => absurd h (by omega)⟩, rfl⟩
   ·go_wp2_with fail
    go_round
    case rel =>
     refine ⟨k + 1, n + x, by omega, by go_num, rfl, by omega, by omega, ?_, trivial⟩
     have h := HS.out
     rw [HTS.out.1, List.sum_append]
     simp only [List.sum_cons, List.sum_nil]
     omega
    case measure => (simp [intOf]; omega)
  ·have hkn : k = l.length := by omega
   subst hkn
   go_wp2_with fail
   go_ret
   exact ⟨⟨n, rfl, hn0, hn1, fun _ => by have := HS.out; rwa [List.take_length] at this⟩, rfl⟩
def lenL (l : List Str) : Int := l.length + (l.map fun s => (s.size : Int)).sum
def GotTot (l : List Str) (m : Int) (e : Ending) : Prop := ∃ n : Int, e = .returned (.int .i64 n) ∧ 0 ≤ n ∧ n ≤ 1099511627776 ∧ (n ≤ m → n = lenL l)
theorem total_any (l : List Str) (A : Option Addr) (c : Nat) (m : Int) (P : Nat → Prop) (w : World) (hr : StrR.Row w P A l) (hm : 0 ≤ m ∧ m ≤ 1000000) :
 Calls Tryz.prog 82 #[.slice A l.length c, .int .i64 m] w fun e w' => GotTot l m e ∧ Below w.heap.size w w' := by
 have HR := jh hr; clear hr
 obtain ⟨hm0, hm1⟩ := hm
 have hb1 := (jb w.heap.size w).al (.cells #[.int .i64 l.length] 3)
 have C1 := sum_any 0 [(l.length : Int)] w.heap.size (w.alloc (.cells #[.int .i64 l.length] 3)) (Blk.new w 3 [.int .i64 l.length]) ⟨by omega, by omega⟩ (by simp) (by simp)
 go_enter Tryz.func82, Tryz.ntmps82
 go_wp2_with fail
 refine C1.mono ?_
 clear C1
 rintro e w1 ⟨⟨n, rfl, hn0, hn1, hn⟩, rfl⟩
 have HN := jh hn; clear hn
 go_wp2_with fail
 have hlm : n ≤ m → (l.length : Int) ≤ m := fun h => by have := HN.out (by omega); simp at this; omega
 generalize hw1 : (w.alloc (.cells #[.int .i64 l.length] 3)) = w1 at *
 clear hw1
 have HL := jh hlm; clear hlm
 go_loopw [5, 6] (fun x i wr => ∃ (k : Nat) (n : Int), k ≤ l.length ∧ i = .int .i64 k ∧ x = .int .i64 n ∧ 0 ≤ n ∧ n ≤ 1099511627776 ∧ (n ≤ m → n = l.length + ((l.take k).map fun s => (s.size : Int)).sum) ∧ (n ≤ m → (l.length : Int) ≤ m) ∧ Below w.heap.size w wr) (fun _ i _ => l.length - (intOf i).toNat)
 case atStart => exact ⟨0, n, Nat.zero_le _, rfl, rfl, hn0, hn1, fun h => by have := HN.out (by omega); simpa using this, HL.out, hb1⟩
 case round =>
  obtain ⟨k, n, hkl, rfl, rfl, hn0, hn1, hs, hlm, hbl⟩ := hrel
  have HS := jh (ja hs hlm); clear hs hlm HN HL hb1
  by_cases hlt : k < l.length
  ·have hlt' : (k : Int) < l.length := by omega
   by_cases hnm : n ≤ m
   ·have hlk := jg hlt
    have hts := take_snoc l k hlt
    obtain ⟨bb, o, cs, rfl, hP, hbw, ⟨rfl, hi1⟩, hcs⟩ := (HR.out.same (js hbl) hbl.size).at_ hlk
    generalize l[k] = x at *
    have c0 := hcs 0 _ rfl; simp only [StrR_size, Nat.add_zero, Nat.mul_one] at c0
    have hlm := HS.out.2 hnm
    have HTS := jh (ja hts (ja hlk hcs)); clear hts hlk hcs
    have hb2 := hbl.tr ((jb wr.heap.size wr).al (.cells #[.int .i64 (x.size : Int)] 3))
    have C2 := sum_any n [(x.size : Int)] wr.heap.size (wr.alloc (.cells #[.int .i64 (x.size : Int)] 3)) (Blk.new wr 3 [.int .i64 (x.size : Int)]) ⟨by omega, by omega⟩ (by simp) (by simp)
    have HB2 := jh hb2
    clear hbl hb2
    go_wp2_with fail
    refine C2.mono ?_
    clear C2
    rintro e w2 ⟨⟨n2, rfl, hn20, hn21, hn2⟩, rfl⟩
    have HN2 := jh hn2; clear hn2
    go_wp2_with fail
    go_round
    case rel =>
     refine ⟨k + 1, n2, by omega, by simp, rfl, hn20, hn21, fun h => ?_, fun _ => hlm, HB2.out⟩
     have h1 := HN2.out (by omega)
     have h2 := HS.out.1 hnm
     rw [HTS.out.1, List.map_append, List.sum_append]
     simp only [List.sum_cons, List.sum_nil, List.map_cons, List.map_nil] at h1 ⊢
     omega
    case measure => (simp [intOf]; omega)
   ·have HB := jh hbl
    clear hbl
    go_wp2_with fail
    go_ret
    exact ⟨⟨n, rfl, hn0, hn1, fun h => absurd h (by omega)⟩, HB.out⟩
  ·have hkn : k = l.length := by omega
   subst hkn
   have HB := jh hbl
   clear hbl
   go_wp2_with fail
   all_goals
    go_ret
    exact ⟨⟨n, rfl, hn0, hn1, fun h => by have := HS.out.1 h; rwa [List.take_length] at this⟩, HB.out⟩
def sizeP (p : Put) : Int := p.stream.size + lenL p.data
def sizeB (b : Batch) : Int := b.key.size + b.puts.length + (b.puts.map sizeP).sum
def GotSize (n m : Int) (e : Ending) : Prop := ∃ k : Int, e = .returned (.int .i64 k) ∧ 0 ≤ k ∧ k ≤ 1099511627776 ∧ (k ≤ m → k = n)
theorem sizeB_any (b : Batch) (A : Option Addr) (c : Nat) (m : Int) (P : Nat → Prop) (w : World) (hr : PutR.Row w P A b.puts) (hk : sfit b.key) (hm : 0 ≤ m ∧ m ≤ 1000000) :
 Calls Tryz.prog 15 #[.agg #[.string b.key, .slice A b.puts.length c], .int .i64 m] w fun e w' => GotSize (sizeB b) m e ∧ Below w.heap.size w w' := by
 have HR := jh hr; clear hr
 have hk0 : (b.key.size : Int) ≤ 9223372036854775807 := by unfold sfit at hk; omega
 clear hk
 obtain ⟨hm0, hm1⟩ := hm
 have B0 := Blk.new w 25 [.string b.key, .slice A b.puts.length c]
 have hb0 := (jb w.heap.size w).al (.cells #[.string b.key, .slice A b.puts.length c] 25)
 have x0 := B0.cell 0
 have x1 := B0.cell 1
 have HB0 := jh (ja B0 hb0)
 clear B0 hb0
 go_enter Tryz.func15, Tryz.ntmps15
 go_upto_region 1 with fail
 generalize hw0 : (w.alloc (.cells #[.string b.key, .slice A b.puts.length c] 25)) = w0 at *
 clear hw0
 have C1 := sum_any 0 [(b.key.size : Int), (b.puts.length : Int)] w0.heap.size (w0.alloc (.cells #[.int .i64 b.key.size, .int .i64 b.puts.length] 3)) (Blk.new w0 3 [.int .i64 b.key.size, .int .i64 b.puts.length]) ⟨by omega, by omega⟩ (by simp) (by simp)
 have hb1 := (jb w0.heap.size w0).al (.cells #[.int .i64 b.key.size, .int .i64 b.puts.length] 3)
 go_wp2_with fail
 refine C1.mono ?_
 clear C1
 rintro e w1 ⟨⟨n, rfl, hn0, hn1, hn⟩, rfl⟩
 have HN := jh (ja hn hb1); clear hn hb1
 have hlm : n ≤ m → (b.puts.length : Int) ≤ m := fun h => by have := HN.out.1 (by omega); simp only [List.sum_cons, List.sum_nil] at this; omega
 have HL := jh hlm; clear hlm
 go_wp2_with fail
 generalize hw1 : (w0.alloc (.cells #[.int .i64 b.key.size, .int .i64 b.puts.length] 3)) = w1 at *
 clear hw1 x0 x1
 go_loopw [5, 6] (fun x i wr => ∃ (k : Nat) (n : Int), k ≤ b.puts.length ∧ i = .int .i64 k ∧ x = .int .i64 n ∧ 0 ≤ n ∧ n ≤ 1099511627776 ∧ (n ≤ m → n = b.key.size + b.puts.length + ((b.puts.take k).map sizeP).sum) ∧ (n ≤ m → (b.puts.length : Int) ≤ m) ∧ Below w0.heap.size w0 wr) (fun _ i _ => b.puts.length - (intOf i).toNat)
 case atStart => exact ⟨0, n, Nat.zero_le _, rfl, rfl, hn0, hn1, fun h => by have := HN.out.1 (by omega); simpa [Int.add_assoc] using this, HL.out, HN.out.2⟩
 case round =>
  obtain ⟨k, n, hkl, rfl, rfl, hn0, hn1, hs, hlm, hbl⟩ := hrel
  have HS := jh (ja hs hlm); clear hs hlm HN HL
  have x1 : wr.cell? ⟨w.heap.size, 1, none⟩ = some (.slice A b.puts.length c) := (HB0.out.1.ext hbl).cell 1
  have hb2 := HB0.out.2.tr hbl
  by_cases hlt : k < b.puts.length
  ·have hlt' : (k : Int) < b.puts.length := by omega
   by_cases hnm : n ≤ m
   ·have hlk := jg hlt
    have hts := take_snoc b.puts k hlt
    obtain ⟨bb, o, cs, rfl, hP, hbw, hrep, hcs⟩ := (HR.out.same (js hb2) hb2.size).at_ hlk
    generalize b.puts[k] = p at *
    obtain ⟨Ad, cd, rfl, hps, _, hd1, hd2, hrow⟩ := put_rep.1 hrep
    have c0 := hcs 0 _ rfl; have c1 := hcs 1 _ rfl; have c2 := hcs 2 _ rfl; simp only [PutR_size, Nat.add_zero] at c0 c1 c2
    have hlm := HS.out.2 hnm
    have hps' : (p.stream.size : Int) ≤ 9223372036854775807 := by unfold sfit at hps; omega
    have HTS := jh (ja hts (ja hlk hcs)); clear hts hlk hcs hrep hps
    have hlo := jb wr.heap.size wr
    have HBL := jh (ja hbl hb2)
    have y1 := On.cell x1
    have y0 := On.cell c0
    have y2 := On.cell c2
    have HRW := jh hrow
    clear hbl hb2 hrow c0 c1 c2
    go_upto_region 5 with fail
    clear x1
    refine wp_region_mix (.seg [0, 1, 2, 3, 4, 5, 6, 7, 8, 9, 10, 11, 12, 13, 14] 15 (.seg [] 16 (.seg [] 17 (.leaf [18])))) (fun w' => ∃ d : Wd (On wr), w' = d.w) (by kernel_rfl) (by kernel_rfl) (fun _ _ d _ _ h => by cases d <;> exact h) (ClsW.mk hlo.drew) ?_
    unfold wpMix; simp only [pick, j1, j2, j3, j4]
    (repeat (show wpQuiet _ _ _ _ (_ :: _) _; go_big_quiet_step (fail))); refine qn ?_
    go_wp2_with fail
    refine (total_any p.data Ad cd m _ wr.drew (HRW.out.ext (jb _ wr).drew) ⟨hm0, hm1⟩).mono ?_
    rintro e w2 ⟨⟨t, rfl, ht0, ht1, ht⟩, hb3'⟩
    have hb3 : Below wr.heap.size wr w2 := (jb _ wr).drew.tr hb3'
    have HT := jh ht
    clear ht hb3'
    go_wp2_with fail
    (refine segw (D := On wr) (hb3) ?_; unfold wpMix; simp only [pick, j1, j2, j3, j4]; (repeat (show wpQuiet _ _ _ _ (_ :: _) _; go_big_quiet_step (fail))); refine qn ?_)
    have hb4 := hb3.al (.cells #[.int .i64 (p.stream.size : Int), .int .i64 t] 3)
    have C2 := sum_any n [(p.stream.size : Int), t] w2.heap.size (w2.alloc (.cells #[.int .i64 (p.stream.size : Int), .int .i64 t] 3)) (Blk.new w2 3 [.int .i64 (p.stream.size : Int), .int .i64 t]) ⟨by omega, by omega⟩ (by simp; omega) (by simp)
    go_wp2_with fail
    (refine segw (D := On wr) (hb4) ?_; unfold wpMix; simp only [pick, j1, j2, j3, j4]; (repeat (show wpQuiet _ _ _ _ (_ :: _) _; go_big_quiet_step (fail))); refine qn ?_)
    generalize hw3 : (w2.alloc (.cells #[.int .i64 (p.stream.size : Int), .int .i64 t] 3)) = w3 at *
    clear hw3
    go_wp2_with fail
    refine C2.mono ?_
    clear C2
    rintro e w4 ⟨⟨n2, rfl, hn20, hn21, hn2⟩, rfl⟩
    have HN2 := jh hn2
    have HB4 := jh (HBL.out.1.tr hb4)
    clear hn2
    go_wp2_with fail
    (refine segw (D := On wr) (hb4) ?_; unfold wpMix; simp only [pick, j1, j2, j3, j4]; (repeat (show wpQuiet _ _ _ _ (_ :: _) _; go_big_quiet_step (fail))); refine qn ?_)
    clear y0 y1 y2 hb4 hb3 hlo
    go_wp2_with fail
    go_round
    case rel =>
     refine ⟨k + 1, n2, by omega, by simp, rfl, hn20, hn21, fun h => ?_, fun _ => hlm, HB4.out⟩
     have h1 := HN2.out (by omega)
     have h2 := HS.out.1 hnm
     simp only [List.sum_cons, List.sum_nil] at h1
     have h3 := HT.out (by omega)
     rw [HTS.out.1, List.map_append, List.sum_append]
     simp only [List.sum_cons, List.sum_nil, List.map_cons, List.map_nil, sizeP]
     omega
    case measure => (simp [intOf]; omega)
   ·have HB := jh (ja hbl hb2)
    clear hbl hb2
    go_wp2_with fail
    go_ret
    exact ⟨⟨n, rfl, hn0, hn1, fun h => absurd h (by omega)⟩, HB.out.2⟩
  ·have hkn : k = b.puts.length := by omega
   subst hkn
   have HB := jh (ja hbl hb2)
   clear hbl hb2
   go_wp2_with fail
   all_goals
    go_ret
    exact ⟨⟨n, rfl, hn0, hn1, fun h => by have := HS.out.1 h; rwa [List.take_length] at this⟩, HB.out.2⟩
end Go.Proofs.YtcmjgghkmdbphaaGreatDoor
namespace Go.Proofs.YtcmjgghkmdbphaaGreatDoor
open Go.RowKit
section
variable {P : Program} {ops : Array Oper} {rest : List Oper} {o : Oper} {a : Act} {w : World}
theorem run_load_blk {g : Nat} {t ty : TypeId} {cs : List Value} {d : TypeDesc} (hg : Blk w g t cs) (hu : P.underlying ty = some d) (hd : (match d with | .struct _ | .array _ _ => true | _ => false) = true) (hi : (P.info? ty).map (·.size) = some cs.length) :
 (loadVar ty ⟨g, 0, none⟩).run P w = .ok (.agg cs.toArray) w := run_loadVar_row w g t ty cs.toArray (0, 0) d hg hu hd (by simpa using hi)
theorem wpList_load_blk {Q : Exit → Act → World → Prop} (hgd : o.guard = none) {ty : TypeId} {x : Operand} (ho : o.op = .load ty x) {g : Nat} (hx : a.eval x = .pointer (some ⟨g, 0, none⟩)) {t : TypeId} {cs : List Value} {d : TypeDesc}
 (hg : Blk w g t cs) (hu : P.underlying ty = some d) (hd : (match d with | .struct _ | .array _ _ => true | _ => false) = true) (hi : (P.info? ty).map (·.size) = some cs.length)
 (h : wpList P ops Q rest (a.put o.dst (.agg cs.toArray)) w) : wpList P ops Q (o :: rest) a w :=
 wpList_load_row hgd ty x ho g hx t cs.toArray (0, 0) d hg hu hd (by simpa using hi) h
theorem wpList_load_at {Q : Exit → Act → World → Prop} (hgd : o.guard = none) {ty : TypeId} {x : Operand} (ho : o.op = .load ty x) {b off : Nat} (hx : a.eval x = .pointer (some ⟨b, off, none⟩)) {cs : List Value} {d : TypeDesc}
 (hg : ∀ j u, cs[j]? = some u → w.cell? ⟨b, off + j, none⟩ = some u) (hu : P.underlying ty = some d) (hd : (match d with | .struct _ | .array _ _ => true | _ => false) = true) (hi : (P.info? ty).map (·.size) = some cs.length)
 (h : wpList P ops Q rest (a.put o.dst (.agg cs.toArray)) w) : wpList P ops Q (o :: rest) a w := by
 refine wpList_plain hgd fun K' hK' => ?_
 have hl : (loadCells ⟨b, off, none⟩ cs.length).run P w = .ok cs.toArray w :=
  run_loadCells_list (P := P) w ⟨b, off, none⟩ cs (fun j v hv => by rw [add_off]; exact hg j v hv)
 have hr : (loadVar ty ⟨b, off, none⟩).run P w = .ok (.agg cs.toArray) w := by
  cases hq : P.info? ty with
  | none => simp [hq] at hi
  | some i =>
    have hs : i.size = cs.length := by simpa [hq] using hi
    have hagg : (isAgg ty).run P w = .ok true w := by
     unfold isAgg
     rw [Sem.run_bind, run_underlying hu w]
     cases d <;> simp_all
    simp [loadVar, Sem.run_bind, hagg, sizeOf, typeInfo, hq, hs, hl]
 unfold Oper.wp execOp
 simp only [ho, hx, Instr.loadAt, Instr.sureAddr, Sem.run_bind, Sem.run_pure, Result.andThen_ok, hr]
 exact hK' _ _ h
theorem wpList_store_new {Q : Exit → Act → World → Prop} (hgd : o.guard = none) (hdst : o.dst = none) {ty : TypeId} {x y : Operand} (ho : o.op = .store ty x y) {c cs : Array Value} {t : TypeId} (hx : a.eval x = .pointer (some ⟨w.heap.size, 0, none⟩)) (hy : a.eval y = .agg cs)
 (hi : (P.info? ty).map (·.size) = some cs.size) (hold : c.size = cs.size) (h1 : cs.all (·.oneCell') = true)
 (h : wpList P ops Q rest a (w.alloc (.cells cs t))) : wpList P ops Q (o :: rest) a (w.alloc (.cells c t)) := by
 refine wpList_plain hgd fun K' hK' => ?_
 have hg : (w.alloc (.cells c t)).heap[w.heap.size]? = some (.cells c t (0, 0)) := Go.heap_alloc_new w _
 have hr : (storeVar ty ⟨w.heap.size, 0, none⟩ (.agg cs)).run P (w.alloc (.cells c t)) = .ok () (w.alloc (.cells cs t)) := by
  rw [run_storeVar_row _ _ t ty c cs hg hi hold h1, World.setRow_alloc_new]
 unfold Oper.wp execOp
 simp only [ho, hx, hy, Instr.storeAt, Instr.sureAddr, Sem.run_bind, Sem.run_pure, Result.andThen_ok, hr, Oper.upon, hdst, Act.put]
 exact hK' _ _ h
theorem wpQuiet_load_blk {C : World → Prop} {Q : Act → Prop} (hw : Region.wanted o (yielded ops a.tmps) = true) {ty : TypeId} {x : Operand} (ho : o.op = .load ty x) {g : Nat} (hx : a.eval x = .pointer (some ⟨g, 0, none⟩)) {t : TypeId} {cs : List Value} {d : TypeDesc}
 (hg : ∀ w, C w → Blk w g t cs) (hu : P.underlying ty = some d) (hd : (match d with | .struct _ | .array _ _ => true | _ => false) = true) (hi : (P.info? ty).map (·.size) = some cs.length)
 (h : wpQuiet P ops C Q rest (a.put o.dst (.agg cs.toArray))) : wpQuiet P ops C Q (o :: rest) a := by
 refine BigFrame.wpQuiet_want hw fun K hK => ⟨.agg cs.toArray, fun w hC => ?_, hK _ h⟩
 unfold Oper.quietAt execOp
 simp only [ho, hx, Instr.loadAt, Instr.sureAddr, Sem.run_bind, Sem.run_pure, Result.andThen_ok, run_load_blk (hg w hC) hu hd hi, Oper.quietUpon, and_self]
end
end Go.Proofs.YtcmjgghkmdbphaaGreatDoor
namespace Go.Proofs.YtcmjgghkmdbphaaGreatDoor
open Go.RowKit
def dataB : List Str → Nat → Bool → Int → Bool × Int
 | [], _, b, n => (b, n)
 | s :: r, i, b, n => if b then (b, n) else dataB r (i + 1) (decide (20 ≤ i) || (decide (1000 < s.size) || decide (n - s.size < 0))) (n - s.size)
def putsBig : List Put → Bool → Int → Bool
 | [], b, _ => b
 | p :: r, b, n => putsBig r (dataB p.data 0 b n).1 (dataB p.data 0 b n).2
def checkB (b : Batch) : Int := if mayB b then (if putsBig b.puts (decide ((8 : Int) < b.puts.length)) 30000 then 2 else 0) else 1
theorem dataB_true (l : List Str) (i : Nat) (n : Int) : dataB l i true n = (true, n) := by cases l <;> rfl
theorem dataB_drop (l : List Str) (j : Nat) (n : Int) (h : j < l.length) : dataB (l.drop j) j false n = dataB (l.drop (j + 1)) (j + 1) (decide (20 ≤ j) || (decide (1000 < l[j].size) || decide (n - l[j].size < 0))) (n - l[j].size) := by
 rw [List.drop_eq_getElem_cons h]; rfl
theorem putsBig_drop (l : List Put) (k : Nat) (b : Bool) (n : Int) (h : k < l.length) : putsBig (l.drop k) b n = putsBig (l.drop (k + 1)) (dataB l[k].data 0 b n).1 (dataB l[k].data 0 b n).2 := by
 rw [List.drop_eq_getElem_cons h]; rfl
theorem check_any (b : Batch) (A : Option Addr) (c : Nat) (P : Nat → Prop) (w : World) (hr : PutR.Row w P A b.puts) (hl : b.puts.length ≤ 1000000) (hk : sfit b.key) (hd : ∀ p ∈ b.puts, p.data.length ≤ 1000000) (hT : Tabs w) (h2 : 2 ≤ w.heap.size) :
 Calls Tryz.prog 110 #[.agg #[.string b.key, .slice A b.puts.length c]] w fun e w' => e = .returned (.int .i64 (checkB b)) ∧ Below w.heap.size w w' := by
 have HR := jh (hr.mono (Q := fun g => g < w.heap.size) fun g _ h => h)
 have HD := jh hd
 have HM := jh (fun W (h : Below w.heap.size w W) (h' : w.heap.size ≤ W.heap.size) => may_any b A c P W (hr.ext h) hl hk hd (hT.below h) (by omega))
 clear hr hd
 have HL := jh hl; clear hl
 go_enter Tryz.func110, Tryz.ntmps110
 go_wp2_with fail
 have b0 := (Blk.new w 25 [.string b.key, .slice A b.puts.length c])
 have hb0 : Below w.heap.size w (w.alloc (.cells #[.string b.key, .slice A b.puts.length c] 25)) := (jb _ _).al _
 refine (HM.out _ hb0 (by simp)).mono ?_
 rintro e w1 ⟨rfl, hb1⟩
 have B1 := b0.ext hb1
 have hw1 := hb0.tr hb1
 clear b0 hb0 hb1
 generalize hq : mayB b = q
 have HQ := jh hq
 clear hq HM
 cases q
 ·go_wp2_with fail
  go_ret
  exact ⟨by unfold checkB; rw [HQ.out]; rfl, hw1⟩
 ·have b0 : w1.cell? ⟨w.heap.size, 0, none⟩ = some (.string b.key) := B1.cell 0
  have b1 : w1.cell? ⟨w.heap.size, 1, none⟩ = some (.slice A b.puts.length c) := B1.cell 1
  go_wp2_with fail
  clear b0 b1
  go_loopw [3, 4, 6, 7, 18] (fun bg lf _ _ i wr => ∃ (k : Nat) (g : Bool) (n : Int), k ≤ b.puts.length ∧ i = .int .i64 k ∧ bg = .bool g ∧ lf = .int .i64 n ∧ (g = false → 0 ≤ n) ∧ (-9223372036854775808 ≤ n ∧ n ≤ 30000) ∧
   Below w.heap.size w wr ∧ putsBig (b.puts.drop k) g n = putsBig b.puts (decide ((8 : Int) < b.puts.length)) 30000) (fun _ _ _ _ i _ => b.puts.length - (intOf i).toNat)
  case atStart => exact ⟨0, _, _, Nat.zero_le _, rfl, rfl, rfl, fun _ => by omega, by omega, hw1, rfl⟩
  case round =>
   obtain ⟨k, g, n, hkl, rfl, rfl, rfl, hg, hn, hbl, hpb⟩ := hrel
   have HPB := jh hpb; clear hpb
   have HG := jh hg; clear hg
   by_cases hlt : k < b.puts.length
   ·have hlk := jg hlt
    obtain ⟨bb, o, cs, rfl, hP, hbw, hrep, hcs⟩ := (HR.out.ext hbl).at_ hlk
    have hpd := putsBig_drop b.puts k g n hlt
    have hdl := HD.out _ (List.getElem_mem hlt)
    generalize b.puts[k] = p at hlk hrep hpd hdl
    obtain ⟨A2, q2, rfl, hf1, hf2, hf3, hf4, hrow⟩ := put_rep.1 hrep
    have c0 := hcs 0 _ rfl; have c1 := hcs 1 _ rfl; have c2 := hcs 2 _ rfl; simp only [PutR_size, Nat.add_zero] at c0 c1 c2
    have HPD := jh (ja hpd hdl); clear hpd hdl hcs hrep hlk
    have hlt' : (k : Int) < b.puts.length := by omega
    go_wp2_with fail
    have hbx := Blk.new wr 69 [.string p.stream, .int .i64 p.expect, .slice A2 p.data.length q2]
    have hblx := hbl.al (.cells #[.string p.stream, .int .i64 p.expect, .slice A2 p.data.length q2] 69)
    have hrowx := hrow.ext (((jb _ _).al (.cells #[.string p.stream, .int .i64 p.expect, .slice A2 p.data.length q2] 69)))
    have hbxs : Hid (wr.heap.size < (wr.alloc (.cells #[.string p.stream, .int .i64 p.expect, .slice A2 p.data.length q2] 69)).heap.size) := jh (by simp)
    generalize (wr.alloc (.cells #[.string p.stream, .int .i64 p.expect, .slice A2 p.data.length q2] 69)) = wx at *
    generalize wr.heap.size = bx at *
    clear c0 c1 c2
    have HROW := jh hrowx
    have HWK : Hid (wrap64 ((k : Int) + 1) = ((k + 1 : Nat) : Int)) := jh (by have := HL.out; rw [wrap_in _ (by omega)]; rfl)
    go_loopw [3, 4, 7] (fun bg lf j wq => ∃ (m : Nat) (g' : Bool) (n' : Int), m ≤ p.data.length ∧ j = .int .i64 m ∧ bg = .bool g' ∧ lf = .int .i64 n' ∧ (g' = false → 0 ≤ n') ∧ (-9223372036854775808 ≤ n' ∧ n' ≤ 30000) ∧
     Below wx.heap.size wx wq ∧ dataB (p.data.drop m) m g' n' = dataB p.data 0 g n) (fun _ _ j _ => p.data.length - (intOf j).toNat)
    case atStart => exact ⟨0, _, _, Nat.zero_le _, rfl, rfl, rfl, HG.out, hn, jb _ _, rfl⟩
    case round =>
     obtain ⟨m, g', n', hml, rfl, rfl, rfl, hg', hn', hbq, hdb⟩ := hrel
     have c2 : wr.cell? ⟨bx, 2, none⟩ = some (.slice A2 p.data.length q2) := (hbx.ext hbq).cell 2
     have HDB := jh hdb; clear hdb
     have HG' := jh hg'; clear hg'
     by_cases hmt : m < p.data.length
     ·cases g'
      ·have hlk := jg hmt
       obtain ⟨b3, o3, cs, rfl, hP3, hb3, ⟨rfl, hsf⟩, hcs⟩ := (HROW.out.ext hbq).at_ hlk
       have hdd := dataB_drop p.data m n' hmt
       generalize p.data[m] = s at *
       have c0 := hcs 0 _ rfl; simp only [StrR_size, Nat.add_zero, Nat.mul_one] at c0
       have HDD := jh hdd; clear hdd hcs hlk
       have hmt' : (m : Int) < p.data.length := by omega
       have hm6 : (m : Int) ≤ 1000000 := by have := HPD.out.2; omega
       have hn0 := HG'.out rfl
       have hsub : -9223372036854775808 ≤ n' - (s.size : Int) ∧ n' - (s.size : Int) ≤ 9223372036854775807 := by omega
       have HS := jh hsf
       have hnext : ∀ (q : Bool), q = (decide (20 ≤ m) || (decide (1000 < s.size) || decide (n' - s.size < 0))) → (q = false → 0 ≤ n' - (s.size : Int)) ∧ dataB (p.data.drop (m + 1)) (m + 1) q (n' - s.size) = dataB p.data 0 g n := fun q hq => by
        subst hq
        exact ⟨fun h => by simp at h; omega, by rw [← HDB.out, HDD.out]⟩
       have HN := jh hnext; clear hnext
       have HWM : Hid (wrap64 ((m : Int) + 1) = ((m + 1 : Nat) : Int)) := jh (by rw [wrap_in _ (by omega)]; rfl)
       have hw3 : wrap64 (n' - (s.size : Int)) = n' - (s.size : Int) := wrap_in _ hsub
       have hcase : (20 : Int) ≤ m ∨ (¬ (20 : Int) ≤ m ∧ (1000 : Int) < s.size) ∨ (¬ (20 : Int) ≤ m ∧ ¬ (1000 : Int) < s.size ∧ n' - (s.size : Int) < 0) ∨ (¬ (20 : Int) ≤ m ∧ ¬ (1000 : Int) < s.size ∧ ¬ n' - (s.size : Int) < 0) := by omega
       rcases hcase with g | g | g | g
       ·have G := jh g
        clear g
        have g1 : (20 : Int) ≤ m := G.out
        go_wp2_with fail
        go_round
        case rel =>
         have hv : true = (decide (20 ≤ m) || (decide (1000 < s.size) || decide (n' - s.size < 0))) := by
          have := G.out
          clear G
          by_cases h1 : 20 ≤ m <;> by_cases h2 : 1000 < s.size <;> by_cases h3 : n' - (s.size : Int) < 0 <;> simp [h1, h2, h3] <;> omega
         have := HN.out true hv
         exact ⟨m + 1, _, _, by omega, by first | rfl | rw [HWM.out], rfl, rfl, this.1, by omega, hbq, this.2⟩
        case measure => first | (simp [intOf]; omega) | (rw [HWM.out]; simp [intOf]; omega)
       ·have G := jh g
        clear g
        (have g1 : decide ((20 : Int) ≤ m) = false := jd (by have := G.out ; omega)) ; (have g2 : (1000 : Int) < s.size := G.out.2)
        go_wp2_with fail
        go_round
        case rel =>
         have hv : true = (decide (20 ≤ m) || (decide (1000 < s.size) || decide (n' - s.size < 0))) := by
          have := G.out
          clear G
          by_cases h1 : 20 ≤ m <;> by_cases h2 : 1000 < s.size <;> by_cases h3 : n' - (s.size : Int) < 0 <;> simp [h1, h2, h3] <;> omega
         have := HN.out true hv
         exact ⟨m + 1, _, _, by omega, by first | rfl | rw [HWM.out], rfl, rfl, this.1, by omega, hbq, this.2⟩
        case measure => first | (simp [intOf]; omega) | (rw [HWM.out]; simp [intOf]; omega)
       ·have G := jh g
        clear g
        (have g1 : decide ((20 : Int) ≤ m) = false := jd (by have := G.out ; omega)) ; (have g2 : decide ((1000 : Int) < s.size) = false := jd (by have := G.out ; omega)) ; (have g3 : n' - (s.size : Int) < 0 := G.out.2.2)
        go_wp2_with fail
        go_round
        case rel =>
         have hv : true = (decide (20 ≤ m) || (decide (1000 < s.size) || decide (n' - s.size < 0))) := by
          have := G.out
          clear G
          by_cases h1 : 20 ≤ m <;> by_cases h2 : 1000 < s.size <;> by_cases h3 : n' - (s.size : Int) < 0 <;> simp [h1, h2, h3] <;> omega
         have := HN.out true hv
         exact ⟨m + 1, _, _, by omega, by first | rfl | rw [HWM.out], rfl, rfl, this.1, by omega, hbq, this.2⟩
        case measure => first | (simp [intOf]; omega) | (rw [HWM.out]; simp [intOf]; omega)
       ·have G := jh g
        clear g
        (have g1 : decide ((20 : Int) ≤ m) = false := jd (by have := G.out ; omega)) ; (have g2 : decide ((1000 : Int) < s.size) = false := jd (by have := G.out ; omega)) ; (have g3 : decide (n' - (s.size : Int) < 0) = false := jd (by have := G.out ; omega))
        go_wp2_with fail
        go_round
        case rel =>
         have hv : false = (decide (20 ≤ m) || (decide (1000 < s.size) || decide (n' - s.size < 0))) := by
          have := G.out
          clear G
          by_cases h1 : 20 ≤ m <;> by_cases h2 : 1000 < s.size <;> by_cases h3 : n' - (s.size : Int) < 0 <;> simp [h1, h2, h3] <;> omega
         have := HN.out false hv
         exact ⟨m + 1, _, _, by omega, by first | rfl | rw [HWM.out], rfl, rfl, this.1, by omega, hbq, this.2⟩
        case measure => first | (simp [intOf]; omega) | (rw [HWM.out]; simp [intOf]; omega)
      ·go_wp2_with fail
       go_round
       case rel =>
        have h := HDB.out
        rw [dataB_true] at h
        have hp := HPB.out
        rw [HPD.out.1, ← h] at hp
        exact ⟨k + 1, _, _, by omega, by rw [HWK.out], rfl, rfl, (fun h => by cases h), by omega, hblx.tr hbq, hp⟩
       case measure => rw [HWK.out]; simp [intOf]; omega
     ·have hmn : m = p.data.length := by omega
      subst hmn
      go_wp2_with fail
      go_round
      case rel =>
       have h := HDB.out
       rw [List.drop_length] at h
       change (g', n') = _ at h
       have hp := HPB.out
       rw [HPD.out.1, ← h] at hp
       exact ⟨k + 1, _, _, by omega, by rw [HWK.out], rfl, rfl, HG'.out, by omega, hblx.tr hbq, hp⟩
      case measure => rw [HWK.out]; simp [intOf]; omega
   ·have hkn : k = b.puts.length := by omega
    subst hkn
    have hp := HPB.out
    rw [List.drop_length] at hp
    change g = _ at hp
    have HP := jh hp
    clear hp
    cases g
    ·go_wp2_with fail
     go_ret
     exact ⟨by unfold checkB; rw [HQ.out, ← HP.out]; rfl, hbl⟩
    ·go_wp2_with fail
     go_ret
     exact ⟨by unfold checkB; rw [HQ.out, ← HP.out]; rfl, hbl⟩
end Go.Proofs.YtcmjgghkmdbphaaGreatDoor
namespace Go.Proofs.YtcmjgghkmdbphaaGreatDoor
open Go.RowKit
theorem decode_four (s : ByteArray) (i : Nat) : (Utf8.decode s i).2 ≤ 4 := by
 unfold Utf8.decode
 dsimp only
 repeat' split
 all_goals simp
theorem everyFrom_short {p : Int → Bool} {most : Int} {s : Str} : ∀ (f pos : Nat) (n : Int), everyFrom p most s f pos n = true → s.size < f + pos → n ≤ most → (s.size : Int) ≤ pos + 4 * (most - n)
 | 0, pos, n, _, h, hn => by omega
 | f + 1, pos, n, h, hs, hn => by
   unfold everyFrom at h
   by_cases hp : pos < s.size
   ·rw [if_pos hp] at h
    by_cases hq : (decide (n + 1 ≤ most) && p (Utf8.decode s pos).1) = true
    ·rw [if_pos (by simpa using hq)] at h
     have h1 : n + 1 ≤ most := by simp at hq; exact hq.1
     have h2 := decode_width s pos
     have h4 := decode_four s pos
     have := everyFrom_short f _ _ h (by omega) h1
     omega
    ·rw [if_neg (by simpa using hq)] at h; cases h
   ·omega
theorem everyB_short {p : Int → Bool} {s : Str} (h : everyB p 40 s = true) : s.size ≤ 160 := by
 simp only [everyB, Bool.and_eq_true] at h
 have := everyFrom_short _ _ _ h.1 (by omega) (by omega)
 omega
theorem nameB_short {s : Str} (h : nameB s = true) : s.size ≤ 160 := by
 simp only [nameB, Bool.and_eq_true] at h
 exact everyB_short h.2
theorem keyB_short {s : Str} (h : keyB s = true) : s.size ≤ 160 := everyB_short h
theorem dataB_false : ∀ (l : List Str) (i : Nat) (b : Bool) (n : Int), (dataB l i b n).1 = false → b = false ∧ (l.length = 0 ∨ i + l.length ≤ 20) ∧ ∀ s ∈ l, s.size ≤ 1000
 | [], i, b, n, h => ⟨h, .inl rfl, by simp⟩
 | s :: r, i, true, n, h => by simp [dataB] at h
 | s :: r, i, false, n, h => by
   simp only [dataB, Bool.false_eq_true, if_false] at h
   obtain ⟨h1, h2, h3⟩ := dataB_false r _ _ _ h
   simp only [Bool.or_eq_false_iff, decide_eq_false_iff_not] at h1
   refine ⟨rfl, .inr ?_, fun t ht => ?_⟩
   ·simp only [List.length_cons]; omega
   ·rcases List.mem_cons.1 ht with rfl | ht
    ·omega
    ·exact h3 t ht
theorem putsBig_false : ∀ (l : List Put) (b : Bool) (n : Int), putsBig l b n = false → b = false ∧ ∀ p ∈ l, p.data.length ≤ 20 ∧ ∀ s ∈ p.data, s.size ≤ 1000
 | [], b, n, h => ⟨h, by simp⟩
 | p :: r, b, n, h => by
   unfold putsBig at h
   obtain ⟨h1, h2⟩ := putsBig_false r _ _ h
   obtain ⟨h3, h4, h5⟩ := dataB_false _ _ _ _ h1
   refine ⟨h3, fun q hq => ?_⟩
   rcases List.mem_cons.1 hq with rfl | hq
   ·exact ⟨by omega, h5⟩
   ·exact h2 q hq
theorem putsB_names : ∀ (l r : List Put), putsB l r = true → ∀ p ∈ r, nameB p.stream = true ∧ p.data ≠ [] ∧ p.data = p.data.filter validB ∧ -1 ≤ p.expect ∧ p.expect ≤ 1099511627776
 | _, [], _, p, hp => by simp at hp
 | l, q :: r, h, p, hp => by
   simp only [putsB, Bool.and_eq_true] at h
   rcases List.mem_cons.1 hp with rfl | hp
   ·have := putB_iff.1 h.1
    exact ⟨this.1, this.2.2.2.2.1, this.2.2.2.2.2, this.2.2.1, this.2.2.2.1⟩
   ·exact putsB_names _ r h.2 p hp
structure Batch.Good (b : Batch) : Prop where
 key : keyB b.key = true
 some : b.puts ≠ []
 few : b.puts.length ≤ 8
 puts : ∀ p ∈ b.puts, (p.data.length ≤ 20 ∧ ∀ s ∈ p.data, s.size ≤ 1000) ∧ nameB p.stream = true ∧ p.data ≠ [] ∧ p.data = p.data.filter validB ∧ -1 ≤ p.expect ∧ p.expect ≤ 1099511627776
theorem checkB_good {b : Batch} (h : checkB b = 0) : b.Good := by
 unfold checkB at h
 by_cases hm : mayB b = true
 ·rw [if_pos hm] at h
  cases hp : putsBig b.puts (decide ((8 : Int) < b.puts.length)) 30000
  ·obtain ⟨h1, h2⟩ := putsBig_false _ _ _ hp
   simp only [mayB, Bool.and_eq_true, decide_eq_true_eq] at hm
   exact ⟨hm.2.1, hm.2.2, by simp at h1; omega, fun p hq => ⟨h2 p hq, putsB_names _ _ hm.1 p hq⟩⟩
  ·rw [hp, if_pos rfl] at h; cases h
 ·rw [if_neg hm] at h; cases h
theorem u64_blk1 {w : World} {g : Nat} {t : TypeId} {x : Int} (h : Blk w g t [.int .u64 x]) (hx : 0 ≤ x ∧ x < limV 0) : U64R.Row w (· = g) (some ⟨g, 0, none⟩) [x] := fun _ => by
 refine ⟨g, 0, rfl, rfl, h.lt, fun i a hi => ?_⟩
 match i, hi with
 | 0, hi =>
   simp at hi; subst hi
   exact ⟨[_], ⟨rfl, hx⟩, fun j u hu => by rw [h.cell]; simpa using hu⟩
theorem u64_blk2 {w : World} {g : Nat} {t : TypeId} {x y : Int} (h : Blk w g t [.int .u64 x, .int .u64 y]) (hx : 0 ≤ x ∧ x < limV 0) (hy : 0 ≤ y ∧ y < limV 0) : U64R.Row w (· = g) (some ⟨g, 0, none⟩) [x, y] := fun _ => by
 refine ⟨g, 0, rfl, rfl, h.lt, fun i a hi => ?_⟩
 match i, hi with
 | 0, hi =>
   simp at hi; subst hi
   exact ⟨[_], ⟨rfl, hx⟩, fun j u hu => by
    rw [h.cell]
    match j, hu with
    | 0, hu => simpa using hu⟩
 | 1, hi =>
   simp at hi; subst hi
   exact ⟨[_], ⟨rfl, hy⟩, fun j u hu => by
    rw [h.cell]
    match j, hu with
    | 0, hu => simpa [U64R] using hu⟩
theorem nums1_ex (v : Value) (n base g : Nat) (t : TypeId) (x : Int) (w : World) (hv : Bts w base v n) (hg : Blk w g t [.int .u64 x]) (hx : 0 ≤ x ∧ x < limV 0) (hl : n ≤ 90000000) (hb : base ≤ w.heap.size) (hd : some g ≠ v.ownBlock) :
 Calls Tryz.prog 230 #[v, .slice (some ⟨g, 0, none⟩) 1 1] w fun e w' => GotMore w v base (n + vlen x) (n + vlen x) e w' ∧ Only (fun g => v.ownBlock = some g) w w' := by
 have h := nums_ex v n base _ 1 [x] (· = g) w hv (u64_blk1 hg hx) hl (by simp) hb (fun k hk => by rw [hk]; exact hd)
 have e : sumV [x] = vlen x := by simp [sumV]
 rw [e] at h; exact h
theorem nums2_ex (v : Value) (n base g : Nat) (t : TypeId) (x y : Int) (w : World) (hv : Bts w base v n) (hg : Blk w g t [.int .u64 x, .int .u64 y]) (hx : 0 ≤ x ∧ x < limV 0) (hy : 0 ≤ y ∧ y < limV 0) (hl : n ≤ 90000000) (hb : base ≤ w.heap.size) (hd : some g ≠ v.ownBlock) :
 Calls Tryz.prog 230 #[v, .slice (some ⟨g, 0, none⟩) 2 2] w fun e w' => GotMore w v base (n + (vlen x + vlen y)) (n + (vlen x + vlen y)) e w' ∧ Only (fun g => v.ownBlock = some g) w w' := by
 have h := nums_ex v n base _ 2 [x, y] (· = g) w hv (u64_blk2 hg hx hy) hl (by simp) hb (fun k hk => by rw [hk]; exact hd)
 have e : sumV [x, y] = vlen x + vlen y := by simp [sumV]
 rw [e] at h; exact h
def OnB (B : Nat) (W w : World) : Prop := Below B W w
instance {B : Nat} {W : World} : Nonempty (Wd (OnB B W)) := ⟨⟨W, jb _ _⟩⟩
theorem OnB.cell {B : Nat} {W : World} {b o : Nat} {v : Value} (hb : b < B) (h : W.cell? ⟨b, o, none⟩ = some v) (d : Wd (OnB B W)) : d.w.cell? ⟨b, o, none⟩ = some v := (Below.cell d.ok (p := ⟨b, o, none⟩) hb).trans h
def lenD (l : List Str) : Nat := (l.map fun s => vlen s.size + s.size).sum
def lenP (p : Put) : Nat := (vlen p.stream.size + p.stream.size) + (vlen (zigI p.expect) + vlen p.data.length) + lenD p.data
def lensP (l : List Put) : Nat := (l.map lenP).sum
def lenB0 (b : Batch) : Nat := (vlen b.key.size + b.key.size) + vlen b.puts.length
def lenB (b : Batch) : Nat := lenB0 b + lensP b.puts
theorem lenD_take {l : List Str} {k : Nat} (h : k < l.length) : lenD (l.take (k + 1)) = lenD (l.take k) + (vlen l[k].size + l[k].size) := by
 unfold lenD; rw [take_snoc l k h, List.map_append, List.sum_append]; simp
theorem lensP_take {l : List Put} {k : Nat} (h : k < l.length) : lensP (l.take (k + 1)) = lensP (l.take k) + lenP l[k] := by
 unfold lensP; rw [take_snoc l k h, List.map_append, List.sum_append]; simp
theorem lenD_bd : ∀ l : List Str, (∀ s ∈ l, s.size ≤ 1000) → lenD l ≤ 1010 * l.length
 | [], _ => by simp [lenD]
 | a :: l, h => by
   have h1 := lenD_bd l fun s hs => h s (by simp [hs])
   have h2 := h a (by simp)
   have h3 := vlen_bd a.size
   have e : lenD (a :: l) = (vlen a.size + a.size) + lenD l := by simp [lenD]
   rw [e, List.length_cons]; omega
theorem lensP_bd : ∀ l : List Put, (∀ p ∈ l, lenP p ≤ 20400) → lensP l ≤ 20400 * l.length
 | [], _ => by simp [lensP]
 | a :: l, h => by
   have h1 := lensP_bd l fun s hs => h s (by simp [hs])
   have h2 := h a (by simp)
   have e : lensP (a :: l) = lenP a + lensP l := by simp [lensP]
   rw [e, List.length_cons]; omega
theorem lenB_bd {b : Batch} (h : checkB b = 0) : 1 ≤ lenB b ∧ lenB b ≤ 400000 := by
 have hg := checkB_good h
 have h1 := keyB_short hg.key
 have h2 := hg.few
 have h3 := lensP_bd b.puts fun p hp => by
  have q := hg.puts p hp
  have q1 := nameB_short q.2.1
  have q2 := lenD_bd p.data q.1.2
  have q3 := q.1.1
  have b1 := vlen_bd p.stream.size
  have b2 := vlen_bd (zigI p.expect)
  have b3 := vlen_bd p.data.length
  unfold lenP; omega
 have b1 := vlen_bd b.key.size
 have b2 := vlen_bd b.puts.length
 unfold lenB lenB0; omega
theorem encodeB_ex (b : Batch) (A : Option Addr) (c : Nat) (P : Nat → Prop) (w : World) (hr : PutR.Row w P A b.puts) (hl : b.puts.length ≤ 1000000) (hk : sfit b.key) (hd : ∀ p ∈ b.puts, p.data.length ≤ 1000000) (hT : Tabs w) (h2 : 2 ≤ w.heap.size) :
 Calls Tryz.prog 138 #[.agg #[.string b.key, .slice A b.puts.length c]] w fun e w' => GotEnc (decide (checkB b = 0)) w.heap.size (lenB b) (lenB b) e w' ∧ Below w.heap.size w w' := by
 have HBV := jh (ja (vlen_bd b.key.size) (vlen_bd b.puts.length))
 have HWP : Hid (IntKind.u64.wrap (b.puts.length : Int) = b.puts.length) := jh (by rw [IntKind.wrap_u64]; omega)
 have C := check_any b A c P (w.alloc (.cells #[.string b.key, .slice A b.puts.length c] 25)) (hr.ext ((jb _ _).al _)) hl hk hd (hT.below ((jb _ _).al _)) (by simp; omega)
 have HR := jh (hr.mono (Q := fun g => g < w.heap.size) fun g _ h => h)
 have HL := jh hl
 clear hr hd hl
 by_cases hc : checkB b = 0
 ·have HG := jh (checkB_good hc)
  have HC := jh hc
  rw [hc] at C
  clear hc
  go_enter Tryz.func138, Tryz.ntmps138
  go_wp2_with fail
  refine C.mono ?_
  clear C
  rintro e w1 ⟨rfl, hb1⟩
  have B1 := (Blk.new w 25 [.string b.key, .slice A b.puts.length c]).ext hb1
  have hw1 : Below w.heap.size w w1 := ((jb _ _).al _).tr hb1
  have hz1 := hb1.size
  simp only [World.size_alloc] at hz1
  have hdr : w1.drew.heap.size = w1.heap.size := rfl
  clear hb1
  have x0 := OnB.cell (B := w.heap.size + 1) (W := w1) (by omega) (B1.cell 0 : w1.cell? ⟨w.heap.size, 0, none⟩ = some (.string b.key))
  have x1 := OnB.cell (B := w.heap.size + 1) (W := w1) (by omega) (B1.cell 1 : w1.cell? ⟨w.heap.size, 1, none⟩ = some (.slice A b.puts.length c))
  go_wp2_with fail
  go_cut [3] from 11 to 19 (fun v wx => ∃ n, Bts wx (w.heap.size + 1) v n ∧ 1 ≤ n ∧ n ≤ 200 ∧ Below (w.heap.size + 1) w1 wx ∧ Hid (n = lenB0 b))
  case first =>
   refine wp_region_mix (.fork [0, 1, 3, 4, 5, 6] 2 (.seg [] 7 (.seg [] 8 (.leaf [9]))) 7 (.seg [] 2 (.seg [] 8 (.leaf [9])))) (fun w' => ∃ d : Wd (OnB (w.heap.size + 1) w1), w' = d.w) (by kernel_rfl) (by kernel_rfl) (fun _ _ d _ _ h => by cases d <;> exact h) (ClsW.mk (jb _ _).drew) ?_
   unfold wpMix; simp only [pick, j1, j2, j3, j4]
   (repeat (show wpQuiet _ _ _ _ (_ :: _) _; go_big_quiet_step (fail))); refine qn ?_
   constructor
   ·go_wp2_with fail
    refine (text_ex _ 0 0 b.key _ (Bts.nil_ _ _) (by have := keyB_short HG.out.key; have := HBV.out; omega)).mono ?_
    rintro e w2 ⟨⟨v2, n2, rfl, hv2, hn2, hn2'⟩, hb2'⟩
    have hb2 : Below w1.heap.size w1 w2 := (jb _ w1).drew.tr hb2'
    clear hb2'
    go_wp2_with fail
    dsimp only [wpList, SegQ]
    refine ⟨fun w' => ∃ d : Wd (OnB (w.heap.size + 1) w1), w' = d.w, ClsW.mk (hb2.mono (by omega)), fun _ h => h, ?_⟩
    unfold wpMix; simp only [pick, j1, j2, j3, j4]
    (repeat (show wpQuiet _ _ _ _ (_ :: _) _; go_big_quiet_step (fail))); refine qn ?_
    go_wp2_with fail
    dsimp only [wpList, SegQ]
    refine ⟨fun w' => ∃ d : Wd (OnB (w.heap.size + 1) w1), w' = d.w, ClsW.mk ((hb2.mono (by omega)).alloc (by have := hb2.size; omega) _), fun _ h => h, ?_⟩
    unfold wpMix; simp only [pick, j1, j2, j3, j4]
    (repeat (show wpQuiet _ _ _ _ (_ :: _) _; go_big_quiet_step (fail))); refine qn ?_
    go_wp2_with fail
    have hne : some w2.heap.size ≠ v2.ownBlock := fun h => by have := (hv2.lt _ h.symm).2; omega
    refine (nums1_ex v2 n2 (w.heap.size + 1) w2.heap.size 303 _ _ ((hv2.base_ hz1).ext ((jb _ _).al _)) (Blk.new w2 _ _) (wrap_u64_bd _) (by have := keyB_short HG.out.key; have := HBV.out; omega) (by have := hb2.size; simp; omega) hne).mono ?_
    rintro e w3 ⟨⟨v3, n3, rfl, hv3, hn3, hn3', _⟩, ho3⟩
    have hb3 : Below (w.heap.size + 1) w1 w3 := ((hb2.mono hz1).alloc (by have := hb2.size; omega) _).trans (ho3.low (fun g hg => by have := (hv2.lt g hg).1; exact Nat.le_trans hz1 this) (by have := hb2.size; simp; omega))
    go_wp2_with fail
    dsimp only [wpList, SegQ]
    refine ⟨fun w' => ∃ d : Wd (OnB (w.heap.size + 1) w1), w' = d.w, ClsW.mk hb3, fun _ h => h, ?_⟩
    unfold wpMix; simp only [pick, j1, j2, j3, j4]
    (repeat (show wpQuiet _ _ _ _ (_ :: _) _; go_big_quiet_step (fail))); refine qn ?_
    go_wp2_with fail
    go_meet
    rw [HWP.out] at hn3 hn3'
    have := HBV.out
    exact ⟨n3, hv3, by omega, by have := keyB_short HG.out.key; omega, hb3, jh (by unfold lenB0; omega)⟩
   ·go_wp2_with fail
    dsimp only [wpList, SegQ]
    refine ⟨fun w' => ∃ d : Wd (OnB (w.heap.size + 1) w1), w' = d.w, ClsW.mk ((jb _ w1).drew.alloc (by omega) _), fun _ h => h, ?_⟩
    unfold wpMix; simp only [pick, j1, j2, j3, j4]
    (repeat (show wpQuiet _ _ _ _ (_ :: _) _; go_big_quiet_step (fail))); refine qn ?_
    go_wp2_with fail
    refine (text_ex _ 0 0 b.key _ (Bts.nil_ _ _) (by have := keyB_short HG.out.key; have := HBV.out; omega)).mono ?_
    rintro e w2 ⟨⟨v2, n2, rfl, hv2, hn2, hn2'⟩, hb2'⟩
    have hb2 := (jb (w.heap.size + 1) w1).drew.trans (((jb _ w1.drew).alloc hz1 _).trans (hb2'.mono (by simp; omega)))
    have hg2 := (Blk.new w1.drew 303 [.int .u64 (IntKind.u64.wrap b.puts.length)]).ext hb2'
    have hz2 := hb2'.size
    have hlt2 := hv2.lt
    clear hb2'
    go_wp2_with fail
    dsimp only [wpList, SegQ]
    refine ⟨fun w' => ∃ d : Wd (OnB (w.heap.size + 1) w1), w' = d.w, ClsW.mk hb2, fun _ h => h, ?_⟩
    unfold wpMix; simp only [pick, j1, j2, j3, j4]
    (repeat (show wpQuiet _ _ _ _ (_ :: _) _; go_big_quiet_step (fail))); refine qn ?_
    go_wp2_with fail
    have hne : some w1.heap.size ≠ v2.ownBlock := fun h => by have := (hlt2 _ h.symm).1; simp at this; omega
    refine (nums1_ex v2 n2 (w.heap.size + 1) w1.heap.size 303 _ _ (hv2.base_ (by simp; omega)) hg2 (wrap_u64_bd _) (by have := keyB_short HG.out.key; have := HBV.out; omega) (by simp at hz2; omega) hne).mono ?_
    rintro e w3 ⟨⟨v3, n3, rfl, hv3, hn3, hn3', _⟩, ho3⟩
    have hb3 : Below (w.heap.size + 1) w1 w3 := hb2.trans (ho3.low (fun g hg => by have := (hlt2 g hg).1; simp at this; omega) (by simp at hz2; omega))
    go_wp2_with fail
    dsimp only [wpList, SegQ]
    refine ⟨fun w' => ∃ d : Wd (OnB (w.heap.size + 1) w1), w' = d.w, ClsW.mk hb3, fun _ h => h, ?_⟩
    unfold wpMix; simp only [pick, j1, j2, j3, j4]
    (repeat (show wpQuiet _ _ _ _ (_ :: _) _; go_big_quiet_step (fail))); refine qn ?_
    go_wp2_with fail
    go_meet
    rw [HWP.out] at hn3 hn3'
    have := HBV.out
    exact ⟨n3, hv3, by omega, by have := keyB_short HG.out.key; omega, hb3, jh (by unfold lenB0; omega)⟩
  case rest =>
   obtain ⟨n0, hv0, hn0, hn0', hbc, HN0⟩ := hcut
   clear x0 x1
   have x1 : wc.cell? ⟨w.heap.size, 1, none⟩ = some (.slice A b.puts.length c) := (Below.cell hbc (p := ⟨w.heap.size, 1, none⟩) (by show w.heap.size < _; omega)).trans (B1.cell 1)
   have hlc := hbc.size
   go_wp2_with fail
   clear x1
   go_loopw [3, 5, 7, 23, 43] (fun out _ _ i _ wr => ∃ (k n : Nat), k ≤ b.puts.length ∧ i = .int .i64 k ∧ Bts wr (w.heap.size + 1) out n ∧ 1 ≤ n ∧ n ≤ 200 + 20400 * k ∧ Below (w.heap.size + 1) w1 wr ∧ Hid (n = lenB0 b + lensP (b.puts.take k))) (fun _ _ _ i _ _ => b.puts.length - (intOf i).toNat)
   case atStart => exact ⟨0, n0, Nat.zero_le _, rfl, hv0, by omega, by omega, hbc, jh (by have := HN0.out; simpa [lensP] using this)⟩
   case round =>
    obtain ⟨k, n, hkl, rfl, hv, hn1, hn2, hbl, HN⟩ := hrel
    have hzr := hbl.size
    have h8 := HG.out.few
    by_cases hlt : k < b.puts.length
    ·have hlk := jg hlt
     obtain ⟨bb, o, cs, rfl, hP, hbw, hrep, hcs⟩ := (HR.out.ext (hw1.trans (hbl.mono (by omega)))).at_ hlk
     have hgp := HG.out.puts _ (List.getElem_mem hlt)
     have HTK := lensP_take hlt
     generalize b.puts[k] = p at hlk hrep hgp HTK
     replace HTK := jh HTK
     have HVP := jh (ja (vlen_bd p.stream.size) (ja (vlen_bd (zigI p.expect)) (vlen_bd p.data.length)))
     obtain ⟨A2, q2, rfl, hf1, hf2, hf3, hf4, hrow⟩ := put_rep.1 hrep
     have c0 := hcs 0 _ rfl; have c1 := hcs 1 _ rfl; have c2 := hcs 2 _ rfl; simp only [PutR_size, Nat.add_zero] at c0 c1 c2
     have HP := jh hgp; clear hgp hcs hrep hlk
     have hlt' : (k : Int) < b.puts.length := by omega
     go_wp2_with fail
     have hbx := Blk.new wr 69 [.string p.stream, .int .i64 p.expect, .slice A2 p.data.length q2]
     have hax := (jb wr.heap.size wr).al (.cells #[.string p.stream, .int .i64 p.expect, .slice A2 p.data.length q2] 69)
     have hrowx := hrow.ext hax
     have hvx := hv.ext hax
     have hzx : (wr.alloc (.cells #[.string p.stream, .int .i64 p.expect, .slice A2 p.data.length q2] 69)).heap.size = wr.heap.size + 1 := by simp
     have hblx := hbl.trans (hax.mono (by omega))
     clear c0 c1 c2 hrow hv
     generalize (wr.alloc (.cells #[.string p.stream, .int .i64 p.expect, .slice A2 p.data.length q2] 69)) = wx at *
     generalize wr.heap.size = bx at *
     have x0 := OnB.cell (B := bx + 1) (W := wx) (by omega) (hbx.cell 0 : wx.cell? ⟨bx, 0, none⟩ = some (.string p.stream))
     have x1 := OnB.cell (B := bx + 1) (W := wx) (by omega) (hbx.cell 1 : wx.cell? ⟨bx, 1, none⟩ = some (.int .i64 p.expect))
     have x2 := OnB.cell (B := bx + 1) (W := wx) (by omega) (hbx.cell 2 : wx.cell? ⟨bx, 2, none⟩ = some (.slice A2 p.data.length q2))
     have hdx : wx.drew.heap.size = wx.heap.size := rfl
     refine wp_region_mix (.seg [0, 1, 2, 4, 5, 7, 8, 9, 10] 3 (.seg [] 6 (.seg [] 11 (.seg [] 12 (.leaf [13]))))) (fun w' => ∃ d : Wd (OnB (bx + 1) wx), w' = d.w) (by kernel_rfl) (by kernel_rfl) (fun _ _ d _ _ h => by cases d <;> exact h) (ClsW.mk (jb _ _).drew) ?_
     unfold wpMix; simp only [pick, j1, j2, j3, j4]
     (repeat (show wpQuiet _ _ _ _ (_ :: _) _; go_big_quiet_step (fail))); refine qn ?_
     go_wp2_with fail
     refine (text_ex _ n (w.heap.size + 1) p.stream _ (hvx.ext (jb _ _).drew) (by have := nameB_short HP.out.2.1; have := HVP.out; omega)).mono ?_
     rintro e w2 ⟨⟨v2, n2, rfl, hv2, hm2, hm2'⟩, hb2'⟩
     have hb2 : Below wx.heap.size wx w2 := (jb _ wx).drew.tr hb2'
     have hz2 := hb2.size
     have hlt2 := hv2.lt
     clear hb2'
     go_wp2_with fail
     dsimp only [wpList, SegQ]
     refine ⟨fun w' => ∃ d : Wd (OnB (bx + 1) wx), w' = d.w, ClsW.mk (hb2.mono (by omega)), fun _ h => h, ?_⟩
     unfold wpMix; simp only [pick, j1, j2, j3, j4]
     (repeat (show wpQuiet _ _ _ _ (_ :: _) _; go_big_quiet_step (fail))); refine qn ?_
     go_wp2_with fail
     refine (zig_ex p.expect _ hf2).mono ?_
     rintro e w2' ⟨rfl, rfl⟩
     have hz := zigI_bd hf2
     generalize hzz : zigI p.expect = z at *
     replace hzz := jh hzz
     go_wp2_with fail
     dsimp only [wpList, SegQ]
     refine ⟨fun w' => ∃ d : Wd (OnB (bx + 1) wx), w' = d.w, ClsW.mk (hb2.mono (by omega)), fun _ h => h, ?_⟩
     unfold wpMix; simp only [pick, j1, j2, j3, j4]
     (repeat (show wpQuiet _ _ _ _ (_ :: _) _; go_big_quiet_step (fail))); refine qn ?_
     go_wp2_with fail
     dsimp only [wpList, SegQ]
     refine ⟨fun w' => ∃ d : Wd (OnB (bx + 1) wx), w' = d.w, ClsW.mk ((hb2.mono (by omega)).alloc (by omega) _), fun _ h => h, ?_⟩
     unfold wpMix; simp only [pick, j1, j2, j3, j4]
     (repeat (show wpQuiet _ _ _ _ (_ :: _) _; go_big_quiet_step (fail))); refine qn ?_
     go_wp2_with fail
     have hne : some w2.heap.size ≠ v2.ownBlock := fun h => by have := (hlt2 _ h.symm).2; omega
     refine (nums2_ex v2 n2 (bx + 1) w2.heap.size 303 z (p.data.length : Int) (w2.alloc (.cells #[.int .u64 z, .int .u64 (p.data.length : Int)] 303)) ((hv2.base_ (by omega)).ext ((jb _ _).al _)) (Blk.new w2 _ _) hz ⟨by omega, by simp only [limV]; have := HP.out.1.1; omega⟩ (by have := nameB_short HP.out.2.1; have := HVP.out; omega) (by simp; omega) hne).mono ?_
     rintro e w3 ⟨⟨v3, n3, rfl, hv3, hn3, hn3', _⟩, ho3⟩
     have hb3 : Below (bx + 1) wx w3 := ((hb2.mono (by omega)).alloc (by omega) _).trans (ho3.low (fun g hg => by have := (hlt2 g hg).1; omega) (by simp; omega))
     have hz3 := hb3.size
     go_wp2_with fail
     dsimp only [wpList, SegQ]
     refine ⟨fun w' => ∃ d : Wd (OnB (bx + 1) wx), w' = d.w, ClsW.mk hb3, fun _ h => h, ?_⟩
     unfold wpMix; simp only [pick, j1, j2, j3, j4]
     (repeat (show wpQuiet _ _ _ _ (_ :: _) _; go_big_quiet_step (fail))); refine qn ?_
     have hl3 := hb3
     have y2 : w3.cell? ⟨bx, 2, none⟩ = some (.slice A2 p.data.length q2) := x2 ⟨w3, hb3⟩
     have hv3' := hv3.base_ (show w.heap.size + 1 ≤ bx + 1 by omega)
     have hrow3 := hrowx.same (w' := w3) (Same.of_belowB (B := bx) (hb3.mono (by omega)) (fun g hg => by omega)) (by omega)
     have hbl3 : Below (w.heap.size + 1) w1 w3 := hblx.trans (hb3.mono (by omega))
     have hmn : n3 ≤ n + 200 := by have := nameB_short HP.out.2.1; have := HVP.out; omega
     have hn31 : 1 ≤ n3 := by omega
     have HN3 : Hid (n3 = n + ((vlen p.stream.size + p.stream.size) + (vlen z + vlen p.data.length))) := jh (by omega)
     have HROW := jh hrow3
     have HWK : Hid (wrap64 ((k : Int) + 1) = ((k + 1 : Nat) : Int)) := jh (by have := HL.out; rw [wrap_in _ (by omega)]; rfl)
     clear x0 x1 x2 hl3 hb3 ho3 hv3 hv2 hlt2 hb2 hrow3 hrowx hvx hn3 hn3' hm2 hm2'
     go_wp2_with fail
     clear y2
     go_loopw [3, 7, 43] (fun out _ j wr => ∃ (m n' : Nat), m ≤ p.data.length ∧ j = .int .i64 m ∧ Bts wr (w.heap.size + 1) out n' ∧ 1 ≤ n' ∧ n' ≤ n3 + 1010 * m ∧ Below w3.heap.size w3 wr ∧ Hid (n' = n3 + lenD (p.data.take m))) (fun _ _ j _ => p.data.length - (intOf j).toNat)
     case atStart => exact ⟨0, n3, Nat.zero_le _, rfl, hv3', by omega, by omega, jb _ _, jh (by simp [lenD])⟩
     case round =>
      obtain ⟨m, n', hml, rfl, hv', hn1', hn2', hbq, HM⟩ := hrel
      have h20 := HP.out.1.1
      by_cases hmt : m < p.data.length
      ·have hlk := jg hmt
       obtain ⟨b3, o3, cs, rfl, hP3, hb3, ⟨rfl, hsf⟩, hcs⟩ := (HROW.out.ext hbq).at_ hlk
       have hs1 := HP.out.1.2 _ (List.getElem_mem hmt)
       have HDT := jh (lenD_take hmt)
       have hvs := vlen_bd p.data[m].size
       generalize p.data[m] = s at *
       have c0 := hcs 0 _ rfl; simp only [StrR_size, Nat.add_zero, Nat.mul_one] at c0
       clear hcs hlk
       have hmt' : (m : Int) < p.data.length := by omega
       go_wp2_with fail
       refine (text_ex _ n' (w.heap.size + 1) s _ hv' (by omega)).mono ?_
       rintro e w5 ⟨⟨v5, n5, rfl, hv5, hm5, hm5'⟩, hb5⟩
       clear c0
       go_wp2_with fail
       go_round
       case rel => exact ⟨m + 1, n5, by omega, by go_num, hv5.base_ (by have := hbq.size; omega), by omega, by omega, hbq.tr hb5, jh (by have q1 := HM.out; have q2 := HDT.out; omega)⟩
       case measure => simp [intOf]; omega
      ·have hmn' : m = p.data.length := by omega
       subst hmn'
       have HNX : Hid (n' = lenB0 b + lensP (b.puts.take (k + 1))) := jh (by
        have q1 := HM.out; rw [List.take_length] at q1
        have q2 := HTK.out; have q3 := HN3.out; have q4 := HN.out; have q5 := hzz.out
        have q6 : lenP p = (vlen p.stream.size + p.stream.size) + (vlen (zigI p.expect) + vlen p.data.length) + lenD p.data := rfl
        rw [q5] at q6; omega)
       go_wp2_with fail
       go_round
       case rel => exact ⟨k + 1, n', by omega, by first | rfl | rw [HWK.out], hv', by omega, by omega, hbl3.trans (hbq.mono (by omega)), HNX⟩
       case measure => first | (simp [intOf]; omega) | (rw [HWK.out]; simp [intOf]; omega)
    ·go_wp2_with fail
     go_ret
     refine ⟨?_, hw1.trans (hbl.mono (by omega))⟩
     rw [decide_eq_true HC.out]
     have q1 := HN.out
     rw [show k = b.puts.length by omega, List.take_length] at q1
     have q : lenB b = lenB0 b + lensP b.puts := rfl
     exact GotEnc.yes ⟨_, n, rfl, hv.base_ (by omega), by omega, by omega⟩
 ·have HC := jh hc
  have hc' : ((checkB b) != 0) = true := by rw [bne_iff_ne]; exact hc
  clear hc
  go_enter Tryz.func138, Tryz.ntmps138
  go_wp2_with fail
  refine C.mono ?_
  clear C
  rintro e w1 ⟨rfl, hb1⟩
  go_wp2_with fail
  go_ret
  refine ⟨?_, ((jb _ _).al _).tr hb1⟩
  rw [jd HC.out]
  exact GotEnc.no rfl
theorem encodeB_any (b : Batch) (A : Option Addr) (c : Nat) (P : Nat → Prop) (w : World) (hr : PutR.Row w P A b.puts) (hl : b.puts.length ≤ 1000000) (hk : sfit b.key) (hd : ∀ p ∈ b.puts, p.data.length ≤ 1000000) (hT : Tabs w) (h2 : 2 ≤ w.heap.size) :
 Calls Tryz.prog 138 #[.agg #[.string b.key, .slice A b.puts.length c]] w fun e w' => GotEnc (decide (checkB b = 0)) w.heap.size 1 400000 e w' ∧ Below w.heap.size w w' :=
 (encodeB_ex b A c P w hr hl hk hd hT h2).mono fun _ _ h => ⟨h.1.wide (fun q => (lenB_bd (of_decide_eq_true q)).1) (fun q => (lenB_bd (of_decide_eq_true q)).2), h.2⟩
end Go.Proofs.YtcmjgghkmdbphaaGreatDoor
