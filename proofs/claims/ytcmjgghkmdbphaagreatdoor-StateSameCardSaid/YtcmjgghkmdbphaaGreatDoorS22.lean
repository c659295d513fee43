/- penstockalike: Sum, Total, Batch: how large a thing is. penstockalike: Events, Streams, Rec; the law file's own small. The law file's own small: are records looked at? state: what a nil receiver answers; all, awake. awake: what the document fixes, in plain values. awake. awake: the walk. -/
import Derived.Test.YtcmjgghkmdbphaaGreatDoorS04
import Derived.Test.YtcmjgghkmdbphaaGreatDoorS09
import Derived.Test.YtcmjgghkmdbphaaGreatDoorS19
set_option maxRecDepth 20000
set_option maxHeartbeats 25600000
namespace Go.Proofs.YtcmjgghkmdbphaaGreatDoor
open Go.RowKit
def GotSum (a : Int) (l : List Int) (e : Ending) : Prop := ∃ n : Int, e = .returned (.int .i64 n) ∧ 0 ≤ n ∧ n ≤ 1099511627776 ∧ (n < 1099511627776 → n = a + l.sum)
theorem sum_mono {l : List Int} (h : ∀ x ∈ l, 0 ≤ x) (k : Nat) : (l.take k).sum ≤ l.sum := by
 induction l generalizing k with
 | nil => simp
 | cons x l ih =>
   cases k with
   | zero =>
     have := ih (fun y hy => h y (List.mem_cons_of_mem _ hy)) 0
     have := h x (List.mem_cons_self ..)
     simp at *
     omega
   | succ k =>
     have := ih (fun y hy => h y (List.mem_cons_of_mem _ hy)) k
     simp
     omega
theorem sum_any (a : Int) (l : List Int) (b : Nat) (w : World) (hb : Blk w b 3 (l.map fun n => .int .i64 n)) (ha : 0 ≤ a ∧ a ≤ 1099511627776) (hl : ∀ x ∈ l, 0 ≤ x) (hlen : l.length ≤ 1000000) :
 Calls Tryz.prog 48 #[.int .i64 a, .slice (some ⟨b, 0, none⟩) l.length l.length] w fun e w' => GotSum a l e ∧ w = w' := by
 have HB := jh (ja hb hl); clear hb hl
 obtain ⟨ha0, ha1⟩ := ha
 go_enter Tryz.func48, Tryz.ntmps48
 go_wp2
 go_loopw [0, 5] (fun x i wr => ∃ (k : Nat) (n : Int), k ≤ l.length ∧ i = .int .i64 k ∧ x = .int .i64 n ∧ 0 ≤ n ∧ n ≤ 1099511627776 ∧ n = a + (l.take k).sum ∧ wr = w) (fun _ i _ => l.length - (intOf i).toNat)
 case atStart => exact ⟨0, a, Nat.zero_le _, rfl, rfl, ha0, ha1, by simp, rfl⟩
 case round =>
  obtain ⟨k, n, hkl, rfl, rfl, hn0, hn1, hs, rfl⟩ := hrel
  have HS := jh hs; clear hs
  by_cases hlt : k < l.length
  ·have hlk := jg hlt
   have hts := take_snoc l k hlt
   have hx := HB.out.2 l[k] (List.getElem_mem hlt)
   have y0 : wr.cell? ⟨b, k, none⟩ = some (.int .i64 l[k]) := by rw [HB.out.1.cell, List.getElem?_map, hlk]; rfl
   generalize l[k] = x at *
   have HTS := jh (ja hts hlk); clear hts hlk
   have hlt' : (k : Int) < l.length := by omega
   by_cases h1 : 1099511627776 - n < x
   ·go_wp2_with fail
    go_ret
    exact ⟨⟨1099511627776, rfl, by omega, by omega, fun h => absurd h (by omega)⟩, rfl⟩
   ·go_wp2_with fail
    go_round
    case rel =>
     refine ⟨k + 1, n + x, by omega, by go_num, rfl, by omega, by omega, ?_, trivial⟩
     have h := HS.out
     rw [HTS.out.1, List.sum_append]
     simp only [List.sum_cons, List.sum_nil]
     omega
    case measure => (simp [intOf]; omega)
  ·have hkn : k = l.length := by omega
   subst hkn
   go_wp2_with fail
   go_ret
   exact ⟨⟨n, rfl, hn0, hn1, fun _ => by have := HS.out; rwa [List.take_length] at this⟩, rfl⟩
def lenL (l : List Str) : Int := l.length + (l.map fun s => (s.size : Int)).sum
def GotTot (l : List Str) (m : Int) (e : Ending) : Prop := ∃ n : Int, e = .returned (.int .i64 n) ∧ 0 ≤ n ∧ n ≤ 1099511627776 ∧ (n ≤ m → n = lenL l)
theorem total_any (l : List Str) (A : Option Addr) (c : Nat) (m : Int) (P : Nat → Prop) (w : World) (hr : StrR.Row w P A l) (hm : 0 ≤ m ∧ m ≤ 1000000) :
 Calls Tryz.prog 82 #[.slice A l.length c, .int .i64 m] w fun e w' => GotTot l m e ∧ Below w.heap.size w w' := by
 have HR := jh hr; clear hr
 obtain ⟨hm0, hm1⟩ := hm
 have hb1 := (jb w.heap.size w).al (.cells #[.int .i64 l.length] 3)
 have C1 := sum_any 0 [(l.length : Int)] w.heap.size (w.alloc (.cells #[.int .i64 l.length] 3)) (Blk.new w 3 [.int .i64 l.length]) ⟨by omega, by omega⟩ (by simp) (by simp)
 go_enter Tryz.func82, Tryz.ntmps82
 go_wp2_with fail
 refine C1.mono ?_
 clear C1
 rintro e w1 ⟨⟨n, rfl, hn0, hn1, hn⟩, rfl⟩
 have HN := jh hn; clear hn
 go_wp2_with fail
 have hlm : n ≤ m → (l.length : Int) ≤ m := fun h => by have := HN.out (by omega); simp at this; omega
 generalize hw1 : (w.alloc (.cells #[.int .i64 l.length] 3)) = w1 at *
 clear hw1
 have HL := jh hlm; clear hlm
 go_loopw [5, 6] (fun x i wr => ∃ (k : Nat) (n : Int), k ≤ l.length ∧ i = .int .i64 k ∧ x = .int .i64 n ∧ 0 ≤ n ∧ n ≤ 1099511627776 ∧ (n ≤ m → n = l.length + ((l.take k).map fun s => (s.size : Int)).sum) ∧ (n ≤ m → (l.length : Int) ≤ m) ∧ Below w.heap.size w wr) (fun _ i _ => l.length - (intOf i).toNat)
 case atStart => exact ⟨0, n, Nat.zero_le _, rfl, rfl, hn0, hn1, fun h => by have := HN.out (by omega); simpa using this, HL.out, hb1⟩
 case round =>
  obtain ⟨k, n, hkl, rfl, rfl, hn0, hn1, hs, hlm, hbl⟩ := hrel
  have HS := jh (ja hs hlm); clear hs hlm HN HL hb1
  by_cases hlt : k < l.length
  ·have hlt' : (k : Int) < l.length := by omega
   by_cases hnm : n ≤ m
   ·have hlk := jg hlt
    have hts := take_snoc l k hlt
    obtain ⟨bb, o, cs, rfl, hP, hbw, ⟨rfl, hi1⟩, hcs⟩ := (HR.out.same (js hbl) hbl.size).at_ hlk
    generalize l[k] = x at *
    have c0 := hcs 0 _ rfl; simp only [StrR_size, Nat.add_zero, Nat.mul_one] at c0
    have hlm := HS.out.2 hnm
    have HTS := jh (ja hts (ja hlk hcs)); clear hts hlk hcs
    have hb2 := hbl.tr ((jb wr.heap.size wr).al (.cells #[.int .i64 (x.size : Int)] 3))
    have C2 := sum_any n [(x.size : Int)] wr.heap.size (wr.alloc (.cells #[.int .i64 (x.size : Int)] 3)) (Blk.new wr 3 [.int .i64 (x.size : Int)]) ⟨by omega, by omega⟩ (by simp) (by simp)
    have HB2 := jh hb2
    clear hbl hb2
    go_wp2_with fail
    refine C2.mono ?_
    clear C2
    rintro e w2 ⟨⟨n2, rfl, hn20, hn21, hn2⟩, rfl⟩
    have HN2 := jh hn2; clear hn2
    go_wp2_with fail
    go_round
    case rel =>
     refine ⟨k + 1, n2, by omega, by simp, rfl, hn20, hn21, fun h => ?_, fun _ => hlm, HB2.out⟩
     have h1 := HN2.out (by omega)
     have h2 := HS.out.1 hnm
     rw [HTS.out.1, List.map_append, List.sum_append]
     simp only [List.sum_cons, List.sum_nil, List.map_cons, List.map_nil] at h1 ⊢
     omega
    case measure => (simp [intOf]; omega)
   ·have HB := jh hbl
    clear hbl
    go_wp2_with fail
    go_ret
    exact ⟨⟨n, rfl, hn0, hn1, fun h => absurd h (by omega)⟩, HB.out⟩
  ·have hkn : k = l.length := by omega
   subst hkn
   have HB := jh hbl
   clear hbl
   go_wp2_with fail
   all_goals
    go_ret
    exact ⟨⟨n, rfl, hn0, hn1, fun h => by have := HS.out.1 h; rwa [List.take_length] at this⟩, HB.out⟩
def sizeP (p : Put) : Int := p.stream.size + lenL p.data
def sizeB (b : Batch) : Int := b.key.size + b.puts.length + (b.puts.map sizeP).sum
def GotSize (n m : Int) (e : Ending) : Prop := ∃ k : Int, e = .returned (.int .i64 k) ∧ 0 ≤ k ∧ k ≤ 1099511627776 ∧ (k ≤ m → k = n)
theorem sizeB_any (b : Batch) (A : Option Addr) (c : Nat) (m : Int) (P : Nat → Prop) (w : World) (hr : PutR.Row w P A b.puts) (hk : sfit b.key) (hm : 0 ≤ m ∧ m ≤ 1000000) :
 Calls Tryz.prog 15 #[.agg #[.string b.key, .slice A b.puts.length c], .int .i64 m] w fun e w' => GotSize (sizeB b) m e ∧ Below w.heap.size w w' := by
 have HR := jh hr; clear hr
 have hk0 : (b.key.size : Int) ≤ 9223372036854775807 := by unfold sfit at hk; omega
 clear hk
 obtain ⟨hm0, hm1⟩ := hm
 have B0 := Blk.new w 25 [.string b.key, .slice A b.puts.length c]
 have hb0 := (jb w.heap.size w).al (.cells #[.string b.key, .slice A b.puts.length c] 25)
 have x0 := B0.cell 0
 have x1 := B0.cell 1
 have HB0 := jh (ja B0 hb0)
 clear B0 hb0
 go_enter Tryz.func15, Tryz.ntmps15
 go_upto_region 1 with fail
 generalize hw0 : (w.alloc (.cells #[.string b.key, .slice A b.puts.length c] 25)) = w0 at *
 clear hw0
 have C1 := sum_any 0 [(b.key.size : Int), (b.puts.length : Int)] w0.heap.size (w0.alloc (.cells #[.int .i64 b.key.size, .int .i64 b.puts.length] 3)) (Blk.new w0 3 [.int .i64 b.key.size, .int .i64 b.puts.length]) ⟨by omega, by omega⟩ (by simp) (by simp)
 have hb1 := (jb w0.heap.size w0).al (.cells #[.int .i64 b.key.size, .int .i64 b.puts.length] 3)
 go_wp2_with fail
 refine C1.mono ?_
 clear C1
 rintro e w1 ⟨⟨n, rfl, hn0, hn1, hn⟩, rfl⟩
 have HN := jh (ja hn hb1); clear hn hb1
 have hlm : n ≤ m → (b.puts.length : Int) ≤ m := fun h => by have := HN.out.1 (by omega); simp only [List.sum_cons, List.sum_nil] at this; omega
 have HL := jh hlm; clear hlm
 go_wp2_with fail
 generalize hw1 : (w0.alloc (.cells #[.int .i64 b.key.size, .int .i64 b.puts.length] 3)) = w1 at *
 clear hw1 x0 x1
 go_loopw [5, 6] (fun x i wr => ∃ (k : Nat) (n : Int), k ≤ b.puts.length ∧ i = .int .i64 k ∧ x = .int .i64 n ∧ 0 ≤ n ∧ n ≤ 1099511627776 ∧ (n ≤ m → n = b.key.size + b.puts.length + ((b.puts.take k).map sizeP).sum) ∧ (n ≤ m → (b.puts.length : Int) ≤ m) ∧ Below w0.heap.size w0 wr) (fun _ i _ => b.puts.length - (intOf i).toNat)
 case atStart => exact ⟨0, n, Nat.zero_le _, rfl, rfl, hn0, hn1, fun h => by have := HN.out.1 (by omega); simpa [Int.add_assoc] using this, HL.out, HN.out.2⟩
 case round =>
  obtain ⟨k, n, hkl, rfl, rfl, hn0, hn1, hs, hlm, hbl⟩ := hrel
  have HS := jh (ja hs hlm); clear hs hlm HN HL
  have x1 : wr.cell? ⟨w.heap.size, 1, none⟩ = some (.slice A b.puts.length c) := (HB0.out.1.ext hbl).cell 1
  have hb2 := HB0.out.2.tr hbl
  by_cases hlt : k < b.puts.length
  ·have hlt' : (k : Int) < b.puts.length := by omega
   by_cases hnm : n ≤ m
   ·have hlk := jg hlt
    have hts := take_snoc b.puts k hlt
    obtain ⟨bb, o, cs, rfl, hP, hbw, hrep, hcs⟩ := (HR.out.same (js hb2) hb2.size).at_ hlk
    generalize b.puts[k] = p at *
    obtain ⟨Ad, cd, rfl, hps, _, hd1, hd2, hrow⟩ := put_rep.1 hrep
    have c0 := hcs 0 _ rfl; have c1 := hcs 1 _ rfl; have c2 := hcs 2 _ rfl; simp only [PutR_size, Nat.add_zero] at c0 c1 c2
    have hlm := HS.out.2 hnm
    have hps' : (p.stream.size : Int) ≤ 9223372036854775807 := by unfold sfit at hps; omega
    have HTS := jh (ja hts (ja hlk hcs)); clear hts hlk hcs hrep hps
    have hlo := jb wr.heap.size wr
    have HBL := jh (ja hbl hb2)
    have y1 := On.cell x1
    have y0 := On.cell c0
    have y2 := On.cell c2
    have HRW := jh hrow
    clear hbl hb2 hrow c0 c1 c2
    go_upto_region 5 with fail
    clear x1
    refine wp_region_mix (.seg [0, 1, 2, 3, 4, 5, 6, 7, 8, 9, 10, 11, 12, 13, 14] 15 (.seg [] 16 (.seg [] 17 (.leaf [18])))) (fun w' => ∃ d : Wd (On wr), w' = d.w) (by kernel_rfl) (by kernel_rfl) (fun _ _ d _ _ h => by cases d <;> exact h) (ClsW.mk hlo.drew) ?_
    unfold wpMix; simp only [pick, j1, j2, j3, j4]
    (repeat (show wpQuiet _ _ _ _ (_ :: _) _; go_big_quiet_step (fail))); refine qn ?_
    go_wp2_with fail
    refine (total_any p.data Ad cd m _ wr.drew (HRW.out.ext (jb _ wr).drew) ⟨hm0, hm1⟩).mono ?_
    rintro e w2 ⟨⟨t, rfl, ht0, ht1, ht⟩, hb3'⟩
    have hb3 : Below wr.heap.size wr w2 := (jb _ wr).drew.tr hb3'
    have HT := jh ht
    clear ht hb3'
    go_wp2_with fail
    (refine segw (D := On wr) (hb3) ?_; unfold wpMix; simp only [pick, j1, j2, j3, j4]; (repeat (show wpQuiet _ _ _ _ (_ :: _) _; go_big_quiet_step (fail))); refine qn ?_)
    have hb4 := hb3.al (.cells #[.int .i64 (p.stream.size : Int), .int .i64 t] 3)
    have C2 := sum_any n [(p.stream.size : Int), t] w2.heap.size (w2.alloc (.cells #[.int .i64 (p.stream.size : Int), .int .i64 t] 3)) (Blk.new w2 3 [.int .i64 (p.stream.size : Int), .int .i64 t]) ⟨by omega, by omega⟩ (by simp; omega) (by simp)
    go_wp2_with fail
    (refine segw (D := On wr) (hb4) ?_; unfold wpMix; simp only [pick, j1, j2, j3, j4]; (repeat (show wpQuiet _ _ _ _ (_ :: _) _; go_big_quiet_step (fail))); refine qn ?_)
    generalize hw3 : (w2.alloc (.cells #[.int .i64 (p.stream.size : Int), .int .i64 t] 3)) = w3 at *
    clear hw3
    go_wp2_with fail
    refine C2.mono ?_
    clear C2
    rintro e w4 ⟨⟨n2, rfl, hn20, hn21, hn2⟩, rfl⟩
    have HN2 := jh hn2
    have HB4 := jh (HBL.out.1.tr hb4)
    clear hn2
    go_wp2_with fail
    (refine segw (D := On wr) (hb4) ?_; unfold wpMix; simp only [pick, j1, j2, j3, j4]; (repeat (show wpQuiet _ _ _ _ (_ :: _) _; go_big_quiet_step (fail))); refine qn ?_)
    clear y0 y1 y2 hb4 hb3 hlo
    go_wp2_with fail
    go_round
    case rel =>
     refine ⟨k + 1, n2, by omega, by simp, rfl, hn20, hn21, fun h => ?_, fun _ => hlm, HB4.out⟩
     have h1 := HN2.out (by omega)
     have h2 := HS.out.1 hnm
     simp only [List.sum_cons, List.sum_nil] at h1
     have h3 := HT.out (by omega)
     rw [HTS.out.1, List.map_append, List.sum_append]
     simp only [List.sum_cons, List.sum_nil, List.map_cons, List.map_nil, sizeP]
     omega
    case measure => (simp [intOf]; omega)
   ·have HB := jh (ja hbl hb2)
    clear hbl hb2
    go_wp2_with fail
    go_ret
    exact ⟨⟨n, rfl, hn0, hn1, fun h => absurd h (by omega)⟩, HB.out.2⟩
  ·have hkn : k = b.puts.length := by omega
   subst hkn
   have HB := jh (ja hbl hb2)
   clear hbl hb2
   go_wp2_with fail
   all_goals
    go_ret
    exact ⟨⟨n, rfl, hn0, hn1, fun h => by have := HS.out.1 h; rwa [List.take_length] at this⟩, HB.out.2⟩
end Go.Proofs.YtcmjgghkmdbphaaGreatDoor
namespace Go.Proofs.YtcmjgghkmdbphaaGreatDoor
open Go.RowKit
def sizeE (e : Event) : Int := e.stream.size + e.data.size
def sizeEs (l : List Event) : Int := l.length + (l.map sizeE).sum
def sizeKs (l : List Known) : Int := (l.map fun k => (k.key.size : Int)).sum
def sizeS (s : Stream) : Int := s.name.size + sizeEs s.events + s.keys.length + sizeKs s.keys
def sizeSs (l : List Stream) : Int := l.length + (l.map sizeS).sum
def sizeR (r : Rec) : Int := sizeB r.batch + sizeSs r.streams + r.nodes.length
theorem sizeEs_any (l : List Event) (A : Option Addr) (c : Nat) (m : Int) (P : Nat → Prop) (w : World) (hr : EventR.Row w P A l) (hm : 0 ≤ m ∧ m ≤ 1000000) :
 Calls Tryz.prog 161 #[.slice A l.length c, .int .i64 m] w fun e w' => GotSize (sizeEs l) m e ∧ Below w.heap.size w w' := by
 have HR := jh hr; clear hr
 obtain ⟨hm0, hm1⟩ := hm
 have hb1 := (jb w.heap.size w).al (.cells #[.int .i64 l.length] 3)
 have C1 := sum_any 0 [(l.length : Int)] w.heap.size (w.alloc (.cells #[.int .i64 l.length] 3)) (Blk.new w 3 [.int .i64 l.length]) ⟨by omega, by omega⟩ (by simp) (by simp)
 go_enter Tryz.func161, Tryz.ntmps161
 go_wp2_with fail
 refine C1.mono ?_
 clear C1
 rintro e w1 ⟨⟨n, rfl, hn0, hn1, hn⟩, rfl⟩
 have HN := jh hn; clear hn
 go_wp2_with fail
 have hlm : n ≤ m → (l.length : Int) ≤ m := fun h => by have := HN.out (by omega); simp at this; omega
 generalize hw1 : (w.alloc (.cells #[.int .i64 l.length] 3)) = w1 at *
 clear hw1
 have HL := jh hlm; clear hlm
 go_loopw [5, 6] (fun x i wr => ∃ (k : Nat) (n : Int), k ≤ l.length ∧ i = .int .i64 k ∧ x = .int .i64 n ∧ 0 ≤ n ∧ n ≤ 1099511627776 ∧ (n ≤ m → n = l.length + ((l.take k).map sizeE).sum) ∧ (n ≤ m → (l.length : Int) ≤ m) ∧ Below w.heap.size w wr) (fun _ i _ => l.length - (intOf i).toNat)
 case atStart => exact ⟨0, n, Nat.zero_le _, rfl, rfl, hn0, hn1, fun h => by have := HN.out (by omega); simpa using this, HL.out, hb1⟩
 case round =>
  obtain ⟨k, n, hkl, rfl, rfl, hn0, hn1, hs, hlm, hbl⟩ := hrel
  have HS := jh (ja hs hlm); clear hs hlm HN HL hb1
  by_cases hlt : k < l.length
  ·have hlt' : (k : Int) < l.length := by omega
   by_cases hnm : n ≤ m
   ·have hlk := jg hlt
    have hts := take_snoc l k hlt
    obtain ⟨bb, o, cs, rfl, hP, hbw, hrep, hcs⟩ := (HR.out.same (js hbl) hbl.size).at_ hlk
    generalize l[k] = x at *
    obtain ⟨rfl, hfit⟩ := event_rep.1 hrep
    have c0 := hcs 0 _ rfl; have c1 := hcs 1 _ rfl; have c2 := hcs 2 _ rfl; have c3 := hcs 3 _ rfl; have c4 := hcs 4 _ rfl; have c5 := hcs 5 _ rfl; have c6 := hcs 6 _ rfl; simp only [EventR_size, Nat.add_zero] at c0 c1 c2 c3 c4 c5 c6
    have hf1 : (x.stream.size : Int) ≤ 9223372036854775807 := by have := hfit.1; unfold sfit at this; omega
    have hf2 : (x.data.size : Int) ≤ 9223372036854775807 := by have := hfit.2.2.1; unfold sfit at this; omega
    have hlm := HS.out.2 hnm
    have HTS := jh (ja hts (ja hlk hcs)); clear hts hlk hcs hrep hfit
    have hlo := jb wr.heap.size wr
    have HBL := jh hbl
    have y0 := On.cell c0
    have y2 := On.cell c2
    clear hbl c0 c1 c2 c3 c4 c5 c6
    go_upto_region 5 with fail
    refine wp_region_mix (.seg [0, 1, 2, 3, 4, 5, 6, 7, 8, 9, 10, 11, 12] 13 (.seg [] 14 (.leaf [15]))) (fun w' => ∃ d : Wd (On wr), w' = d.w) (by kernel_rfl) (by kernel_rfl) (fun _ _ d _ _ h => by cases d <;> exact h) (ClsW.mk hlo.drew) ?_
    unfold wpMix; simp only [pick, j1, j2, j3, j4]
    (repeat (show wpQuiet _ _ _ _ (_ :: _) _; go_big_quiet_step (fail))); refine qn ?_
    have hb4 := (hlo.al (.cells #[.int .i64 (x.stream.size : Int), .int .i64 (x.data.size : Int)] 3)).drew
    have C2 := sum_any n [(x.stream.size : Int), (x.data.size : Int)] wr.heap.size (wr.alloc (.cells #[.int .i64 (x.stream.size : Int), .int .i64 (x.data.size : Int)] 3)).drew ((Blk.new wr 3 [.int .i64 (x.stream.size : Int), .int .i64 (x.data.size : Int)]).ext (jb _ _).drew) ⟨by omega, by omega⟩ (by simp) (by simp)
    go_wp2_with fail
    (refine segw (D := On wr) (hb4) ?_; unfold wpMix; simp only [pick, j1, j2, j3, j4]; (repeat (show wpQuiet _ _ _ _ (_ :: _) _; go_big_quiet_step (fail))); refine qn ?_)
    generalize hw3 : (wr.alloc (.cells #[.int .i64 (x.stream.size : Int), .int .i64 (x.data.size : Int)] 3)).drew = w3 at *
    clear hw3
    go_wp2_with fail
    refine C2.mono ?_
    clear C2
    rintro e w4 ⟨⟨n2, rfl, hn20, hn21, hn2⟩, rfl⟩
    have HN2 := jh hn2
    have HB4 := jh (HBL.out.tr hb4)
    clear hn2
    go_wp2_with fail
    (refine segw (D := On wr) (hb4) ?_; unfold wpMix; simp only [pick, j1, j2, j3, j4]; (repeat (show wpQuiet _ _ _ _ (_ :: _) _; go_big_quiet_step (fail))); refine qn ?_)
    clear y0 y2 hb4 hlo
    go_wp2_with fail
    go_round
    case rel =>
     refine ⟨k + 1, n2, by omega, by simp, rfl, hn20, hn21, fun h => ?_, fun _ => hlm, HB4.out⟩
     have h1 := HN2.out (by omega)
     have h2 := HS.out.1 hnm
     simp only [List.sum_cons, List.sum_nil] at h1
     rw [HTS.out.1, List.map_append, List.sum_append]
     simp only [List.sum_cons, List.sum_nil, List.map_cons, List.map_nil, sizeE]
     omega
    case measure => (simp [intOf]; omega)
   ·have HB := jh hbl
    clear hbl
    go_wp2_with fail
    go_ret
    exact ⟨⟨n, rfl, hn0, hn1, fun h => absurd h (by omega)⟩, HB.out⟩
  ·have hkn : k = l.length := by omega
   subst hkn
   have HB := jh hbl
   clear hbl
   go_wp2_with fail
   all_goals
    go_ret
    exact ⟨⟨n, rfl, hn0, hn1, fun h => by have := HS.out.1 h; rwa [List.take_length] at this⟩, HB.out⟩
theorem sizeEs_nn (l : List Event) : (l.length : Int) ≤ sizeEs l := by
 unfold sizeEs
 have := sum_mono (l := l.map sizeE) (by simp [sizeE]; omega) 0
 simp only [List.take_zero, List.sum_nil] at this
 omega
theorem sizeKs_nn (l : List Known) : 0 ≤ sizeKs l := by
 unfold sizeKs
 have := sum_mono (l := l.map fun k => (k.key.size : Int)) (by simp) 0
 simp only [List.take_zero, List.sum_nil] at this
 omega
theorem sizeSs_any (l : List Stream) (A : Option Addr) (c : Nat) (m : Int) (P : Nat → Prop) (w : World) (hr : StreamR.Row w P A l) (hm : 0 ≤ m ∧ m ≤ 1000000) :
 Calls Tryz.prog 67 #[.slice A l.length c, .int .i64 m] w fun e w' => GotSize (sizeSs l) m e ∧ Below w.heap.size w w' := by
 have HR := jh hr; clear hr
 obtain ⟨hm0, hm1⟩ := hm
 have hb1 := (jb w.heap.size w).al (.cells #[.int .i64 l.length] 3)
 have C1 := sum_any 0 [(l.length : Int)] w.heap.size (w.alloc (.cells #[.int .i64 l.length] 3)) (Blk.new w 3 [.int .i64 l.length]) ⟨by omega, by omega⟩ (by simp) (by simp)
 go_enter Tryz.func67, Tryz.ntmps67
 go_wp2_with fail
 refine C1.mono ?_
 clear C1
 rintro e w1 ⟨⟨n, rfl, hn0, hn1, hn⟩, rfl⟩
 have HN := jh hn; clear hn
 go_wp2_with fail
 have hlm : n ≤ m → (l.length : Int) ≤ m := fun h => by have := HN.out (by omega); simp at this; omega
 generalize hw1 : (w.alloc (.cells #[.int .i64 l.length] 3)) = w1 at *
 clear hw1
 have HL := jh hlm; clear hlm
 go_loopw [5, 6] (fun x i wr => ∃ (k : Nat) (n : Int), k ≤ l.length ∧ i = .int .i64 k ∧ x = .int .i64 n ∧ 0 ≤ n ∧ n ≤ 1099511627776 ∧ (n ≤ m → n = l.length + ((l.take k).map sizeS).sum) ∧ (n ≤ m → (l.length : Int) ≤ m) ∧ Below w.heap.size w wr) (fun _ i _ => l.length - (intOf i).toNat)
 case atStart => exact ⟨0, n, Nat.zero_le _, rfl, rfl, hn0, hn1, fun h => by have := HN.out (by omega); simpa using this, HL.out, hb1⟩
 case round =>
  obtain ⟨k, n, hkl, rfl, rfl, hn0, hn1, hs, hlm, hbl⟩ := hrel
  have HS := jh (ja hs hlm); clear hs hlm HN HL hb1
  by_cases hlt : k < l.length
  ·have hlt' : (k : Int) < l.length := by omega
   by_cases hnm : n ≤ m
   ·have hlk := jg hlt
    have hts := take_snoc l k hlt
    have HRX := jh (fun W (hW : Below w.heap.size w W) => (HR.out.same (js hW) hW.size).at_ hlk)
    obtain ⟨bb, o, cs, hA, hP, hbw, hrep, hcs⟩ := HRX.out wr hbl
    generalize l[k] = x at *
    obtain ⟨Ae, ce, Ak, ck, rfl, hf0, he1, he2, hrow, hk1, hk2, hkrow⟩ := stream_rep.1 hrep
    subst hA
    have c0 := hcs 0 _ rfl; have c1 := hcs 1 _ rfl; have c2 := hcs 2 _ rfl; simp only [StreamR_size, Nat.add_zero] at c0 c1 c2
    have hf1 : (x.name.size : Int) ≤ 9223372036854775807 := by unfold sfit at hf0; omega
    have hlm := HS.out.2 hnm
    have hlo := jb wr.heap.size wr
    have hkl0 : (0 : Int) ≤ x.keys.length := Int.natCast_nonneg _
    have HTS := jh (ja hts (ja hrow hkrow)); clear hts hrep hf0
    have HBL := jh (ja hbl hcs)
    have y0 := On.cell c0
    have y1 := On.cell c1
    have y2 := On.cell c2
    clear hbl c0 c1 c2 hcs hrow hkrow
    go_upto_region 5 with fail
    refine wp_region_mix (.seg [0, 1, 2, 3, 4, 5, 6, 7, 8, 9, 10, 11, 12, 14, 15, 16, 17, 18, 19] 13 (.seg [] 20 (.seg [] 21 (.leaf [22])))) (fun w' => ∃ d : Wd (On wr), w' = d.w) (by kernel_rfl) (by kernel_rfl) (fun _ _ d _ _ h => by cases d <;> exact h) (ClsW.mk hlo.drew) ?_
    unfold wpMix; simp only [pick, j1, j2, j3, j4]
    (repeat (show wpQuiet _ _ _ _ (_ :: _) _; go_big_quiet_step (fail))); refine qn ?_
    go_wp2_with fail
    refine (sizeEs_any x.events Ae ce m _ wr.drew (HTS.out.2.1.ext (jb _ wr).drew) ⟨hm0, hm1⟩).mono ?_
    rintro e w2 ⟨⟨t, rfl, ht0, ht1, ht⟩, hb3'⟩
    have hb3 : Below wr.heap.size wr w2 := (jb _ wr).drew.tr hb3'
    have HT := jh ht
    clear ht hb3'
    go_wp2_with fail
    (refine segw (D := On wr) (hb3) ?_; unfold wpMix; simp only [pick, j1, j2, j3, j4]; (repeat (show wpQuiet _ _ _ _ (_ :: _) _; go_big_quiet_step (fail))); refine qn ?_)
    have hb4 := hb3.al (.cells #[.int .i64 (x.name.size : Int), .int .i64 t, .int .i64 (x.keys.length : Int)] 3)
    have C2 := sum_any n [(x.name.size : Int), t, (x.keys.length : Int)] w2.heap.size (w2.alloc (.cells #[.int .i64 (x.name.size : Int), .int .i64 t, .int .i64 (x.keys.length : Int)] 3)) (Blk.new w2 3 [.int .i64 (x.name.size : Int), .int .i64 t, .int .i64 (x.keys.length : Int)]) ⟨by omega, by omega⟩ (by simp; omega) (by simp)
    go_wp2_with fail
    (refine segw (D := On wr) (hb4) ?_; unfold wpMix; simp only [pick, j1, j2, j3, j4]; (repeat (show wpQuiet _ _ _ _ (_ :: _) _; go_big_quiet_step (fail))); refine qn ?_)
    generalize hw3 : (w2.alloc (.cells #[.int .i64 (x.name.size : Int), .int .i64 t, .int .i64 (x.keys.length : Int)] 3)) = w3 at *
    clear hw3
    go_wp2_with fail
    refine C2.mono ?_
    clear C2
    rintro e w4 ⟨⟨n2, rfl, hn20, hn21, hn2⟩, rfl⟩
    have HB4 := jh (HBL.out.1.tr hb4)
    have HC2 := jh (fun W (hW : Below w3.heap.size w3 W) => (Below.cell (B := w3.heap.size) (w := w3) hW (p := ⟨bb, o + k * 3 + 2, none⟩) (by have := hb4.size; have : bb < wr.heap.size := hbw; show bb < _; omega)).trans (On.cell (HBL.out.2 2 _ rfl : wr.cell? ⟨bb, o + k * StreamR.size + 2, none⟩ = _) ⟨_, hb4⟩))
    have HKR := jh (HTS.out.2.2.ext hb4)
    have HN2 := jh (show n2 ≤ m → n2 = n + x.name.size + sizeEs x.events + x.keys.length from fun h => by
     have h1 := hn2 (by omega)
     simp only [List.sum_cons, List.sum_nil] at h1
     have h3 := HT.out (by omega)
     omega)
    clear hn2
    go_wp2_with fail
    (refine segw (D := On wr) (hb4) ?_; unfold wpMix; simp only [pick, j1, j2, j3, j4]; (repeat (show wpQuiet _ _ _ _ (_ :: _) _; go_big_quiet_step (fail))); refine qn ?_)
    clear y0 y1 y2 hb4 hb3 hlo
    go_wp2_with fail
    go_loopw [5, 7] (fun xv kv wr => ∃ (q : Nat) (n3 : Int), q ≤ x.keys.length ∧ kv = .int .i64 q ∧ xv = .int .i64 n3 ∧ 0 ≤ n3 ∧ n3 ≤ 1099511627776 ∧ (n3 ≤ m → n3 = n + x.name.size + sizeEs x.events + x.keys.length + ((x.keys.take q).map fun k => (k.key.size : Int)).sum) ∧ Below w3.heap.size w3 wr) (fun _ kv _ => x.keys.length - (intOf kv).toNat)
    case atStart => exact ⟨0, n2, Nat.zero_le _, rfl, rfl, hn20, hn21, fun h => by have := HN2.out h; simpa using this, jb _ _⟩
    case round =>
     obtain ⟨q, n3, hql, rfl, rfl, hn30, hn31, hs3, hb5⟩ := hrel
     have y2 := HC2.out wr hb5
     have HS3 := jh (ja hs3 hb5)
     clear hs3
     by_cases hltq : q < x.keys.length
     ·have hltq' : (q : Int) < x.keys.length := by omega
      by_cases hnm3 : n3 ≤ m
      ·have hlq := jg hltq
       have htq := take_snoc x.keys q hltq
       obtain ⟨bk, ok, cs2, rfl, _, _, hrk, hck⟩ := (HKR.out.ext hb5).at_ hlq
       generalize x.keys[q] = kk at *
       obtain ⟨rfl, hkf⟩ := known_rep.1 hrk
       have z0 := hck 0 _ rfl
       simp only [KnownR_size, Nat.add_zero] at z0
       have hkz : (kk.key.size : Int) ≤ 9223372036854775807 := by have := hkf.1; unfold sfit at this; omega
       have hb6 := hb5.al (.cells #[.int .i64 (kk.key.size : Int)] 3)
       have C3 := sum_any n3 [(kk.key.size : Int)] wr.heap.size (wr.alloc (.cells #[.int .i64 (kk.key.size : Int)] 3)) (Blk.new wr 3 [.int .i64 (kk.key.size : Int)]) ⟨by omega, by omega⟩ (by simp) (by simp)
       have HQX := jh (ja htq hb6)
       clear hlq htq hrk hck hkf hb5 hb6
       go_wp2_with fail
       refine C3.mono ?_
       clear C3 y2 z0
       rintro e w6 ⟨⟨n4, rfl, hn40, hn41, hn4⟩, rfl⟩
       have HN4 := jh hn4
       clear hn4
       go_wp2_with fail
       go_round
       case rel =>
        refine ⟨q + 1, n4, by omega, by go_num, rfl, hn40, hn41, fun h => ?_, HQX.out.2⟩
        have h1 := HN4.out (by omega)
        simp only [List.sum_cons, List.sum_nil] at h1
        have h2 := HS3.out.1 hnm3
        rw [HQX.out.1, List.map_append, List.sum_append]
        simp only [List.sum_cons, List.sum_nil, List.map_cons, List.map_nil]
        omega
       case measure => (simp [intOf]; omega)
      ·clear hb5
       go_wp2_with fail
       go_round
       case rel => exact ⟨k + 1, n3, by omega, by go_num, rfl, hn30, hn31, fun h => absurd h (by omega), fun _ => hlm, HB4.out.trans (HS3.out.2.mono HB4.out.size)⟩
       case measure => (simp [intOf]; omega)
     ·have hqn : q = x.keys.length := by omega
      clear hb5
      go_wp2_with fail
      all_goals
       go_round
       case rel =>
        refine ⟨k + 1, n3, by omega, by go_num, rfl, hn30, hn31, fun h => ?_, fun _ => hlm, HB4.out.trans (HS3.out.2.mono HB4.out.size)⟩
        have h1 := HS3.out.1 h
        have h2 := HS.out.1 hnm
        rw [hqn, List.take_length] at h1
        rw [HTS.out.1, List.map_append, List.sum_append]
        simp only [List.sum_cons, List.sum_nil, List.map_cons, List.map_nil, sizeS, sizeKs]
        omega
       case measure => (simp [intOf]; omega)
   ·have HB := jh hbl
    clear hbl
    go_wp2_with fail
    go_ret
    exact ⟨⟨n, rfl, hn0, hn1, fun h => absurd h (by omega)⟩, HB.out⟩
  ·have hkn : k = l.length := by omega
   subst hkn
   have HB := jh hbl
   clear hbl
   go_wp2_with fail
   all_goals
    go_ret
    exact ⟨⟨n, rfl, hn0, hn1, fun h => by have := HS.out.1 h; rwa [List.take_length] at this⟩, HB.out⟩
theorem sizeR_any (r : Rec) (nA pA sA : Option Addr) (nc pc sc : Nat) (m : Int) (P : Nat → Prop) (w : World) (hr : RecAt w P r nA nc pA pc sA sc) (hm : 0 ≤ m ∧ m ≤ 1000000) :
 Calls Tryz.prog 49 #[.agg (r.cells nA nc pA pc sA sc).toArray, .int .i64 m] w fun e w' => GotSize (sizeR r) m e ∧ Below w.heap.size w w' := by
 have HR := jh hr
 obtain ⟨hm0, hm1⟩ := hm
 have B0 := Blk.new w 46 (r.cells nA nc pA pc sA sc)
 have hb0 := (jb w.heap.size w).al (.cells (r.cells nA nc pA pc sA sc).toArray 46)
 have hk0 : (r.batch.key.size : Int) ≤ 9223372036854775807 := by have := hr.key; unfold sfit at this; omega
 have hn0 : (0 : Int) ≤ r.nodes.length := Int.natCast_nonneg _
 clear hr
 go_enter Tryz.func49, Tryz.ntmps49
 go_upto_region 1 with fail
 generalize hw0 : (w.alloc (.cells (r.cells nA nc pA pc sA sc).toArray 46)) = w0 at *
 clear hw0
 have hr0 := ja (HR.out.puts.2.2.ext hb0) (HR.out.streams.2.2.ext hb0)
 have y11 := On.cell (B0.cell 11 : w0.cell? ⟨w.heap.size, 11, none⟩ = some (.string r.batch.key))
 have y12 := On.cell (B0.cell 12 : w0.cell? ⟨w.heap.size, 12, none⟩ = some (.slice pA r.batch.puts.length pc))
 have y10 := On.cell (B0.cell 10 : w0.cell? ⟨w.heap.size, 10, none⟩ = some (.slice nA r.nodes.length nc))
 have y17 := On.cell (B0.cell 17 : w0.cell? ⟨w.heap.size, 17, none⟩ = some (.slice sA r.streams.length sc))
 have hlo := jb w0.heap.size w0
 have HX := jh (ja hr0 hb0)
 clear B0 hb0 hr0
 refine wp_region_mix (.seg [0, 1, 2, 4, 5, 6, 8, 9, 10] 3 (.seg [] 7 (.seg [] 11 (.seg [] 12 (.leaf [13]))))) (fun w' => ∃ d : Wd (On w0), w' = d.w) (by kernel_rfl) (by kernel_rfl) (fun _ _ d _ _ h => by cases d <;> exact h) (ClsW.mk hlo.drew) ?_
 unfold wpMix; simp only [pick, j1, j2, j3, j4]
 (repeat (show wpQuiet _ _ _ _ (_ :: _) _; go_big_quiet_step (fail))); refine qn ?_
 go_wp2_with fail
 refine (sizeB_any r.batch pA pc m _ w0.drew (HX.out.1.1.ext (jb _ w0).drew) HR.out.key ⟨hm0, hm1⟩).mono ?_
 rintro e w1 ⟨⟨t1, rfl, ht10, ht11, ht1⟩, hb1'⟩
 have hb1 : Below w0.heap.size w0 w1 := (jb _ w0).drew.tr hb1'
 have HT1 := jh ht1
 clear ht1 hb1'
 go_wp2_with fail
 (refine segw (D := On w0) (hb1) ?_; unfold wpMix; simp only [pick, j1, j2, j3, j4]; (repeat (show wpQuiet _ _ _ _ (_ :: _) _; go_big_quiet_step (fail))); refine qn ?_)
 go_wp2_with fail
 refine (sizeSs_any r.streams sA sc m _ w1 (HX.out.1.2.ext hb1) ⟨hm0, hm1⟩).mono ?_
 rintro e w2 ⟨⟨t2, rfl, ht20, ht21, ht2⟩, hb2'⟩
 have hb2 : Below w0.heap.size w0 w2 := hb1.tr hb2'
 have HT2 := jh ht2
 clear ht2 hb2'
 go_wp2_with fail
 (refine segw (D := On w0) (hb2) ?_; unfold wpMix; simp only [pick, j1, j2, j3, j4]; (repeat (show wpQuiet _ _ _ _ (_ :: _) _; go_big_quiet_step (fail))); refine qn ?_)
 have hb4 := hb2.al (.cells #[.int .i64 t2, .int .i64 (r.nodes.length : Int)] 3)
 have C2 := sum_any t1 [t2, (r.nodes.length : Int)] w2.heap.size (w2.alloc (.cells #[.int .i64 t2, .int .i64 (r.nodes.length : Int)] 3)) (Blk.new w2 3 [.int .i64 t2, .int .i64 (r.nodes.length : Int)]) ⟨by omega, by omega⟩ (by simp; omega) (by simp)
 go_wp2_with fail
 (refine segw (D := On w0) (hb4) ?_; unfold wpMix; simp only [pick, j1, j2, j3, j4]; (repeat (show wpQuiet _ _ _ _ (_ :: _) _; go_big_quiet_step (fail))); refine qn ?_)
 generalize hw3 : (w2.alloc (.cells #[.int .i64 t2, .int .i64 (r.nodes.length : Int)] 3)) = w3 at *
 clear hw3
 go_wp2_with fail
 refine C2.mono ?_
 clear C2
 rintro e w4 ⟨⟨n2, rfl, hn20, hn21, hn2⟩, rfl⟩
 have HN2 := jh hn2
 have HB4 := jh (HX.out.2.tr hb4)
 clear hn2
 go_wp2_with fail
 (refine segw (D := On w0) (hb4) ?_; unfold wpMix; simp only [pick, j1, j2, j3, j4]; (repeat (show wpQuiet _ _ _ _ (_ :: _) _; go_big_quiet_step (fail))); refine qn ?_)
 clear y10 y11 y12 y17 hb4 hb2 hb1 hlo
 go_wp2_with fail
 go_ret
 refine ⟨⟨n2, rfl, hn20, hn21, fun h => ?_⟩, HB4.out⟩
 have h1 := HN2.out (by omega)
 simp only [List.sum_cons, List.sum_nil] at h1
 have h3 := HT1.out (by omega)
 have h4 := HT2.out (by omega)
 unfold sizeR
 omega
end Go.Proofs.YtcmjgghkmdbphaaGreatDoor
namespace Go.Proofs.YtcmjgghkmdbphaaGreatDoor
open Go.RowKit
def sizeRs (l : List Rec) : Int := (l.map fun r => sizeR r + 5).sum
def GotSmall (l : List Rec) (e : Ending) : Prop := ∃ b : Bool, e = .returned (.bool b) ∧ (b = true → l.length ≤ 80 ∧ sizeRs l ≤ 20000)
theorem recs_at {w : World} {P : Nat → Prop} {A : Option Addr} {l : List Rec} (h : RecR.Row w P A l) {k : Nat} {r : Rec} (hk : l[k]? = some r) :
 ∃ b o nA nc pA pc sA sc, A = some ⟨b, o, none⟩ ∧ b < w.heap.size ∧ RecAt w P r nA nc pA pc sA sc ∧ ∀ j u, (r.cells nA nc pA pc sA sc)[j]? = some u → w.cell? ⟨b, o + k * 18 + j, none⟩ = some u := by
 obtain ⟨b, o, cs, hA, _, hb, hrep, hcs⟩ := h.at_ hk
 obtain ⟨nA, nc, pA, pc, sA, sc, rfl, hr⟩ := rec_rep.1 hrep
 exact ⟨b, o, nA, nc, pA, pc, sA, sc, hA, hb, hr, hcs⟩
theorem small_any (l : List Rec) (A : Option Addr) (c : Nat) (P : Nat → Prop) (w : World) (hr : RecR.Row w P A l) (hc : l.length ≤ c ∧ c ≤ 9223372036854775807) :
 Calls Tryz.prog 14 #[.slice A l.length c] w fun e w' => GotSmall l e ∧ Below w.heap.size w w' := by
 have HR := jh hr; clear hr
 have hl0 : (l.length : Int) ≤ 9223372036854775807 := by omega
 clear hc
 go_enter Tryz.func14, Tryz.ntmps14
 go_wp2_with fail
 go_loopw [3, 4] (fun x i wr => ∃ (k : Nat) (n : Int), k ≤ l.length ∧ i = .int .i64 k ∧ x = .int .i64 n ∧ 0 ≤ n ∧ n ≤ 20000 ∧ n = sizeRs (l.take k) ∧ Below w.heap.size w wr) (fun _ i _ => l.length - (intOf i).toNat)
 case atStart => exact ⟨0, 0, Nat.zero_le _, rfl, rfl, by omega, by omega, by simp [sizeRs], jb _ _⟩
 case round =>
  obtain ⟨k, n, hkl, rfl, rfl, hn0, hn1, hs, hbl⟩ := hrel
  have HS := jh (ja hs hbl); clear hs
  by_cases hlt : k < l.length
  ·have hlt' : (k : Int) < l.length := by omega
   have hlk := jg hlt
   have hts := take_snoc l k hlt
   obtain ⟨bb, o, nA, nc, pA, pc, sA, sc, rfl, hbw, hrec, hcs⟩ := recs_at (HR.out.same (js hbl) hbl.size) hlk
   generalize l[k] = r at *
   have C1 := sizeR_any r nA pA sA nc pc sc 20000 _ wr hrec ⟨by omega, by omega⟩
   have HTS := jh (ja hts hcs)
   clear hlk hts hrec hcs hbl
   go_wp2_with (first
    | ((with_reducible refine wpList_load_at rfl rfl ?_ HTS.out.2 Tryz.underlying46 rfl (by kernel_rfl) ?_); · rfl)
    | fail)
   refine C1.mono ?_
   clear C1
   rintro e w1 ⟨⟨t, rfl, ht0, ht1, ht⟩, hb1⟩
   have HT := jh ht
   have hb2 := hb1.al (.cells #[.int .i64 t, .int .i64 5] 3)
   have C2 := sum_any n [t, 5] w1.heap.size (w1.alloc (.cells #[.int .i64 t, .int .i64 5] 3)) (Blk.new w1 3 [.int .i64 t, .int .i64 5]) ⟨by omega, by omega⟩ (by simp; omega) (by simp)
   have HB2 := jh (HS.out.2.tr hb2)
   clear ht hb1 hb2
   go_wp2_with fail
   refine C2.mono ?_
   clear C2
   rintro e w2 ⟨⟨n2, rfl, hn20, hn21, hn2⟩, rfl⟩
   have HN2 := jh hn2
   clear hn2
   by_cases hle : (20000 : Int) < n2
   ·go_wp2_with fail
    go_ret
    exact ⟨⟨false, rfl, fun h => by cases h⟩, HB2.out⟩
   ·go_wp2_with fail
    go_round
    case rel =>
     refine ⟨k + 1, n2, by omega, by go_num, rfl, hn20, by omega, ?_, HB2.out⟩
     have h1 := HN2.out (by omega)
     simp only [List.sum_cons, List.sum_nil] at h1
     have h2 := HT.out (by omega)
     have h3 := HS.out.1
     unfold sizeRs at h3 ⊢
     rw [HTS.out.1, List.map_append, List.sum_append]
     simp only [List.sum_cons, List.sum_nil, List.map_cons, List.map_nil]
     omega
    case measure => (simp [intOf]; omega)
  ·have hkn : k = l.length := by omega
   subst hkn
   clear hbl
   have HZ := jh (show sizeRs l ≤ 20000 from by have := HS.out.1; rw [List.take_length] at this; omega)
   by_cases hle : (l.length : Int) ≤ 80
   ·go_wp2_with fail
    go_ret
    exact ⟨⟨true, rfl, fun _ => ⟨by omega, HZ.out⟩⟩, HS.out.2⟩
   ·go_wp2_with fail
    go_ret
    exact ⟨⟨false, rfl, fun h => by cases h⟩, HS.out.2⟩
end Go.Proofs.YtcmjgghkmdbphaaGreatDoor
namespace Go.Proofs.YtcmjgghkmdbphaaGreatDoor
open Go.RowKit
theorem all_any (w : World) : Calls Tryz.prog 38 #[] w fun e w' => e = .returned (.agg #[.int .i64 0, .int .i64 4294967295, .int .i64 0, .int .i64 0]) ∧ Below w.heap.size w w' := by
 go_enter Tryz.func38, Tryz.ntmps38
 go_wp2_with fail
 exact bodyPost_blk rfl (Blk.new w 27 [.int .i64 0, .int .i64 4294967295, .int .i64 0, .int .i64 0]) rfl Tryz.underlying27 rfl (by kernel_rfl) rfl ⟨rfl, (jb _ _).al _⟩
end Go.Proofs.YtcmjgghkmdbphaaGreatDoor
namespace Go.Proofs.YtcmjgghkmdbphaaGreatDoor
open Go.RowKit
def awB : Batch := ⟨⟨#[107]⟩, [⟨⟨#[97]⟩, -1, [⟨#[120]⟩]⟩]⟩
def awR : Rec := ⟨3, 0, 0, false, ⟨5, 0, 1⟩, ⟨0, 0, 0⟩, [], awB, ⟨0, 0, 0, 0⟩, []⟩
def awS : St := ⟨1, 1, 0, 0, (newR 1).1, [], [], [], [], [], []⟩
theorem aw_check : checkR awR = 0 := by kernel_rfl
theorem aw_com : (commitS awS awR).2 = 0 := by kernel_rfl
theorem aw_ver : versionT (commitS awS awR).1.table ⟨#[97]⟩ = 1 := by kernel_rfl
theorem aw_may2 : mayS (commitS awS awR).1 awB = ([1], ⟨⟨#[107]⟩, 1, ⟨5, 0, 1⟩⟩, 4) := by kernel_rfl
end Go.Proofs.YtcmjgghkmdbphaaGreatDoor
namespace Go.Proofs.YtcmjgghkmdbphaaGreatDoor
open Go.RowKit
theorem Seen.of0 {g : Nat} {s : St} {w : World} {P : Nat → Prop} (h : StAt w P g s) (h6 : w.cell? ⟨g, 6, none⟩ = some (.map none)) (hf : s.frozen = []) (h1 : s.self ≠ 0) (h2 : s.ring.length ≤ 1000000)
 (h3 : ∀ n, 0 ≤ versionT s.table n ∧ versionT s.table n ≤ 40000) (h4 : ∀ n k, (knownT s.table n k).1.fit) : Seen g s w := by
 refine ⟨h1, h2, h3, h4, busy_0 g s P w h hf ?_⟩
 obtain ⟨v, hB, hI⟩ := h
 have h := hB.cell 6
 rw [h6] at h
 exact ⟨v, hB, hI, (Option.some.inj h).symm⟩
theorem aw_vers0 (n : Str) : 0 ≤ versionT awS.table n ∧ versionT awS.table n ≤ 40000 := by
 show (0 : Int) ≤ 0 ∧ (0 : Int) ≤ 40000
 decide
theorem aw_fit0 (n k : Str) : (knownT awS.table n k).1.fit := by
 show zeroKnown.fit
 exact ⟨by show (0 : Nat) ≤ _; omega, show i64 0 from ⟨by omega, by omega⟩, ⟨show i64 0 from ⟨by omega, by omega⟩, show i64 0 from ⟨by omega, by omega⟩, show i64 0 from ⟨by omega, by omega⟩⟩⟩
theorem aw_tab : (commitS awS awR).1.table = [(⟨#[97]⟩, ⟨[⟨⟨#[97]⟩, 1, ⟨#[120]⟩, ⟨5, 0, 1⟩, 0⟩], [(⟨#[107]⟩, ⟨⟨#[107]⟩, 1, ⟨5, 0, 1⟩⟩)]⟩)] := by kernel_rfl
theorem aw_take : takeT awS.table allHashes = [] := by kernel_rfl
theorem aw_fresh : freshT awS.table = [] := by kernel_rfl
theorem aw_fair : StFair awS := ⟨by decide, fun p hp => (by cases hp), by rw [aw_take]; exact ⟨by decide, fun s hs => (by cases hs)⟩, by decide, fun n => (by rw [aw_fresh]; show (0 : Int) ≤ 39000; decide)⟩
theorem i64_small (n : Int) (h : -1000 ≤ n ∧ n ≤ 1000) : i64 n := ⟨by omega, by omega⟩
theorem aw_vers1 (n : Str) : 0 ≤ versionT (commitS awS awR).1.table n ∧ versionT (commitS awS awR).1.table n ≤ 40000 := by
 rw [aw_tab]
 unfold versionT
 simp only [getA]
 split
 ·rename_i h
  split at h
  ·injection h with h; rw [← h]; decide
  ·cases h
 ·decide
theorem aw_fit1 (n k : Str) : (knownT (commitS awS awR).1.table n k).1.fit := by
 have h0 := aw_fit0 n k
 rw [show awS.table = [] from rfl] at h0
 rw [aw_tab]
 unfold knownT at h0 ⊢
 simp only [getA] at h0 ⊢
 by_cases hn : n = (⟨#[97]⟩ : Str)
 ·by_cases hk : k = (⟨#[107]⟩ : Str)
  ·subst hn; subst hk
   exact ⟨by show (1 : Nat) ≤ _; omega, i64_small 1 (by omega), ⟨i64_small 5 (by omega), i64_small 0 (by omega), i64_small 1 (by omega)⟩⟩
  ·simpa [hn, hk, getA] using h0
 ·simpa [hn, getA] using h0
theorem aw_rfair : awR.Fair := by
 refine ⟨by decide, fun p hp => ?_, by decide, by decide, by decide, fun s hs => by cases hs⟩
 rcases List.mem_singleton.1 hp with rfl
 decide
theorem aw_self : (commitS awS awR).1.self = 1 ∧ (commitS awS awR).1.frozen = [] ∧ (commitS awS awR).1.ring.length ≤ 1000000 := ⟨by kernel_rfl, by kernel_rfl, of_decide_eq_true (by kernel_rfl)⟩
end Go.Proofs.YtcmjgghkmdbphaaGreatDoor
namespace Go.Proofs.YtcmjgghkmdbphaaGreatDoor
open Go.RowKit
theorem awake_any (w : World) (hT : Tabs w) (h2 : 2 ≤ w.heap.size) : Calls Tryz.prog 16 #[] w fun e w' => e = .returned (.bool true) ∧ Below w.heap.size w w' := by
 have C1 := newState_any 1 1 w (i64_small 1 (by omega)) (i64_small 1 (by omega))
 unfold GotState at C1
 rw [show newS 1 1 = some awS from by kernel_rfl] at C1
 go_enter Tryz.func16, Tryz.ntmps16
 go_wp2_with fail
 refine C1.mono ?_
 clear C1
 rintro e w1 ⟨⟨g, rfl, hg, hst, h6⟩, hb1⟩
 have H1 := jh (ja hst (ja h6 hb1))
 clear hst h6 hb1
 unfold ptrV
 have hz1 : w.heap.size ≤ w1.heap.size := H1.out.2.2.size
 have hb2 := (((jb w1.heap.size w1).al (.cells #[.string ⟨#[120]⟩] 9)).al (.cells #[.string ⟨#[97]⟩, .int .i64 (-1), .slice (some ⟨w1.heap.size, 0, none⟩) 1 1] 69)).al (.cells #[.string ⟨#[107]⟩, .slice (some ⟨w1.heap.size + 1, 0, none⟩) 1 1] 25)
 have r1 : StrR.Row (w1.alloc (.cells #[.string ⟨#[120]⟩] 9)) _ (some ⟨w1.heap.size, 0, none⟩) [⟨#[120]⟩] := Rep.Row.new1 (P := fun _ => False) (cs := [.string ⟨#[120]⟩]) ⟨rfl, show sfit ⟨#[120]⟩ from (by show (1 : Nat) ≤ _; omega)⟩
 have hz2 : (w1.alloc (.cells #[.string ⟨#[120]⟩] 9)).heap.size = w1.heap.size + 1 := by simp
 have r2 := Rep.Row.new1 (R := PutR) (w := w1.alloc (.cells #[.string ⟨#[120]⟩] 9)) (t := 69) (a := ⟨⟨#[97]⟩, -1, [⟨#[120]⟩]⟩) (put_rep.2 ⟨some ⟨w1.heap.size, 0, none⟩, 1, rfl, (by show (1 : Nat) ≤ _; omega), i64_small (-1) (by omega), by decide, by decide, r1⟩)
 rw [hz2] at r2
 have r3 := (r2.ext ((jb _ _).al (.cells #[.string ⟨#[107]⟩, .slice (some ⟨w1.heap.size + 1, 0, none⟩) 1 1] 25))).mono (Q := fun k => w1.heap.size ≤ k) (fun k h _ => by rcases h with (h | h) | h <;> first | exact h.elim | omega)
 have B2 := Blk.new1 (w1.alloc (.cells #[.string ⟨#[120]⟩] 9)) (.cells #[.string ⟨#[97]⟩, .int .i64 (-1), .slice (some ⟨w1.heap.size, 0, none⟩) 1 1] 69) 25 [.string ⟨#[107]⟩, .slice (some ⟨w1.heap.size + 1, 0, none⟩) 1 1]
 rw [hz2] at B2
 have HR := jh (ja r3 (ja B2 hb2))
 clear r1 r2 r3 B2 hb2 hz2
 go_upto_region 5 with fail
 generalize ((w1.alloc (.cells #[.string ⟨#[120]⟩] 9)).alloc (.cells #[.string ⟨#[97]⟩, .int .i64 (-1), .slice (some ⟨w1.heap.size, 0, none⟩) 1 1] 69)).alloc (.cells #[.string ⟨#[107]⟩, .slice (some ⟨w1.heap.size + 1, 0, none⟩) 1 1] 25) = w2 at *
 have hgl := H1.out.1.lt
 have hw2 := H1.out.2.2.tr HR.out.2.2
 have x0 : w2.cell? ⟨w1.heap.size + 1 + 1, 0, none⟩ = some (.string ⟨#[107]⟩) := HR.out.2.1.cell 0
 have x1 : w2.cell? ⟨w1.heap.size + 1 + 1, 1, none⟩ = some (.slice (some ⟨w1.heap.size + 1, 0, none⟩) 1 1) := HR.out.2.1.cell 1
 have hst2 : StAt w2 (fun k => (w.heap.size ≤ k ∧ k ≠ g) ∧ k < w1.heap.size) g awS := by
  obtain ⟨v, a, b⟩ := H1.out.1
  exact ⟨v, a.ext HR.out.2.2, b.low.same (js HR.out.2.2)⟩
 have h62 : w2.cell? ⟨g, 6, none⟩ = some (.map none) := by
  obtain ⟨v, a, b⟩ := H1.out.1
  exact (((a.ext HR.out.2.2).cell 6).trans (a.cell 6).symm).trans H1.out.2.1
 have hrec : RecAt w2 (fun k => w1.heap.size ≤ k) awR none 0 (some ⟨w1.heap.size + 1, 0, none⟩) 1 none 0 :=
  ⟨i64_small 3 (by omega), i64_small 0 (by omega), i64_small 0 (by omega), ⟨i64_small 5 (by omega), i64_small 0 (by omega), i64_small 1 (by omega)⟩, ⟨i64_small 0 (by omega), i64_small 0 (by omega), i64_small 0 (by omega)⟩, ⟨Nat.le_refl _, by decide, Rep.Row.nil_⟩,
   (by show (1 : Nat) ≤ _; omega), ⟨Nat.le_refl _, by decide, HR.out.1⟩, ⟨i64_small 0 (by omega), i64_small 0 (by omega), i64_small 0 (by omega), i64_small 0 (by omega)⟩, ⟨Nat.le_refl _, by decide, Rep.Row.nil_⟩⟩
 have C2 := apply_3 g awS awR none (some ⟨w1.heap.size + 1, 0, none⟩) none 0 1 0 _ _ w2 hst2 (fun h => h.1.2 rfl) aw_fair (Seen.of0 hst2 h62 rfl (by decide) (of_decide_eq_true (by kernel_rfl)) aw_vers0 aw_fit0) hrec (fun h => by omega) aw_rfair (hT.below hw2) (by omega) rfl
 have HE := jh (show apply3 awS awR = ((commitS awS awR).1, 0) from by unfold apply3; rw [aw_check, if_neg (by simp)]; exact Prod.ext rfl aw_com)
 have H2 := jh (ja hw2 (ja h62 hT))
 clear hst2 h62 hrec hT hw2
 rw [HE.out] at C2
 unfold ptrV CodeOut at C2
 go_wp2_with fail
 refine C2.mono ?_
 clear C2 x0 x1
 rintro e w3 ⟨rfl, hst3, hO3, h63⟩
 have B3 := HR.out.2.1.only hO3 (fun h => by have : w1.heap.size + 1 + 1 = g := h; omega)
 have x0 : w3.cell? ⟨w1.heap.size + 1 + 1, 0, none⟩ = some (.string ⟨#[107]⟩) := B3.cell 0
 have x1 : w3.cell? ⟨w1.heap.size + 1 + 1, 1, none⟩ = some (.slice (some ⟨w1.heap.size + 1, 0, none⟩) 1 1) := B3.cell 1
 have hw3 : Only (· = g) w w3 := (jo H2.out.1).tr hO3
 have hT3 := H2.out.2.2.only hw3 (by omega) (by omega)
 have hr3 := HR.out.1.same (Same.of_only hO3 fun k hk e => by have : k = g := e; omega) hO3.size
 have hz3 := hO3.size
 have hz2 : w1.heap.size ≤ w2.heap.size := by have := HR.out.2.1.lt; omega
 have hS3 := Seen.of0 hst3 (h63.trans H2.out.2.1) aw_self.2.1 (by rw [aw_self.1]; decide) aw_self.2.2 aw_vers1 aw_fit1
 have C3 := may_any' g (commitS awS awR).1 awB (some ⟨w1.heap.size + 1, 0, none⟩) 1 _ _ w3 hst3 hS3 hr3 (by decide) (by show (1 : Nat) ≤ _; omega) (fun p hp => by rcases List.mem_singleton.1 hp with rfl; decide) hT3 (by omega)
 rw [aw_may2] at C3
 unfold Got3 ptrV at C3
 have H3 := jh (ja hst3 (ja hw3 hS3.self))
 clear B3 hst3 hO3 h63 hw3 hT3 hr3 hS3
 go_wp2_with fail
 refine C3.mono ?_
 clear C3 x0 x1
 rintro e w4 ⟨⟨fv, rfl, hfv⟩, hb4⟩
 obtain ⟨A4, c4, rfl, hc4, hc4'⟩ := hfv.form
 have hfr := hfv.row' (P := fun k => w3.heap.size ≤ k) int_plain (fun k h => (hfv.lt k h).1)
 obtain ⟨fb, fo, fcs, rfl, hfb, hfbl, ⟨rfl, _⟩, hfc⟩ := hfr.at_ (k := 0) (a := 1) rfl
 have y0 : w4.cell? ⟨fb, fo, none⟩ = some (.int .i64 1) := by simpa using hfc 0 _ rfl
 have hb5 := hb4.al (.cells #[.string ⟨#[107]⟩, .int .i64 1, .int .i64 5, .int .i64 0, .int .i64 1] 49)
 obtain ⟨v5, hB5, hI5⟩ := H3.out.1
 have C5 := sversion_any g (commitS awS awR).1 ⟨#[97]⟩ _ (w4.alloc (.cells #[.string ⟨#[107]⟩, .int .i64 1, .int .i64 5, .int .i64 0, .int .i64 1] 49)) ⟨v5, hB5.ext hb5, hI5.same (js hb5)⟩ H3.out.2.2
 rw [aw_ver] at C5
 unfold ptrV at C5
 have H5 := jh hb5
 clear hfr hfc hfv hb4 hb5 hB5 hI5 hc4 hc4' hfb
 go_wp2_with fail
 refine C5.mono ?_
 clear C5
 rintro e w' ⟨rfl, rfl⟩
 go_wp2_with fail
 go_ret
 exact ⟨rfl, (H3.out.2.1.low (fun k hk => by have : k = g := hk; omega) (Nat.le_refl _)).tr H5.out⟩
end Go.Proofs.YtcmjgghkmdbphaaGreatDoor
