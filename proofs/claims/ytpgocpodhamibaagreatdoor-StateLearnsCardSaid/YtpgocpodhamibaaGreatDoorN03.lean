/- penstockalike: Events, Streams, Rec; the law file's own small. The law file's own small: are records looked at? StateWhole: what the law's walk looks at. state.Take; what is looked at is small enough. StateVersions: the law's walk. state.Locked. slices.Index and Contains at ranges; slices.Clip at records. -/
import Derived.Test.YtpgocpodhamibaaGreatDoorN02
import Derived.Test.YtpgocpodhamibaaGreatDoorNK05
import Derived.Test.YtpgocpodhamibaaGreatDoorNK11
import Derived.Test.YtpgocpodhamibaaGreatDoorNL01
import Derived.Test.YtpgocpodhamibaaGreatDoorNL02
import Derived.Test.YtpgocpodhamibaaGreatDoorN01
import Derived.Test.YtpgocpodhamibaaGreatDoorNK06
import Derived.Sort.MapsRangeIn
import Derived.RangeFuncGives
import Derived.WalkKit
import Derived.OwnWalkIn
import Derived.TacticsInMore
import Derived.RegionIn
import Derived.LoopNIn
import Derived.LoopIn
import Derived.Shelf.SlIter.Collect
import Derived.Shelf.SlSortCmp.WholeK
import Derived.Shelf.SlGeneric
import Derived.Ground.SlsfProg
import Derived.Test.YtpgocpodhamibaaGreatDoorProg
import Derived.Sort.OwnSorted
import Derived.Shelf.SlSortCmp.NoneTotal
namespace Go.Proofs.YtpgocpodhamibaaGreatDoor
open Go.RowKit
def sizeE (e : Event) : Int := e.stream.size + e.data.size
def sizeEs (l : List Event) : Int := l.length + (l.map sizeE).sum
def sizeKs (l : List Known) : Int := (l.map fun k => (k.key.size : Int)).sum
def sizeS (s : Stream) : Int := s.name.size + sizeEs s.events + s.keys.length + sizeKs s.keys
def sizeSs (l : List Stream) : Int := l.length + (l.map sizeS).sum
def sizeR (r : Rec) : Int := sizeB r.batch + sizeSs r.streams + r.nodes.length
set_option maxRecDepth 20000 in
set_option maxHeartbeats 1600000 in
theorem sizeEs_any (l : List Event) (A : Option Addr) (c : Nat) (m : Int) (P : Nat → Prop) (w : World) (hr : EventR.Row w P A l) (hm : 0 ≤ m ∧ m ≤ 1000000) :
 Calls Tryz.prog 213 #[.slice A l.length c, .int .i64 m] w fun e w' => GotSize (sizeEs l) m e ∧ Below w.heap.size w w' := by
 have HR := jh hr; clear hr
 obtain ⟨hm0, hm1⟩ := hm
 have hb1 := (jb w.heap.size w).al (.cells #[.int .i64 l.length] 3)
 have C1 := sum_any 0 [(l.length : Int)] w.heap.size (w.alloc (.cells #[.int .i64 l.length] 3)) (Blk.new w 3 [.int .i64 l.length]) ⟨by omega, by omega⟩ (by simp) (by simp)
 go_enter Tryz.func213, Tryz.ntmps213
 go_wp2_with fail
 refine C1.mono ?_
 clear C1
 rintro e w1 ⟨⟨n, rfl, hn0, hn1, hn⟩, rfl⟩
 have HN := jh hn; clear hn
 go_wp2_with fail
 have hlm : n ≤ m → (l.length : Int) ≤ m := fun h => by have := HN.out (by omega); simp at this; omega
 generalize hw1 : (w.alloc (.cells #[.int .i64 l.length] 3)) = w1 at *
 clear hw1
 have HL := jh hlm; clear hlm
 go_loopw [5, 6] (fun x i wr => ∃ (k : Nat) (n : Int), k ≤ l.length ∧ i = .int .i64 k ∧ x = .int .i64 n ∧ 0 ≤ n ∧ n ≤ 1099511627776 ∧ (n ≤ m → n = l.length + ((l.take k).map sizeE).sum) ∧ (n ≤ m → (l.length : Int) ≤ m) ∧ Below w.heap.size w wr) (fun _ i _ => l.length - (intOf i).toNat)
 case atStart => exact ⟨0, n, Nat.zero_le _, rfl, rfl, hn0, hn1, fun h => by have := HN.out (by omega); simpa using this, HL.out, hb1⟩
 case round =>
  obtain ⟨k, n, hkl, rfl, rfl, hn0, hn1, hs, hlm, hbl⟩ := hrel
  have HS := jh (ja hs hlm); clear hs hlm HN HL hb1
  by_cases hlt : k < l.length
  ·have hlt' : (k : Int) < l.length := by omega
   by_cases hnm : n ≤ m
   ·have hlk := List.getElem?_eq_getElem hlt
    have hts := take_snoc l k hlt
    obtain ⟨bb, o, cs, rfl, hP, hbw, hrep, hcs⟩ := (HR.out.same (Same.of_below hbl) hbl.size).at_ hlk
    generalize l[k] = x at *
    obtain ⟨rfl, hfit⟩ := event_rep.1 hrep
    have c0 := hcs 0 _ rfl; have c1 := hcs 1 _ rfl; have c2 := hcs 2 _ rfl; have c3 := hcs 3 _ rfl; have c4 := hcs 4 _ rfl; have c5 := hcs 5 _ rfl; have c6 := hcs 6 _ rfl; simp only [EventR_size, Nat.add_zero] at c0 c1 c2 c3 c4 c5 c6
    have hf1 : (x.stream.size : Int) ≤ 9223372036854775807 := by have := hfit.1; unfold sfit at this; omega
    have hf2 : (x.data.size : Int) ≤ 9223372036854775807 := by have := hfit.2.2.1; unfold sfit at this; omega
    have hlm := HS.out.2 hnm
    have HTS := jh (ja hts (ja hlk hcs)); clear hts hlk hcs hrep hfit
    have hlo := jb wr.heap.size wr
    have HBL := jh hbl
    have y0 := On.cell c0
    have y2 := On.cell c2
    clear hbl c0 c1 c2 c3 c4 c5 c6
    go_upto_region 5 with fail
    refine wp_region_mix (.seg [0, 1, 2, 3, 4, 5, 6, 7, 8, 9, 10, 11, 12] 13 (.seg [] 14 (.leaf [15]))) (fun w' => ∃ d : Wd (On wr), w' = d.w) (by kernel_rfl) (by kernel_rfl) (fun _ _ d _ _ h => by cases d <;> exact h) (ClsW.mk hlo.drew) ?_
    unfold wpMix; simp only [pick, j1, j2, j3, j4]
    (repeat (show wpQuiet _ _ _ _ (_ :: _) _; go_big_quiet_step (fail))); refine qn ?_
    have hb4 := (hlo.al (.cells #[.int .i64 (x.stream.size : Int), .int .i64 (x.data.size : Int)] 3)).drew
    have C2 := sum_any n [(x.stream.size : Int), (x.data.size : Int)] wr.heap.size (wr.alloc (.cells #[.int .i64 (x.stream.size : Int), .int .i64 (x.data.size : Int)] 3)).drew ((Blk.new wr 3 [.int .i64 (x.stream.size : Int), .int .i64 (x.data.size : Int)]).ext (jb _ _).drew) ⟨by omega, by omega⟩ (by simp) (by simp)
    go_wp2_with fail
    (dsimp only [wpList, SegQ]; refine ⟨fun w' => ∃ d : Wd (On wr), w' = d.w, ClsW.mk (hb4), fun _ h => h, ?_⟩; unfold wpMix; simp only [pick, j1, j2, j3, j4]; (repeat (show wpQuiet _ _ _ _ (_ :: _) _; go_big_quiet_step (fail))); refine qn ?_)
    generalize hw3 : (wr.alloc (.cells #[.int .i64 (x.stream.size : Int), .int .i64 (x.data.size : Int)] 3)).drew = w3 at *
    clear hw3
    go_wp2_with fail
    refine C2.mono ?_
    clear C2
    rintro e w4 ⟨⟨n2, rfl, hn20, hn21, hn2⟩, rfl⟩
    have HN2 := jh hn2
    have HB4 := jh (HBL.out.tr hb4)
    clear hn2
    go_wp2_with fail
    (dsimp only [wpList, SegQ]; refine ⟨fun w' => ∃ d : Wd (On wr), w' = d.w, ClsW.mk (hb4), fun _ h => h, ?_⟩; unfold wpMix; simp only [pick, j1, j2, j3, j4]; (repeat (show wpQuiet _ _ _ _ (_ :: _) _; go_big_quiet_step (fail))); refine qn ?_)
    clear y0 y2 hb4 hlo
    go_wp2_with fail
    go_round
    case rel =>
     refine ⟨k + 1, n2, by omega, by simp, rfl, hn20, hn21, fun h => ?_, fun _ => hlm, HB4.out⟩
     have h1 := HN2.out (by omega)
     have h2 := HS.out.1 hnm
     simp only [List.sum_cons, List.sum_nil] at h1
     rw [HTS.out.1, List.map_append, List.sum_append]
     simp only [List.sum_cons, List.sum_nil, List.map_cons, List.map_nil, sizeE]
     omega
    case measure => (simp [intOf]; omega)
   ·have HB := jh hbl
    clear hbl
    go_wp2_with fail
    go_ret
    exact ⟨⟨n, rfl, hn0, hn1, fun h => absurd h (by omega)⟩, HB.out⟩
  ·have hkn : k = l.length := by omega
   subst hkn
   have HB := jh hbl
   clear hbl
   go_wp2_with fail
   all_goals
    go_ret
    exact ⟨⟨n, rfl, hn0, hn1, fun h => by have := HS.out.1 h; rwa [List.take_length] at this⟩, HB.out⟩
theorem sizeEs_nn (l : List Event) : (l.length : Int) ≤ sizeEs l := by
 unfold sizeEs
 have := sum_mono (l := l.map sizeE) (by simp [sizeE]; omega) 0
 simp only [List.take_zero, List.sum_nil] at this
 omega
theorem sizeKs_nn (l : List Known) : 0 ≤ sizeKs l := by
 unfold sizeKs
 have := sum_mono (l := l.map fun k => (k.key.size : Int)) (by simp) 0
 simp only [List.take_zero, List.sum_nil] at this
 omega
set_option maxRecDepth 20000 in
set_option maxHeartbeats 3200000 in
theorem sizeSs_any (l : List Stream) (A : Option Addr) (c : Nat) (m : Int) (P : Nat → Prop) (w : World) (hr : StreamR.Row w P A l) (hm : 0 ≤ m ∧ m ≤ 1000000) :
 Calls Tryz.prog 131 #[.slice A l.length c, .int .i64 m] w fun e w' => GotSize (sizeSs l) m e ∧ Below w.heap.size w w' := by
 have HR := jh hr; clear hr
 obtain ⟨hm0, hm1⟩ := hm
 have hb1 := (jb w.heap.size w).al (.cells #[.int .i64 l.length] 3)
 have C1 := sum_any 0 [(l.length : Int)] w.heap.size (w.alloc (.cells #[.int .i64 l.length] 3)) (Blk.new w 3 [.int .i64 l.length]) ⟨by omega, by omega⟩ (by simp) (by simp)
 go_enter Tryz.func131, Tryz.ntmps131
 go_wp2_with fail
 refine C1.mono ?_
 clear C1
 rintro e w1 ⟨⟨n, rfl, hn0, hn1, hn⟩, rfl⟩
 have HN := jh hn; clear hn
 go_wp2_with fail
 have hlm : n ≤ m → (l.length : Int) ≤ m := fun h => by have := HN.out (by omega); simp at this; omega
 generalize hw1 : (w.alloc (.cells #[.int .i64 l.length] 3)) = w1 at *
 clear hw1
 have HL := jh hlm; clear hlm
 go_loopw [5, 6] (fun x i wr => ∃ (k : Nat) (n : Int), k ≤ l.length ∧ i = .int .i64 k ∧ x = .int .i64 n ∧ 0 ≤ n ∧ n ≤ 1099511627776 ∧ (n ≤ m → n = l.length + ((l.take k).map sizeS).sum) ∧ (n ≤ m → (l.length : Int) ≤ m) ∧ Below w.heap.size w wr) (fun _ i _ => l.length - (intOf i).toNat)
 case atStart => exact ⟨0, n, Nat.zero_le _, rfl, rfl, hn0, hn1, fun h => by have := HN.out (by omega); simpa using this, HL.out, hb1⟩
 case round =>
  obtain ⟨k, n, hkl, rfl, rfl, hn0, hn1, hs, hlm, hbl⟩ := hrel
  have HS := jh (ja hs hlm); clear hs hlm HN HL hb1
  by_cases hlt : k < l.length
  ·have hlt' : (k : Int) < l.length := by omega
   by_cases hnm : n ≤ m
   ·have hlk := List.getElem?_eq_getElem hlt
    have hts := take_snoc l k hlt
    have HRX := jh (fun W (hW : Below w.heap.size w W) => (HR.out.same (Same.of_below hW) hW.size).at_ hlk)
    obtain ⟨bb, o, cs, hA, hP, hbw, hrep, hcs⟩ := HRX.out wr hbl
    generalize l[k] = x at *
    obtain ⟨Ae, ce, Ak, ck, rfl, hf0, he1, he2, hrow, hk1, hk2, hkrow⟩ := stream_rep.1 hrep
    subst hA
    have c0 := hcs 0 _ rfl; have c1 := hcs 1 _ rfl; have c2 := hcs 2 _ rfl; simp only [StreamR_size, Nat.add_zero] at c0 c1 c2
    have hf1 : (x.name.size : Int) ≤ 9223372036854775807 := by unfold sfit at hf0; omega
    have hlm := HS.out.2 hnm
    have hlo := jb wr.heap.size wr
    have hkl0 : (0 : Int) ≤ x.keys.length := Int.natCast_nonneg _
    have HTS := jh (ja hts (ja hrow hkrow)); clear hts hrep hf0
    have HBL := jh (ja hbl hcs)
    have y0 := On.cell c0
    have y1 := On.cell c1
    have y2 := On.cell c2
    clear hbl c0 c1 c2 hcs hrow hkrow
    go_upto_region 5 with fail
    refine wp_region_mix (.seg [0, 1, 2, 3, 4, 5, 6, 7, 8, 9, 10, 11, 12, 14, 15, 16, 17, 18, 19] 13 (.seg [] 20 (.seg [] 21 (.leaf [22])))) (fun w' => ∃ d : Wd (On wr), w' = d.w) (by kernel_rfl) (by kernel_rfl) (fun _ _ d _ _ h => by cases d <;> exact h) (ClsW.mk hlo.drew) ?_
    unfold wpMix; simp only [pick, j1, j2, j3, j4]
    (repeat (show wpQuiet _ _ _ _ (_ :: _) _; go_big_quiet_step (fail))); refine qn ?_
    go_wp2_with fail
    refine (sizeEs_any x.events Ae ce m _ wr.drew (HTS.out.2.1.ext (jb _ wr).drew) ⟨hm0, hm1⟩).mono ?_
    rintro e w2 ⟨⟨t, rfl, ht0, ht1, ht⟩, hb3'⟩
    have hb3 : Below wr.heap.size wr w2 := (jb _ wr).drew.tr hb3'
    have HT := jh ht
    clear ht hb3'
    go_wp2_with fail
    (dsimp only [wpList, SegQ]; refine ⟨fun w' => ∃ d : Wd (On wr), w' = d.w, ClsW.mk (hb3), fun _ h => h, ?_⟩; unfold wpMix; simp only [pick, j1, j2, j3, j4]; (repeat (show wpQuiet _ _ _ _ (_ :: _) _; go_big_quiet_step (fail))); refine qn ?_)
    have hb4 := hb3.al (.cells #[.int .i64 (x.name.size : Int), .int .i64 t, .int .i64 (x.keys.length : Int)] 3)
    have C2 := sum_any n [(x.name.size : Int), t, (x.keys.length : Int)] w2.heap.size (w2.alloc (.cells #[.int .i64 (x.name.size : Int), .int .i64 t, .int .i64 (x.keys.length : Int)] 3)) (Blk.new w2 3 [.int .i64 (x.name.size : Int), .int .i64 t, .int .i64 (x.keys.length : Int)]) ⟨by omega, by omega⟩ (by simp; omega) (by simp)
    go_wp2_with fail
    (dsimp only [wpList, SegQ]; refine ⟨fun w' => ∃ d : Wd (On wr), w' = d.w, ClsW.mk (hb4), fun _ h => h, ?_⟩; unfold wpMix; simp only [pick, j1, j2, j3, j4]; (repeat (show wpQuiet _ _ _ _ (_ :: _) _; go_big_quiet_step (fail))); refine qn ?_)
    generalize hw3 : (w2.alloc (.cells #[.int .i64 (x.name.size : Int), .int .i64 t, .int .i64 (x.keys.length : Int)] 3)) = w3 at *
    clear hw3
    go_wp2_with fail
    refine C2.mono ?_
    clear C2
    rintro e w4 ⟨⟨n2, rfl, hn20, hn21, hn2⟩, rfl⟩
    have HB4 := jh (HBL.out.1.tr hb4)
    have HC2 := jh (fun W (hW : Below w3.heap.size w3 W) => (Below.cell (B := w3.heap.size) (w := w3) hW (p := ⟨bb, o + k * 3 + 2, none⟩) (by have := hb4.size; have : bb < wr.heap.size := hbw; show bb < _; omega)).trans (On.cell (HBL.out.2 2 _ rfl : wr.cell? ⟨bb, o + k * StreamR.size + 2, none⟩ = _) ⟨_, hb4⟩))
    have HKR := jh (HTS.out.2.2.ext hb4)
    have HN2 := jh (show n2 ≤ m → n2 = n + x.name.size + sizeEs x.events + x.keys.length from fun h => by
     have h1 := hn2 (by omega)
     simp only [List.sum_cons, List.sum_nil] at h1
     have h3 := HT.out (by omega)
     omega)
    clear hn2
    go_wp2_with fail
    (dsimp only [wpList, SegQ]; refine ⟨fun w' => ∃ d : Wd (On wr), w' = d.w, ClsW.mk (hb4), fun _ h => h, ?_⟩; unfold wpMix; simp only [pick, j1, j2, j3, j4]; (repeat (show wpQuiet _ _ _ _ (_ :: _) _; go_big_quiet_step (fail))); refine qn ?_)
    clear y0 y1 y2 hb4 hb3 hlo
    go_wp2_with fail
    go_loopw [5, 7] (fun xv kv wr => ∃ (q : Nat) (n3 : Int), q ≤ x.keys.length ∧ kv = .int .i64 q ∧ xv = .int .i64 n3 ∧ 0 ≤ n3 ∧ n3 ≤ 1099511627776 ∧ (n3 ≤ m → n3 = n + x.name.size + sizeEs x.events + x.keys.length + ((x.keys.take q).map fun k => (k.key.size : Int)).sum) ∧ Below w3.heap.size w3 wr) (fun _ kv _ => x.keys.length - (intOf kv).toNat)
    case atStart => exact ⟨0, n2, Nat.zero_le _, rfl, rfl, hn20, hn21, fun h => by have := HN2.out h; simpa using this, jb _ _⟩
    case round =>
     obtain ⟨q, n3, hql, rfl, rfl, hn30, hn31, hs3, hb5⟩ := hrel
     have y2 := HC2.out wr hb5
     have HS3 := jh (ja hs3 hb5)
     clear hs3
     by_cases hltq : q < x.keys.length
     ·have hltq' : (q : Int) < x.keys.length := by omega
      by_cases hnm3 : n3 ≤ m
      ·have hlq := List.getElem?_eq_getElem hltq
       have htq := take_snoc x.keys q hltq
       obtain ⟨bk, ok, cs2, rfl, _, _, hrk, hck⟩ := (HKR.out.ext hb5).at_ hlq
       generalize x.keys[q] = kk at *
       obtain ⟨rfl, hkf⟩ := known_rep.1 hrk
       have z0 := hck 0 _ rfl
       simp only [KnownR_size, Nat.add_zero] at z0
       have hkz : (kk.key.size : Int) ≤ 9223372036854775807 := by have := hkf.1; unfold sfit at this; omega
       have hb6 := hb5.al (.cells #[.int .i64 (kk.key.size : Int)] 3)
       have C3 := sum_any n3 [(kk.key.size : Int)] wr.heap.size (wr.alloc (.cells #[.int .i64 (kk.key.size : Int)] 3)) (Blk.new wr 3 [.int .i64 (kk.key.size : Int)]) ⟨by omega, by omega⟩ (by simp) (by simp)
       have HQX := jh (ja htq hb6)
       clear hlq htq hrk hck hkf hb5 hb6
       go_wp2_with fail
       refine C3.mono ?_
       clear C3 y2 z0
       rintro e w6 ⟨⟨n4, rfl, hn40, hn41, hn4⟩, rfl⟩
       have HN4 := jh hn4
       clear hn4
       go_wp2_with fail
       go_round
       case rel =>
        refine ⟨q + 1, n4, by omega, by go_num, rfl, hn40, hn41, fun h => ?_, HQX.out.2⟩
        have h1 := HN4.out (by omega)
        simp only [List.sum_cons, List.sum_nil] at h1
        have h2 := HS3.out.1 hnm3
        rw [HQX.out.1, List.map_append, List.sum_append]
        simp only [List.sum_cons, List.sum_nil, List.map_cons, List.map_nil]
        omega
       case measure => (simp [intOf]; omega)
      ·clear hb5
       go_wp2_with fail
       go_round
       case rel => exact ⟨k + 1, n3, by omega, by go_num, rfl, hn30, hn31, fun h => absurd h (by omega), fun _ => hlm, HB4.out.trans (HS3.out.2.mono HB4.out.size)⟩
       case measure => (simp [intOf]; omega)
     ·have hqn : q = x.keys.length := by omega
      clear hb5
      go_wp2_with fail
      all_goals
       go_round
       case rel =>
        refine ⟨k + 1, n3, by omega, by go_num, rfl, hn30, hn31, fun h => ?_, fun _ => hlm, HB4.out.trans (HS3.out.2.mono HB4.out.size)⟩
        have h1 := HS3.out.1 h
        have h2 := HS.out.1 hnm
        rw [hqn, List.take_length] at h1
        rw [HTS.out.1, List.map_append, List.sum_append]
        simp only [List.sum_cons, List.sum_nil, List.map_cons, List.map_nil, sizeS, sizeKs]
        omega
       case measure => (simp [intOf]; omega)
   ·have HB := jh hbl
    clear hbl
    go_wp2_with fail
    go_ret
    exact ⟨⟨n, rfl, hn0, hn1, fun h => absurd h (by omega)⟩, HB.out⟩
  ·have hkn : k = l.length := by omega
   subst hkn
   have HB := jh hbl
   clear hbl
   go_wp2_with fail
   all_goals
    go_ret
    exact ⟨⟨n, rfl, hn0, hn1, fun h => by have := HS.out.1 h; rwa [List.take_length] at this⟩, HB.out⟩
set_option maxRecDepth 20000 in
set_option maxHeartbeats 3200000 in
theorem sizeR_any (r : Rec) (nA pA sA : Option Addr) (nc pc sc : Nat) (m : Int) (P : Nat → Prop) (w : World) (hr : RecAt w P r nA nc pA pc sA sc) (hm : 0 ≤ m ∧ m ≤ 1000000) :
 Calls Tryz.prog 55 #[.agg (r.cells nA nc pA pc sA sc).toArray, .int .i64 m] w fun e w' => GotSize (sizeR r) m e ∧ Below w.heap.size w w' := by
 have HR := jh hr
 obtain ⟨hm0, hm1⟩ := hm
 have B0 := Blk.new w 43 (r.cells nA nc pA pc sA sc)
 have hb0 := (jb w.heap.size w).al (.cells (r.cells nA nc pA pc sA sc).toArray 43)
 have hk0 : (r.batch.key.size : Int) ≤ 9223372036854775807 := by have := hr.key; unfold sfit at this; omega
 have hn0 : (0 : Int) ≤ r.nodes.length := Int.natCast_nonneg _
 clear hr
 go_enter Tryz.func55, Tryz.ntmps55
 go_upto_region 1 with fail
 generalize hw0 : (w.alloc (.cells (r.cells nA nc pA pc sA sc).toArray 43)) = w0 at *
 clear hw0
 have hr0 := ja (HR.out.puts.2.2.ext hb0) (HR.out.streams.2.2.ext hb0)
 have y11 := On.cell (B0.cell 11 : w0.cell? ⟨w.heap.size, 11, none⟩ = some (.string r.batch.key))
 have y12 := On.cell (B0.cell 12 : w0.cell? ⟨w.heap.size, 12, none⟩ = some (.slice pA r.batch.puts.length pc))
 have y10 := On.cell (B0.cell 10 : w0.cell? ⟨w.heap.size, 10, none⟩ = some (.slice nA r.nodes.length nc))
 have y17 := On.cell (B0.cell 17 : w0.cell? ⟨w.heap.size, 17, none⟩ = some (.slice sA r.streams.length sc))
 have hlo := jb w0.heap.size w0
 have HX := jh (ja hr0 hb0)
 clear B0 hb0 hr0
 refine wp_region_mix (.seg [0, 1, 2, 4, 5, 6, 8, 9, 10] 3 (.seg [] 7 (.seg [] 11 (.seg [] 12 (.leaf [13]))))) (fun w' => ∃ d : Wd (On w0), w' = d.w) (by kernel_rfl) (by kernel_rfl) (fun _ _ d _ _ h => by cases d <;> exact h) (ClsW.mk hlo.drew) ?_
 unfold wpMix; simp only [pick, j1, j2, j3, j4]
 (repeat (show wpQuiet _ _ _ _ (_ :: _) _; go_big_quiet_step (fail))); refine qn ?_
 go_wp2_with fail
 refine (sizeB_any r.batch pA pc m _ w0.drew (HX.out.1.1.ext (jb _ w0).drew) HR.out.key ⟨hm0, hm1⟩).mono ?_
 rintro e w1 ⟨⟨t1, rfl, ht10, ht11, ht1⟩, hb1'⟩
 have hb1 : Below w0.heap.size w0 w1 := (jb _ w0).drew.tr hb1'
 have HT1 := jh ht1
 clear ht1 hb1'
 go_wp2_with fail
 (dsimp only [wpList, SegQ]; refine ⟨fun w' => ∃ d : Wd (On w0), w' = d.w, ClsW.mk (hb1), fun _ h => h, ?_⟩; unfold wpMix; simp only [pick, j1, j2, j3, j4]; (repeat (show wpQuiet _ _ _ _ (_ :: _) _; go_big_quiet_step (fail))); refine qn ?_)
 go_wp2_with fail
 refine (sizeSs_any r.streams sA sc m _ w1 (HX.out.1.2.ext hb1) ⟨hm0, hm1⟩).mono ?_
 rintro e w2 ⟨⟨t2, rfl, ht20, ht21, ht2⟩, hb2'⟩
 have hb2 : Below w0.heap.size w0 w2 := hb1.tr hb2'
 have HT2 := jh ht2
 clear ht2 hb2'
 go_wp2_with fail
 (dsimp only [wpList, SegQ]; refine ⟨fun w' => ∃ d : Wd (On w0), w' = d.w, ClsW.mk (hb2), fun _ h => h, ?_⟩; unfold wpMix; simp only [pick, j1, j2, j3, j4]; (repeat (show wpQuiet _ _ _ _ (_ :: _) _; go_big_quiet_step (fail))); refine qn ?_)
 have hb4 := hb2.al (.cells #[.int .i64 t2, .int .i64 (r.nodes.length : Int)] 3)
 have C2 := sum_any t1 [t2, (r.nodes.length : Int)] w2.heap.size (w2.alloc (.cells #[.int .i64 t2, .int .i64 (r.nodes.length : Int)] 3)) (Blk.new w2 3 [.int .i64 t2, .int .i64 (r.nodes.length : Int)]) ⟨by omega, by omega⟩ (by simp; omega) (by simp)
 go_wp2_with fail
 (dsimp only [wpList, SegQ]; refine ⟨fun w' => ∃ d : Wd (On w0), w' = d.w, ClsW.mk (hb4), fun _ h => h, ?_⟩; unfold wpMix; simp only [pick, j1, j2, j3, j4]; (repeat (show wpQuiet _ _ _ _ (_ :: _) _; go_big_quiet_step (fail))); refine qn ?_)
 generalize hw3 : (w2.alloc (.cells #[.int .i64 t2, .int .i64 (r.nodes.length : Int)] 3)) = w3 at *
 clear hw3
 go_wp2_with fail
 refine C2.mono ?_
 clear C2
 rintro e w4 ⟨⟨n2, rfl, hn20, hn21, hn2⟩, rfl⟩
 have HN2 := jh hn2
 have HB4 := jh (HX.out.2.tr hb4)
 clear hn2
 go_wp2_with fail
 (dsimp only [wpList, SegQ]; refine ⟨fun w' => ∃ d : Wd (On w0), w' = d.w, ClsW.mk (hb4), fun _ h => h, ?_⟩; unfold wpMix; simp only [pick, j1, j2, j3, j4]; (repeat (show wpQuiet _ _ _ _ (_ :: _) _; go_big_quiet_step (fail))); refine qn ?_)
 clear y10 y11 y12 y17 hb4 hb2 hb1 hlo
 go_wp2_with fail
 go_ret
 refine ⟨⟨n2, rfl, hn20, hn21, fun h => ?_⟩, HB4.out⟩
 have h1 := HN2.out (by omega)
 simp only [List.sum_cons, List.sum_nil] at h1
 have h3 := HT1.out (by omega)
 have h4 := HT2.out (by omega)
 unfold sizeR
 omega
end Go.Proofs.YtpgocpodhamibaaGreatDoor
namespace Go.Proofs.YtpgocpodhamibaaGreatDoor
open Go.RowKit
def sizeRs (l : List Rec) : Int := (l.map fun r => sizeR r + 5).sum
def GotSmall (l : List Rec) (e : Ending) : Prop := ∃ b : Bool, e = .returned (.bool b) ∧ (b = true → l.length ≤ 80 ∧ sizeRs l ≤ 20000)
theorem recs_at {w : World} {P : Nat → Prop} {A : Option Addr} {l : List Rec} (h : RecR.Row w P A l) {k : Nat} {r : Rec} (hk : l[k]? = some r) :
 ∃ b o nA nc pA pc sA sc, A = some ⟨b, o, none⟩ ∧ b < w.heap.size ∧ RecAt w P r nA nc pA pc sA sc ∧ ∀ j u, (r.cells nA nc pA pc sA sc)[j]? = some u → w.cell? ⟨b, o + k * 18 + j, none⟩ = some u := by
 obtain ⟨b, o, cs, hA, _, hb, hrep, hcs⟩ := h.at_ hk
 obtain ⟨nA, nc, pA, pc, sA, sc, rfl, hr⟩ := rec_rep.1 hrep
 exact ⟨b, o, nA, nc, pA, pc, sA, sc, hA, hb, hr, hcs⟩
set_option maxRecDepth 20000 in
set_option maxHeartbeats 3200000 in
theorem small_any (l : List Rec) (A : Option Addr) (c : Nat) (P : Nat → Prop) (w : World) (hr : RecR.Row w P A l) (hc : l.length ≤ c ∧ c ≤ 9223372036854775807) :
 Calls Tryz.prog 20 #[.slice A l.length c] w fun e w' => GotSmall l e ∧ Below w.heap.size w w' := by
 have HR := jh hr; clear hr
 have hl0 : (l.length : Int) ≤ 9223372036854775807 := by omega
 clear hc
 go_enter Tryz.func20, Tryz.ntmps20
 go_wp2_with fail
 go_loopw [3, 4] (fun x i wr => ∃ (k : Nat) (n : Int), k ≤ l.length ∧ i = .int .i64 k ∧ x = .int .i64 n ∧ 0 ≤ n ∧ n ≤ 20000 ∧ n = sizeRs (l.take k) ∧ Below w.heap.size w wr) (fun _ i _ => l.length - (intOf i).toNat)
 case atStart => exact ⟨0, 0, Nat.zero_le _, rfl, rfl, by omega, by omega, by simp [sizeRs], jb _ _⟩
 case round =>
  obtain ⟨k, n, hkl, rfl, rfl, hn0, hn1, hs, hbl⟩ := hrel
  have HS := jh (ja hs hbl); clear hs
  by_cases hlt : k < l.length
  ·have hlt' : (k : Int) < l.length := by omega
   have hlk := List.getElem?_eq_getElem hlt
   have hts := take_snoc l k hlt
   obtain ⟨bb, o, nA, nc, pA, pc, sA, sc, rfl, hbw, hrec, hcs⟩ := recs_at (HR.out.same (Same.of_below hbl) hbl.size) hlk
   generalize l[k] = r at *
   have C1 := sizeR_any r nA pA sA nc pc sc 20000 _ wr hrec ⟨by omega, by omega⟩
   have HTS := jh (ja hts hcs)
   clear hlk hts hrec hcs hbl
   go_wp2_with (first
    | ((with_reducible refine wpList_load_at rfl rfl ?_ HTS.out.2 Tryz.underlying43 rfl (by kernel_rfl) ?_); · rfl)
    | fail)
   refine C1.mono ?_
   clear C1
   rintro e w1 ⟨⟨t, rfl, ht0, ht1, ht⟩, hb1⟩
   have HT := jh ht
   have hb2 := hb1.al (.cells #[.int .i64 t, .int .i64 5] 3)
   have C2 := sum_any n [t, 5] w1.heap.size (w1.alloc (.cells #[.int .i64 t, .int .i64 5] 3)) (Blk.new w1 3 [.int .i64 t, .int .i64 5]) ⟨by omega, by omega⟩ (by simp; omega) (by simp)
   have HB2 := jh (HS.out.2.tr hb2)
   clear ht hb1 hb2
   go_wp2_with fail
   refine C2.mono ?_
   clear C2
   rintro e w2 ⟨⟨n2, rfl, hn20, hn21, hn2⟩, rfl⟩
   have HN2 := jh hn2
   clear hn2
   by_cases hle : (20000 : Int) < n2
   ·go_wp2_with fail
    go_ret
    exact ⟨⟨false, rfl, fun h => by cases h⟩, HB2.out⟩
   ·go_wp2_with fail
    go_round
    case rel =>
     refine ⟨k + 1, n2, by omega, by go_num, rfl, hn20, by omega, ?_, HB2.out⟩
     have h1 := HN2.out (by omega)
     simp only [List.sum_cons, List.sum_nil] at h1
     have h2 := HT.out (by omega)
     have h3 := HS.out.1
     unfold sizeRs at h3 ⊢
     rw [HTS.out.1, List.map_append, List.sum_append]
     simp only [List.sum_cons, List.sum_nil, List.map_cons, List.map_nil]
     omega
    case measure => (simp [intOf]; omega)
  ·have hkn : k = l.length := by omega
   subst hkn
   clear hbl
   have HZ := jh (show sizeRs l ≤ 20000 from by have := HS.out.1; rw [List.take_length] at this; omega)
   by_cases hle : (l.length : Int) ≤ 80
   ·go_wp2_with fail
    go_ret
    exact ⟨⟨true, rfl, fun _ => ⟨by omega, HZ.out⟩⟩, HS.out.2⟩
   ·go_wp2_with fail
    go_ret
    exact ⟨⟨false, rfl, fun h => by cases h⟩, HS.out.2⟩
end Go.Proofs.YtpgocpodhamibaaGreatDoor
namespace Go.Proofs.YtpgocpodhamibaaGreatDoor
open Go.RowKit
theorem StAt.ext {w w' : World} {P : Nat → Prop} {g : Nat} {s : St} (h : StAt w P g s) (hb : Below w.heap.size w w') : StAt w' P g s := by
 obtain ⟨v, a, k⟩ := h
 exact ⟨v, a.ext hb, k.same (Same.of_below hb)⟩
theorem StAt.mono {w : World} {P Q : Nat → Prop} {g : Nat} {s : St} (h : StAt w P g s) (hs : ∀ k, P k → Q k) : StAt w Q g s := by
 obtain ⟨v, a, k⟩ := h
 exact ⟨v, a, k.mono hs⟩
theorem len_lenL (l : List Str) : (l.length : Int) ≤ lenL l := by
 unfold lenL
 have := sum_mono (l := l.map fun s => (s.size : Int)) (by simp) 0
 simp only [List.take_zero, List.sum_nil] at this
 omega
theorem sizeP_bd (p : Put) : (p.data.length : Int) ≤ sizeP p := by
 have := len_lenL p.data
 unfold sizeP; omega
theorem sumP_bd : ∀ l : List Put, (sumD l : Int) ≤ (l.map sizeP).sum ∧ ∀ p ∈ l, (p.data.length : Int) ≤ (l.map sizeP).sum
 | [] => ⟨by simp [sumD], by simp⟩
 | p :: l => by
   obtain ⟨h1, h2⟩ := sumP_bd l
   have h3 := sizeP_bd p
   have h4 : (0 : Int) ≤ (sumD l : Int) := Int.natCast_nonneg _
   have h5 : (0 : Int) ≤ (p.data.length : Int) := Int.natCast_nonneg _
   have e : sumD (p :: l) = p.data.length + sumD l := by simp [sumD]
   rw [List.map_cons, List.sum_cons, e]
   refine ⟨by omega, fun q hq => ?_⟩
   rcases List.mem_cons.1 hq with rfl | hq
   ·omega
   ·have := h2 q hq; omega
end Go.Proofs.YtpgocpodhamibaaGreatDoor
namespace Go.Proofs.YtpgocpodhamibaaGreatDoor
open Go.RowKit
def costL (l : List Rec) : Nat := (l.map costR).sum
theorem costL_take {l : List Rec} {k : Nat} (h : k < l.length) : costL (l.take (k + 1)) = costL (l.take k) + costR l[k] := by
 rw [take_snoc l k h]; unfold costL; rw [List.map_append, List.sum_append]; simp
theorem costL_tk (l : List Rec) (k : Nat) : costL (l.take k) ≤ costL l := by
 have h : costL l = costL (l.take k) + costL (l.drop k) := by
  conv => lhs; rw [← List.take_append_drop k l]
  unfold costL; rw [List.map_append, List.sum_append]
 omega
def streamN (s : Stream) : Nat := s.events.length + s.keys.length + 1
theorem sizeS_bd (s : Stream) : (streamN s : Int) ≤ 1 + sizeS s := by
 have h1 := sizeEs_nn s.events
 have h2 := sizeKs_nn s.keys
 unfold streamN sizeS
 omega
theorem sizeSs_bd : ∀ l : List Stream, (((l.map streamN).sum : Nat) : Int) ≤ sizeSs l
 | [] => by simp [sizeSs]
 | s :: l => by
   have h1 := sizeSs_bd l
   have h2 := sizeS_bd s
   unfold sizeSs at h1 ⊢
   simp only [List.map_cons, List.sum_cons, List.length_cons]
   omega
theorem weights_bd : ∀ l : List Stream, weights l ≤ 1300 * (l.map streamN).sum ∧ l.length ≤ (l.map streamN).sum ∧ ∀ s ∈ l, s.events.length ≤ (l.map streamN).sum ∧ s.keys.length ≤ (l.map streamN).sum
 | [] => ⟨by simp [weights], by simp, by simp⟩
 | s :: l => by
   obtain ⟨h1, h2, h3⟩ := weights_bd l
   have e : ((s :: l).map streamN).sum = streamN s + (l.map streamN).sum := by simp
   have e2 : weights (s :: l) = s.weight + weights l := by simp [weights]
   have e3 : streamN s = s.events.length + s.keys.length + 1 := rfl
   have e4 : s.weight = 300 + 1300 * s.events.length + 250 * s.keys.length := rfl
   rw [e, e2]
   refine ⟨by omega, by simp only [List.length_cons]; omega, fun x hx => ?_⟩
   rcases List.mem_cons.1 hx with rfl | hx
   ·omega
   ·have := h3 x hx; omega
theorem sizeB_sum (b : Batch) : (sumD b.puts : Int) ≤ sizeB b ∧ (b.puts.length : Int) ≤ sizeB b ∧ ∀ p ∈ b.puts, (p.data.length : Int) ≤ sizeB b := by
 obtain ⟨h1, h2⟩ := sumP_bd b.puts
 have h4 : (0 : Int) ≤ (sumD b.puts : Int) := Int.natCast_nonneg _
 unfold sizeB
 exact ⟨by omega, by omega, fun p hp => by have := h2 p hp; omega⟩
theorem sizeR_bd (r : Rec) : (costR r : Int) ≤ sizeR r ∧ 0 ≤ sizeR r := by
 obtain ⟨h1, h2, _⟩ := sizeB_sum r.batch
 have h3 := sizeSs_bd r.streams
 have h4 : costR r = sumD r.batch.puts + (r.streams.map streamN).sum := rfl
 have h5 : (0 : Int) ≤ (sumD r.batch.puts : Int) := Int.natCast_nonneg _
 unfold sizeR
 rw [h4]
 omega
theorem sizeR_fair {r : Rec} (h : sizeR r ≤ 20000) : r.Fair := by
 obtain ⟨h1, h2, h2'⟩ := sizeB_sum r.batch
 have h3 := sizeSs_bd r.streams
 obtain ⟨h4, h5, h6⟩ := weights_bd r.streams
 have h7 : (0 : Int) ≤ (sumD r.batch.puts : Int) := Int.natCast_nonneg _
 unfold sizeR at h
 exact ⟨by omega, fun p hp => by have := h2' p hp; omega, by omega, by omega, by omega, fun s hs => by have := h6 s hs; omega⟩
theorem sizeRs_bd : ∀ l : List Rec, (costL l : Int) ≤ sizeRs l ∧ ∀ r ∈ l, sizeR r ≤ sizeRs l
 | [] => ⟨by simp [costL, sizeRs], by simp⟩
 | r :: l => by
   obtain ⟨h1, h2⟩ := sizeRs_bd l
   obtain ⟨h3, h4⟩ := sizeR_bd r
   have h5 : (0 : Int) ≤ (costL l : Int) := Int.natCast_nonneg _
   have e1 : costL (r :: l) = costR r + costL l := by simp [costL]
   have e2 : sizeRs (r :: l) = sizeR r + 5 + sizeRs l := by simp [sizeRs]
   rw [e1, e2]
   refine ⟨by omega, fun x hx => ?_⟩
   rcases List.mem_cons.1 hx with rfl | hx
   ·omega
   ·have := h2 x hx; omega
end Go.Proofs.YtpgocpodhamibaaGreatDoor
namespace Go.Proofs.YtpgocpodhamibaaGreatDoor
open Go.RowKit
structure RcB (w : World) (l : List Rec) (A : Option Addr) (W : World) : Prop where
 r : RecR.Row W (fun k => k < w.heap.size) A l
 tabs : Tabs W
 below : Below w.heap.size w W
section
variable {w : World} {l : List Rec} {A : Option Addr} {W W' : World}
theorem RcB.ext (h : RcB w l A W) (hb : Below W.heap.size W W') : RcB w l A W' := ⟨h.r.ext hb, h.tabs.below hb, h.below.tr hb⟩
theorem RcB.only {g : Nat} (h : RcB w l A W) (hO : Only (· = g) W W') (hg : w.heap.size ≤ g) (h2 : 2 ≤ g) : RcB w l A W' :=
 ⟨h.r.same (Same.of_only hO fun k hk e => by have e' : k = g := e; omega) hO.size,
  h.tabs.only hO (by intro e; have e' : 0 = g := e; omega) (by intro e; have e' : 1 = g := e; omega), h.below.trans (hO.low (fun k e => by have e' : k = g := e; omega) (by have := h.below.size; omega))⟩
end
end Go.Proofs.YtpgocpodhamibaaGreatDoor
namespace Go.Proofs.YtpgocpodhamibaaGreatDoor
open Go.RowKit
set_option maxRecDepth 20000 in
set_option maxHeartbeats 1600000 in
theorem lockedAt_any (r : Range) (b : Nat) (x : Put) (A : Option Addr) (c : Nat) (w : World) (hb : Blk w b 40 [.int .i64 r.first, .int .i64 r.last, .int .i64 r.owner, .int .i64 r.epoch]) (hs : sfit x.stream) :
 Calls Tryz.prog 110 #[.agg #[.string x.stream, .int .i64 x.expect, .slice A x.data.length c], .pointer (some ⟨b, 0, none⟩)] w fun e w' => e = .returned (.bool (r.has (hashS x.stream))) ∧ Below w.heap.size w w' := by
 have hb0 := (jb w.heap.size w).al (.cells #[.string x.stream, .int .i64 x.expect, .slice A x.data.length c] 29)
 have B0 := Blk.new w 29 [.string x.stream, .int .i64 x.expect, .slice A x.data.length c]
 have C1 := fun W => hashI_any x.stream W hs
 have C2 := fun W => has_any r (hashS x.stream) W
 unfold Range.val at C2
 have BR := hb.ext hb0
 clear hs hb
 go_enter Tryz.func110, Tryz.ntmps110
 go_upto_region 1 with fail
 generalize hw1 : (w.alloc (.cells #[.string x.stream, .int .i64 x.expect, .slice A x.data.length c] 29)) = w1 at *
 clear hw1
 have z0 := On.cell (BR.cell 0 : w1.cell? ⟨b, 0, none⟩ = some (.int .i64 r.first))
 have z1 := On.cell (BR.cell 1 : w1.cell? ⟨b, 1, none⟩ = some (.int .i64 r.last))
 have z2 := On.cell (BR.cell 2 : w1.cell? ⟨b, 2, none⟩ = some (.int .i64 r.owner))
 have z3 := On.cell (BR.cell 3 : w1.cell? ⟨b, 3, none⟩ = some (.int .i64 r.epoch))
 have y0 := On.cell (B0.cell 0 : w1.cell? ⟨w.heap.size, 0, none⟩ = some (.string x.stream))
 have hlo := jb w1.heap.size w1
 have HB0 := jh hb0
 clear BR B0 hb0
 refine wp_region_mix (.seg [0, 1, 2] 3 (.seg [] 4 (.leaf [5]))) (fun w' => ∃ d : Wd (On w1), w' = d.w) (by kernel_rfl) (by kernel_rfl) (fun _ _ d _ _ h => by cases d <;> exact h) (ClsW.mk hlo.drew) ?_
 unfold wpMix; simp only [pick, j1, j2, j3, j4]
 (repeat (show wpQuiet _ _ _ _ (_ :: _) _; go_big_quiet_step (fail))); refine qn ?_
 go_wp2_with fail
 refine (C1 _).mono ?_
 rintro e w' ⟨rfl, rfl⟩
 go_wp2_with fail
 (dsimp only [wpList, SegQ]; refine ⟨fun w' => ∃ d : Wd (On w1), w' = d.w, ClsW.mk (hlo.drew), fun _ h => h, ?_⟩; unfold wpMix; simp only [pick, j1, j2, j3, j4]; (repeat (show wpQuiet _ _ _ _ (_ :: _) _; go_big_quiet_step (fail))); refine qn ?_)
 go_wp2_with fail
 refine (C2 _).mono ?_
 rintro e w3 ⟨rfl, hb3'⟩
 have hb3 : Below w1.heap.size w1 w3 := hlo.drew.tr hb3'
 have HB3 := jh (HB0.out.tr hb3)
 clear hb3'
 go_wp2_with fail
 (dsimp only [wpList, SegQ]; refine ⟨fun w' => ∃ d : Wd (On w1), w' = d.w, ClsW.mk (hb3), fun _ h => h, ?_⟩; unfold wpMix; simp only [pick, j1, j2, j3, j4]; (repeat (show wpQuiet _ _ _ _ (_ :: _) _; go_big_quiet_step (fail))); refine qn ?_)
 clear z0 z1 z2 z3 y0 hlo hb3
 go_wp2_with fail
 go_ret
 exact ⟨rfl, HB3.out⟩
theorem enters_locked : ∀ args w, (callFunc 110 args).run Tryz.prog w = .ok (.enter 110 args) w := enters_of Tryz.func110 (by kernel_rfl) rfl
set_option maxRecDepth 20000 in
set_option maxHeartbeats 3200000 in
theorem locked_any (g : Nat) (s : St) (r : Range) (P : Nat → Prop) (w : World) (h : StAt w P g s) (hs : s.self ≠ 0) (hp : HeldFair s) :
 Calls Tryz.prog 33 #[ptrV g, .agg #[.int .i64 r.first, .int .i64 r.last, .int .i64 r.owner, .int .i64 r.epoch]] w fun e w' => e = .returned (.bool (lockedS s r)) ∧ Below w.heap.size w w' := by
 obtain ⟨v, hB, hI⟩ := h
 have hb0 := (jb w.heap.size w).al (.cells #[.int .i64 r.first, .int .i64 r.last, .int .i64 r.owner, .int .i64 r.epoch] 40)
 have BN := Blk.new w 40 [.int .i64 r.first, .int .i64 r.last, .int .i64 r.owner, .int .i64 r.epoch]
 have HI := jh (ja hI hB)
 have HHP := jh hp
 have hgl := hB.lt
 have HBS := jh (show lockedS s r = (s.held.any fun x => x.2.batch.puts.any fun p => r.has (hashS p.stream)) from rfl)
 clear hI hB hp
 unfold ptrV
 go_enter Tryz.func33, Tryz.ntmps33
 go_upto_region 1 with fail
 generalize hwr : (w.alloc (.cells #[.int .i64 r.first, .int .i64 r.last, .int .i64 r.owner, .int .i64 r.epoch] 40)) = wr at *
 clear hwr
 have C1 := gone_any g s.self wr ((HI.out.2.ext hb0).cell 0) hs
 unfold ptrV at C1
 have b6 : wr.cell? ⟨g, 6, none⟩ = some v.held := (HI.out.2.ext hb0).cell 6
 have BNr := jh BN
 have hlo := hb0
 clear BN hb0 hs
 go_wp2_with fail
 refine C1.mono ?_
 clear C1
 rintro e w' ⟨rfl, rfl⟩
 obtain ⟨hnd, hh⟩ := HI.out.1.held
 have HLO := jh hlo
 clear hnd hlo
 rcases hh with ⟨hv, hnil⟩ | ⟨m, LA, hv, hPm, hMA, hrep, hl⟩
 ·rw [hv] at b6
  go_wp2_with (first
   | (at_range; refine wpList_range_nil rfl (.tmp 12) _ rfl Tryz.underlying137 rfl ?_; intro w2 hit hb2 hz2)
   | fail)
  go_frame
  go_loopw [14] (fun _ wq => wq = w2) (fun _ _ => 0)
  case atStart => rfl
  case round =>
   obtain rfl := hrel
   go_wp2_with (first
    | (at_next; refine wpList_next_nil rfl (.tmp 13) rfl rfl hit ?_)
    | fail)
   go_ret
   exact ⟨ret_bool (by rw [HBS.out, hnil]; rfl), HLO.out.tr hb2⟩
 ·rw [hv] at b6
  have hMA' := hMA.ext HLO.out
  have HRP := jh (show ∀ p ∈ LA, HeldR.rep wr (fun g => P g ∧ g < wr.heap.size) p.2.2 p.2.1 from fun p hp => HeldR.mono (held_same hrep HLO.out p hp) (fun g h1 h2 => ⟨h1, h2⟩))
  have HLL := jh (show (s.held.any fun x => x.2.batch.puts.any fun p => r.has (hashS p.stream)) = LA.any fun p => p.2.1.batch.puts.any fun x => r.has (hashS x.stream) from by rw [hl, List.any_map]; rfl)
  clear hrep hl hMA hv hPm
  go_wp2_with (first
   | (at_range; refine wpList_range_map rfl (.tmp 12) _ rfl Tryz.underlying137 rfl hMA' ?_; intro w2 hit hb2 hz2)
   | fail)
  try go_frame
  clear b6 hMA'
  generalize hwo : wr = wo at *
  clear hwo
  have hzo : wo.heap.size = wo.heap.size := rfl
  go_loopw [14] (fun _ wq => ∃ left : List (Tx × (Held × List Value)), IterAt txE wq wo.heap.size m (left.map fun p => (p.1, aggV p.2.2)) ∧ (∀ p ∈ left, p ∈ LA) ∧ (LA.any fun p => p.2.1.batch.puts.any fun x => r.has (hashS x.stream)) = (left.any fun p => p.2.1.batch.puts.any fun x => r.has (hashS x.stream)) ∧ Below wo.heap.size wo wq) (fun _ wq => leftLen wq wo.heap.size m)
  case atStart => exact ⟨LA, hit, fun _ h => h, rfl, hb2⟩
  case round =>
   obtain ⟨left, hiq, hsub, hany, hbq⟩ := hrel
   have HANY := jh hany
   have HSUB := jh hsub
   have held_rep_at : ∀ {p : Tx × (Held × List Value)}, p ∈ left → HeldR.rep wr (fun g => P g ∧ g < wo.heap.size) p.2.2 p.2.1 := fun {p} hp => HeldR.same (HRP.out p (hsub p hp)) (Same.of_belowB hbq fun g hg => hg.2)
   clear hany hsub hit
   go_wp2_with (first
    | (at_next; refine wpList_next_held rfl (.tmp 13) rfl rfl hiq (fun p hp => held_rep_at hp) (fun h0 => ?_) (fun i t h pA fA pc fc w3 hp hrow hit3 hO3 hz3 hen => ?_))
    | fail)
   ·go_ret
    exact ⟨ret_bool (by rw [HBS.out, HLL.out, HANY.out, h0]; rfl), HLO.out.tr hbq⟩
   ·have hb3 : Below wo.heap.size wo w3 := hbq.trans (hO3.low (fun g hg => by rw [hg]; omega) hbq.size)
    have hb4 := hb3.al (.cells #[.int .i64 h.tx.node, .int .i64 h.tx.life, .int .i64 h.tx.num, .string h.batch.key, .slice pA h.batch.puts.length pc, .int .i64 h.stamp.wall, .int .i64 h.stamp.logic, .int .i64 h.stamp.node, .slice fA h.firsts.length fc] 162)
    have hrow4 := (hrow.2.2.same (Same.of_only hO3 fun g hg e => by have e' : g = wo.heap.size := e; have := hg.2; omega) (by omega)).ext ((jb w3.heap.size w3).al (.cells #[.int .i64 h.tx.node, .int .i64 h.tx.life, .int .i64 h.tx.num, .string h.batch.key, .slice pA h.batch.puts.length pc, .int .i64 h.stamp.wall, .int .i64 h.stamp.logic, .int .i64 h.stamp.node, .slice fA h.firsts.length fc] 162))
    have BN4 := BNr.out.ext hb4
    have hit4 := hit3.ext ((jb w3.heap.size w3).al (.cells #[.int .i64 h.tx.node, .int .i64 h.tx.life, .int .i64 h.tx.num, .string h.batch.key, .slice pA h.batch.puts.length pc, .int .i64 h.stamp.wall, .int .i64 h.stamp.logic, .int .i64 h.stamp.node, .slice fA h.firsts.length fc] 162))
    have hlen4 : (left.eraseIdx i).length < left.length := by
     have := (List.getElem?_eq_some_iff.1 hp).1
     rw [List.length_eraseIdx, if_pos this]; omega
    have hleft := hiq.len
    have C := hasF_Put 110 [.pointer (some ⟨w.heap.size, 0, none⟩)] (fun x => r.has (hashS x.stream)) enters_locked pA pc h.batch.puts _ (w3.alloc (.cells #[.int .i64 h.tx.node, .int .i64 h.tx.life, .int .i64 h.tx.num, .string h.batch.key, .slice pA h.batch.puts.length pc, .int .i64 h.stamp.wall, .int .i64 h.stamp.logic, .int .i64 h.stamp.node, .slice fA h.firsts.length fc] 162)) hrow4 (by have := hrow.1; have := hrow.2.1; omega) (fun a cs W ha hra hb => by
     obtain ⟨Ax, cx, rfl, hsf, _⟩ := put_rep.1 hra
     exact lockedAt_any r w.heap.size a Ax cx W (BN4.ext hb) hsf)
    have H4 := jh (ja hb4 (ja hit4 (ja hlen4 hleft)))
    have HP := jh hp
    clear hb3 hb4 hrow4 BN4 hit4 hlen4 hleft hen hit3 hO3 hz3 hrow hp hiq held_rep_at
    refine C.mono ?_
    clear C
    cases hq : h.batch.puts.any fun x => r.has (hashS x.stream)
    ·have HQ := jh hq; clear hq
     rintro e w5 ⟨rfl, hb5⟩
     have hb5' := H4.out.1.tr hb5
     have hit5 := H4.out.2.1.ext hb5
     go_wp2_with fail
     go_round
     case rel => exact ⟨left.eraseIdx i, hit5, fun p hp => HSUB.out p (List.mem_of_mem_eraseIdx hp), any_erase HANY.out HP.out HQ.out, hb5'⟩
     case measure =>
      have h1 := hit5.len
      have h2 := H4.out.2.2.1
      have h3 := H4.out.2.2.2
      simp only [List.length_map] at h1 h3
      omega
    ·have HQ := jh hq; clear hq
     rintro e w5 ⟨rfl, hb5⟩
     have hb5' := H4.out.1.tr hb5
     go_wp2_with fail
     go_ret
     refine ⟨ret_bool ?_, HLO.out.tr hb5'⟩
     rw [HBS.out, HLL.out, eq_comm, List.any_eq_true]
     exact ⟨_, HSUB.out _ (List.mem_of_getElem? HP.out), HQ.out⟩
end Go.Proofs.YtpgocpodhamibaaGreatDoor
namespace Go.Proofs.YtpgocpodhamibaaGreatDoor
open Go.RowKit
set_option maxRecDepth 20000 in
set_option maxHeartbeats 1600000 in
theorem indexR_any (A : Option Addr) (c : Nat) (l : List Range) (x : Range) (P : Nat → Prop) (w : World) (hr : RangeR.Row w P A l) (hl : l.length ≤ 1000000) :
 Calls Tryz.prog 235 #[.slice A l.length c, .agg #[.int .i64 x.first, .int .i64 x.last, .int .i64 x.owner, .int .i64 x.epoch]] w fun e w' => e = .returned (.int .i64 (idxI (fun y => decide (x = y)) l)) ∧ Below w.heap.size w w' := by
 have HR := jh (hr.mono (Q := fun g => g < w.heap.size) fun g _ h => h)
 have hb0 := (jb w.heap.size w).al (.cells #[.int .i64 x.first, .int .i64 x.last, .int .i64 x.owner, .int .i64 x.epoch] 40)
 have B0 := Blk.new w 40 [.int .i64 x.first, .int .i64 x.last, .int .i64 x.owner, .int .i64 x.epoch]
 clear hr
 go_enter Tryz.func235, Tryz.ntmps235
 go_upto_region 1 with fail
 generalize hw1 : (w.alloc (.cells #[.int .i64 x.first, .int .i64 x.last, .int .i64 x.owner, .int .i64 x.epoch] 40)) = w1 at *
 clear hw1
 have HB := jh (ja hb0 B0)
 clear hb0 B0
 go_wp2_with fail
 go_loopw [8] (fun i wr => ∃ k : Nat, k ≤ l.length ∧ i = .int .i64 k ∧ (∀ (j : Nat) (y : Range), j < k → l[j]? = some y → decide (x = y) = false) ∧ Below w1.heap.size w1 wr) (fun i _ => l.length - (intOf i).toNat)
 case atStart => exact ⟨0, Nat.zero_le _, rfl, fun j y hj => absurd hj (by omega), jb _ _⟩
 case round =>
  obtain ⟨k, hk, rfl, hno, hbl⟩ := hrel
  have HN := jh (ja hno hbl)
  by_cases hlt : k < l.length
  ·have hlk := List.getElem?_eq_getElem hlt
   obtain ⟨bb, o, cs, rfl, hP, hbw, hrep, hcs⟩ := (HR.out.ext (HB.out.1.tr hbl)).at_ hlk
   generalize l[k] = y at *
   obtain ⟨rfl, _⟩ := range_rep.1 hrep
   have HLK := jh hlk
   have c0 := hcs 0 _ rfl; have c1 := hcs 1 _ rfl; have c2 := hcs 2 _ rfl; have c3 := hcs 3 _ rfl; simp only [RangeR_size, Nat.add_zero] at c0 c1 c2 c3
   have BX := HB.out.2.ext hbl
   have z0 : wr.cell? ⟨w.heap.size, 0, none⟩ = some (.int .i64 x.first) := BX.cell 0
   have z1 : wr.cell? ⟨w.heap.size, 1, none⟩ = some (.int .i64 x.last) := BX.cell 1
   have z2 : wr.cell? ⟨w.heap.size, 2, none⟩ = some (.int .i64 x.owner) := BX.cell 2
   have z3 : wr.cell? ⟨w.heap.size, 3, none⟩ = some (.int .i64 x.epoch) := BX.cell 3
   have hlt' : (k : Int) < l.length := by omega
   clear hlk hrep hcs hno hbl BX
   have hcase : (x.first ≠ y.first) ∨ (y.first = x.first ∧ x.last ≠ y.last) ∨ (y.first = x.first ∧ y.last = x.last ∧ x.owner ≠ y.owner) ∨ (y.first = x.first ∧ y.last = x.last ∧ y.owner = x.owner ∧ x.epoch ≠ y.epoch) ∨ (y.first = x.first ∧ y.last = x.last ∧ y.owner = x.owner ∧ y.epoch = x.epoch) := by omega
   rcases hcase with gg | gg | gg | gg | gg
   ·have hxy : decide (x = y) = false := decide_eq_false (fun e => by subst e; simp at gg)
    have HXY := jh hxy
    (have g3 : (x.first == y.first) = false := by rw [beq_eq_false_iff_ne] ; exact gg)
    clear gg hxy
    go_wp2_with fail
    go_quiet (fail)
    go_wp2_with fail
    go_round
    case rel =>
     refine ⟨k + 1, by omega, by go_num, fun j z hj hz => ?_, HN.out.2.drewN _⟩
     by_cases hjk : j < k
     ·exact HN.out.1 j z hjk hz
     ·have : j = k := by omega
      subst this
      rw [HLK.out] at hz
      injection hz with hz
      subst hz
      exact HXY.out
    case measure => simp [intOf]; omega
   ·have hxy : decide (x = y) = false := decide_eq_false (fun e => by subst e; simp at gg)
    have HXY := jh hxy
    (rw [gg.1] at c0) ; (have g3 : (x.last == y.last) = false := by rw [beq_eq_false_iff_ne] ; exact gg.2)
    clear gg hxy
    go_wp2_with fail
    go_quiet (fail)
    go_wp2_with fail
    go_round
    case rel =>
     refine ⟨k + 1, by omega, by go_num, fun j z hj hz => ?_, HN.out.2.drewN _⟩
     by_cases hjk : j < k
     ·exact HN.out.1 j z hjk hz
     ·have : j = k := by omega
      subst this
      rw [HLK.out] at hz
      injection hz with hz
      subst hz
      exact HXY.out
    case measure => simp [intOf]; omega
   ·have hxy : decide (x = y) = false := decide_eq_false (fun e => by subst e; simp at gg)
    have HXY := jh hxy
    (rw [gg.1] at c0) ; (rw [gg.2.1] at c1) ; (have g3 : (x.owner == y.owner) = false := by rw [beq_eq_false_iff_ne] ; exact gg.2.2)
    clear gg hxy
    go_wp2_with fail
    go_quiet (fail)
    go_wp2_with fail
    go_round
    case rel =>
     refine ⟨k + 1, by omega, by go_num, fun j z hj hz => ?_, HN.out.2.drewN _⟩
     by_cases hjk : j < k
     ·exact HN.out.1 j z hjk hz
     ·have : j = k := by omega
      subst this
      rw [HLK.out] at hz
      injection hz with hz
      subst hz
      exact HXY.out
    case measure => simp [intOf]; omega
   ·have hxy : decide (x = y) = false := decide_eq_false (fun e => by subst e; simp at gg)
    have HXY := jh hxy
    (rw [gg.1] at c0) ; (rw [gg.2.1] at c1) ; (rw [gg.2.2.1] at c2) ; (have g3 : (x.epoch == y.epoch) = false := by rw [beq_eq_false_iff_ne] ; exact gg.2.2.2)
    clear gg hxy
    go_wp2_with fail
    go_quiet (fail)
    go_wp2_with fail
    go_round
    case rel =>
     refine ⟨k + 1, by omega, by go_num, fun j z hj hz => ?_, HN.out.2.drewN _⟩
     by_cases hjk : j < k
     ·exact HN.out.1 j z hjk hz
     ·have : j = k := by omega
      subst this
      rw [HLK.out] at hz
      injection hz with hz
      subst hz
      exact HXY.out
    case measure => simp [intOf]; omega
   ·have hxy : x = y := by obtain ⟨a1, a2, a3, a4⟩ := x; obtain ⟨b1, b2, b3, b4⟩ := y; simp at gg; simp [gg]
    subst hxy
    clear gg
    go_wp2_with fail
    go_quiet (fail)
    go_wp2_with fail
    go_ret
    refine ⟨?_, HB.out.1.tr (HN.out.2.drewN _)⟩
    rw [idxI_some HLK.out (by simp) HN.out.1]
    rfl
  ·have hkn : k = l.length := by omega
   clear hno hbl
   go_wp2_with fail
   go_ret
   refine ⟨?_, HB.out.1.tr HN.out.2⟩
   rw [idxI_none (fun j y hy => HN.out.1 j y (by have := (List.getElem?_eq_some_iff.1 hy).1; omega) hy)]
   rfl
theorem containsR (l : List Range) (x : Range) : decide (0 ≤ idxI (fun y => decide (x = y)) l) = decide (x ∈ l) := by
 rw [idxI_any]
 rw [Bool.eq_iff_iff, List.any_eq_true]
 constructor
 ·rintro ⟨y, hy, h⟩
  have h := of_decide_eq_true h
  subst h
  exact decide_eq_true hy
 ·intro h
  exact ⟨x, of_decide_eq_true h, by simp⟩
set_option maxHeartbeats 800000 in
theorem containsR_any (A : Option Addr) (c : Nat) (l : List Range) (x : Range) (P : Nat → Prop) (w : World) (hr : RangeR.Row w P A l) (hl : l.length ≤ 1000000) :
 Calls Tryz.prog 157 #[.slice A l.length c, .agg #[.int .i64 x.first, .int .i64 x.last, .int .i64 x.owner, .int .i64 x.epoch]] w fun e w' => e = .returned (.bool (decide (x ∈ l))) ∧ Below w.heap.size w w' := by
 have hb0 := (jb w.heap.size w).al (.cells #[.int .i64 x.first, .int .i64 x.last, .int .i64 x.owner, .int .i64 x.epoch] 40)
 have B0 := Blk.new w 40 [.int .i64 x.first, .int .i64 x.last, .int .i64 x.owner, .int .i64 x.epoch]
 have C1 := indexR_any A c l x P (w.alloc (.cells #[.int .i64 x.first, .int .i64 x.last, .int .i64 x.owner, .int .i64 x.epoch] 40)) (hr.ext hb0) hl
 have HC := jh (containsR l x)
 clear hr
 go_enter Tryz.func157, Tryz.ntmps157
 go_wp2_with fail
 refine C1.mono ?_
 clear C1
 rintro e w1 ⟨rfl, hb1⟩
 have HB := jh (hb0.tr hb1)
 clear hb0 hb1 B0
 generalize idxI (fun y => decide (x = y)) l = i at *
 go_wp2_with fail
 all_goals
  go_ret
  exact ⟨ret_bool (by rw [← HC.out]), HB.out⟩
theorem clipRec_any (A : Option Addr) (n c : Nat) (w : World) (hc : n ≤ c) (hm : c ≤ 9223372036854775807) (hn : A = none → n = 0) :
 Calls Tryz.prog 158 #[.slice A n c] w fun e w' => e = .returned (.slice A n n) ∧ w = w' := by
 have hm' : n ≤ 9223372036854775807 := by omega
 cases A with
 | none =>
   obtain rfl := hn rfl
   go_enter Tryz.func158, Tryz.ntmps158
   go_wp2_with fail
   go_ret
   exact ⟨rfl, rfl⟩
 | some a =>
   clear hn
   go_enter Tryz.func158, Tryz.ntmps158
   go_wp2_with fail
   go_ret
   exact ⟨rfl, rfl⟩
end Go.Proofs.YtpgocpodhamibaaGreatDoor
