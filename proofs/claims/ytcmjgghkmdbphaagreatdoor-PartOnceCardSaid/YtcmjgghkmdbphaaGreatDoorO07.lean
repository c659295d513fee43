/- rec.writer.lists. The program's ring, table and state, plain: what each function computes. A struct that lies in a block of its own is read at one step. -/
import Derived.Test.YtcmjgghkmdbphaaGreatDoorO06
import Derived.Test.YtcmjgghkmdbphaaGreatDoorO03
import Derived.Test.YtcmjgghkmdbphaaGreatDoorO01
import Derived.Laws.Rows
import Derived.Deep.WholeRow
import Derived.BigQuiet
set_option maxRecDepth 20000
set_option maxHeartbeats 25600000
namespace Go.Proofs.YtcmjgghkmdbphaaGreatDoor
open Go.RowKit
def Stream.weight (s : Stream) : Nat := 300 + 1300 * s.events.length + 250 * s.keys.length
def weights (l : List Stream) : Nat := (l.map Stream.weight).sum
def listsBad (r : Rec) (f : Fields) : Bool :=
 (f.fNodes && ((decide ((1000 : Int) < r.nodes.length) || !inW r.nodes.length) || !r.nodes.all inW)) || (f.fStreams && ((decide ((1000 : Int) < r.streams.length) || !inW r.streams.length) || !r.streams.all streamB))
theorem weights_take {l : List Stream} {k : Nat} {s : Stream} (h : l[k]? = some s) : weights (l.take (k + 1)) = weights (l.take k) + s.weight := by
 unfold weights
 rw [List.take_add_one, h]; simp
theorem weights_le (l : List Stream) (k : Nat) : weights (l.take k) ≤ weights l := by
 unfold weights
 rw [← List.take_append_drop k l, List.map_append, List.sum_append, List.take_append_drop]; omega
theorem lists_a (r : Rec) (nA pA sA : Option Addr) (nc pc sc : Nat) (g base n0 : Nat) (bad : Bool) (P : Nat → Prop) (w : World) (hW : Wr w base g bad n0) (hr : RecAt w P r nA nc pA pc sA sc) (_hP : ∀ k, P k → k < base) (_hn : n0 ≤ 1000000) (_hg : base ≤ g) (hbw : base ≤ w.heap.size) (_hl : r.nodes.length ≤ 1000000) (_hl2 : r.streams.length ≤ 1000000) (hd : weights r.streams ≤ 50000000) (hd2 : ∀ s ∈ r.streams, s.events.length ≤ 40000 ∧ s.keys.length ≤ 40000) (_hTb : Tabs w) (_h2 : 2 ≤ base) :
 Calls Tryz.prog 254 #[.pointer (some ⟨g, 0, none⟩), .agg (r.cells nA nc pA pc sA sc).toArray, .agg (Fields.cells {fN := true}).toArray] w (WrOut g base n0 (n0 + 11000000 + weights r.streams) (bad || listsBad r {fN := true}) w) := by
 have HN := jh hr.nodes.2.2
 have HSt := jh hr.streams.2.2
 clear hr
 have hgl0 := hW.lt
 have B0 := (Blk.new w 46 (r.cells nA nc pA pc sA sc)).alloc (.cells (Fields.cells {fN := true}).toArray 320)
 have B1 := Blk.new1 w (.cells (r.cells nA nc pA pc sA sc).toArray 46) 320 (Fields.cells {fN := true})
 have HW' := jh hW
 have HD := jh (ja hd hd2)
 unfold Rec.cells Fields.cells at B0 B1 ⊢
 clear hd hd2 hW
 go_enter Tryz.func254, Tryz.ntmps254
 go_upto_region 1 with fail
 refine forget (M := fun W => Code.wp _ _ _ _ W) (fun W => Below w.heap.size w W ∧ Blk W w.heap.size 46 [.int .i64 r.kind, .int .i64 r.n, .int .i64 r.to, .bool r.yes, .int .i64 r.stamp.wall, .int .i64 r.stamp.logic, .int .i64 r.stamp.node, .int .i64 r.tx.node, .int .i64 r.tx.life, .int .i64 r.tx.num, .slice nA r.nodes.length nc, .string r.batch.key, .slice pA r.batch.puts.length pc, .int .i64 r.range.first, .int .i64 r.range.last, .int .i64 r.range.owner, .int .i64 r.range.epoch, .slice sA r.streams.length sc] ∧ Blk W (w.heap.size + 1) 320 [.bool true, .bool false, .bool false, .bool false, .bool false, .bool false, .bool false, .bool false, .bool false] ∧ w.heap.size + 2 = W.heap.size) ⟨((jb _ _).al _).al _, B0, B1, by simp⟩ ?_
 clear B0 B1
 rintro w0 ⟨hb0, B0, B1, hs0⟩
 have HW0 := HW'.out.turn hb0
 have hT0 : Turn g w0 w0 := Turn.refl
 have hB0 : Below base w0 w0 := jb _ _
 have hz0 := hB0.size
 have FX := jh (fun (W : World) (h : Turn g w0 W) => ja (recCells (h.blk B0 (by decide) (by omega))) (nineB true false false false false false false false false (h.blk B1 (by decide) (by omega))))
 obtain ⟨⟨c0, c1, c2, c3, c4, c5, c6, c7, c8, c9, c10, c11, c12, c13, c14, c15, c16, c17⟩, ⟨d0, d1, d2, d3, d4, d5, d6, d7, d8⟩⟩ := FX.out w0 hT0
 clear B0 B1
 go_wp2_with fail
 (try simp only [Exit.inBlock, Exit.then]); refine bodyPost_end (results_none rfl _ _ _) rfl ?_
 refine ⟨rfl, ⟨n0, by omega, by omega, ?_⟩, (hb0.mono hbw).trans hB0, (Turn.of_below hb0).trans hT0⟩
 have := HW0
 unfold listsBad
 simpa [Bool.or_assoc] using this
theorem lists_b (r : Rec) (nA pA sA : Option Addr) (nc pc sc : Nat) (g base n0 : Nat) (bad : Bool) (P : Nat → Prop) (w : World) (hW : Wr w base g bad n0) (hr : RecAt w P r nA nc pA pc sA sc) (_hP : ∀ k, P k → k < base) (_hn : n0 ≤ 1000000) (_hg : base ≤ g) (hbw : base ≤ w.heap.size) (_hl : r.nodes.length ≤ 1000000) (_hl2 : r.streams.length ≤ 1000000) (hd : weights r.streams ≤ 50000000) (hd2 : ∀ s ∈ r.streams, s.events.length ≤ 40000 ∧ s.keys.length ≤ 40000) (_hTb : Tabs w) (_h2 : 2 ≤ base) :
 Calls Tryz.prog 254 #[.pointer (some ⟨g, 0, none⟩), .agg (r.cells nA nc pA pc sA sc).toArray, .agg (Fields.cells {fBatch := true, fStamp := true}).toArray] w (WrOut g base n0 (n0 + 11000000 + weights r.streams) (bad || listsBad r {fBatch := true, fStamp := true}) w) := by
 have HN := jh hr.nodes.2.2
 have HSt := jh hr.streams.2.2
 clear hr
 have hgl0 := hW.lt
 have B0 := (Blk.new w 46 (r.cells nA nc pA pc sA sc)).alloc (.cells (Fields.cells {fBatch := true, fStamp := true}).toArray 320)
 have B1 := Blk.new1 w (.cells (r.cells nA nc pA pc sA sc).toArray 46) 320 (Fields.cells {fBatch := true, fStamp := true})
 have HW' := jh hW
 have HD := jh (ja hd hd2)
 unfold Rec.cells Fields.cells at B0 B1 ⊢
 clear hd hd2 hW
 go_enter Tryz.func254, Tryz.ntmps254
 go_upto_region 1 with fail
 refine forget (M := fun W => Code.wp _ _ _ _ W) (fun W => Below w.heap.size w W ∧ Blk W w.heap.size 46 [.int .i64 r.kind, .int .i64 r.n, .int .i64 r.to, .bool r.yes, .int .i64 r.stamp.wall, .int .i64 r.stamp.logic, .int .i64 r.stamp.node, .int .i64 r.tx.node, .int .i64 r.tx.life, .int .i64 r.tx.num, .slice nA r.nodes.length nc, .string r.batch.key, .slice pA r.batch.puts.length pc, .int .i64 r.range.first, .int .i64 r.range.last, .int .i64 r.range.owner, .int .i64 r.range.epoch, .slice sA r.streams.length sc] ∧ Blk W (w.heap.size + 1) 320 [.bool false, .bool false, .bool false, .bool true, .bool false, .bool false, .bool true, .bool false, .bool false] ∧ w.heap.size + 2 = W.heap.size) ⟨((jb _ _).al _).al _, B0, B1, by simp⟩ ?_
 clear B0 B1
 rintro w0 ⟨hb0, B0, B1, hs0⟩
 have HW0 := HW'.out.turn hb0
 have hT0 : Turn g w0 w0 := Turn.refl
 have hB0 : Below base w0 w0 := jb _ _
 have hz0 := hB0.size
 have FX := jh (fun (W : World) (h : Turn g w0 W) => ja (recCells (h.blk B0 (by decide) (by omega))) (nineB false false false true false false true false false (h.blk B1 (by decide) (by omega))))
 obtain ⟨⟨c0, c1, c2, c3, c4, c5, c6, c7, c8, c9, c10, c11, c12, c13, c14, c15, c16, c17⟩, ⟨d0, d1, d2, d3, d4, d5, d6, d7, d8⟩⟩ := FX.out w0 hT0
 clear B0 B1
 go_wp2_with fail
 (try simp only [Exit.inBlock, Exit.then]); refine bodyPost_end (results_none rfl _ _ _) rfl ?_
 refine ⟨rfl, ⟨n0, by omega, by omega, ?_⟩, (hb0.mono hbw).trans hB0, (Turn.of_below hb0).trans hT0⟩
 have := HW0
 unfold listsBad
 simpa [Bool.or_assoc] using this
theorem lists_c (r : Rec) (nA pA sA : Option Addr) (nc pc sc : Nat) (g base n0 : Nat) (bad : Bool) (P : Nat → Prop) (w : World) (hW : Wr w base g bad n0) (hr : RecAt w P r nA nc pA pc sA sc) (_hP : ∀ k, P k → k < base) (_hn : n0 ≤ 1000000) (_hg : base ≤ g) (hbw : base ≤ w.heap.size) (_hl : r.nodes.length ≤ 1000000) (_hl2 : r.streams.length ≤ 1000000) (hd : weights r.streams ≤ 50000000) (hd2 : ∀ s ∈ r.streams, s.events.length ≤ 40000 ∧ s.keys.length ≤ 40000) (_hTb : Tabs w) (_h2 : 2 ≤ base) :
 Calls Tryz.prog 254 #[.pointer (some ⟨g, 0, none⟩), .agg (r.cells nA nc pA pc sA sc).toArray, .agg (Fields.cells {fTx := true, fBatch := true, fStamp := true}).toArray] w (WrOut g base n0 (n0 + 11000000 + weights r.streams) (bad || listsBad r {fTx := true, fBatch := true, fStamp := true}) w) := by
 have HN := jh hr.nodes.2.2
 have HSt := jh hr.streams.2.2
 clear hr
 have hgl0 := hW.lt
 have B0 := (Blk.new w 46 (r.cells nA nc pA pc sA sc)).alloc (.cells (Fields.cells {fTx := true, fBatch := true, fStamp := true}).toArray 320)
 have B1 := Blk.new1 w (.cells (r.cells nA nc pA pc sA sc).toArray 46) 320 (Fields.cells {fTx := true, fBatch := true, fStamp := true})
 have HW' := jh hW
 have HD := jh (ja hd hd2)
 unfold Rec.cells Fields.cells at B0 B1 ⊢
 clear hd hd2 hW
 go_enter Tryz.func254, Tryz.ntmps254
 go_upto_region 1 with fail
 refine forget (M := fun W => Code.wp _ _ _ _ W) (fun W => Below w.heap.size w W ∧ Blk W w.heap.size 46 [.int .i64 r.kind, .int .i64 r.n, .int .i64 r.to, .bool r.yes, .int .i64 r.stamp.wall, .int .i64 r.stamp.logic, .int .i64 r.stamp.node, .int .i64 r.tx.node, .int .i64 r.tx.life, .int .i64 r.tx.num, .slice nA r.nodes.length nc, .string r.batch.key, .slice pA r.batch.puts.length pc, .int .i64 r.range.first, .int .i64 r.range.last, .int .i64 r.range.owner, .int .i64 r.range.epoch, .slice sA r.streams.length sc] ∧ Blk W (w.heap.size + 1) 320 [.bool false, .bool false, .bool false, .bool true, .bool true, .bool false, .bool true, .bool false, .bool false] ∧ w.heap.size + 2 = W.heap.size) ⟨((jb _ _).al _).al _, B0, B1, by simp⟩ ?_
 clear B0 B1
 rintro w0 ⟨hb0, B0, B1, hs0⟩
 have HW0 := HW'.out.turn hb0
 have hT0 : Turn g w0 w0 := Turn.refl
 have hB0 : Below base w0 w0 := jb _ _
 have hz0 := hB0.size
 have FX := jh (fun (W : World) (h : Turn g w0 W) => ja (recCells (h.blk B0 (by decide) (by omega))) (nineB false false false true true false true false false (h.blk B1 (by decide) (by omega))))
 obtain ⟨⟨c0, c1, c2, c3, c4, c5, c6, c7, c8, c9, c10, c11, c12, c13, c14, c15, c16, c17⟩, ⟨d0, d1, d2, d3, d4, d5, d6, d7, d8⟩⟩ := FX.out w0 hT0
 clear B0 B1
 go_wp2_with fail
 (try simp only [Exit.inBlock, Exit.then]); refine bodyPost_end (results_none rfl _ _ _) rfl ?_
 refine ⟨rfl, ⟨n0, by omega, by omega, ?_⟩, (hb0.mono hbw).trans hB0, (Turn.of_below hb0).trans hT0⟩
 have := HW0
 unfold listsBad
 simpa [Bool.or_assoc] using this
theorem lists_d (r : Rec) (nA pA sA : Option Addr) (nc pc sc : Nat) (g base n0 : Nat) (bad : Bool) (P : Nat → Prop) (w : World) (hW : Wr w base g bad n0) (hr : RecAt w P r nA nc pA pc sA sc) (_hP : ∀ k, P k → k < base) (_hn : n0 ≤ 1000000) (_hg : base ≤ g) (hbw : base ≤ w.heap.size) (_hl : r.nodes.length ≤ 1000000) (_hl2 : r.streams.length ≤ 1000000) (hd : weights r.streams ≤ 50000000) (hd2 : ∀ s ∈ r.streams, s.events.length ≤ 40000 ∧ s.keys.length ≤ 40000) (_hTb : Tabs w) (_h2 : 2 ≤ base) :
 Calls Tryz.prog 254 #[.pointer (some ⟨g, 0, none⟩), .agg (r.cells nA nc pA pc sA sc).toArray, .agg (Fields.cells {fTx := true, fYes := true, fStamp := true}).toArray] w (WrOut g base n0 (n0 + 11000000 + weights r.streams) (bad || listsBad r {fTx := true, fYes := true, fStamp := true}) w) := by
 have HN := jh hr.nodes.2.2
 have HSt := jh hr.streams.2.2
 clear hr
 have hgl0 := hW.lt
 have B0 := (Blk.new w 46 (r.cells nA nc pA pc sA sc)).alloc (.cells (Fields.cells {fTx := true, fYes := true, fStamp := true}).toArray 320)
 have B1 := Blk.new1 w (.cells (r.cells nA nc pA pc sA sc).toArray 46) 320 (Fields.cells {fTx := true, fYes := true, fStamp := true})
 have HW' := jh hW
 have HD := jh (ja hd hd2)
 unfold Rec.cells Fields.cells at B0 B1 ⊢
 clear hd hd2 hW
 go_enter Tryz.func254, Tryz.ntmps254
 go_upto_region 1 with fail
 refine forget (M := fun W => Code.wp _ _ _ _ W) (fun W => Below w.heap.size w W ∧ Blk W w.heap.size 46 [.int .i64 r.kind, .int .i64 r.n, .int .i64 r.to, .bool r.yes, .int .i64 r.stamp.wall, .int .i64 r.stamp.logic, .int .i64 r.stamp.node, .int .i64 r.tx.node, .int .i64 r.tx.life, .int .i64 r.tx.num, .slice nA r.nodes.length nc, .string r.batch.key, .slice pA r.batch.puts.length pc, .int .i64 r.range.first, .int .i64 r.range.last, .int .i64 r.range.owner, .int .i64 r.range.epoch, .slice sA r.streams.length sc] ∧ Blk W (w.heap.size + 1) 320 [.bool false, .bool false, .bool true, .bool true, .bool true, .bool false, .bool false, .bool false, .bool false] ∧ w.heap.size + 2 = W.heap.size) ⟨((jb _ _).al _).al _, B0, B1, by simp⟩ ?_
 clear B0 B1
 rintro w0 ⟨hb0, B0, B1, hs0⟩
 have HW0 := HW'.out.turn hb0
 have hT0 : Turn g w0 w0 := Turn.refl
 have hB0 : Below base w0 w0 := jb _ _
 have hz0 := hB0.size
 have FX := jh (fun (W : World) (h : Turn g w0 W) => ja (recCells (h.blk B0 (by decide) (by omega))) (nineB false false true true true false false false false (h.blk B1 (by decide) (by omega))))
 obtain ⟨⟨c0, c1, c2, c3, c4, c5, c6, c7, c8, c9, c10, c11, c12, c13, c14, c15, c16, c17⟩, ⟨d0, d1, d2, d3, d4, d5, d6, d7, d8⟩⟩ := FX.out w0 hT0
 clear B0 B1
 go_wp2_with fail
 (try simp only [Exit.inBlock, Exit.then]); refine bodyPost_end (results_none rfl _ _ _) rfl ?_
 refine ⟨rfl, ⟨n0, by omega, by omega, ?_⟩, (hb0.mono hbw).trans hB0, (Turn.of_below hb0).trans hT0⟩
 have := HW0
 unfold listsBad
 simpa [Bool.or_assoc] using this
theorem lists_e (r : Rec) (nA pA sA : Option Addr) (nc pc sc : Nat) (g base n0 : Nat) (bad : Bool) (P : Nat → Prop) (w : World) (hW : Wr w base g bad n0) (hr : RecAt w P r nA nc pA pc sA sc) (hP : ∀ k, P k → k < base) (hn : n0 ≤ 1000000) (hg : base ≤ g) (hbw : base ≤ w.heap.size) (hl : r.nodes.length ≤ 1000000) (_hl2 : r.streams.length ≤ 1000000) (hd : weights r.streams ≤ 50000000) (hd2 : ∀ s ∈ r.streams, s.events.length ≤ 40000 ∧ s.keys.length ≤ 40000) (_hTb : Tabs w) (_h2 : 2 ≤ base) :
 Calls Tryz.prog 254 #[.pointer (some ⟨g, 0, none⟩), .agg (r.cells nA nc pA pc sA sc).toArray, .agg (Fields.cells {fTx := true, fYes := true, fStamp := true, fNodes := true}).toArray] w (WrOut g base n0 (n0 + 11000000 + weights r.streams) (bad || listsBad r {fTx := true, fYes := true, fStamp := true, fNodes := true}) w) := by
 have HN := jh hr.nodes.2.2
 have HSt := jh hr.streams.2.2
 clear hr
 have hgl0 := hW.lt
 have B0 := (Blk.new w 46 (r.cells nA nc pA pc sA sc)).alloc (.cells (Fields.cells {fTx := true, fYes := true, fStamp := true, fNodes := true}).toArray 320)
 have B1 := Blk.new1 w (.cells (r.cells nA nc pA pc sA sc).toArray 46) 320 (Fields.cells {fTx := true, fYes := true, fStamp := true, fNodes := true})
 have HW' := jh hW
 have HD := jh (ja hd hd2)
 unfold Rec.cells Fields.cells at B0 B1 ⊢
 clear hd hd2 hW
 go_enter Tryz.func254, Tryz.ntmps254
 go_upto_region 1 with fail
 refine forget (M := fun W => Code.wp _ _ _ _ W) (fun W => Below w.heap.size w W ∧ Blk W w.heap.size 46 [.int .i64 r.kind, .int .i64 r.n, .int .i64 r.to, .bool r.yes, .int .i64 r.stamp.wall, .int .i64 r.stamp.logic, .int .i64 r.stamp.node, .int .i64 r.tx.node, .int .i64 r.tx.life, .int .i64 r.tx.num, .slice nA r.nodes.length nc, .string r.batch.key, .slice pA r.batch.puts.length pc, .int .i64 r.range.first, .int .i64 r.range.last, .int .i64 r.range.owner, .int .i64 r.range.epoch, .slice sA r.streams.length sc] ∧ Blk W (w.heap.size + 1) 320 [.bool false, .bool false, .bool true, .bool true, .bool true, .bool true, .bool false, .bool false, .bool false] ∧ w.heap.size + 2 = W.heap.size) ⟨((jb _ _).al _).al _, B0, B1, by simp⟩ ?_
 clear B0 B1
 rintro w0 ⟨hb0, B0, B1, hs0⟩
 have HW0 := HW'.out.turn hb0
 have hT0 : Turn g w0 w0 := Turn.refl
 have hB0 : Below base w0 w0 := jb _ _
 have hz0 := hB0.size
 have FX := jh (fun (W : World) (h : Turn g w0 W) => ja (recCells (h.blk B0 (by decide) (by omega))) (nineB false false true true true true false false false (h.blk B1 (by decide) (by omega))))
 obtain ⟨⟨c0, c1, c2, c3, c4, c5, c6, c7, c8, c9, c10, c11, c12, c13, c14, c15, c16, c17⟩, ⟨d0, d1, d2, d3, d4, d5, d6, d7, d8⟩⟩ := FX.out w0 hT0
 clear B0 B1
 go_wp2_with fail
 refine (wmany_any g base n0 _ (r.nodes.length : Int) w0 HW0 ⟨by omega, by omega⟩ (by omega) hg).mono ?_
 rintro en w1 ⟨rfl, ⟨n1, hm1, hn1, HW1⟩, hb, ht⟩
 have hT1 := hT0.trans ht
 have hB1 := hB0.trans hb
 have hz1 := hB1.size
 clear hb ht
 clear c0 c1 c2 c3 c4 c5 c6 c7 c8 c9 c10 c11 c12 c13 c14 c15 c16 c17 d0 d1 d2 d3 d4 d5 d6 d7 d8
 obtain ⟨⟨c0, c1, c2, c3, c4, c5, c6, c7, c8, c9, c10, c11, c12, c13, c14, c15, c16, c17⟩, ⟨d0, d1, d2, d3, d4, d5, d6, d7, d8⟩⟩ := FX.out w1 hT1
 go_wp2_with fail
 refine (wnums_any g base n1 _ nA nc r.nodes P w1 HW1 (HN.out.same (Same.of_belowB ((hb0.mono hbw).trans hB1) hP) (by have := hb0.size; omega)) (by omega) (by omega) hg (fun W hW _ => Same.of_belowB hW hP)).mono ?_
 rintro en w2 ⟨rfl, ⟨n2, hm2, hn2, HW2⟩, hb, ht⟩
 have hT2 := hT1.trans ht
 have hB2 := hB1.trans hb
 have hz2 := hB2.size
 clear hb ht
 clear c0 c1 c2 c3 c4 c5 c6 c7 c8 c9 c10 c11 c12 c13 c14 c15 c16 c17 d0 d1 d2 d3 d4 d5 d6 d7 d8
 obtain ⟨⟨c0, c1, c2, c3, c4, c5, c6, c7, c8, c9, c10, c11, c12, c13, c14, c15, c16, c17⟩, ⟨d0, d1, d2, d3, d4, d5, d6, d7, d8⟩⟩ := FX.out w2 hT2
 go_wp2_with fail
 (try simp only [Exit.inBlock, Exit.then]); refine bodyPost_end (results_none rfl _ _ _) rfl ?_
 refine ⟨rfl, ⟨n2, by omega, by omega, ?_⟩, (hb0.mono hbw).trans hB2, (Turn.of_below hb0).trans hT2⟩
 have := HW2
 unfold listsBad
 simpa [Bool.or_assoc] using this
theorem lists_f (r : Rec) (nA pA sA : Option Addr) (nc pc sc : Nat) (g base n0 : Nat) (bad : Bool) (P : Nat → Prop) (w : World) (hW : Wr w base g bad n0) (hr : RecAt w P r nA nc pA pc sA sc) (_hP : ∀ k, P k → k < base) (_hn : n0 ≤ 1000000) (_hg : base ≤ g) (hbw : base ≤ w.heap.size) (_hl : r.nodes.length ≤ 1000000) (_hl2 : r.streams.length ≤ 1000000) (hd : weights r.streams ≤ 50000000) (hd2 : ∀ s ∈ r.streams, s.events.length ≤ 40000 ∧ s.keys.length ≤ 40000) (_hTb : Tabs w) (_h2 : 2 ≤ base) :
 Calls Tryz.prog 254 #[.pointer (some ⟨g, 0, none⟩), .agg (r.cells nA nc pA pc sA sc).toArray, .agg (Fields.cells {fTx := true}).toArray] w (WrOut g base n0 (n0 + 11000000 + weights r.streams) (bad || listsBad r {fTx := true}) w) := by
 have HN := jh hr.nodes.2.2
 have HSt := jh hr.streams.2.2
 clear hr
 have hgl0 := hW.lt
 have B0 := (Blk.new w 46 (r.cells nA nc pA pc sA sc)).alloc (.cells (Fields.cells {fTx := true}).toArray 320)
 have B1 := Blk.new1 w (.cells (r.cells nA nc pA pc sA sc).toArray 46) 320 (Fields.cells {fTx := true})
 have HW' := jh hW
 have HD := jh (ja hd hd2)
 unfold Rec.cells Fields.cells at B0 B1 ⊢
 clear hd hd2 hW
 go_enter Tryz.func254, Tryz.ntmps254
 go_upto_region 1 with fail
 refine forget (M := fun W => Code.wp _ _ _ _ W) (fun W => Below w.heap.size w W ∧ Blk W w.heap.size 46 [.int .i64 r.kind, .int .i64 r.n, .int .i64 r.to, .bool r.yes, .int .i64 r.stamp.wall, .int .i64 r.stamp.logic, .int .i64 r.stamp.node, .int .i64 r.tx.node, .int .i64 r.tx.life, .int .i64 r.tx.num, .slice nA r.nodes.length nc, .string r.batch.key, .slice pA r.batch.puts.length pc, .int .i64 r.range.first, .int .i64 r.range.last, .int .i64 r.range.owner, .int .i64 r.range.epoch, .slice sA r.streams.length sc] ∧ Blk W (w.heap.size + 1) 320 [.bool false, .bool false, .bool false, .bool false, .bool true, .bool false, .bool false, .bool false, .bool false] ∧ w.heap.size + 2 = W.heap.size) ⟨((jb _ _).al _).al _, B0, B1, by simp⟩ ?_
 clear B0 B1
 rintro w0 ⟨hb0, B0, B1, hs0⟩
 have HW0 := HW'.out.turn hb0
 have hT0 : Turn g w0 w0 := Turn.refl
 have hB0 : Below base w0 w0 := jb _ _
 have hz0 := hB0.size
 have FX := jh (fun (W : World) (h : Turn g w0 W) => ja (recCells (h.blk B0 (by decide) (by omega))) (nineB false false false false true false false false false (h.blk B1 (by decide) (by omega))))
 obtain ⟨⟨c0, c1, c2, c3, c4, c5, c6, c7, c8, c9, c10, c11, c12, c13, c14, c15, c16, c17⟩, ⟨d0, d1, d2, d3, d4, d5, d6, d7, d8⟩⟩ := FX.out w0 hT0
 clear B0 B1
 go_wp2_with fail
 (try simp only [Exit.inBlock, Exit.then]); refine bodyPost_end (results_none rfl _ _ _) rfl ?_
 refine ⟨rfl, ⟨n0, by omega, by omega, ?_⟩, (hb0.mono hbw).trans hB0, (Turn.of_below hb0).trans hT0⟩
 have := HW0
 unfold listsBad
 simpa [Bool.or_assoc] using this
theorem lists_g (r : Rec) (nA pA sA : Option Addr) (nc pc sc : Nat) (g base n0 : Nat) (bad : Bool) (P : Nat → Prop) (w : World) (hW : Wr w base g bad n0) (hr : RecAt w P r nA nc pA pc sA sc) (_hP : ∀ k, P k → k < base) (_hn : n0 ≤ 1000000) (_hg : base ≤ g) (hbw : base ≤ w.heap.size) (_hl : r.nodes.length ≤ 1000000) (_hl2 : r.streams.length ≤ 1000000) (hd : weights r.streams ≤ 50000000) (hd2 : ∀ s ∈ r.streams, s.events.length ≤ 40000 ∧ s.keys.length ≤ 40000) (_hTb : Tabs w) (_h2 : 2 ≤ base) :
 Calls Tryz.prog 254 #[.pointer (some ⟨g, 0, none⟩), .agg (r.cells nA nc pA pc sA sc).toArray, .agg (Fields.cells {fSpan := true, fTo := true}).toArray] w (WrOut g base n0 (n0 + 11000000 + weights r.streams) (bad || listsBad r {fSpan := true, fTo := true}) w) := by
 have HN := jh hr.nodes.2.2
 have HSt := jh hr.streams.2.2
 clear hr
 have hgl0 := hW.lt
 have B0 := (Blk.new w 46 (r.cells nA nc pA pc sA sc)).alloc (.cells (Fields.cells {fSpan := true, fTo := true}).toArray 320)
 have B1 := Blk.new1 w (.cells (r.cells nA nc pA pc sA sc).toArray 46) 320 (Fields.cells {fSpan := true, fTo := true})
 have HW' := jh hW
 have HD := jh (ja hd hd2)
 unfold Rec.cells Fields.cells at B0 B1 ⊢
 clear hd hd2 hW
 go_enter Tryz.func254, Tryz.ntmps254
 go_upto_region 1 with fail
 refine forget (M := fun W => Code.wp _ _ _ _ W) (fun W => Below w.heap.size w W ∧ Blk W w.heap.size 46 [.int .i64 r.kind, .int .i64 r.n, .int .i64 r.to, .bool r.yes, .int .i64 r.stamp.wall, .int .i64 r.stamp.logic, .int .i64 r.stamp.node, .int .i64 r.tx.node, .int .i64 r.tx.life, .int .i64 r.tx.num, .slice nA r.nodes.length nc, .string r.batch.key, .slice pA r.batch.puts.length pc, .int .i64 r.range.first, .int .i64 r.range.last, .int .i64 r.range.owner, .int .i64 r.range.epoch, .slice sA r.streams.length sc] ∧ Blk W (w.heap.size + 1) 320 [.bool false, .bool true, .bool false, .bool false, .bool false, .bool false, .bool false, .bool true, .bool false] ∧ w.heap.size + 2 = W.heap.size) ⟨((jb _ _).al _).al _, B0, B1, by simp⟩ ?_
 clear B0 B1
 rintro w0 ⟨hb0, B0, B1, hs0⟩
 have HW0 := HW'.out.turn hb0
 have hT0 : Turn g w0 w0 := Turn.refl
 have hB0 : Below base w0 w0 := jb _ _
 have hz0 := hB0.size
 have FX := jh (fun (W : World) (h : Turn g w0 W) => ja (recCells (h.blk B0 (by decide) (by omega))) (nineB false true false false false false false true false (h.blk B1 (by decide) (by omega))))
 obtain ⟨⟨c0, c1, c2, c3, c4, c5, c6, c7, c8, c9, c10, c11, c12, c13, c14, c15, c16, c17⟩, ⟨d0, d1, d2, d3, d4, d5, d6, d7, d8⟩⟩ := FX.out w0 hT0
 clear B0 B1
 go_wp2_with fail
 (try simp only [Exit.inBlock, Exit.then]); refine bodyPost_end (results_none rfl _ _ _) rfl ?_
 refine ⟨rfl, ⟨n0, by omega, by omega, ?_⟩, (hb0.mono hbw).trans hB0, (Turn.of_below hb0).trans hT0⟩
 have := HW0
 unfold listsBad
 simpa [Bool.or_assoc] using this
theorem lists_h (r : Rec) (nA pA sA : Option Addr) (nc pc sc : Nat) (g base n0 : Nat) (bad : Bool) (P : Nat → Prop) (w : World) (hW : Wr w base g bad n0) (hr : RecAt w P r nA nc pA pc sA sc) (hP : ∀ k, P k → k < base) (hn : n0 ≤ 1000000) (hg : base ≤ g) (hbw : base ≤ w.heap.size) (_hl : r.nodes.length ≤ 1000000) (hl2 : r.streams.length ≤ 1000000) (hd : weights r.streams ≤ 50000000) (hd2 : ∀ s ∈ r.streams, s.events.length ≤ 40000 ∧ s.keys.length ≤ 40000) (hTb : Tabs w) (h2 : 2 ≤ base) :
 Calls Tryz.prog 254 #[.pointer (some ⟨g, 0, none⟩), .agg (r.cells nA nc pA pc sA sc).toArray, .agg (Fields.cells {fSpan := true, fStamp := true, fStreams := true}).toArray] w (WrOut g base n0 (n0 + 11000000 + weights r.streams) (bad || listsBad r {fSpan := true, fStamp := true, fStreams := true}) w) := by
 have HN := jh hr.nodes.2.2
 have HSt := jh hr.streams.2.2
 clear hr
 have hgl0 := hW.lt
 have B0 := (Blk.new w 46 (r.cells nA nc pA pc sA sc)).alloc (.cells (Fields.cells {fSpan := true, fStamp := true, fStreams := true}).toArray 320)
 have B1 := Blk.new1 w (.cells (r.cells nA nc pA pc sA sc).toArray 46) 320 (Fields.cells {fSpan := true, fStamp := true, fStreams := true})
 have HW' := jh hW
 have HD := jh (ja hd hd2)
 unfold Rec.cells Fields.cells at B0 B1 ⊢
 clear hd hd2 hW
 go_enter Tryz.func254, Tryz.ntmps254
 go_upto_region 1 with fail
 refine forget (M := fun W => Code.wp _ _ _ _ W) (fun W => Below w.heap.size w W ∧ Blk W w.heap.size 46 [.int .i64 r.kind, .int .i64 r.n, .int .i64 r.to, .bool r.yes, .int .i64 r.stamp.wall, .int .i64 r.stamp.logic, .int .i64 r.stamp.node, .int .i64 r.tx.node, .int .i64 r.tx.life, .int .i64 r.tx.num, .slice nA r.nodes.length nc, .string r.batch.key, .slice pA r.batch.puts.length pc, .int .i64 r.range.first, .int .i64 r.range.last, .int .i64 r.range.owner, .int .i64 r.range.epoch, .slice sA r.streams.length sc] ∧ Blk W (w.heap.size + 1) 320 [.bool false, .bool false, .bool false, .bool true, .bool false, .bool false, .bool false, .bool true, .bool true] ∧ w.heap.size + 2 = W.heap.size) ⟨((jb _ _).al _).al _, B0, B1, by simp⟩ ?_
 clear B0 B1
 rintro w0 ⟨hb0, B0, B1, hs0⟩
 have HW0 := HW'.out.turn hb0
 have hT0 : Turn g w0 w0 := Turn.refl
 have hB0 : Below base w0 w0 := jb _ _
 have hz0 := hB0.size
 have FX := jh (fun (W : World) (h : Turn g w0 W) => ja (recCells (h.blk B0 (by decide) (by omega))) (nineB false false false true false false false true true (h.blk B1 (by decide) (by omega))))
 obtain ⟨⟨c0, c1, c2, c3, c4, c5, c6, c7, c8, c9, c10, c11, c12, c13, c14, c15, c16, c17⟩, ⟨d0, d1, d2, d3, d4, d5, d6, d7, d8⟩⟩ := FX.out w0 hT0
 clear B0 B1
 go_wp2_with fail
 refine (wmany_any g base n0 _ (r.streams.length : Int) w0 HW0 ⟨by omega, by omega⟩ (by omega) hg).mono ?_
 rintro en w1 ⟨rfl, ⟨n1, hm1, hn1, HW1⟩, hb, ht⟩
 have hT1 := hT0.trans ht
 have hB1 := hB0.trans hb
 have hz1 := hB1.size
 clear hb ht
 clear c0 c1 c2 c3 c4 c5 c6 c7 c8 c9 c10 c11 c12 c13 c14 c15 c16 c17 d0 d1 d2 d3 d4 d5 d6 d7 d8
 obtain ⟨⟨c0, c1, c2, c3, c4, c5, c6, c7, c8, c9, c10, c11, c12, c13, c14, c15, c16, c17⟩, ⟨d0, d1, d2, d3, d4, d5, d6, d7, d8⟩⟩ := FX.out w1 hT1
 go_wp2_with fail
 generalize hbd : ((bad || decide ((1000 : Int) < r.streams.length)) || !inW r.streams.length) = bd at *
 have HWH := jh HW1
 have HBD := jh hbd
 clear hbd HW1
 clear c0 c1 c2 c3 c4 c5 c6 c7 c8 c9 c10 c11 c12 c13 c14 c15 c16 c17 d0 d1 d2 d3 d4 d5 d6 d7 d8
 go_loopw [6] (fun i wr => ∃ (k m : Nat) (b : Bool), k ≤ r.streams.length ∧ i = .int .i64 k ∧ n1 ≤ m ∧ m ≤ n1 + weights (r.streams.take k) ∧ Wr wr base g b m ∧ b = (bd || !(r.streams.take k).all streamB) ∧ Below base w0 wr ∧ Turn g w0 wr) (fun i _ => r.streams.length - (intOf i).toNat)
 case atStart => exact ⟨0, n1, bd, Nat.zero_le _, rfl, by omega, by omega, HWH.out, by simp, hB1, hT1⟩
 case round =>
  obtain ⟨k, m, b, hkl, rfl, hm1, hm2, HWr, hbad, hBr, hTr⟩ := hrel
  have HX := jh hbad
  clear hbad
  have hzr := hBr.size
  have hwl := weights_le r.streams k
  have hdw := HD.out.1
  obtain ⟨⟨c0, c1, c2, c3, c4, c5, c6, c7, c8, c9, c10, c11, c12, c13, c14, c15, c16, c17⟩, ⟨d0, d1, d2, d3, d4, d5, d6, d7, d8⟩⟩ := FX.out wr hTr
  obtain ⟨v, hBk, hv⟩ := HWr
  have y1 : wr.cell? ⟨g, 1, none⟩ = some (.bool b) := hBk.cell 1
  have HWr : Wr wr base g b m := ⟨v, hBk, hv⟩
  have hglr := hBk.lt
  clear hBk hv
  by_cases hlt : k < r.streams.length
  ·have hlk := jg hlt
   have hlt' : (k : Int) < r.streams.length := by omega
   cases b
   ·have hwt := weights_take hlk
    have hwl1 := weights_le r.streams (k + 1)
    have hds := HD.out.2 _ (List.getElem_mem hlt)
    have HWK : Hid (wrap64 ((k : Int) + 1) = ((k + 1 : Nat) : Int)) := jh (by rw [wrap_in _ (by omega)]; rfl)
    have hlow : Below base w wr := (hb0.mono hbw).trans hBr
    obtain ⟨bb, o, cs, rfl, hPb, hbw2, hrep, hcs⟩ := (HSt.out.same (Same.of_belowB hlow hP) (by have := hb0.size; omega)).at_ hlk
    generalize r.streams[k] = s at *
    obtain ⟨eA, ec, kA, kc, rfl, s1, s2, s3, s4, s5, s6, s7⟩ := stream_rep.1 hrep
    have c0 := hcs 0 _ rfl; have c1 := hcs 1 _ rfl; have c2 := hcs 2 _ rfl; simp only [StreamR_size, Nat.add_zero] at c0 c1 c2
    have CE := encodeS_any s eA kA ec kc P wr s1 s4 s7 hds.1 hds.2 (hTb.only (Only.of_belowB hlow (fun g hg => hg)) (by omega) (by omega)) (by have := hb0.size; omega)
    have HLK := jh (ja hlk hwt)
    have HWT := jh (show m + s.weight ≤ 90000000 from by omega)
    clear hlk hwt hrep hcs s1 s2 s3 s4 s5 s6 s7 hds hwl1
    go_wp2_with fail
    refine CE.mono ?_
    clear CE
    rintro en wx ⟨hres, hbx⟩
    have hzx := hbx.size
    have hx : ∃ v2 n2, en = .returned v2 ∧ Bts wx wr.heap.size v2 n2 ∧ n2 ≤ s.weight ∧ decide (n2 = 0) = !(streamB s) := by
     unfold Stream.weight
     cases hok : streamB s
     ·rw [hok] at hres
      exact ⟨_, 0, hres.out0, Bts.nil_ _ _, by omega, rfl⟩
     ·rw [hok] at hres
      obtain ⟨v2, n2, rfl, hv2, hn2, hn2'⟩ := hres.out1
      exact ⟨v2, n2, rfl, hv2, by omega, jd (by omega)⟩
    obtain ⟨v2, n2, rfl, hv2, hn2, hok⟩ := hx
    clear hres
    obtain ⟨A2, z2, rfl, _⟩ := hv2.form
    clear c0 c1 c2 c3 c4 c5 c6 c7 c8 c9 c10 c11 c12 c13 c14 c15 c16 c17 d0 d1 d2 d3 d4 d5 d6 d7 d8 y1
    go_wp2_with fail
    have hsome := wsome_any g base m n2 _ _ wr wx HWr hbx hv2 (by have := HWT.out; omega) hg (by omega)
    rw [hok] at hsome
    refine hsome.mono ?_
    rintro en w5 ⟨rfl, ⟨m5, hm5, hn5, HW5⟩, hb', ht'⟩
    have hb : Below base w0 w5 := (hBr.trans (hbx.mono (by omega))).trans hb'
    have ht : Turn g w0 w5 := (hTr.trans (Turn.of_below hbx)).trans ht'
    clear hb' ht' hbx hsome hv2 hok
    go_wp2_with fail
    go_round
    case rel =>
     refine ⟨k + 1, m5, _, by omega, by first | rfl | rw [HWK.out], by omega, by have := HLK.out.2; omega, HW5, ?_, hb, ht⟩
     have h1 := HX.out
     rw [List.take_add_one, HLK.out.1, List.all_append]
     simp only [Bool.false_eq, Bool.or_eq_false_iff, Bool.not_eq_eq_eq_not, Bool.not_false] at h1
     rw [h1.1, h1.2]
     simp
    case measure => first | (simp [intOf]; omega) | (rw [HWK.out]; simp [intOf]; omega)
   ·have h1 := HX.out
    have hbb : (bd || !r.streams.all streamB) = true := by
     cases bd
     ·have h2 : (r.streams.take k).all streamB = false := by simpa using h1
      have h3 : r.streams.all streamB = false := by
       rw [Bool.eq_false_iff]
       intro h
       rw [Bool.eq_false_iff] at h2
       exact h2 (List.all_eq_true.2 fun x hx => List.all_eq_true.1 h x (List.mem_of_mem_take hx))
      rw [h3]; rfl
     ·rfl
    have HBB := jh hbb
    clear hbb h1
    go_wp2_with fail
    (try simp only [Exit.inBlock, Exit.then]); refine bodyPost_end (results_none rfl _ _ _) rfl ?_
    refine ⟨rfl, ⟨m, by omega, by omega, ?_⟩, (hb0.mono hbw).trans hBr, (Turn.of_below hb0).trans hTr⟩
    rw [show (bad || listsBad r _) = true from ?_]
    ·exact HWr
    ·have h2 := HBB.out
     rw [← HBD.out] at h2
     unfold listsBad
     simpa [Bool.or_assoc] using h2
  ·have hkn : k = r.streams.length := by omega
   subst hkn
   go_wp2_with fail
   (try simp only [Exit.inBlock, Exit.then]); refine bodyPost_end (results_none rfl _ _ _) rfl ?_
   refine ⟨rfl, ⟨m, by omega, by omega, ?_⟩, (hb0.mono hbw).trans hBr, (Turn.of_below hb0).trans hTr⟩
   have h2 := HX.out
   rw [List.take_length, ← HBD.out] at h2
   rw [show (bad || listsBad r _) = b from ?_]
   ·exact HWr
   ·rw [h2]
    unfold listsBad
    simp [Bool.or_assoc]
theorem lists_i (r : Rec) (nA pA sA : Option Addr) (nc pc sc : Nat) (g base n0 : Nat) (bad : Bool) (P : Nat → Prop) (w : World) (hW : Wr w base g bad n0) (hr : RecAt w P r nA nc pA pc sA sc) (_hP : ∀ k, P k → k < base) (_hn : n0 ≤ 1000000) (_hg : base ≤ g) (hbw : base ≤ w.heap.size) (_hl : r.nodes.length ≤ 1000000) (_hl2 : r.streams.length ≤ 1000000) (hd : weights r.streams ≤ 50000000) (hd2 : ∀ s ∈ r.streams, s.events.length ≤ 40000 ∧ s.keys.length ≤ 40000) (_hTb : Tabs w) (_h2 : 2 ≤ base) :
 Calls Tryz.prog 254 #[.pointer (some ⟨g, 0, none⟩), .agg (r.cells nA nc pA pc sA sc).toArray, .agg (Fields.cells {fSpan := true}).toArray] w (WrOut g base n0 (n0 + 11000000 + weights r.streams) (bad || listsBad r {fSpan := true}) w) := by
 have HN := jh hr.nodes.2.2
 have HSt := jh hr.streams.2.2
 clear hr
 have hgl0 := hW.lt
 have B0 := (Blk.new w 46 (r.cells nA nc pA pc sA sc)).alloc (.cells (Fields.cells {fSpan := true}).toArray 320)
 have B1 := Blk.new1 w (.cells (r.cells nA nc pA pc sA sc).toArray 46) 320 (Fields.cells {fSpan := true})
 have HW' := jh hW
 have HD := jh (ja hd hd2)
 unfold Rec.cells Fields.cells at B0 B1 ⊢
 clear hd hd2 hW
 go_enter Tryz.func254, Tryz.ntmps254
 go_upto_region 1 with fail
 refine forget (M := fun W => Code.wp _ _ _ _ W) (fun W => Below w.heap.size w W ∧ Blk W w.heap.size 46 [.int .i64 r.kind, .int .i64 r.n, .int .i64 r.to, .bool r.yes, .int .i64 r.stamp.wall, .int .i64 r.stamp.logic, .int .i64 r.stamp.node, .int .i64 r.tx.node, .int .i64 r.tx.life, .int .i64 r.tx.num, .slice nA r.nodes.length nc, .string r.batch.key, .slice pA r.batch.puts.length pc, .int .i64 r.range.first, .int .i64 r.range.last, .int .i64 r.range.owner, .int .i64 r.range.epoch, .slice sA r.streams.length sc] ∧ Blk W (w.heap.size + 1) 320 [.bool false, .bool false, .bool false, .bool false, .bool false, .bool false, .bool false, .bool true, .bool false] ∧ w.heap.size + 2 = W.heap.size) ⟨((jb _ _).al _).al _, B0, B1, by simp⟩ ?_
 clear B0 B1
 rintro w0 ⟨hb0, B0, B1, hs0⟩
 have HW0 := HW'.out.turn hb0
 have hT0 : Turn g w0 w0 := Turn.refl
 have hB0 : Below base w0 w0 := jb _ _
 have hz0 := hB0.size
 have FX := jh (fun (W : World) (h : Turn g w0 W) => ja (recCells (h.blk B0 (by decide) (by omega))) (nineB false false false false false false false true false (h.blk B1 (by decide) (by omega))))
 obtain ⟨⟨c0, c1, c2, c3, c4, c5, c6, c7, c8, c9, c10, c11, c12, c13, c14, c15, c16, c17⟩, ⟨d0, d1, d2, d3, d4, d5, d6, d7, d8⟩⟩ := FX.out w0 hT0
 clear B0 B1
 go_wp2_with fail
 (try simp only [Exit.inBlock, Exit.then]); refine bodyPost_end (results_none rfl _ _ _) rfl ?_
 refine ⟨rfl, ⟨n0, by omega, by omega, ?_⟩, (hb0.mono hbw).trans hB0, (Turn.of_below hb0).trans hT0⟩
 have := HW0
 unfold listsBad
 simpa [Bool.or_assoc] using this
end Go.Proofs.YtcmjgghkmdbphaaGreatDoor
namespace Go.Proofs.YtcmjgghkmdbphaaGreatDoor
open Go.RowKit
def getA {κ β : Type} [DecidableEq κ] (k : κ) : List (κ × β) → Option β
 | [] => none
 | (x, v) :: l => if k = x then some v else getA k l
def putA {κ β : Type} [DecidableEq κ] (k : κ) (v : β) : List (κ × β) → List (κ × β)
 | [] => [(k, v)]
 | (x, u) :: l => if k = x then (x, v) :: l else (x, u) :: putA k v l
def delA {κ β : Type} [DecidableEq κ] (k : κ) : List (κ × β) → List (κ × β)
 | [] => []
 | (x, u) :: l => if k = x then l else (x, u) :: delA k l
def sortS (l : List Str) : List Str := l.mergeSort fun a b => decide (a.data.toList ≤ b.data.toList)
def Range.has (r : Range) (h : Int) : Bool := decide (r.first ≤ h) && decide (h ≤ r.last)
def ownedB (r : Range) : Bool := decide (1 ≤ r.owner) && (decide (r.owner ≤ 5) && (decide (1 ≤ r.epoch) && decide (r.epoch ≤ 1099511627776)))
def soundFrom : List Range → Int → Option Int
 | [], n => some n
 | r :: l, n => if r.first = n ∧ n ≤ r.last ∧ r.last ≤ 4294967295 ∧ ownedB r = true then soundFrom l (r.last + 1) else none
def soundR (l : List Range) : Bool := decide (soundFrom l 0 = some 4294967296) && decide (l.length ≤ 64)
def atR (l : List Range) (h : Int) : Int := if soundR l then idxI (fun r => r.has h) l else -1
def zeroRange : Range := ⟨0, 0, 0, 0⟩
def findR (l : List Range) (h : Int) : Range × Bool := if atR l h < 0 then (zeroRange, false) else (l.getD (atR l h).toNat zeroRange, true)
def ofR (l : List Range) (s : Str) : Range × Bool := findR l (hashS s)
def beginR (n k : Int) : Int := k * 4294967296 / n
def newRange (n : Int) (k : Nat) : Range := ⟨beginR n k, beginR n (k + 1) - 1, k + 1, 1⟩
def newR (n : Int) : List Range × Int := if n < 1 ∨ 5 < n then ([], 1) else ((List.range n.toNat).map (newRange n), 0)
def splitR (l : List Range) (h : Int) : List Range × Int :=
 let i := atR l h
 let x := l.getD i.toNat zeroRange
 if i < 0 ∨ x.first = h ∨ x.epoch = 1099511627776 then ([], 1)
 else if 64 ≤ l.length then ([], 2)
 else (l.take i.toNat ++ ([{ x with last := h - 1, epoch := x.epoch + 1 }, { x with first := h, epoch := x.epoch + 1 }] ++ l.drop (i.toNat + 1)), 0)
def setR (l : List Range) (r : Range) : List Range × Int :=
 let i := atR l r.first
 let x := l.getD i.toNat zeroRange
 if soundR l = false then ([], 1)
 else if i < 0 ∨ x.first ≠ r.first ∨ x.last ≠ r.last then ([], 4)
 else if ownedB r = false then ([], 1)
 else (l.set i.toNat r, 0)
structure TS where
 events : List Event
 keys : List (Str × Known)
abbrev Tab := List (Str × TS)
def versionT (T : Tab) (n : Str) : Int := match getA n T with | some s => s.events.length | none => 0
def zeroStamp : Stamp := ⟨0, 0, 0⟩
def zeroKnown : Known := ⟨⟨#[]⟩, 0, zeroStamp⟩
def knownT (T : Tab) (n k : Str) : Known × Bool :=
 match getA n T with
 | some s => (match getA k s.keys with | some x => (x, true) | none => (zeroKnown, false))
 | none => (zeroKnown, false)
def alikeB (l : List Event) : Bool := match l with | [] => true | e :: _ => l.all fun x => decide (x.stream = e.stream) && (decide (x.stamp = e.stamp) && eventB x)
def goesFrom : List Event → Int → Int → Bool
 | [], _, _ => true
 | e :: l, v, i => decide (e.version = v + 1 + i) && goesFrom l v (i + 1)
def goesB (l : List Event) (v : Int) : Bool := goesFrom l v 0
def addKey (k : Str) (e : Event) (m : List (Str × Known)) : List (Str × Known) :=
 if (getA k m).isNone ∧ k.toList ≠ [] then putA k ⟨k, e.version, e.stamp⟩ m else m
def appendT (k : Str) (l : List Event) (T : Tab) : Tab × Int :=
 match l with
 | [] => (T, 1)
 | e :: _ =>
   if alikeB l = false ∨ keyB k = false then (T, 1)
   else if goesB l (versionT T e.stream) = false then (T, 5)
   else
    let s := (getA e.stream T).getD ⟨[], []⟩
    (putA e.stream ⟨s.events ++ l, addKey k e s.keys⟩ T, 0)
def inR (r : Range) (n : Str) : Bool := r.has (hashS n)
def someT (T : Tab) (r : Range) : List Str := (sortS (T.map (·.1))).filter (inR r)
def streamOf (n : Str) (s : TS) : Stream := ⟨n, s.events, (sortS (s.keys.map (·.1))).map fun k => (getA k s.keys).getD zeroKnown⟩
def takeT (T : Tab) (r : Range) : List Stream := (someT T r).map fun n => streamOf n ((getA n T).getD ⟨[], []⟩)
def metK (l : List Known) (k : Str) : Nat := (l.filter fun x => decide (x.key = k)).length
def keysB (ev : List Event) : List Known → List Known → Bool
 | _, [] => true
 | l, k :: r => decide (metK l k.key = 0) && (decide (k.first ≤ ev.length) && (decide ((ev.map Event.stamp).getD (k.first - 1).toNat zeroStamp = k.stamp) && keysB ev (l ++ [k]) r))
def wholeB (s : Stream) : Bool := streamB s && (decide (s.events ≠ []) && (goesB s.events 0 && keysB s.events [] s.keys))
def metS (l : List Stream) (n : Str) : Nat := (l.filter fun x => decide (x.name = n)).length
def okPut : List Stream → List Stream → Bool
 | _, [] => true
 | l, s :: r => decide (metS l s.name = 0) && (wholeB s && okPut (l ++ [s]) r)
def keysOf (l : List Known) : List (Str × Known) := l.foldl (fun m k => putA k.key k m) []
def putAll (l : List Stream) (T : Tab) : Tab := l.foldl (fun T s => putA s.name ⟨s.events, keysOf s.keys⟩ T) T
def putT (l : List Stream) (T : Tab) : Tab × Int := if okPut [] l then (putAll l T, 0) else (T, 1)
def dropT (T : Tab) (r : Range) : Tab := (someT T r).foldl (fun T n => delA n T) T
def allHashes : Range := ⟨0, 4294967295, 0, 0⟩
def freshT (T : Tab) : Tab := (putT (takeT T allHashes) []).1
structure Held where
 tx : Tx
 batch : Batch
 stamp : Stamp
 firsts : List Int
structure Outcome where
 tx : Tx
 yes : Bool
 stamp : Stamp
 nodes : List Int
structure St where
 self : Int
 nodes : Int
 life : Int
 ceiling : Int
 ring : List Range
 table : Tab
 held : List (Tx × Held)
 outcomes : List (Tx × Outcome)
 decided : List (Tx × Int)
 frozen : List Rec
 log : List Event
def newS (self nodes : Int) : Option St := if nodes < 1 ∨ 5 < nodes ∨ self < 1 ∨ nodes < self then none else some ⟨self, nodes, 0, 0, (newR nodes).1, [], [], [], [], [], []⟩
def servesS (s : St) (n : Str) : Bool := (ofR s.ring n).2 && decide ((ofR s.ring n).1.owner = s.self)
def busyS (s : St) (n : Str) : Bool := s.frozen.any (fun f => f.range.has (hashS n)) || s.held.any (fun x => x.2.batch.puts.any fun p => decide (p.stream = n))
def knownL (T : Tab) (k : Str) : List Put → List Int × Known × Bool → List Int × Known × Bool
 | [], a => a
 | p :: r, (f, x, u) =>
   let q := knownT T p.stream k
   if q.2 then knownL T k r (f ++ [q.1.first], (if f.length = 0 then q.1 else x), u || decide (q.1.stamp ≠ (if f.length = 0 then q.1 else x).stamp))
   else knownL T k r (f, x, u)
def knownS (s : St) (b : Batch) : List Int × Known × Int :=
 if b.key.toList = [] then ([], zeroKnown, 0)
 else
  let q := knownL s.table b.key b.puts ([], zeroKnown, false)
  if q.1.length = 0 then ([], zeroKnown, 0)
  else if q.1.length < b.puts.length ∨ q.2.2 = true then ([], zeroKnown, 1)
  else (q.1, q.2.1, 4)
def mayP (s : St) : List Put → Int
 | [] => 0
 | p :: r => if servesS s p.stream = false then 8 else if busyS s p.stream then 11 else mayP s r
def mayV (T : Tab) : List Put → List Int → List Int × Known × Int
 | [], f => (f, zeroKnown, 0)
 | p :: r, f => if p.expect ≠ -1 ∧ p.expect ≠ versionT T p.stream then ([], zeroKnown, 5) else mayV T r (f ++ [versionT T p.stream + 1])
def mayS (s : St) (b : Batch) : List Int × Known × Int :=
 if checkB b ≠ 0 then ([], zeroKnown, checkB b)
 else if mayP s b.puts ≠ 0 then ([], zeroKnown, mayP s b.puts)
 else if (knownS s b).2.2 ≠ 0 then knownS s b
 else mayV s.table b.puts []
def makeP (p : Put) (first step : Int) (st : Stamp) (index : Int) : List Str → Nat → Nat → List Event
 | [], _, _ => []
 | d :: r, k, n => ⟨p.stream, first + step * k, d, st, index + n⟩ :: makeP p first step st index r (k + 1) (n + 1)
def makeF : List Put → List Int → Stamp → Int → Nat → List Event
 | [], _, _, _, _ => []
 | p :: r, f, st, index, n => makeP p (f.headD 0) (if f = [] then 0 else 1) st index p.data 0 n ++ makeF r f.tail st index (n + p.data.length)
def makeB (b : Batch) (firsts : List Int) (st : Stamp) (index : Int) : List Event := makeF b.puts firsts st index 0
def putP (k : Str) : List Put → List Event → Tab → Tab
 | [], _, T => T
 | p :: r, l, T => putP k r (l.drop p.data.length) (appendT k (l.take p.data.length) T).1
def putS (s : St) (b : Batch) (firsts : List Int) (st : Stamp) : St :=
 { s with log := s.log ++ makeB b firsts st 0, table := putP b.key b.puts (makeB b firsts st 0) (freshT s.table) }
def commitS (s : St) (r : Rec) : St × Int := if (mayS s r.batch).2.2 = 0 then (putS s r.batch (mayS s r.batch).1 r.stamp, 0) else (s, (mayS s r.batch).2.2)
def prepareS (s : St) (r : Rec) : St × Int :=
 if (getA r.tx s.held).isSome then (s, 11)
 else if 0 < (getA r.tx s.decided).getD 0 then (s, 1)
 else if (mayS s r.batch).2.2 = 0 then ({ s with held := putA r.tx ⟨r.tx, r.batch, r.stamp, (mayS s r.batch).1⟩ s.held }, 0)
 else (s, (mayS s r.batch).2.2)
def decideS (s : St) (r : Rec) : St × Int :=
 match getA r.tx s.held with
 | none => (s, 4)
 | some h =>
   let s1 := { s with held := delA r.tx s.held, decided := putA r.tx 1 s.decided }
   (if r.yes then putS s1 h.batch h.firsts r.stamp else s1, 0)
def outcomeS (s : St) (r : Rec) : St × Int :=
 if (getA r.tx s.outcomes).isSome then (s, 11)
 else if r.nodes.any (fun n => decide (n < 1) || decide (5 < n)) then (s, 1)
 else ({ s with outcomes := putA r.tx ⟨r.tx, r.yes, r.stamp, r.nodes⟩ s.outcomes }, 0)
def forgetS (s : St) (r : Rec) : St × Int := if (getA r.tx s.outcomes).isNone then (s, 4) else ({ s with outcomes := delA r.tx s.outcomes }, 0)
def icedS (s : St) (h : Int) : Int := idxI (fun f : Rec => f.range.has h) s.frozen
def splitS (s : St) (r : Rec) : St × Int :=
 if (findR s.ring r.n).2 = false ∨ (findR s.ring r.n).1.owner ≠ s.self then (s, 8)
 else if 0 ≤ icedS s r.n ∨ 64 ≤ s.ring.length then (s, 11)
 else if (splitR s.ring r.n).2 = 0 then ({ s with ring := (splitR s.ring r.n).1 }, 0) else (s, (splitR s.ring r.n).2)
def lockedS (s : St) (r : Range) : Bool := s.held.any fun x => x.2.batch.puts.any fun p => r.has (hashS p.stream)
def freezeS (s : St) (r : Rec) : St × Int :=
 if r.range ∉ s.ring ∨ r.range.owner ≠ s.self then (s, 8)
 else if 0 ≤ icedS s r.range.first ∨ lockedS s r.range = true then (s, 11)
 else if r.to < 1 ∨ s.nodes < r.to ∨ r.to = s.self then (s, 1)
 else ({ s with frozen := s.frozen ++ [r] }, 0)
def spanB (r : Range) : Bool := decide (r.first ≤ r.last) && (decide (r.last ≤ 4294967295) && (decide (1 ≤ r.epoch) && decide (r.epoch ≤ 1099511627776)))
def newerS (s : St) (r : Range) : Bool := decide (r.owner = s.self) && s.ring.all fun x => !(decide (r.first ≤ r.last) && (decide (x.first ≤ r.last) && (decide (r.first ≤ x.last) && (decide (x.owner = s.self) || decide (r.epoch ≤ x.epoch)))))
def aroundX (r x : Range) : List Range :=
 let low : Range := { x with last := min x.last (r.first - 1) }
 let high : Range := { x with first := max x.first (r.last + 1) }
 (if low.first ≤ low.last then [low] else []) ++ ((if x.first ≤ r.first ∧ r.first ≤ x.last then [r] else []) ++ (if high.first ≤ high.last then [high] else []))
def aroundR (l : List Range) (r : Range) : List Range := l.flatMap (aroundX r)
def installS (s : St) (r : Rec) : St × Int :=
 if newerS s r.range = false then (s, 8)
 else if spanB r.range = false ∨ (r.streams.any fun x => !r.range.has (hashS x.name)) = true ∨ (putT r.streams []).2 ≠ 0 then (s, 1)
 else if 64 < (aroundR s.ring r.range).length then (s, 11)
 else ({ s with ring := aroundR s.ring r.range, table := (putT r.streams (dropT (freshT s.table) r.range)).1 }, (putT r.streams (dropT (freshT s.table) r.range)).2)
def releaseS (s : St) (r : Rec) : St × Int :=
 let i := idxI (fun f : Rec => decide (f.range.first = r.range.first) && decide (f.range.last = r.range.last)) s.frozen
 if i < 0 then (s, 4)
 else if r.range.owner = s.self ∨ r.range.owner < 1 ∨ s.nodes < r.range.owner ∨ r.range.epoch ≤ ((s.frozen.map Rec.range).getD i.toNat zeroRange).epoch then (s, 1)
 else if (setR s.ring r.range).2 ≠ 0 then (s, (setR s.ring r.range).2)
 else ({ s with ring := (setR s.ring r.range).1, frozen := s.frozen.eraseIdx i.toNat, table := dropT (freshT s.table) r.range }, 0)
end Go.Proofs.YtcmjgghkmdbphaaGreatDoor
namespace Go.Proofs.YtcmjgghkmdbphaaGreatDoor
open Go.RowKit
section
variable {P : Program} {ops : Array Oper} {rest : List Oper} {o : Oper} {a : Act} {w : World}
theorem wpList_load_blk {Q : Exit → Act → World → Prop} (hgd : o.guard = none) {ty : TypeId} {x : Operand} (ho : o.op = .load ty x) {g : Nat} (hx : a.eval x = .pointer (some ⟨g, 0, none⟩)) {t : TypeId} {cs : List Value} {d : TypeDesc}
 (hg : Blk w g t cs) (hu : P.underlying ty = some d) (hd : (match d with | .struct _ | .array _ _ => true | _ => false) = true) (hi : (P.info? ty).map (·.size) = some cs.length)
 (h : wpList P ops Q rest (a.put o.dst (.agg cs.toArray)) w) : wpList P ops Q (o :: rest) a w :=
 wpList_load_row hgd ty x ho g hx t cs.toArray (0, 0) d hg hu hd (by simpa using hi) h
theorem wpList_load_at {Q : Exit → Act → World → Prop} (hgd : o.guard = none) {ty : TypeId} {x : Operand} (ho : o.op = .load ty x) {b off : Nat} (hx : a.eval x = .pointer (some ⟨b, off, none⟩)) {cs : List Value} {d : TypeDesc}
 (hg : ∀ j u, cs[j]? = some u → w.cell? ⟨b, off + j, none⟩ = some u) (hu : P.underlying ty = some d) (hd : (match d with | .struct _ | .array _ _ => true | _ => false) = true) (hi : (P.info? ty).map (·.size) = some cs.length)
 (h : wpList P ops Q rest (a.put o.dst (.agg cs.toArray)) w) : wpList P ops Q (o :: rest) a w := by
 refine wpList_plain hgd fun K' hK' => ?_
 have hl : (loadCells ⟨b, off, none⟩ cs.length).run P w = .ok cs.toArray w :=
  run_loadCells_list (P := P) w ⟨b, off, none⟩ cs (fun j v hv => by rw [add_off]; exact hg j v hv)
 have hr : (loadVar ty ⟨b, off, none⟩).run P w = .ok (.agg cs.toArray) w := by
  cases hq : P.info? ty with
  | none => simp [hq] at hi
  | some i =>
    have hs : i.size = cs.length := by simpa [hq] using hi
    have hagg : (isAgg ty).run P w = .ok true w := by
     unfold isAgg
     rw [Sem.run_bind, run_underlying hu w]
     cases d <;> simp_all
    simp [loadVar, Sem.run_bind, hagg, sizeOf, typeInfo, hq, hs, hl]
 unfold Oper.wp execOp
 simp only [ho, hx, Instr.loadAt, Instr.sureAddr, Sem.run_bind, Sem.run_pure, Result.andThen_ok, hr]
 exact hK' _ _ h
theorem wpList_store_new {Q : Exit → Act → World → Prop} (hgd : o.guard = none) (hdst : o.dst = none) {ty : TypeId} {x y : Operand} (ho : o.op = .store ty x y) {c cs : Array Value} {t : TypeId} (hx : a.eval x = .pointer (some ⟨w.heap.size, 0, none⟩)) (hy : a.eval y = .agg cs)
 (hi : (P.info? ty).map (·.size) = some cs.size) (hold : c.size = cs.size) (h1 : cs.all (·.oneCell') = true)
 (h : wpList P ops Q rest a (w.alloc (.cells cs t))) : wpList P ops Q (o :: rest) a (w.alloc (.cells c t)) := by
 refine wpList_plain hgd fun K' hK' => ?_
 have hg : (w.alloc (.cells c t)).heap[w.heap.size]? = some (.cells c t (0, 0)) := Go.heap_alloc_new w _
 have hr : (storeVar ty ⟨w.heap.size, 0, none⟩ (.agg cs)).run P (w.alloc (.cells c t)) = .ok () (w.alloc (.cells cs t)) := by
  rw [run_storeVar_row _ _ t ty c cs hg hi hold h1, World.setRow_alloc_new]
 unfold Oper.wp execOp
 simp only [ho, hx, hy, Instr.storeAt, Instr.sureAddr, Sem.run_bind, Sem.run_pure, Result.andThen_ok, hr, Oper.upon, hdst, Act.put]
 exact hK' _ _ h
end
end Go.Proofs.YtcmjgghkmdbphaaGreatDoor
