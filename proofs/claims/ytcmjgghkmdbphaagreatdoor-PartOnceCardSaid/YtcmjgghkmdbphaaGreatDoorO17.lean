/- rec.writer.head: the fields that have no list. -/
import Derived.Test.YtcmjgghkmdbphaaGreatDoorO16
import Derived.Test.YtcmjgghkmdbphaaGreatDoorO06
set_option maxRecDepth 20000
set_option maxHeartbeats 25600000
namespace Go.Proofs.YtcmjgghkmdbphaaGreatDoor
open Go.RowKit
theorem int_blk_row {w : World} {b : Nat} {t : TypeId} {l : List Int} (h : Blk w b t (l.map fun n => .int .i64 n)) (hl : ∀ n ∈ l, i64 n) : IntR.Row w (· = b) (some ⟨b, 0, none⟩) l := fun _ => by
 refine ⟨b, 0, rfl, rfl, h.lt, fun i a hi => ⟨[_], ⟨rfl, hl a (List.mem_of_getElem? hi)⟩, fun j u hu => ?_⟩⟩
 cases j with
 | succ j => simp at hu
 | zero =>
   simp at hu; subst hu
   rw [h.cell]
   simp [IntR, hi]
theorem wnumsL_any (g base n b : Nat) (bad : Bool) (l : List Int) (w : World) (hW : Wr w base g bad n) (hb : Blk w b 3 (l.map fun n => .int .i64 n)) (hl : ∀ n ∈ l, i64 n) (hlen : l.length ≤ 1000000) (hn : n ≤ 70000000) (hg : base ≤ g) (hbg : b ≠ g) :
 Calls Tryz.prog 296 #[.pointer (some ⟨g, 0, none⟩), .slice (some ⟨b, 0, none⟩) l.length l.length] w (WrOut g base n (n + 10 * l.length) (bad || !l.all inW) w) :=
 wnums_any g base n bad _ l.length l _ w hW (int_blk_row hb hl) hlen hn hg (fun W _ ht => Turn.same_blk hb (by decide) hbg W ht)
theorem bts_new1 (w : World) (x : Int) : Bts (w.alloc (.cells #[.int .u8 x] 5)) w.heap.size (.slice (some ⟨w.heap.size, 0, none⟩) 1 1) 1 :=
 Bts.of_raw (xs := [.int .u8 x]) ⟨rfl, .inr ⟨w.heap.size, 1, #[.int .u8 x], rfl, Nat.le_refl _, heap_alloc_new w _, by decide, by decide, rfl, rfl⟩⟩ (by simp [Value.oneCell'])
def headBad (r : Rec) (f : Fields) : Bool :=
 (f.fN && !inW r.n) || ((f.fTx && !([r.tx.node, r.tx.life, r.tx.num].all inW)) || ((f.fBatch && !decide (checkB r.batch = 0)) || ((f.fSpan && !([r.range.first, r.range.last, r.range.owner, r.range.epoch].all inW)) || ((f.fTo && !inW r.to) || (f.fStamp && !soundB r.stamp)))))
theorem head_a (r : Rec) (nA pA sA : Option Addr) (nc pc sc : Nat) (g base n0 : Nat) (bad : Bool) (P : Nat → Prop) (w : World) (hW : Wr w base g bad n0) (hr : RecAt w P r nA nc pA pc sA sc) (hP : ∀ k, P k → k < base) (hn : n0 ≤ 1000000) (hg : base ≤ g) (hbw : base ≤ w.heap.size) (hl : r.batch.puts.length ≤ 1000000) (hd : ∀ p ∈ r.batch.puts, p.data.length ≤ 1000000) (hTb : Tabs w) (h2 : 2 ≤ base) :
 Calls Tryz.prog 253 #[.pointer (some ⟨g, 0, none⟩), .agg (r.cells nA nc pA pc sA sc).toArray, .agg (Fields.cells {fN := true}).toArray] w (WrOut g base n0 (n0 + 500000) (bad || headBad r {fN := true}) w) := by
 obtain ⟨q1, q2, q3, q4, q5, q6, q7, q8, q9, q10⟩ := hr
 have CS := fun W => encode_any r.stamp W
 unfold Stamp.val at CS
 have CB := jh (fun W (h : Below base w W) (hz : w.heap.size ≤ W.heap.size) => encodeB_any r.batch pA pc P W (q8.2.2.same (Same.of_belowB h hP) hz) hl q7 hd (hTb.only (Only.of_belowB h (fun g hg => hg)) (by omega) (by omega)) (by omega))
 have HBad : Hid (headBad r {fN := true} = headBad r {fN := true}) := jh rfl
 have hgl0 := hW.lt
 have B0 := (Blk.new w 46 (r.cells nA nc pA pc sA sc)).alloc (.cells (Fields.cells {fN := true}).toArray 320)
 have B1 := Blk.new1 w (.cells (r.cells nA nc pA pc sA sc).toArray 46) 320 (Fields.cells {fN := true})
 have HW' := jh hW
 have Q := jh (ja q2 (ja q3 (ja q5 q9)))
 unfold Rec.cells Fields.cells at B0 B1 ⊢
 clear q1 q2 q3 q4 q5 q6 q7 q8 q9 q10 hd hW
 go_enter Tryz.func253, Tryz.ntmps253
 go_upto_region 1 with fail
 refine forget (M := fun W => Code.wp _ _ _ _ W) (fun W => Below w.heap.size w W ∧ Blk W w.heap.size 46 [.int .i64 r.kind, .int .i64 r.n, .int .i64 r.to, .bool r.yes, .int .i64 r.stamp.wall, .int .i64 r.stamp.logic, .int .i64 r.stamp.node, .int .i64 r.tx.node, .int .i64 r.tx.life, .int .i64 r.tx.num, .slice nA r.nodes.length nc, .string r.batch.key, .slice pA r.batch.puts.length pc, .int .i64 r.range.first, .int .i64 r.range.last, .int .i64 r.range.owner, .int .i64 r.range.epoch, .slice sA r.streams.length sc] ∧ Blk W (w.heap.size + 1) 320 [.bool true, .bool false, .bool false, .bool false, .bool false, .bool false, .bool false, .bool false, .bool false] ∧ w.heap.size + 2 = W.heap.size) ⟨((jb _ _).al _).al _, B0, B1, by simp⟩ ?_
 clear B0 B1
 rintro w0 ⟨hb0, B0, B1, hs0⟩
 have HW0 := HW'.out.turn hb0
 have hT0 : Turn g w0 w0 := Turn.refl
 have hB0 : Below base w0 w0 := jb _ _
 have hz0 := hB0.size
 have FX := jh (fun (W : World) (h : Turn g w0 W) => ja (recCells (h.blk B0 (by decide) (by omega))) (nineB true false false false false false false false false (h.blk B1 (by decide) (by omega))))
 obtain ⟨⟨c0, c1, c2, c3, c4, c5, c6, c7, c8, c9, c10, c11, c12, c13, c14, c15, c16, c17⟩, ⟨d0, d1, d2, d3, d4, d5, d6, d7, d8⟩⟩ := FX.out w0 hT0
 clear B0 B1
 go_wp2_with fail
 have hgl := HW0.lt
 have hsz : (w0.alloc (.cells #[.int .i64 r.n] 3)).heap.size = w0.heap.size + 1 := by simp
 refine (wnumsL_any g base n0 w0.heap.size _ [r.n] _ (HW0.turn ((jb _ _).al _)) (Blk.new w0 3 _) (by simpa [Tx.fit, Range.fit] using Q.out.1) (by simp) (by omega) hg (by omega)).mono ?_
 rintro en w1 ⟨rfl, ⟨n1, hm1, hn1, HW1⟩, hb', ht'⟩
 have hb : Below base w0 w1 := ((jb base w0).alloc (by omega) _).trans hb'
 have ht : Turn g w0 w1 := (Turn.of_below ((jb _ _).al _)).trans ht'
 simp only [List.length_cons, List.length_nil] at hn1
 clear hb' ht' hsz
 have hT1 := hT0.trans ht
 have hB1 := hB0.trans hb
 have hz1 := hB1.size
 clear hb ht
 clear c0 c1 c2 c3 c4 c5 c6 c7 c8 c9 c10 c11 c12 c13 c14 c15 c16 c17 d0 d1 d2 d3 d4 d5 d6 d7 d8
 obtain ⟨⟨c0, c1, c2, c3, c4, c5, c6, c7, c8, c9, c10, c11, c12, c13, c14, c15, c16, c17⟩, ⟨d0, d1, d2, d3, d4, d5, d6, d7, d8⟩⟩ := FX.out w1 hT1
 go_wp2_with fail
 (try simp only [Exit.inBlock, Exit.then]); refine bodyPost_end (results_none rfl _ _ _) rfl ?_
 refine ⟨rfl, ⟨n1, by omega, by omega, ?_⟩, (hb0.mono hbw).trans hB1, (Turn.of_below hb0).trans hT1⟩
 have := HW1
 unfold headBad
 simpa [Bool.or_assoc] using this
theorem head_b (r : Rec) (nA pA sA : Option Addr) (nc pc sc : Nat) (g base n0 : Nat) (bad : Bool) (P : Nat → Prop) (w : World) (hW : Wr w base g bad n0) (hr : RecAt w P r nA nc pA pc sA sc) (hP : ∀ k, P k → k < base) (hn : n0 ≤ 1000000) (hg : base ≤ g) (hbw : base ≤ w.heap.size) (hl : r.batch.puts.length ≤ 1000000) (hd : ∀ p ∈ r.batch.puts, p.data.length ≤ 1000000) (hTb : Tabs w) (h2 : 2 ≤ base) :
 Calls Tryz.prog 253 #[.pointer (some ⟨g, 0, none⟩), .agg (r.cells nA nc pA pc sA sc).toArray, .agg (Fields.cells {fBatch := true, fStamp := true}).toArray] w (WrOut g base n0 (n0 + 500000) (bad || headBad r {fBatch := true, fStamp := true}) w) := by
 obtain ⟨q1, q2, q3, q4, q5, q6, q7, q8, q9, q10⟩ := hr
 have CS := fun W => encode_any r.stamp W
 unfold Stamp.val at CS
 have CB := jh (fun W (h : Below base w W) (hz : w.heap.size ≤ W.heap.size) => encodeB_any r.batch pA pc P W (q8.2.2.same (Same.of_belowB h hP) hz) hl q7 hd (hTb.only (Only.of_belowB h (fun g hg => hg)) (by omega) (by omega)) (by omega))
 have HBad : Hid (headBad r {fBatch := true, fStamp := true} = headBad r {fBatch := true, fStamp := true}) := jh rfl
 have hgl0 := hW.lt
 have B0 := (Blk.new w 46 (r.cells nA nc pA pc sA sc)).alloc (.cells (Fields.cells {fBatch := true, fStamp := true}).toArray 320)
 have B1 := Blk.new1 w (.cells (r.cells nA nc pA pc sA sc).toArray 46) 320 (Fields.cells {fBatch := true, fStamp := true})
 have HW' := jh hW
 have Q := jh (ja q2 (ja q3 (ja q5 q9)))
 unfold Rec.cells Fields.cells at B0 B1 ⊢
 clear q1 q2 q3 q4 q5 q6 q7 q8 q9 q10 hd hW
 go_enter Tryz.func253, Tryz.ntmps253
 go_upto_region 1 with fail
 refine forget (M := fun W => Code.wp _ _ _ _ W) (fun W => Below w.heap.size w W ∧ Blk W w.heap.size 46 [.int .i64 r.kind, .int .i64 r.n, .int .i64 r.to, .bool r.yes, .int .i64 r.stamp.wall, .int .i64 r.stamp.logic, .int .i64 r.stamp.node, .int .i64 r.tx.node, .int .i64 r.tx.life, .int .i64 r.tx.num, .slice nA r.nodes.length nc, .string r.batch.key, .slice pA r.batch.puts.length pc, .int .i64 r.range.first, .int .i64 r.range.last, .int .i64 r.range.owner, .int .i64 r.range.epoch, .slice sA r.streams.length sc] ∧ Blk W (w.heap.size + 1) 320 [.bool false, .bool false, .bool false, .bool true, .bool false, .bool false, .bool true, .bool false, .bool false] ∧ w.heap.size + 2 = W.heap.size) ⟨((jb _ _).al _).al _, B0, B1, by simp⟩ ?_
 clear B0 B1
 rintro w0 ⟨hb0, B0, B1, hs0⟩
 have HW0 := HW'.out.turn hb0
 have hT0 : Turn g w0 w0 := Turn.refl
 have hB0 : Below base w0 w0 := jb _ _
 have hz0 := hB0.size
 have FX := jh (fun (W : World) (h : Turn g w0 W) => ja (recCells (h.blk B0 (by decide) (by omega))) (nineB false false false true false false true false false (h.blk B1 (by decide) (by omega))))
 obtain ⟨⟨c0, c1, c2, c3, c4, c5, c6, c7, c8, c9, c10, c11, c12, c13, c14, c15, c16, c17⟩, ⟨d0, d1, d2, d3, d4, d5, d6, d7, d8⟩⟩ := FX.out w0 hT0
 clear B0 B1
 go_wp2_with fail
 have hgl := HW0.lt
 refine (CB.out w0 ((hb0.mono hbw).trans hB0) (by have := hb0.size; omega)).mono ?_
 rintro en wx ⟨hres, hbx⟩
 have hzx := hbx.size
 have hx : ∃ v2 nx, en = .returned v2 ∧ Bts wx w0.heap.size v2 nx ∧ nx ≤ 400000 ∧ decide (nx = 0) = !(decide (checkB r.batch = 0)) := by
  cases hok : (decide (checkB r.batch = 0))
  ·rw [hok] at hres
   exact ⟨_, 0, hres.out0, Bts.nil_ _ _, by omega, rfl⟩
  ·rw [hok] at hres
   obtain ⟨v2, nx, rfl, hv2, hnx, hnx_⟩ := hres.out1
   exact ⟨v2, nx, rfl, hv2, by omega, jd (by omega)⟩
 obtain ⟨v2, nx, rfl, hv2, hnx, hok⟩ := hx
 clear hres
 obtain ⟨A2, z2, rfl, _⟩ := hv2.form
 clear c0 c1 c2 c3 c4 c5 c6 c7 c8 c9 c10 c11 c12 c13 c14 c15 c16 c17 d0 d1 d2 d3 d4 d5 d6 d7 d8
 go_wp2_with fail
 have hsome := wsome_any g base n0 nx _ _ w0 wx HW0 hbx hv2 (by omega) hg (by omega)
 rw [hok] at hsome
 refine hsome.mono ?_
 rintro en w1 ⟨rfl, ⟨n1, hm1, hn1, HW1⟩, hb', ht'⟩
 have hb : Below base w0 w1 := (hbx.mono (by omega)).trans hb'
 have ht : Turn g w0 w1 := (Turn.of_below hbx).trans ht'
 clear hb' ht' hbx hsome hv2 hok
 have hT1 := hT0.trans ht
 have hB1 := hB0.trans hb
 have hz1 := hB1.size
 clear hb ht
 obtain ⟨⟨c0, c1, c2, c3, c4, c5, c6, c7, c8, c9, c10, c11, c12, c13, c14, c15, c16, c17⟩, ⟨d0, d1, d2, d3, d4, d5, d6, d7, d8⟩⟩ := FX.out w1 hT1
 go_wp2_with fail
 have hgl := HW1.lt
 refine (CS w1).mono ?_
 rintro en wx ⟨hres, hbx⟩
 have hzx := hbx.size
 have hx : ∃ v2 nx, en = .returned v2 ∧ Bts wx w1.heap.size v2 nx ∧ nx ≤ 30 ∧ decide (nx = 0) = !(soundB r.stamp) := by
  cases hok : (soundB r.stamp)
  ·rw [hok] at hres
   exact ⟨_, 0, hres.out0, Bts.nil_ _ _, by omega, rfl⟩
  ·rw [hok] at hres
   obtain ⟨v2, nx, rfl, hv2, hnx, hnx_⟩ := hres.out1
   exact ⟨v2, nx, rfl, hv2, by omega, jd (by omega)⟩
 obtain ⟨v2, nx, rfl, hv2, hnx, hok⟩ := hx
 clear hres
 obtain ⟨A2, z2, rfl, _⟩ := hv2.form
 clear c0 c1 c2 c3 c4 c5 c6 c7 c8 c9 c10 c11 c12 c13 c14 c15 c16 c17 d0 d1 d2 d3 d4 d5 d6 d7 d8
 go_wp2_with fail
 have hsome := wsome_any g base n1 nx _ _ w1 wx HW1 hbx hv2 (by omega) hg (by omega)
 rw [hok] at hsome
 refine hsome.mono ?_
 rintro en w2 ⟨rfl, ⟨n2, hm2, hn2, HW2⟩, hb', ht'⟩
 have hb : Below base w1 w2 := (hbx.mono (by omega)).trans hb'
 have ht : Turn g w1 w2 := (Turn.of_below hbx).trans ht'
 clear hb' ht' hbx hsome hv2 hok
 have hT2 := hT1.trans ht
 have hB2 := hB1.trans hb
 have hz2 := hB2.size
 clear hb ht
 obtain ⟨⟨c0, c1, c2, c3, c4, c5, c6, c7, c8, c9, c10, c11, c12, c13, c14, c15, c16, c17⟩, ⟨d0, d1, d2, d3, d4, d5, d6, d7, d8⟩⟩ := FX.out w2 hT2
 go_wp2_with fail
 (try simp only [Exit.inBlock, Exit.then]); refine bodyPost_end (results_none rfl _ _ _) rfl ?_
 refine ⟨rfl, ⟨n2, by omega, by omega, ?_⟩, (hb0.mono hbw).trans hB2, (Turn.of_below hb0).trans hT2⟩
 have := HW2
 unfold headBad
 simpa [Bool.or_assoc] using this
theorem head_c (r : Rec) (nA pA sA : Option Addr) (nc pc sc : Nat) (g base n0 : Nat) (bad : Bool) (P : Nat → Prop) (w : World) (hW : Wr w base g bad n0) (hr : RecAt w P r nA nc pA pc sA sc) (hP : ∀ k, P k → k < base) (hn : n0 ≤ 1000000) (hg : base ≤ g) (hbw : base ≤ w.heap.size) (hl : r.batch.puts.length ≤ 1000000) (hd : ∀ p ∈ r.batch.puts, p.data.length ≤ 1000000) (hTb : Tabs w) (h2 : 2 ≤ base) :
 Calls Tryz.prog 253 #[.pointer (some ⟨g, 0, none⟩), .agg (r.cells nA nc pA pc sA sc).toArray, .agg (Fields.cells {fTx := true, fBatch := true, fStamp := true}).toArray] w (WrOut g base n0 (n0 + 500000) (bad || headBad r {fTx := true, fBatch := true, fStamp := true}) w) := by
 obtain ⟨q1, q2, q3, q4, q5, q6, q7, q8, q9, q10⟩ := hr
 have CS := fun W => encode_any r.stamp W
 unfold Stamp.val at CS
 have CB := jh (fun W (h : Below base w W) (hz : w.heap.size ≤ W.heap.size) => encodeB_any r.batch pA pc P W (q8.2.2.same (Same.of_belowB h hP) hz) hl q7 hd (hTb.only (Only.of_belowB h (fun g hg => hg)) (by omega) (by omega)) (by omega))
 have HBad : Hid (headBad r {fTx := true, fBatch := true, fStamp := true} = headBad r {fTx := true, fBatch := true, fStamp := true}) := jh rfl
 have hgl0 := hW.lt
 have B0 := (Blk.new w 46 (r.cells nA nc pA pc sA sc)).alloc (.cells (Fields.cells {fTx := true, fBatch := true, fStamp := true}).toArray 320)
 have B1 := Blk.new1 w (.cells (r.cells nA nc pA pc sA sc).toArray 46) 320 (Fields.cells {fTx := true, fBatch := true, fStamp := true})
 have HW' := jh hW
 have Q := jh (ja q2 (ja q3 (ja q5 q9)))
 unfold Rec.cells Fields.cells at B0 B1 ⊢
 clear q1 q2 q3 q4 q5 q6 q7 q8 q9 q10 hd hW
 go_enter Tryz.func253, Tryz.ntmps253
 go_upto_region 1 with fail
 refine forget (M := fun W => Code.wp _ _ _ _ W) (fun W => Below w.heap.size w W ∧ Blk W w.heap.size 46 [.int .i64 r.kind, .int .i64 r.n, .int .i64 r.to, .bool r.yes, .int .i64 r.stamp.wall, .int .i64 r.stamp.logic, .int .i64 r.stamp.node, .int .i64 r.tx.node, .int .i64 r.tx.life, .int .i64 r.tx.num, .slice nA r.nodes.length nc, .string r.batch.key, .slice pA r.batch.puts.length pc, .int .i64 r.range.first, .int .i64 r.range.last, .int .i64 r.range.owner, .int .i64 r.range.epoch, .slice sA r.streams.length sc] ∧ Blk W (w.heap.size + 1) 320 [.bool false, .bool false, .bool false, .bool true, .bool true, .bool false, .bool true, .bool false, .bool false] ∧ w.heap.size + 2 = W.heap.size) ⟨((jb _ _).al _).al _, B0, B1, by simp⟩ ?_
 clear B0 B1
 rintro w0 ⟨hb0, B0, B1, hs0⟩
 have HW0 := HW'.out.turn hb0
 have hT0 : Turn g w0 w0 := Turn.refl
 have hB0 : Below base w0 w0 := jb _ _
 have hz0 := hB0.size
 have FX := jh (fun (W : World) (h : Turn g w0 W) => ja (recCells (h.blk B0 (by decide) (by omega))) (nineB false false false true true false true false false (h.blk B1 (by decide) (by omega))))
 obtain ⟨⟨c0, c1, c2, c3, c4, c5, c6, c7, c8, c9, c10, c11, c12, c13, c14, c15, c16, c17⟩, ⟨d0, d1, d2, d3, d4, d5, d6, d7, d8⟩⟩ := FX.out w0 hT0
 clear B0 B1
 go_wp2_with fail
 have hgl := HW0.lt
 have hsz : (w0.alloc (.cells #[.int .i64 r.tx.node, .int .i64 r.tx.life, .int .i64 r.tx.num] 3)).heap.size = w0.heap.size + 1 := by simp
 refine (wnumsL_any g base n0 w0.heap.size _ [r.tx.node, r.tx.life, r.tx.num] _ (HW0.turn ((jb _ _).al _)) (Blk.new w0 3 _) (by simpa [Tx.fit, Range.fit] using Q.out.2.2.1) (by simp) (by omega) hg (by omega)).mono ?_
 rintro en w1 ⟨rfl, ⟨n1, hm1, hn1, HW1⟩, hb', ht'⟩
 have hb : Below base w0 w1 := ((jb base w0).alloc (by omega) _).trans hb'
 have ht : Turn g w0 w1 := (Turn.of_below ((jb _ _).al _)).trans ht'
 simp only [List.length_cons, List.length_nil] at hn1
 clear hb' ht' hsz
 have hT1 := hT0.trans ht
 have hB1 := hB0.trans hb
 have hz1 := hB1.size
 clear hb ht
 clear c0 c1 c2 c3 c4 c5 c6 c7 c8 c9 c10 c11 c12 c13 c14 c15 c16 c17 d0 d1 d2 d3 d4 d5 d6 d7 d8
 obtain ⟨⟨c0, c1, c2, c3, c4, c5, c6, c7, c8, c9, c10, c11, c12, c13, c14, c15, c16, c17⟩, ⟨d0, d1, d2, d3, d4, d5, d6, d7, d8⟩⟩ := FX.out w1 hT1
 go_wp2_with fail
 have hgl := HW1.lt
 refine (CB.out w1 ((hb0.mono hbw).trans hB1) (by have := hb0.size; omega)).mono ?_
 rintro en wx ⟨hres, hbx⟩
 have hzx := hbx.size
 have hx : ∃ v2 nx, en = .returned v2 ∧ Bts wx w1.heap.size v2 nx ∧ nx ≤ 400000 ∧ decide (nx = 0) = !(decide (checkB r.batch = 0)) := by
  cases hok : (decide (checkB r.batch = 0))
  ·rw [hok] at hres
   exact ⟨_, 0, hres.out0, Bts.nil_ _ _, by omega, rfl⟩
  ·rw [hok] at hres
   obtain ⟨v2, nx, rfl, hv2, hnx, hnx_⟩ := hres.out1
   exact ⟨v2, nx, rfl, hv2, by omega, jd (by omega)⟩
 obtain ⟨v2, nx, rfl, hv2, hnx, hok⟩ := hx
 clear hres
 obtain ⟨A2, z2, rfl, _⟩ := hv2.form
 clear c0 c1 c2 c3 c4 c5 c6 c7 c8 c9 c10 c11 c12 c13 c14 c15 c16 c17 d0 d1 d2 d3 d4 d5 d6 d7 d8
 go_wp2_with fail
 have hsome := wsome_any g base n1 nx _ _ w1 wx HW1 hbx hv2 (by omega) hg (by omega)
 rw [hok] at hsome
 refine hsome.mono ?_
 rintro en w2 ⟨rfl, ⟨n2, hm2, hn2, HW2⟩, hb', ht'⟩
 have hb : Below base w1 w2 := (hbx.mono (by omega)).trans hb'
 have ht : Turn g w1 w2 := (Turn.of_below hbx).trans ht'
 clear hb' ht' hbx hsome hv2 hok
 have hT2 := hT1.trans ht
 have hB2 := hB1.trans hb
 have hz2 := hB2.size
 clear hb ht
 obtain ⟨⟨c0, c1, c2, c3, c4, c5, c6, c7, c8, c9, c10, c11, c12, c13, c14, c15, c16, c17⟩, ⟨d0, d1, d2, d3, d4, d5, d6, d7, d8⟩⟩ := FX.out w2 hT2
 go_wp2_with fail
 have hgl := HW2.lt
 refine (CS w2).mono ?_
 rintro en wx ⟨hres, hbx⟩
 have hzx := hbx.size
 have hx : ∃ v2 nx, en = .returned v2 ∧ Bts wx w2.heap.size v2 nx ∧ nx ≤ 30 ∧ decide (nx = 0) = !(soundB r.stamp) := by
  cases hok : (soundB r.stamp)
  ·rw [hok] at hres
   exact ⟨_, 0, hres.out0, Bts.nil_ _ _, by omega, rfl⟩
  ·rw [hok] at hres
   obtain ⟨v2, nx, rfl, hv2, hnx, hnx_⟩ := hres.out1
   exact ⟨v2, nx, rfl, hv2, by omega, jd (by omega)⟩
 obtain ⟨v2, nx, rfl, hv2, hnx, hok⟩ := hx
 clear hres
 obtain ⟨A2, z2, rfl, _⟩ := hv2.form
 clear c0 c1 c2 c3 c4 c5 c6 c7 c8 c9 c10 c11 c12 c13 c14 c15 c16 c17 d0 d1 d2 d3 d4 d5 d6 d7 d8
 go_wp2_with fail
 have hsome := wsome_any g base n2 nx _ _ w2 wx HW2 hbx hv2 (by omega) hg (by omega)
 rw [hok] at hsome
 refine hsome.mono ?_
 rintro en w3 ⟨rfl, ⟨n3, hm3, hn3, HW3⟩, hb', ht'⟩
 have hb : Below base w2 w3 := (hbx.mono (by omega)).trans hb'
 have ht : Turn g w2 w3 := (Turn.of_below hbx).trans ht'
 clear hb' ht' hbx hsome hv2 hok
 have hT3 := hT2.trans ht
 have hB3 := hB2.trans hb
 have hz3 := hB3.size
 clear hb ht
 obtain ⟨⟨c0, c1, c2, c3, c4, c5, c6, c7, c8, c9, c10, c11, c12, c13, c14, c15, c16, c17⟩, ⟨d0, d1, d2, d3, d4, d5, d6, d7, d8⟩⟩ := FX.out w3 hT3
 go_wp2_with fail
 (try simp only [Exit.inBlock, Exit.then]); refine bodyPost_end (results_none rfl _ _ _) rfl ?_
 refine ⟨rfl, ⟨n3, by omega, by omega, ?_⟩, (hb0.mono hbw).trans hB3, (Turn.of_below hb0).trans hT3⟩
 have := HW3
 unfold headBad
 simpa [Bool.or_assoc] using this
theorem head_d (r : Rec) (nA pA sA : Option Addr) (nc pc sc : Nat) (g base n0 : Nat) (bad : Bool) (P : Nat → Prop) (w : World) (hW : Wr w base g bad n0) (hr : RecAt w P r nA nc pA pc sA sc) (hP : ∀ k, P k → k < base) (hn : n0 ≤ 1000000) (hg : base ≤ g) (hbw : base ≤ w.heap.size) (hl : r.batch.puts.length ≤ 1000000) (hd : ∀ p ∈ r.batch.puts, p.data.length ≤ 1000000) (hTb : Tabs w) (h2 : 2 ≤ base) :
 Calls Tryz.prog 253 #[.pointer (some ⟨g, 0, none⟩), .agg (r.cells nA nc pA pc sA sc).toArray, .agg (Fields.cells {fTx := true, fYes := true, fStamp := true}).toArray] w (WrOut g base n0 (n0 + 500000) (bad || headBad r {fTx := true, fYes := true, fStamp := true}) w) := by
 obtain ⟨q1, q2, q3, q4, q5, q6, q7, q8, q9, q10⟩ := hr
 have CS := fun W => encode_any r.stamp W
 unfold Stamp.val at CS
 have CB := jh (fun W (h : Below base w W) (hz : w.heap.size ≤ W.heap.size) => encodeB_any r.batch pA pc P W (q8.2.2.same (Same.of_belowB h hP) hz) hl q7 hd (hTb.only (Only.of_belowB h (fun g hg => hg)) (by omega) (by omega)) (by omega))
 have HBad : Hid (headBad r {fTx := true, fYes := true, fStamp := true} = headBad r {fTx := true, fYes := true, fStamp := true}) := jh rfl
 have hgl0 := hW.lt
 have B0 := (Blk.new w 46 (r.cells nA nc pA pc sA sc)).alloc (.cells (Fields.cells {fTx := true, fYes := true, fStamp := true}).toArray 320)
 have B1 := Blk.new1 w (.cells (r.cells nA nc pA pc sA sc).toArray 46) 320 (Fields.cells {fTx := true, fYes := true, fStamp := true})
 have HW' := jh hW
 have Q := jh (ja q2 (ja q3 (ja q5 q9)))
 unfold Rec.cells Fields.cells at B0 B1 ⊢
 clear q1 q2 q3 q4 q5 q6 q7 q8 q9 q10 hd hW
 go_enter Tryz.func253, Tryz.ntmps253
 go_upto_region 1 with fail
 refine forget (M := fun W => Code.wp _ _ _ _ W) (fun W => Below w.heap.size w W ∧ Blk W w.heap.size 46 [.int .i64 r.kind, .int .i64 r.n, .int .i64 r.to, .bool r.yes, .int .i64 r.stamp.wall, .int .i64 r.stamp.logic, .int .i64 r.stamp.node, .int .i64 r.tx.node, .int .i64 r.tx.life, .int .i64 r.tx.num, .slice nA r.nodes.length nc, .string r.batch.key, .slice pA r.batch.puts.length pc, .int .i64 r.range.first, .int .i64 r.range.last, .int .i64 r.range.owner, .int .i64 r.range.epoch, .slice sA r.streams.length sc] ∧ Blk W (w.heap.size + 1) 320 [.bool false, .bool false, .bool true, .bool true, .bool true, .bool false, .bool false, .bool false, .bool false] ∧ w.heap.size + 2 = W.heap.size) ⟨((jb _ _).al _).al _, B0, B1, by simp⟩ ?_
 clear B0 B1
 rintro w0 ⟨hb0, B0, B1, hs0⟩
 have HW0 := HW'.out.turn hb0
 have hT0 : Turn g w0 w0 := Turn.refl
 have hB0 : Below base w0 w0 := jb _ _
 have hz0 := hB0.size
 have FX := jh (fun (W : World) (h : Turn g w0 W) => ja (recCells (h.blk B0 (by decide) (by omega))) (nineB false false true true true false false false false (h.blk B1 (by decide) (by omega))))
 obtain ⟨⟨c0, c1, c2, c3, c4, c5, c6, c7, c8, c9, c10, c11, c12, c13, c14, c15, c16, c17⟩, ⟨d0, d1, d2, d3, d4, d5, d6, d7, d8⟩⟩ := FX.out w0 hT0
 clear B0 B1
 go_wp2_with fail
 have hgl := HW0.lt
 have hsz : (w0.alloc (.cells #[.int .i64 r.tx.node, .int .i64 r.tx.life, .int .i64 r.tx.num] 3)).heap.size = w0.heap.size + 1 := by simp
 refine (wnumsL_any g base n0 w0.heap.size _ [r.tx.node, r.tx.life, r.tx.num] _ (HW0.turn ((jb _ _).al _)) (Blk.new w0 3 _) (by simpa [Tx.fit, Range.fit] using Q.out.2.2.1) (by simp) (by omega) hg (by omega)).mono ?_
 rintro en w1 ⟨rfl, ⟨n1, hm1, hn1, HW1⟩, hb', ht'⟩
 have hb : Below base w0 w1 := ((jb base w0).alloc (by omega) _).trans hb'
 have ht : Turn g w0 w1 := (Turn.of_below ((jb _ _).al _)).trans ht'
 simp only [List.length_cons, List.length_nil] at hn1
 clear hb' ht' hsz
 have hT1 := hT0.trans ht
 have hB1 := hB0.trans hb
 have hz1 := hB1.size
 clear hb ht
 clear c0 c1 c2 c3 c4 c5 c6 c7 c8 c9 c10 c11 c12 c13 c14 c15 c16 c17 d0 d1 d2 d3 d4 d5 d6 d7 d8
 obtain ⟨⟨c0, c1, c2, c3, c4, c5, c6, c7, c8, c9, c10, c11, c12, c13, c14, c15, c16, c17⟩, ⟨d0, d1, d2, d3, d4, d5, d6, d7, d8⟩⟩ := FX.out w1 hT1
 obtain ⟨v, hB, hv⟩ := HW1
 have hv0 := hv.lt
 have hgl := hB.lt
 have y0 : w1.cell? ⟨g, 0, none⟩ = some v := hB.cell 0
 have hy : r.yes = false ∨ r.yes = true := by cases r.yes <;> simp
 rcases hy with hy | hy
 all_goals
  rw [hy] at c3
  have hsz : ∀ x : Int, (w1.alloc (.cells #[.int .u8 x] 5)).heap.size = w1.heap.size + 1 := fun x => by simp
  go_wp2_with (at_builtin; go_loud (refine wpList_append_bts rfl (.tmp 36) (.tmp 38) rfl base w1.heap.size v n1 rfl (hv.ext ((jb _ _).al _)) _ 1 rfl (bts_new1 w1 _) (by omega) (fun k hk h => by have := (hv0 k h.symm).2; omega) (by omega) (by rw [hsz]; omega) ?_); intro v3 w3 hv3 hb3 hg3 hat3
   <;> (obtain ⟨A3, z3, rfl, _⟩ := hv3.form
        have hS := (hB.alloc (.cells #[.int .u8 _] 5)).grown hg3 (fun h => Wr.own_ne hB hv (by decide) h.symm)
        have y3 : w3.cell? ⟨g, 0, none⟩ = some v := hS.cell 0
        have f3 : w3.frozen? ⟨g, 0, none⟩ = false := hS.frozen 0
        have hb : Below base w1 (w3.setCell ⟨g, 0, none⟩ (.slice A3 (n1 + 1) z3)) := (((jb base w1).alloc (by omega) _).trans hb3).setCell (p := ⟨g, 0, none⟩) hg _
        have ht : Turn g w1 (w3.setCell ⟨g, 0, none⟩ (.slice A3 (n1 + 1) z3)) := ((Turn.of_below ((jb _ _).al _)).trans (Turn.grown (hv.ext ((jb _ _).al _)) hg3)).trans (Turn.set_ 0 _)
        have HW2 : Wr (w3.setCell ⟨g, 0, none⟩ (.slice A3 (n1 + 1) z3)) base g _ (n1 + 1) := ⟨_, hS.set_ 0 _, hv3.setCell (o := 0) (Wr.own_ne hS hv3 (by decide)) _⟩
        have hT2 := hT1.trans ht
        have hB2 := hB1.trans hb
        have hz2 := hB2.size
        clear c0 c1 c2 c4 c5 c6 c7 c8 c9 c10 c11 c12 c13 c14 c15 c16 c17 d0 d1 d2 d3 d4 d5 d6 d7 d8
        obtain ⟨⟨c0, c1, c2, c3, c4, c5, c6, c7, c8, c9, c10, c11, c12, c13, c14, c15, c16, c17⟩, ⟨d0, d1, d2, d3, d4, d5, d6, d7, d8⟩⟩ := FX.out _ hT2))
  generalize hww : (w3.setCell ⟨g, 0, none⟩ (.slice A3 (n1 + 1) z3)) = w2 at *
  obtain ⟨n2, hn2⟩ : ∃ n', n' = n1 + 1 := ⟨_, rfl⟩
  rw [← hn2] at HW2
  go_wp2_with fail
  have hgl := HW2.lt
  refine (CS w2).mono ?_
  rintro en wx ⟨hres, hbx⟩
  have hzx := hbx.size
  have hx : ∃ v2 nx, en = .returned v2 ∧ Bts wx w2.heap.size v2 nx ∧ nx ≤ 30 ∧ decide (nx = 0) = !(soundB r.stamp) := by
   cases hok : (soundB r.stamp)
   ·rw [hok] at hres
    exact ⟨_, 0, hres.out0, Bts.nil_ _ _, by omega, rfl⟩
   ·rw [hok] at hres
    obtain ⟨v2, nx, rfl, hv2, hnx, hnx_⟩ := hres.out1
    exact ⟨v2, nx, rfl, hv2, by omega, jd (by omega)⟩
  obtain ⟨v2, nx, rfl, hv2, hnx, hok⟩ := hx
  clear hres
  obtain ⟨A2, z2, rfl, _⟩ := hv2.form
  clear c0 c1 c2 c3 c4 c5 c6 c7 c8 c9 c10 c11 c12 c13 c14 c15 c16 c17 d0 d1 d2 d3 d4 d5 d6 d7 d8
  go_wp2_with fail
  have hsome := wsome_any g base n2 nx _ _ w2 wx HW2 hbx hv2 (by omega) hg (by omega)
  rw [hok] at hsome
  refine hsome.mono ?_
  rintro en w3 ⟨rfl, ⟨n3, hm3, hn3, HW3⟩, hb', ht'⟩
  have hb : Below base w2 w3 := (hbx.mono (by omega)).trans hb'
  have ht : Turn g w2 w3 := (Turn.of_below hbx).trans ht'
  clear hb' ht' hbx hsome hv2 hok
  have hT3 := hT2.trans ht
  have hB3 := hB2.trans hb
  have hz3 := hB3.size
  clear hb ht
  obtain ⟨⟨c0, c1, c2, c3, c4, c5, c6, c7, c8, c9, c10, c11, c12, c13, c14, c15, c16, c17⟩, ⟨d0, d1, d2, d3, d4, d5, d6, d7, d8⟩⟩ := FX.out w3 hT3
  go_wp2_with fail
  (try simp only [Exit.inBlock, Exit.then]); refine bodyPost_end (results_none rfl _ _ _) rfl ?_
  refine ⟨rfl, ⟨n3, by omega, by omega, ?_⟩, (hb0.mono hbw).trans hB3, (Turn.of_below hb0).trans hT3⟩
  have := HW3
  unfold headBad
  simpa [Bool.or_assoc] using this
theorem head_e (r : Rec) (nA pA sA : Option Addr) (nc pc sc : Nat) (g base n0 : Nat) (bad : Bool) (P : Nat → Prop) (w : World) (hW : Wr w base g bad n0) (hr : RecAt w P r nA nc pA pc sA sc) (hP : ∀ k, P k → k < base) (hn : n0 ≤ 1000000) (hg : base ≤ g) (hbw : base ≤ w.heap.size) (hl : r.batch.puts.length ≤ 1000000) (hd : ∀ p ∈ r.batch.puts, p.data.length ≤ 1000000) (hTb : Tabs w) (h2 : 2 ≤ base) :
 Calls Tryz.prog 253 #[.pointer (some ⟨g, 0, none⟩), .agg (r.cells nA nc pA pc sA sc).toArray, .agg (Fields.cells {fTx := true, fYes := true, fStamp := true, fNodes := true}).toArray] w (WrOut g base n0 (n0 + 500000) (bad || headBad r {fTx := true, fYes := true, fStamp := true, fNodes := true}) w) := by
 obtain ⟨q1, q2, q3, q4, q5, q6, q7, q8, q9, q10⟩ := hr
 have CS := fun W => encode_any r.stamp W
 unfold Stamp.val at CS
 have CB := jh (fun W (h : Below base w W) (hz : w.heap.size ≤ W.heap.size) => encodeB_any r.batch pA pc P W (q8.2.2.same (Same.of_belowB h hP) hz) hl q7 hd (hTb.only (Only.of_belowB h (fun g hg => hg)) (by omega) (by omega)) (by omega))
 have HBad : Hid (headBad r {fTx := true, fYes := true, fStamp := true, fNodes := true} = headBad r {fTx := true, fYes := true, fStamp := true, fNodes := true}) := jh rfl
 have hgl0 := hW.lt
 have B0 := (Blk.new w 46 (r.cells nA nc pA pc sA sc)).alloc (.cells (Fields.cells {fTx := true, fYes := true, fStamp := true, fNodes := true}).toArray 320)
 have B1 := Blk.new1 w (.cells (r.cells nA nc pA pc sA sc).toArray 46) 320 (Fields.cells {fTx := true, fYes := true, fStamp := true, fNodes := true})
 have HW' := jh hW
 have Q := jh (ja q2 (ja q3 (ja q5 q9)))
 unfold Rec.cells Fields.cells at B0 B1 ⊢
 clear q1 q2 q3 q4 q5 q6 q7 q8 q9 q10 hd hW
 go_enter Tryz.func253, Tryz.ntmps253
 go_upto_region 1 with fail
 refine forget (M := fun W => Code.wp _ _ _ _ W) (fun W => Below w.heap.size w W ∧ Blk W w.heap.size 46 [.int .i64 r.kind, .int .i64 r.n, .int .i64 r.to, .bool r.yes, .int .i64 r.stamp.wall, .int .i64 r.stamp.logic, .int .i64 r.stamp.node, .int .i64 r.tx.node, .int .i64 r.tx.life, .int .i64 r.tx.num, .slice nA r.nodes.length nc, .string r.batch.key, .slice pA r.batch.puts.length pc, .int .i64 r.range.first, .int .i64 r.range.last, .int .i64 r.range.owner, .int .i64 r.range.epoch, .slice sA r.streams.length sc] ∧ Blk W (w.heap.size + 1) 320 [.bool false, .bool false, .bool true, .bool true, .bool true, .bool true, .bool false, .bool false, .bool false] ∧ w.heap.size + 2 = W.heap.size) ⟨((jb _ _).al _).al _, B0, B1, by simp⟩ ?_
 clear B0 B1
 rintro w0 ⟨hb0, B0, B1, hs0⟩
 have HW0 := HW'.out.turn hb0
 have hT0 : Turn g w0 w0 := Turn.refl
 have hB0 : Below base w0 w0 := jb _ _
 have hz0 := hB0.size
 have FX := jh (fun (W : World) (h : Turn g w0 W) => ja (recCells (h.blk B0 (by decide) (by omega))) (nineB false false true true true true false false false (h.blk B1 (by decide) (by omega))))
 obtain ⟨⟨c0, c1, c2, c3, c4, c5, c6, c7, c8, c9, c10, c11, c12, c13, c14, c15, c16, c17⟩, ⟨d0, d1, d2, d3, d4, d5, d6, d7, d8⟩⟩ := FX.out w0 hT0
 clear B0 B1
 go_wp2_with fail
 have hgl := HW0.lt
 have hsz : (w0.alloc (.cells #[.int .i64 r.tx.node, .int .i64 r.tx.life, .int .i64 r.tx.num] 3)).heap.size = w0.heap.size + 1 := by simp
 refine (wnumsL_any g base n0 w0.heap.size _ [r.tx.node, r.tx.life, r.tx.num] _ (HW0.turn ((jb _ _).al _)) (Blk.new w0 3 _) (by simpa [Tx.fit, Range.fit] using Q.out.2.2.1) (by simp) (by omega) hg (by omega)).mono ?_
 rintro en w1 ⟨rfl, ⟨n1, hm1, hn1, HW1⟩, hb', ht'⟩
 have hb : Below base w0 w1 := ((jb base w0).alloc (by omega) _).trans hb'
 have ht : Turn g w0 w1 := (Turn.of_below ((jb _ _).al _)).trans ht'
 simp only [List.length_cons, List.length_nil] at hn1
 clear hb' ht' hsz
 have hT1 := hT0.trans ht
 have hB1 := hB0.trans hb
 have hz1 := hB1.size
 clear hb ht
 clear c0 c1 c2 c3 c4 c5 c6 c7 c8 c9 c10 c11 c12 c13 c14 c15 c16 c17 d0 d1 d2 d3 d4 d5 d6 d7 d8
 obtain ⟨⟨c0, c1, c2, c3, c4, c5, c6, c7, c8, c9, c10, c11, c12, c13, c14, c15, c16, c17⟩, ⟨d0, d1, d2, d3, d4, d5, d6, d7, d8⟩⟩ := FX.out w1 hT1
 obtain ⟨v, hB, hv⟩ := HW1
 have hv0 := hv.lt
 have hgl := hB.lt
 have y0 : w1.cell? ⟨g, 0, none⟩ = some v := hB.cell 0
 have hy : r.yes = false ∨ r.yes = true := by cases r.yes <;> simp
 rcases hy with hy | hy
 all_goals
  rw [hy] at c3
  have hsz : ∀ x : Int, (w1.alloc (.cells #[.int .u8 x] 5)).heap.size = w1.heap.size + 1 := fun x => by simp
  go_wp2_with (at_builtin; go_loud (refine wpList_append_bts rfl (.tmp 36) (.tmp 38) rfl base w1.heap.size v n1 rfl (hv.ext ((jb _ _).al _)) _ 1 rfl (bts_new1 w1 _) (by omega) (fun k hk h => by have := (hv0 k h.symm).2; omega) (by omega) (by rw [hsz]; omega) ?_); intro v3 w3 hv3 hb3 hg3 hat3
   <;> (obtain ⟨A3, z3, rfl, _⟩ := hv3.form
        have hS := (hB.alloc (.cells #[.int .u8 _] 5)).grown hg3 (fun h => Wr.own_ne hB hv (by decide) h.symm)
        have y3 : w3.cell? ⟨g, 0, none⟩ = some v := hS.cell 0
        have f3 : w3.frozen? ⟨g, 0, none⟩ = false := hS.frozen 0
        have hb : Below base w1 (w3.setCell ⟨g, 0, none⟩ (.slice A3 (n1 + 1) z3)) := (((jb base w1).alloc (by omega) _).trans hb3).setCell (p := ⟨g, 0, none⟩) hg _
        have ht : Turn g w1 (w3.setCell ⟨g, 0, none⟩ (.slice A3 (n1 + 1) z3)) := ((Turn.of_below ((jb _ _).al _)).trans (Turn.grown (hv.ext ((jb _ _).al _)) hg3)).trans (Turn.set_ 0 _)
        have HW2 : Wr (w3.setCell ⟨g, 0, none⟩ (.slice A3 (n1 + 1) z3)) base g _ (n1 + 1) := ⟨_, hS.set_ 0 _, hv3.setCell (o := 0) (Wr.own_ne hS hv3 (by decide)) _⟩
        have hT2 := hT1.trans ht
        have hB2 := hB1.trans hb
        have hz2 := hB2.size
        clear c0 c1 c2 c4 c5 c6 c7 c8 c9 c10 c11 c12 c13 c14 c15 c16 c17 d0 d1 d2 d3 d4 d5 d6 d7 d8
        obtain ⟨⟨c0, c1, c2, c3, c4, c5, c6, c7, c8, c9, c10, c11, c12, c13, c14, c15, c16, c17⟩, ⟨d0, d1, d2, d3, d4, d5, d6, d7, d8⟩⟩ := FX.out _ hT2))
  generalize hww : (w3.setCell ⟨g, 0, none⟩ (.slice A3 (n1 + 1) z3)) = w2 at *
  obtain ⟨n2, hn2⟩ : ∃ n', n' = n1 + 1 := ⟨_, rfl⟩
  rw [← hn2] at HW2
  go_wp2_with fail
  have hgl := HW2.lt
  refine (CS w2).mono ?_
  rintro en wx ⟨hres, hbx⟩
  have hzx := hbx.size
  have hx : ∃ v2 nx, en = .returned v2 ∧ Bts wx w2.heap.size v2 nx ∧ nx ≤ 30 ∧ decide (nx = 0) = !(soundB r.stamp) := by
   cases hok : (soundB r.stamp)
   ·rw [hok] at hres
    exact ⟨_, 0, hres.out0, Bts.nil_ _ _, by omega, rfl⟩
   ·rw [hok] at hres
    obtain ⟨v2, nx, rfl, hv2, hnx, hnx_⟩ := hres.out1
    exact ⟨v2, nx, rfl, hv2, by omega, jd (by omega)⟩
  obtain ⟨v2, nx, rfl, hv2, hnx, hok⟩ := hx
  clear hres
  obtain ⟨A2, z2, rfl, _⟩ := hv2.form
  clear c0 c1 c2 c3 c4 c5 c6 c7 c8 c9 c10 c11 c12 c13 c14 c15 c16 c17 d0 d1 d2 d3 d4 d5 d6 d7 d8
  go_wp2_with fail
  have hsome := wsome_any g base n2 nx _ _ w2 wx HW2 hbx hv2 (by omega) hg (by omega)
  rw [hok] at hsome
  refine hsome.mono ?_
  rintro en w3 ⟨rfl, ⟨n3, hm3, hn3, HW3⟩, hb', ht'⟩
  have hb : Below base w2 w3 := (hbx.mono (by omega)).trans hb'
  have ht : Turn g w2 w3 := (Turn.of_below hbx).trans ht'
  clear hb' ht' hbx hsome hv2 hok
  have hT3 := hT2.trans ht
  have hB3 := hB2.trans hb
  have hz3 := hB3.size
  clear hb ht
  obtain ⟨⟨c0, c1, c2, c3, c4, c5, c6, c7, c8, c9, c10, c11, c12, c13, c14, c15, c16, c17⟩, ⟨d0, d1, d2, d3, d4, d5, d6, d7, d8⟩⟩ := FX.out w3 hT3
  go_wp2_with fail
  (try simp only [Exit.inBlock, Exit.then]); refine bodyPost_end (results_none rfl _ _ _) rfl ?_
  refine ⟨rfl, ⟨n3, by omega, by omega, ?_⟩, (hb0.mono hbw).trans hB3, (Turn.of_below hb0).trans hT3⟩
  have := HW3
  unfold headBad
  simpa [Bool.or_assoc] using this
theorem head_f (r : Rec) (nA pA sA : Option Addr) (nc pc sc : Nat) (g base n0 : Nat) (bad : Bool) (P : Nat → Prop) (w : World) (hW : Wr w base g bad n0) (hr : RecAt w P r nA nc pA pc sA sc) (hP : ∀ k, P k → k < base) (hn : n0 ≤ 1000000) (hg : base ≤ g) (hbw : base ≤ w.heap.size) (hl : r.batch.puts.length ≤ 1000000) (hd : ∀ p ∈ r.batch.puts, p.data.length ≤ 1000000) (hTb : Tabs w) (h2 : 2 ≤ base) :
 Calls Tryz.prog 253 #[.pointer (some ⟨g, 0, none⟩), .agg (r.cells nA nc pA pc sA sc).toArray, .agg (Fields.cells {fTx := true}).toArray] w (WrOut g base n0 (n0 + 500000) (bad || headBad r {fTx := true}) w) := by
 obtain ⟨q1, q2, q3, q4, q5, q6, q7, q8, q9, q10⟩ := hr
 have CS := fun W => encode_any r.stamp W
 unfold Stamp.val at CS
 have CB := jh (fun W (h : Below base w W) (hz : w.heap.size ≤ W.heap.size) => encodeB_any r.batch pA pc P W (q8.2.2.same (Same.of_belowB h hP) hz) hl q7 hd (hTb.only (Only.of_belowB h (fun g hg => hg)) (by omega) (by omega)) (by omega))
 have HBad : Hid (headBad r {fTx := true} = headBad r {fTx := true}) := jh rfl
 have hgl0 := hW.lt
 have B0 := (Blk.new w 46 (r.cells nA nc pA pc sA sc)).alloc (.cells (Fields.cells {fTx := true}).toArray 320)
 have B1 := Blk.new1 w (.cells (r.cells nA nc pA pc sA sc).toArray 46) 320 (Fields.cells {fTx := true})
 have HW' := jh hW
 have Q := jh (ja q2 (ja q3 (ja q5 q9)))
 unfold Rec.cells Fields.cells at B0 B1 ⊢
 clear q1 q2 q3 q4 q5 q6 q7 q8 q9 q10 hd hW
 go_enter Tryz.func253, Tryz.ntmps253
 go_upto_region 1 with fail
 refine forget (M := fun W => Code.wp _ _ _ _ W) (fun W => Below w.heap.size w W ∧ Blk W w.heap.size 46 [.int .i64 r.kind, .int .i64 r.n, .int .i64 r.to, .bool r.yes, .int .i64 r.stamp.wall, .int .i64 r.stamp.logic, .int .i64 r.stamp.node, .int .i64 r.tx.node, .int .i64 r.tx.life, .int .i64 r.tx.num, .slice nA r.nodes.length nc, .string r.batch.key, .slice pA r.batch.puts.length pc, .int .i64 r.range.first, .int .i64 r.range.last, .int .i64 r.range.owner, .int .i64 r.range.epoch, .slice sA r.streams.length sc] ∧ Blk W (w.heap.size + 1) 320 [.bool false, .bool false, .bool false, .bool false, .bool true, .bool false, .bool false, .bool false, .bool false] ∧ w.heap.size + 2 = W.heap.size) ⟨((jb _ _).al _).al _, B0, B1, by simp⟩ ?_
 clear B0 B1
 rintro w0 ⟨hb0, B0, B1, hs0⟩
 have HW0 := HW'.out.turn hb0
 have hT0 : Turn g w0 w0 := Turn.refl
 have hB0 : Below base w0 w0 := jb _ _
 have hz0 := hB0.size
 have FX := jh (fun (W : World) (h : Turn g w0 W) => ja (recCells (h.blk B0 (by decide) (by omega))) (nineB false false false false true false false false false (h.blk B1 (by decide) (by omega))))
 obtain ⟨⟨c0, c1, c2, c3, c4, c5, c6, c7, c8, c9, c10, c11, c12, c13, c14, c15, c16, c17⟩, ⟨d0, d1, d2, d3, d4, d5, d6, d7, d8⟩⟩ := FX.out w0 hT0
 clear B0 B1
 go_wp2_with fail
 have hgl := HW0.lt
 have hsz : (w0.alloc (.cells #[.int .i64 r.tx.node, .int .i64 r.tx.life, .int .i64 r.tx.num] 3)).heap.size = w0.heap.size + 1 := by simp
 refine (wnumsL_any g base n0 w0.heap.size _ [r.tx.node, r.tx.life, r.tx.num] _ (HW0.turn ((jb _ _).al _)) (Blk.new w0 3 _) (by simpa [Tx.fit, Range.fit] using Q.out.2.2.1) (by simp) (by omega) hg (by omega)).mono ?_
 rintro en w1 ⟨rfl, ⟨n1, hm1, hn1, HW1⟩, hb', ht'⟩
 have hb : Below base w0 w1 := ((jb base w0).alloc (by omega) _).trans hb'
 have ht : Turn g w0 w1 := (Turn.of_below ((jb _ _).al _)).trans ht'
 simp only [List.length_cons, List.length_nil] at hn1
 clear hb' ht' hsz
 have hT1 := hT0.trans ht
 have hB1 := hB0.trans hb
 have hz1 := hB1.size
 clear hb ht
 clear c0 c1 c2 c3 c4 c5 c6 c7 c8 c9 c10 c11 c12 c13 c14 c15 c16 c17 d0 d1 d2 d3 d4 d5 d6 d7 d8
 obtain ⟨⟨c0, c1, c2, c3, c4, c5, c6, c7, c8, c9, c10, c11, c12, c13, c14, c15, c16, c17⟩, ⟨d0, d1, d2, d3, d4, d5, d6, d7, d8⟩⟩ := FX.out w1 hT1
 go_wp2_with fail
 (try simp only [Exit.inBlock, Exit.then]); refine bodyPost_end (results_none rfl _ _ _) rfl ?_
 refine ⟨rfl, ⟨n1, by omega, by omega, ?_⟩, (hb0.mono hbw).trans hB1, (Turn.of_below hb0).trans hT1⟩
 have := HW1
 unfold headBad
 simpa [Bool.or_assoc] using this
theorem head_g (r : Rec) (nA pA sA : Option Addr) (nc pc sc : Nat) (g base n0 : Nat) (bad : Bool) (P : Nat → Prop) (w : World) (hW : Wr w base g bad n0) (hr : RecAt w P r nA nc pA pc sA sc) (hP : ∀ k, P k → k < base) (hn : n0 ≤ 1000000) (hg : base ≤ g) (hbw : base ≤ w.heap.size) (hl : r.batch.puts.length ≤ 1000000) (hd : ∀ p ∈ r.batch.puts, p.data.length ≤ 1000000) (hTb : Tabs w) (h2 : 2 ≤ base) :
 Calls Tryz.prog 253 #[.pointer (some ⟨g, 0, none⟩), .agg (r.cells nA nc pA pc sA sc).toArray, .agg (Fields.cells {fSpan := true, fTo := true}).toArray] w (WrOut g base n0 (n0 + 500000) (bad || headBad r {fSpan := true, fTo := true}) w) := by
 obtain ⟨q1, q2, q3, q4, q5, q6, q7, q8, q9, q10⟩ := hr
 have CS := fun W => encode_any r.stamp W
 unfold Stamp.val at CS
 have CB := jh (fun W (h : Below base w W) (hz : w.heap.size ≤ W.heap.size) => encodeB_any r.batch pA pc P W (q8.2.2.same (Same.of_belowB h hP) hz) hl q7 hd (hTb.only (Only.of_belowB h (fun g hg => hg)) (by omega) (by omega)) (by omega))
 have HBad : Hid (headBad r {fSpan := true, fTo := true} = headBad r {fSpan := true, fTo := true}) := jh rfl
 have hgl0 := hW.lt
 have B0 := (Blk.new w 46 (r.cells nA nc pA pc sA sc)).alloc (.cells (Fields.cells {fSpan := true, fTo := true}).toArray 320)
 have B1 := Blk.new1 w (.cells (r.cells nA nc pA pc sA sc).toArray 46) 320 (Fields.cells {fSpan := true, fTo := true})
 have HW' := jh hW
 have Q := jh (ja q2 (ja q3 (ja q5 q9)))
 unfold Rec.cells Fields.cells at B0 B1 ⊢
 clear q1 q2 q3 q4 q5 q6 q7 q8 q9 q10 hd hW
 go_enter Tryz.func253, Tryz.ntmps253
 go_upto_region 1 with fail
 refine forget (M := fun W => Code.wp _ _ _ _ W) (fun W => Below w.heap.size w W ∧ Blk W w.heap.size 46 [.int .i64 r.kind, .int .i64 r.n, .int .i64 r.to, .bool r.yes, .int .i64 r.stamp.wall, .int .i64 r.stamp.logic, .int .i64 r.stamp.node, .int .i64 r.tx.node, .int .i64 r.tx.life, .int .i64 r.tx.num, .slice nA r.nodes.length nc, .string r.batch.key, .slice pA r.batch.puts.length pc, .int .i64 r.range.first, .int .i64 r.range.last, .int .i64 r.range.owner, .int .i64 r.range.epoch, .slice sA r.streams.length sc] ∧ Blk W (w.heap.size + 1) 320 [.bool false, .bool true, .bool false, .bool false, .bool false, .bool false, .bool false, .bool true, .bool false] ∧ w.heap.size + 2 = W.heap.size) ⟨((jb _ _).al _).al _, B0, B1, by simp⟩ ?_
 clear B0 B1
 rintro w0 ⟨hb0, B0, B1, hs0⟩
 have HW0 := HW'.out.turn hb0
 have hT0 : Turn g w0 w0 := Turn.refl
 have hB0 : Below base w0 w0 := jb _ _
 have hz0 := hB0.size
 have FX := jh (fun (W : World) (h : Turn g w0 W) => ja (recCells (h.blk B0 (by decide) (by omega))) (nineB false true false false false false false true false (h.blk B1 (by decide) (by omega))))
 obtain ⟨⟨c0, c1, c2, c3, c4, c5, c6, c7, c8, c9, c10, c11, c12, c13, c14, c15, c16, c17⟩, ⟨d0, d1, d2, d3, d4, d5, d6, d7, d8⟩⟩ := FX.out w0 hT0
 clear B0 B1
 go_wp2_with fail
 have hgl := HW0.lt
 have hsz : (w0.alloc (.cells #[.int .i64 r.range.first, .int .i64 r.range.last, .int .i64 r.range.owner, .int .i64 r.range.epoch] 3)).heap.size = w0.heap.size + 1 := by simp
 refine (wnumsL_any g base n0 w0.heap.size _ [r.range.first, r.range.last, r.range.owner, r.range.epoch] _ (HW0.turn ((jb _ _).al _)) (Blk.new w0 3 _) (by simpa [Tx.fit, Range.fit] using Q.out.2.2.2) (by simp) (by omega) hg (by omega)).mono ?_
 rintro en w1 ⟨rfl, ⟨n1, hm1, hn1, HW1⟩, hb', ht'⟩
 have hb : Below base w0 w1 := ((jb base w0).alloc (by omega) _).trans hb'
 have ht : Turn g w0 w1 := (Turn.of_below ((jb _ _).al _)).trans ht'
 simp only [List.length_cons, List.length_nil] at hn1
 clear hb' ht' hsz
 have hT1 := hT0.trans ht
 have hB1 := hB0.trans hb
 have hz1 := hB1.size
 clear hb ht
 clear c0 c1 c2 c3 c4 c5 c6 c7 c8 c9 c10 c11 c12 c13 c14 c15 c16 c17 d0 d1 d2 d3 d4 d5 d6 d7 d8
 obtain ⟨⟨c0, c1, c2, c3, c4, c5, c6, c7, c8, c9, c10, c11, c12, c13, c14, c15, c16, c17⟩, ⟨d0, d1, d2, d3, d4, d5, d6, d7, d8⟩⟩ := FX.out w1 hT1
 go_wp2_with fail
 have hgl := HW1.lt
 have hsz : (w1.alloc (.cells #[.int .i64 r.to] 3)).heap.size = w1.heap.size + 1 := by simp
 refine (wnumsL_any g base n1 w1.heap.size _ [r.to] _ (HW1.turn ((jb _ _).al _)) (Blk.new w1 3 _) (by simpa [Tx.fit, Range.fit] using Q.out.2.1) (by simp) (by omega) hg (by omega)).mono ?_
 rintro en w2 ⟨rfl, ⟨n2, hm2, hn2, HW2⟩, hb', ht'⟩
 have hb : Below base w1 w2 := ((jb base w1).alloc (by omega) _).trans hb'
 have ht : Turn g w1 w2 := (Turn.of_below ((jb _ _).al _)).trans ht'
 simp only [List.length_cons, List.length_nil] at hn2
 clear hb' ht' hsz
 have hT2 := hT1.trans ht
 have hB2 := hB1.trans hb
 have hz2 := hB2.size
 clear hb ht
 clear c0 c1 c2 c3 c4 c5 c6 c7 c8 c9 c10 c11 c12 c13 c14 c15 c16 c17 d0 d1 d2 d3 d4 d5 d6 d7 d8
 obtain ⟨⟨c0, c1, c2, c3, c4, c5, c6, c7, c8, c9, c10, c11, c12, c13, c14, c15, c16, c17⟩, ⟨d0, d1, d2, d3, d4, d5, d6, d7, d8⟩⟩ := FX.out w2 hT2
 go_wp2_with fail
 (try simp only [Exit.inBlock, Exit.then]); refine bodyPost_end (results_none rfl _ _ _) rfl ?_
 refine ⟨rfl, ⟨n2, by omega, by omega, ?_⟩, (hb0.mono hbw).trans hB2, (Turn.of_below hb0).trans hT2⟩
 have := HW2
 unfold headBad
 simpa [Bool.or_assoc] using this
theorem head_h (r : Rec) (nA pA sA : Option Addr) (nc pc sc : Nat) (g base n0 : Nat) (bad : Bool) (P : Nat → Prop) (w : World) (hW : Wr w base g bad n0) (hr : RecAt w P r nA nc pA pc sA sc) (hP : ∀ k, P k → k < base) (hn : n0 ≤ 1000000) (hg : base ≤ g) (hbw : base ≤ w.heap.size) (hl : r.batch.puts.length ≤ 1000000) (hd : ∀ p ∈ r.batch.puts, p.data.length ≤ 1000000) (hTb : Tabs w) (h2 : 2 ≤ base) :
 Calls Tryz.prog 253 #[.pointer (some ⟨g, 0, none⟩), .agg (r.cells nA nc pA pc sA sc).toArray, .agg (Fields.cells {fSpan := true, fStamp := true, fStreams := true}).toArray] w (WrOut g base n0 (n0 + 500000) (bad || headBad r {fSpan := true, fStamp := true, fStreams := true}) w) := by
 obtain ⟨q1, q2, q3, q4, q5, q6, q7, q8, q9, q10⟩ := hr
 have CS := fun W => encode_any r.stamp W
 unfold Stamp.val at CS
 have CB := jh (fun W (h : Below base w W) (hz : w.heap.size ≤ W.heap.size) => encodeB_any r.batch pA pc P W (q8.2.2.same (Same.of_belowB h hP) hz) hl q7 hd (hTb.only (Only.of_belowB h (fun g hg => hg)) (by omega) (by omega)) (by omega))
 have HBad : Hid (headBad r {fSpan := true, fStamp := true, fStreams := true} = headBad r {fSpan := true, fStamp := true, fStreams := true}) := jh rfl
 have hgl0 := hW.lt
 have B0 := (Blk.new w 46 (r.cells nA nc pA pc sA sc)).alloc (.cells (Fields.cells {fSpan := true, fStamp := true, fStreams := true}).toArray 320)
 have B1 := Blk.new1 w (.cells (r.cells nA nc pA pc sA sc).toArray 46) 320 (Fields.cells {fSpan := true, fStamp := true, fStreams := true})
 have HW' := jh hW
 have Q := jh (ja q2 (ja q3 (ja q5 q9)))
 unfold Rec.cells Fields.cells at B0 B1 ⊢
 clear q1 q2 q3 q4 q5 q6 q7 q8 q9 q10 hd hW
 go_enter Tryz.func253, Tryz.ntmps253
 go_upto_region 1 with fail
 refine forget (M := fun W => Code.wp _ _ _ _ W) (fun W => Below w.heap.size w W ∧ Blk W w.heap.size 46 [.int .i64 r.kind, .int .i64 r.n, .int .i64 r.to, .bool r.yes, .int .i64 r.stamp.wall, .int .i64 r.stamp.logic, .int .i64 r.stamp.node, .int .i64 r.tx.node, .int .i64 r.tx.life, .int .i64 r.tx.num, .slice nA r.nodes.length nc, .string r.batch.key, .slice pA r.batch.puts.length pc, .int .i64 r.range.first, .int .i64 r.range.last, .int .i64 r.range.owner, .int .i64 r.range.epoch, .slice sA r.streams.length sc] ∧ Blk W (w.heap.size + 1) 320 [.bool false, .bool false, .bool false, .bool true, .bool false, .bool false, .bool false, .bool true, .bool true] ∧ w.heap.size + 2 = W.heap.size) ⟨((jb _ _).al _).al _, B0, B1, by simp⟩ ?_
 clear B0 B1
 rintro w0 ⟨hb0, B0, B1, hs0⟩
 have HW0 := HW'.out.turn hb0
 have hT0 : Turn g w0 w0 := Turn.refl
 have hB0 : Below base w0 w0 := jb _ _
 have hz0 := hB0.size
 have FX := jh (fun (W : World) (h : Turn g w0 W) => ja (recCells (h.blk B0 (by decide) (by omega))) (nineB false false false true false false false true true (h.blk B1 (by decide) (by omega))))
 obtain ⟨⟨c0, c1, c2, c3, c4, c5, c6, c7, c8, c9, c10, c11, c12, c13, c14, c15, c16, c17⟩, ⟨d0, d1, d2, d3, d4, d5, d6, d7, d8⟩⟩ := FX.out w0 hT0
 clear B0 B1
 go_wp2_with fail
 have hgl := HW0.lt
 have hsz : (w0.alloc (.cells #[.int .i64 r.range.first, .int .i64 r.range.last, .int .i64 r.range.owner, .int .i64 r.range.epoch] 3)).heap.size = w0.heap.size + 1 := by simp
 refine (wnumsL_any g base n0 w0.heap.size _ [r.range.first, r.range.last, r.range.owner, r.range.epoch] _ (HW0.turn ((jb _ _).al _)) (Blk.new w0 3 _) (by simpa [Tx.fit, Range.fit] using Q.out.2.2.2) (by simp) (by omega) hg (by omega)).mono ?_
 rintro en w1 ⟨rfl, ⟨n1, hm1, hn1, HW1⟩, hb', ht'⟩
 have hb : Below base w0 w1 := ((jb base w0).alloc (by omega) _).trans hb'
 have ht : Turn g w0 w1 := (Turn.of_below ((jb _ _).al _)).trans ht'
 simp only [List.length_cons, List.length_nil] at hn1
 clear hb' ht' hsz
 have hT1 := hT0.trans ht
 have hB1 := hB0.trans hb
 have hz1 := hB1.size
 clear hb ht
 clear c0 c1 c2 c3 c4 c5 c6 c7 c8 c9 c10 c11 c12 c13 c14 c15 c16 c17 d0 d1 d2 d3 d4 d5 d6 d7 d8
 obtain ⟨⟨c0, c1, c2, c3, c4, c5, c6, c7, c8, c9, c10, c11, c12, c13, c14, c15, c16, c17⟩, ⟨d0, d1, d2, d3, d4, d5, d6, d7, d8⟩⟩ := FX.out w1 hT1
 go_wp2_with fail
 have hgl := HW1.lt
 refine (CS w1).mono ?_
 rintro en wx ⟨hres, hbx⟩
 have hzx := hbx.size
 have hx : ∃ v2 nx, en = .returned v2 ∧ Bts wx w1.heap.size v2 nx ∧ nx ≤ 30 ∧ decide (nx = 0) = !(soundB r.stamp) := by
  cases hok : (soundB r.stamp)
  ·rw [hok] at hres
   exact ⟨_, 0, hres.out0, Bts.nil_ _ _, by omega, rfl⟩
  ·rw [hok] at hres
   obtain ⟨v2, nx, rfl, hv2, hnx, hnx_⟩ := hres.out1
   exact ⟨v2, nx, rfl, hv2, by omega, jd (by omega)⟩
 obtain ⟨v2, nx, rfl, hv2, hnx, hok⟩ := hx
 clear hres
 obtain ⟨A2, z2, rfl, _⟩ := hv2.form
 clear c0 c1 c2 c3 c4 c5 c6 c7 c8 c9 c10 c11 c12 c13 c14 c15 c16 c17 d0 d1 d2 d3 d4 d5 d6 d7 d8
 go_wp2_with fail
 have hsome := wsome_any g base n1 nx _ _ w1 wx HW1 hbx hv2 (by omega) hg (by omega)
 rw [hok] at hsome
 refine hsome.mono ?_
 rintro en w2 ⟨rfl, ⟨n2, hm2, hn2, HW2⟩, hb', ht'⟩
 have hb : Below base w1 w2 := (hbx.mono (by omega)).trans hb'
 have ht : Turn g w1 w2 := (Turn.of_below hbx).trans ht'
 clear hb' ht' hbx hsome hv2 hok
 have hT2 := hT1.trans ht
 have hB2 := hB1.trans hb
 have hz2 := hB2.size
 clear hb ht
 obtain ⟨⟨c0, c1, c2, c3, c4, c5, c6, c7, c8, c9, c10, c11, c12, c13, c14, c15, c16, c17⟩, ⟨d0, d1, d2, d3, d4, d5, d6, d7, d8⟩⟩ := FX.out w2 hT2
 go_wp2_with fail
 (try simp only [Exit.inBlock, Exit.then]); refine bodyPost_end (results_none rfl _ _ _) rfl ?_
 refine ⟨rfl, ⟨n2, by omega, by omega, ?_⟩, (hb0.mono hbw).trans hB2, (Turn.of_below hb0).trans hT2⟩
 have := HW2
 unfold headBad
 simpa [Bool.or_assoc] using this
theorem head_i (r : Rec) (nA pA sA : Option Addr) (nc pc sc : Nat) (g base n0 : Nat) (bad : Bool) (P : Nat → Prop) (w : World) (hW : Wr w base g bad n0) (hr : RecAt w P r nA nc pA pc sA sc) (hP : ∀ k, P k → k < base) (hn : n0 ≤ 1000000) (hg : base ≤ g) (hbw : base ≤ w.heap.size) (hl : r.batch.puts.length ≤ 1000000) (hd : ∀ p ∈ r.batch.puts, p.data.length ≤ 1000000) (hTb : Tabs w) (h2 : 2 ≤ base) :
 Calls Tryz.prog 253 #[.pointer (some ⟨g, 0, none⟩), .agg (r.cells nA nc pA pc sA sc).toArray, .agg (Fields.cells {fSpan := true}).toArray] w (WrOut g base n0 (n0 + 500000) (bad || headBad r {fSpan := true}) w) := by
 obtain ⟨q1, q2, q3, q4, q5, q6, q7, q8, q9, q10⟩ := hr
 have CS := fun W => encode_any r.stamp W
 unfold Stamp.val at CS
 have CB := jh (fun W (h : Below base w W) (hz : w.heap.size ≤ W.heap.size) => encodeB_any r.batch pA pc P W (q8.2.2.same (Same.of_belowB h hP) hz) hl q7 hd (hTb.only (Only.of_belowB h (fun g hg => hg)) (by omega) (by omega)) (by omega))
 have HBad : Hid (headBad r {fSpan := true} = headBad r {fSpan := true}) := jh rfl
 have hgl0 := hW.lt
 have B0 := (Blk.new w 46 (r.cells nA nc pA pc sA sc)).alloc (.cells (Fields.cells {fSpan := true}).toArray 320)
 have B1 := Blk.new1 w (.cells (r.cells nA nc pA pc sA sc).toArray 46) 320 (Fields.cells {fSpan := true})
 have HW' := jh hW
 have Q := jh (ja q2 (ja q3 (ja q5 q9)))
 unfold Rec.cells Fields.cells at B0 B1 ⊢
 clear q1 q2 q3 q4 q5 q6 q7 q8 q9 q10 hd hW
 go_enter Tryz.func253, Tryz.ntmps253
 go_upto_region 1 with fail
 refine forget (M := fun W => Code.wp _ _ _ _ W) (fun W => Below w.heap.size w W ∧ Blk W w.heap.size 46 [.int .i64 r.kind, .int .i64 r.n, .int .i64 r.to, .bool r.yes, .int .i64 r.stamp.wall, .int .i64 r.stamp.logic, .int .i64 r.stamp.node, .int .i64 r.tx.node, .int .i64 r.tx.life, .int .i64 r.tx.num, .slice nA r.nodes.length nc, .string r.batch.key, .slice pA r.batch.puts.length pc, .int .i64 r.range.first, .int .i64 r.range.last, .int .i64 r.range.owner, .int .i64 r.range.epoch, .slice sA r.streams.length sc] ∧ Blk W (w.heap.size + 1) 320 [.bool false, .bool false, .bool false, .bool false, .bool false, .bool false, .bool false, .bool true, .bool false] ∧ w.heap.size + 2 = W.heap.size) ⟨((jb _ _).al _).al _, B0, B1, by simp⟩ ?_
 clear B0 B1
 rintro w0 ⟨hb0, B0, B1, hs0⟩
 have HW0 := HW'.out.turn hb0
 have hT0 : Turn g w0 w0 := Turn.refl
 have hB0 : Below base w0 w0 := jb _ _
 have hz0 := hB0.size
 have FX := jh (fun (W : World) (h : Turn g w0 W) => ja (recCells (h.blk B0 (by decide) (by omega))) (nineB false false false false false false false true false (h.blk B1 (by decide) (by omega))))
 obtain ⟨⟨c0, c1, c2, c3, c4, c5, c6, c7, c8, c9, c10, c11, c12, c13, c14, c15, c16, c17⟩, ⟨d0, d1, d2, d3, d4, d5, d6, d7, d8⟩⟩ := FX.out w0 hT0
 clear B0 B1
 go_wp2_with fail
 have hgl := HW0.lt
 have hsz : (w0.alloc (.cells #[.int .i64 r.range.first, .int .i64 r.range.last, .int .i64 r.range.owner, .int .i64 r.range.epoch] 3)).heap.size = w0.heap.size + 1 := by simp
 refine (wnumsL_any g base n0 w0.heap.size _ [r.range.first, r.range.last, r.range.owner, r.range.epoch] _ (HW0.turn ((jb _ _).al _)) (Blk.new w0 3 _) (by simpa [Tx.fit, Range.fit] using Q.out.2.2.2) (by simp) (by omega) hg (by omega)).mono ?_
 rintro en w1 ⟨rfl, ⟨n1, hm1, hn1, HW1⟩, hb', ht'⟩
 have hb : Below base w0 w1 := ((jb base w0).alloc (by omega) _).trans hb'
 have ht : Turn g w0 w1 := (Turn.of_below ((jb _ _).al _)).trans ht'
 simp only [List.length_cons, List.length_nil] at hn1
 clear hb' ht' hsz
 have hT1 := hT0.trans ht
 have hB1 := hB0.trans hb
 have hz1 := hB1.size
 clear hb ht
 clear c0 c1 c2 c3 c4 c5 c6 c7 c8 c9 c10 c11 c12 c13 c14 c15 c16 c17 d0 d1 d2 d3 d4 d5 d6 d7 d8
 obtain ⟨⟨c0, c1, c2, c3, c4, c5, c6, c7, c8, c9, c10, c11, c12, c13, c14, c15, c16, c17⟩, ⟨d0, d1, d2, d3, d4, d5, d6, d7, d8⟩⟩ := FX.out w1 hT1
 go_wp2_with fail
 (try simp only [Exit.inBlock, Exit.then]); refine bodyPost_end (results_none rfl _ _ _) rfl ?_
 refine ⟨rfl, ⟨n1, by omega, by omega, ?_⟩, (hb0.mono hbw).trans hB1, (Turn.of_below hb0).trans hT1⟩
 have := HW1
 unfold headBad
 simpa [Bool.or_assoc] using this
end Go.Proofs.YtcmjgghkmdbphaaGreatDoor
