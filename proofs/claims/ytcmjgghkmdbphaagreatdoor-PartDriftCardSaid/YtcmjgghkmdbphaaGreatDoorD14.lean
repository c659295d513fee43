/- rec.Encode, rec.Check. state.commit. Look-ups in drawn regions; what is asked of a state; state.prepare. rec.Check. records that may be; the invariant of a state (plain law). state.Apply: each kind of record. state.order: the order of transactions. -/
import Derived.Test.YtcmjgghkmdbphaaGreatDoorD13
import Derived.Test.YtcmjgghkmdbphaaGreatDoorD07
import Derived.Test.YtcmjgghkmdbphaaGreatDoorD12
import Derived.Test.YtcmjgghkmdbphaaGreatDoorD09
import Derived.Test.YtcmjgghkmdbphaaGreatDoorD10
import Derived.Test.YtcmjgghkmdbphaaGreatDoorD11
import Derived.Shelf.SlSortCmp.WholeK
set_option maxRecDepth 20000
set_option maxHeartbeats 25600000
namespace Go.Proofs.YtcmjgghkmdbphaaGreatDoor
open Go.RowKit
theorem head_any (k : Int) (hk : namedK k = true) (r : Rec) (nA pA sA : Option Addr) (nc pc sc : Nat) (g base n0 : Nat) (bad : Bool) (P : Nat → Prop) (w : World) (hW : Wr w base g bad n0) (hr : RecAt w P r nA nc pA pc sA sc) (hP : ∀ k, P k → k < base) (hn : n0 ≤ 1000000) (hg : base ≤ g) (hbw : base ≤ w.heap.size) (hl : r.batch.puts.length ≤ 1000000) (hd : ∀ p ∈ r.batch.puts, p.data.length ≤ 1000000) (hTb : Tabs w) (h2 : 2 ≤ base) :
 Calls Tryz.prog 253 #[.pointer (some ⟨g, 0, none⟩), .agg (r.cells nA nc pA pc sA sc).toArray, .agg (fieldsF k).cells.toArray] w (WrOut g base n0 (n0 + 500000) (bad || headBad r (fieldsF k)) w) := by
 have h1 : 1 ≤ k ∧ k ≤ 11 := by simpa [namedK] using hk
 have hk : k = 1 ∨ k = 2 ∨ k = 3 ∨ k = 4 ∨ k = 5 ∨ k = 6 ∨ k = 7 ∨ k = 8 ∨ k = 9 ∨ k = 10 ∨ k = 11 := by omega
 rcases hk with rfl | rfl | rfl | rfl | rfl | rfl | rfl | rfl | rfl | rfl | rfl
 ·exact head_a r nA pA sA nc pc sc g base n0 bad P w hW hr hP hn hg hbw hl hd hTb h2
 ·exact head_a r nA pA sA nc pc sc g base n0 bad P w hW hr hP hn hg hbw hl hd hTb h2
 ·exact head_b r nA pA sA nc pc sc g base n0 bad P w hW hr hP hn hg hbw hl hd hTb h2
 ·exact head_c r nA pA sA nc pc sc g base n0 bad P w hW hr hP hn hg hbw hl hd hTb h2
 ·exact head_d r nA pA sA nc pc sc g base n0 bad P w hW hr hP hn hg hbw hl hd hTb h2
 ·exact head_e r nA pA sA nc pc sc g base n0 bad P w hW hr hP hn hg hbw hl hd hTb h2
 ·exact head_f r nA pA sA nc pc sc g base n0 bad P w hW hr hP hn hg hbw hl hd hTb h2
 ·exact head_a r nA pA sA nc pc sc g base n0 bad P w hW hr hP hn hg hbw hl hd hTb h2
 ·exact head_g r nA pA sA nc pc sc g base n0 bad P w hW hr hP hn hg hbw hl hd hTb h2
 ·exact head_h r nA pA sA nc pc sc g base n0 bad P w hW hr hP hn hg hbw hl hd hTb h2
 ·exact head_i r nA pA sA nc pc sc g base n0 bad P w hW hr hP hn hg hbw hl hd hTb h2
theorem lists_any (k : Int) (hk : namedK k = true) (r : Rec) (nA pA sA : Option Addr) (nc pc sc : Nat) (g base n0 : Nat) (bad : Bool) (P : Nat → Prop) (w : World) (hW : Wr w base g bad n0) (hr : RecAt w P r nA nc pA pc sA sc) (hP : ∀ k, P k → k < base) (hn : n0 ≤ 1000000) (hg : base ≤ g) (hbw : base ≤ w.heap.size) (hl : r.nodes.length ≤ 1000000) (hl2 : r.streams.length ≤ 1000000) (hd : weights r.streams ≤ 50000000) (hd2 : ∀ s ∈ r.streams, s.events.length ≤ 40000 ∧ s.keys.length ≤ 40000) (hTb : Tabs w) (h2 : 2 ≤ base) :
 Calls Tryz.prog 254 #[.pointer (some ⟨g, 0, none⟩), .agg (r.cells nA nc pA pc sA sc).toArray, .agg (fieldsF k).cells.toArray] w (WrOut g base n0 (n0 + 11000000 + weights r.streams) (bad || listsBad r (fieldsF k)) w) := by
 have h1 : 1 ≤ k ∧ k ≤ 11 := by simpa [namedK] using hk
 have hk : k = 1 ∨ k = 2 ∨ k = 3 ∨ k = 4 ∨ k = 5 ∨ k = 6 ∨ k = 7 ∨ k = 8 ∨ k = 9 ∨ k = 10 ∨ k = 11 := by omega
 rcases hk with rfl | rfl | rfl | rfl | rfl | rfl | rfl | rfl | rfl | rfl | rfl
 ·exact lists_a r nA pA sA nc pc sc g base n0 bad P w hW hr hP hn hg hbw hl hl2 hd hd2 hTb h2
 ·exact lists_a r nA pA sA nc pc sc g base n0 bad P w hW hr hP hn hg hbw hl hl2 hd hd2 hTb h2
 ·exact lists_b r nA pA sA nc pc sc g base n0 bad P w hW hr hP hn hg hbw hl hl2 hd hd2 hTb h2
 ·exact lists_c r nA pA sA nc pc sc g base n0 bad P w hW hr hP hn hg hbw hl hl2 hd hd2 hTb h2
 ·exact lists_d r nA pA sA nc pc sc g base n0 bad P w hW hr hP hn hg hbw hl hl2 hd hd2 hTb h2
 ·exact lists_e r nA pA sA nc pc sc g base n0 bad P w hW hr hP hn hg hbw hl hl2 hd hd2 hTb h2
 ·exact lists_f r nA pA sA nc pc sc g base n0 bad P w hW hr hP hn hg hbw hl hl2 hd hd2 hTb h2
 ·exact lists_a r nA pA sA nc pc sc g base n0 bad P w hW hr hP hn hg hbw hl hl2 hd hd2 hTb h2
 ·exact lists_g r nA pA sA nc pc sc g base n0 bad P w hW hr hP hn hg hbw hl hl2 hd hd2 hTb h2
 ·exact lists_h r nA pA sA nc pc sc g base n0 bad P w hW hr hP hn hg hbw hl hl2 hd hd2 hTb h2
 ·exact lists_i r nA pA sA nc pc sc g base n0 bad P w hW hr hP hn hg hbw hl hl2 hd hd2 hTb h2
def recB (r : Rec) : Bool := namedK r.kind && (spareB r (fieldsF r.kind) && !(headBad r (fieldsF r.kind) || listsBad r (fieldsF r.kind)))
def checkR (r : Rec) : Int := if recB r then 0 else 1
structure Rec.Fair (r : Rec) : Prop where
 puts : r.batch.puts.length ≤ 1000000
 data : ∀ p ∈ r.batch.puts, p.data.length ≤ 1000000
 nodes : r.nodes.length ≤ 1000000
 streams : r.streams.length ≤ 1000000
 weight : weights r.streams ≤ 50000000
 each : ∀ s ∈ r.streams, s.events.length ≤ 40000 ∧ s.keys.length ≤ 40000
def GotCode (n : Int) (e : Ending) : Prop := ∃ v, e = .returned (.tuple #[v, .int .i64 n])
theorem RecAt.ext {w w' : World} {P : Nat → Prop} {r : Rec} {nA pA sA : Option Addr} {nc pc sc : Nat} (h : RecAt w P r nA nc pA pc sA sc) (hs : Same P w w') (hz : w.heap.size ≤ w'.heap.size) : RecAt w' P r nA nc pA pc sA sc :=
 { h with nodes := ⟨h.nodes.1, h.nodes.2.1, h.nodes.2.2.same hs hz⟩, puts := ⟨h.puts.1, h.puts.2.1, h.puts.2.2.same hs hz⟩, streams := ⟨h.streams.1, h.streams.2.1, h.streams.2.2.same hs hz⟩ }
theorem RecAt.mono {w : World} {P Q : Nat → Prop} {r : Rec} {nA pA sA : Option Addr} {nc pc sc : Nat} (h : RecAt w P r nA nc pA pc sA sc) (hs : ∀ g, P g → g < w.heap.size → Q g) : RecAt w Q r nA nc pA pc sA sc :=
 { h with nodes := ⟨h.nodes.1, h.nodes.2.1, h.nodes.2.2.mono hs⟩, puts := ⟨h.puts.1, h.puts.2.1, h.puts.2.2.mono hs⟩, streams := ⟨h.streams.1, h.streams.2.1, h.streams.2.2.mono hs⟩ }
theorem recEncode_any (r : Rec) (nA pA sA : Option Addr) (nc pc sc : Nat) (P : Nat → Prop) (w : World) (hr : RecAt w P r nA nc pA pc sA sc) (hF : r.Fair) (hTb : Tabs w) (h2 : 2 ≤ w.heap.size) :
 Calls Tryz.prog 171 #[.agg (r.cells nA nc pA pc sA sc).toArray] w fun e w' => GotCode (checkR r) e ∧ Below w.heap.size w w' := by
 have hr := hr.mono (Q := fun g => g < w.heap.size) fun g _ h => h
 have HR := jh hr
 have HF := jh hF
 have CN := fun W => recNamed_any r.kind W
 have B0 := Blk.new w 46 (r.cells nA nc pA pc sA sc)
 unfold Rec.cells at B0 ⊢
 clear hr hF
 go_enter Tryz.func171, Tryz.ntmps171
 go_wp2_with fail
 refine (CN _).mono ?_
 rintro e w1 ⟨rfl, hb1⟩
 have hw1 : Below w.heap.size w w1 := ((jb _ _).al _).tr hb1
 have B1 := B0.ext hb1
 clear B0 hb1
 generalize hq : namedK r.kind = q
 have HQ := jh hq
 clear hq
 have hz1 := hw1.size
 have b0 : w1.cell? ⟨w.heap.size, 0, none⟩ = some (.int .i64 r.kind) := B1.cell 0
 unfold Fields.cells
 cases q
 ·go_wp2_with fail
  go_ret2
  rw [show checkR r = 1 from by unfold checkR recB; rw [HQ.out]; rfl]
  exact ⟨⟨_, rfl⟩, hw1.al _⟩
 ·have hax := (jb w1.heap.size w1).al (.cells (fieldsF r.kind).cells.toArray 320)
  have B2 := B1.alloc (.cells (fieldsF r.kind).cells.toArray 320)
  have D2 := Blk.new w1 320 (fieldsF r.kind).cells
  have hw2 := hw1.tr hax
  have hs2 : (w1.alloc (.cells (fieldsF r.kind).cells.toArray 320)).heap.size = w1.heap.size + 1 := by simp
  unfold Rec.cells at B2
  unfold Fields.cells at B2 D2 hw2 hs2 hax
  go_upto_region 2 with fail
  refine forget (M := fun W => Code.wp _ _ _ _ W) (fun W => Below w.heap.size w W ∧ Blk W w.heap.size 46 [.int .i64 r.kind, .int .i64 r.n, .int .i64 r.to, .bool r.yes, .int .i64 r.stamp.wall, .int .i64 r.stamp.logic, .int .i64 r.stamp.node, .int .i64 r.tx.node, .int .i64 r.tx.life, .int .i64 r.tx.num, .slice nA r.nodes.length nc, .string r.batch.key, .slice pA r.batch.puts.length pc, .int .i64 r.range.first, .int .i64 r.range.last, .int .i64 r.range.owner, .int .i64 r.range.epoch, .slice sA r.streams.length sc] ∧ Blk W w1.heap.size 320 [.bool (fieldsF r.kind).fN, .bool (fieldsF r.kind).fTo, .bool (fieldsF r.kind).fYes, .bool (fieldsF r.kind).fStamp, .bool (fieldsF r.kind).fTx, .bool (fieldsF r.kind).fNodes, .bool (fieldsF r.kind).fBatch, .bool (fieldsF r.kind).fSpan, .bool (fieldsF r.kind).fStreams] ∧ w1.heap.size + 1 = W.heap.size) ⟨hw2, B2, D2, hs2.symm⟩ ?_
  clear hw2 hs2 hax B2 D2 b0 B1
  rintro w2 ⟨hw2, C0, C1, hs2⟩
  have CP := fun W => spare_any r r.kind HQ.out nA pA sA nc pc sc W
  unfold Rec.cells Fields.cells at CP
  have c0 : w2.cell? ⟨w.heap.size, 0, none⟩ = some (.int .i64 r.kind) := C0.cell 0
  have c1 : w2.cell? ⟨w.heap.size, 1, none⟩ = some (.int .i64 r.n) := C0.cell 1
  have c2 : w2.cell? ⟨w.heap.size, 2, none⟩ = some (.int .i64 r.to) := C0.cell 2
  have c3 : w2.cell? ⟨w.heap.size, 3, none⟩ = some (.bool r.yes) := C0.cell 3
  have c4 : w2.cell? ⟨w.heap.size, 4, none⟩ = some (.int .i64 r.stamp.wall) := C0.cell 4
  have c5 : w2.cell? ⟨w.heap.size, 5, none⟩ = some (.int .i64 r.stamp.logic) := C0.cell 5
  have c6 : w2.cell? ⟨w.heap.size, 6, none⟩ = some (.int .i64 r.stamp.node) := C0.cell 6
  have c7 : w2.cell? ⟨w.heap.size, 7, none⟩ = some (.int .i64 r.tx.node) := C0.cell 7
  have c8 : w2.cell? ⟨w.heap.size, 8, none⟩ = some (.int .i64 r.tx.life) := C0.cell 8
  have c9 : w2.cell? ⟨w.heap.size, 9, none⟩ = some (.int .i64 r.tx.num) := C0.cell 9
  have c10 : w2.cell? ⟨w.heap.size, 10, none⟩ = some (.slice nA r.nodes.length nc) := C0.cell 10
  have c11 : w2.cell? ⟨w.heap.size, 11, none⟩ = some (.string r.batch.key) := C0.cell 11
  have c12 : w2.cell? ⟨w.heap.size, 12, none⟩ = some (.slice pA r.batch.puts.length pc) := C0.cell 12
  have c13 : w2.cell? ⟨w.heap.size, 13, none⟩ = some (.int .i64 r.range.first) := C0.cell 13
  have c14 : w2.cell? ⟨w.heap.size, 14, none⟩ = some (.int .i64 r.range.last) := C0.cell 14
  have c15 : w2.cell? ⟨w.heap.size, 15, none⟩ = some (.int .i64 r.range.owner) := C0.cell 15
  have c16 : w2.cell? ⟨w.heap.size, 16, none⟩ = some (.int .i64 r.range.epoch) := C0.cell 16
  have c17 : w2.cell? ⟨w.heap.size, 17, none⟩ = some (.slice sA r.streams.length sc) := C0.cell 17
  have d0 : w2.cell? ⟨w1.heap.size, 0, none⟩ = some (.bool (fieldsF r.kind).fN) := C1.cell 0
  have d1 : w2.cell? ⟨w1.heap.size, 1, none⟩ = some (.bool (fieldsF r.kind).fTo) := C1.cell 1
  have d2 : w2.cell? ⟨w1.heap.size, 2, none⟩ = some (.bool (fieldsF r.kind).fYes) := C1.cell 2
  have d3 : w2.cell? ⟨w1.heap.size, 3, none⟩ = some (.bool (fieldsF r.kind).fStamp) := C1.cell 3
  have d4 : w2.cell? ⟨w1.heap.size, 4, none⟩ = some (.bool (fieldsF r.kind).fTx) := C1.cell 4
  have d5 : w2.cell? ⟨w1.heap.size, 5, none⟩ = some (.bool (fieldsF r.kind).fNodes) := C1.cell 5
  have d6 : w2.cell? ⟨w1.heap.size, 6, none⟩ = some (.bool (fieldsF r.kind).fBatch) := C1.cell 6
  have d7 : w2.cell? ⟨w1.heap.size, 7, none⟩ = some (.bool (fieldsF r.kind).fSpan) := C1.cell 7
  have d8 : w2.cell? ⟨w1.heap.size, 8, none⟩ = some (.bool (fieldsF r.kind).fStreams) := C1.cell 8
  go_wp2_with fail
  refine (CP w2).mono ?_
  rintro e w3 ⟨rfl, hb3⟩
  have C0' := C0.ext hb3
  have C1' := C1.ext hb3
  have hw3 := hw2.tr hb3
  have hs3 := hb3.size
  generalize hq : spareB r (fieldsF r.kind) = q
  have HS := jh hq
  clear hq CP
  clear c0 c1 c2 c3 c4 c5 c6 c7 c8 c9 c10 c11 c12 c13 c14 c15 c16 c17 d0 d1 d2 d3 d4 d5 d6 d7 d8
  clear C0 C1
  have C0 := C0'
  have C1 := C1'
  cases q
  ·go_wp2_with fail
   go_ret2
   rw [show checkR r = 1 from by unfold checkR recB; rw [HQ.out, HS.out]; rfl]
   exact ⟨⟨_, rfl⟩, hw3⟩
  ·clear C0' C1'
   have c0 : w3.cell? ⟨w.heap.size, 0, none⟩ = some (.int .i64 r.kind) := C0.cell 0
   go_upto_region 5 with fail
   have hsw : ((w3.alloc (.cells #[.int .u8 (r.kind % 256)] 5)).alloc (.cells #[.slice (some ⟨w3.heap.size, 0, none⟩) 1 1, .bool false] 326)).heap.size = w3.heap.size + 2 := by simp
   have HWr : Wr ((w3.alloc (.cells #[.int .u8 (r.kind % 256)] 5)).alloc (.cells #[.slice (some ⟨w3.heap.size, 0, none⟩) 1 1, .bool false] 326)) w.heap.size (w3.heap.size + 1) false 1 := ⟨_, by simpa using Blk.new (w3.alloc (.cells #[.int .u8 (r.kind % 256)] 5)) 326 [.slice (some ⟨w3.heap.size, 0, none⟩) 1 1, .bool false], ((bts_new1 w3 _).ext ((jb _ _).al _)).base_ (by have := hw3.size; omega)⟩
   refine forget (M := fun W => Code.wp _ _ _ _ W) (fun W => Below w3.heap.size w3 W ∧ Wr W w.heap.size (w3.heap.size + 1) false 1 ∧ W.heap.size = w3.heap.size + 2) ⟨((jb _ _).al _).al _, HWr, hsw⟩ ?_
   clear HWr hsw c0
   rintro w4 ⟨hb4, HW4, hs4⟩
   have hw4 := hw3.tr hb4
   have C04 := C0.ext hb4
   have C14 := C1.ext hb4
   have CH := head_any r.kind HQ.out r nA pA sA nc pc sc (w3.heap.size + 1) w.heap.size 1 false (fun g => g < w.heap.size) w4 HW4 (HR.out.ext (js hw4) hw4.size) (fun k h => h) (by omega) (by have := hw3.size; omega) hw4.size HF.out.puts HF.out.data (hTb.below hw4) h2
   unfold Rec.cells Fields.cells at CH
   clear C0 C1 hb4
   have hg4 : w3.heap.size + 1 < w4.heap.size := HW4.lt
   go_wp2_with (first
    | ((with_reducible refine wpList_load_blk rfl rfl ?_ C04 Tryz.underlying46 rfl (by kernel_rfl) ?_); · rfl)
    | ((with_reducible refine wpList_load_blk rfl rfl ?_ C14 Tryz.underlying320 rfl (by kernel_rfl) ?_); · rfl)
    | fail)
   refine CH.mono ?_
   clear CH
   rintro en w5 ⟨rfl, ⟨n5, hn5, hn5', HW5⟩, hb5, ht5⟩
   have C05 := ht5.blk C04 (by decide) (by omega)
   have C15 := ht5.blk C14 (by decide) (by have := C14.lt; omega)
   have hw5 := hw4.trans hb5
   have CL := lists_any r.kind HQ.out r nA pA sA nc pc sc (w3.heap.size + 1) w.heap.size n5 (false || headBad r (fieldsF r.kind)) (fun g => g < w.heap.size) w5 HW5 (HR.out.ext (js hw5) hw5.size) (fun k h => h) (by omega) (by have := hw3.size; omega) hw5.size HF.out.nodes HF.out.streams HF.out.weight HF.out.each (hTb.below hw5) h2
   unfold Rec.cells Fields.cells at CL
   clear C04 C14
   go_wp2_with (first
    | ((with_reducible refine wpList_load_blk rfl rfl ?_ C05 Tryz.underlying46 rfl (by kernel_rfl) ?_); · rfl)
    | ((with_reducible refine wpList_load_blk rfl rfl ?_ C15 Tryz.underlying320 rfl (by kernel_rfl) ?_); · rfl)
    | fail)
   refine CL.mono ?_
   clear CL C05 C15
   rintro en w6 ⟨rfl, ⟨n6, hn6, hn6', ⟨v6, HB6, HV6⟩⟩, hb6, ht6⟩
   have hw6 := hw5.trans hb6
   have d0 := HB6.cell 0
   have d1 := HB6.cell 1
   simp only [List.getElem?_cons_zero, List.getElem?_cons_succ] at d0 d1
   have HRB := jh (show recB r = !(headBad r (fieldsF r.kind) || listsBad r (fieldsF r.kind)) from by unfold recB; rw [HQ.out, HS.out]; rfl)
   simp only [Bool.false_or] at d1
   clear HB6 HV6
   generalize hqq : (headBad r (fieldsF r.kind) || listsBad r (fieldsF r.kind)) = qq at d1
   have HQQ := jh hqq
   clear hqq
   cases qq
   ·go_wp2_with fail
    go_ret2
    rw [show checkR r = 0 from by unfold checkR; rw [HRB.out, HQQ.out]; rfl]
    exact ⟨⟨_, rfl⟩, hw6⟩
   ·go_wp2_with fail
    go_ret2
    rw [show checkR r = 1 from by unfold checkR; rw [HRB.out, HQQ.out]; rfl]
    exact ⟨⟨_, rfl⟩, hw6⟩
end Go.Proofs.YtcmjgghkmdbphaaGreatDoor
namespace Go.Proofs.YtcmjgghkmdbphaaGreatDoor
open Go.RowKit
theorem mayV_bound (T : Tab) (hT : ∀ n, 0 ≤ versionT T n ∧ versionT T n ≤ 40000) : ∀ (l : List Put) (f : List Int), (∀ n ∈ f, -1000000000 ≤ n ∧ n ≤ 1000000000) → f.length + l.length ≤ 100 →
 (mayV T l f).1.length ≤ 100 ∧ ∀ n ∈ (mayV T l f).1, -1000000000 ≤ n ∧ n ≤ 1000000000
 | [], f, h, hl => ⟨by simpa [mayV] using hl, h⟩
 | p :: r, f, h, hl => by
   unfold mayV
   split
   ·exact ⟨by simp, by simp⟩
   ·refine mayV_bound T hT r _ (fun n hn => ?_) (by simp at hl ⊢; omega)
    rcases List.mem_append.1 hn with hn | hn
    ·exact h n hn
    ·have := hT p.stream
     simp only [List.mem_singleton] at hn
     omega
theorem mayS_ok {s : St} {b : Batch} (h : (mayS s b).2.2 = 0) : checkB b = 0 ∧ (mayS s b).1 = (mayV s.table b.puts []).1 := by
 unfold mayS at h ⊢
 split at h
 ·rename_i h1; exact absurd h h1
 ·rename_i h1
  rw [if_neg h1]
  split at h
  ·rename_i h2; exact absurd h h2
  ·rename_i h2
   rw [if_neg h2]
   split at h
   ·rename_i h3; exact absurd h h3
   ·rename_i h3
    rw [if_neg h3]
    exact ⟨by omega, rfl⟩
end Go.Proofs.YtcmjgghkmdbphaaGreatDoor
namespace Go.Proofs.YtcmjgghkmdbphaaGreatDoor
open Go.RowKit
section
variable {w : World} {v : Value} {ps : List (Tx × Value)}
theorem run_lookup_v {t e : TypeId} (ht : Tryz.prog.underlying t = some (.map 42 e)) (h : MapV w v ps) (k : Tx) (z : Value) (hz : (zeroValue e).run Tryz.prog w = .ok z w) (c : Bool) :
 (Instr.lookup t v (txE k) c).run Tryz.prog w = .ok (if c then .tuple #[(assocOf k ps).getD z, .bool (assocOf k ps).isSome] else (assocOf k ps).getD z) w := by
 rcases h with ⟨rfl, rfl⟩ | ⟨m, rfl, hM⟩
 ·have := run_lookup_nil tx_key ht k z hz c
  simpa [assocOf] using this
 ·exact run_lookup_map tx_key ht hM k z hz c
theorem wpQuiet_lookup_v {ops : Array Oper} {rest : List Oper} {o : Oper} {a : Act} {C : World → Prop} {Q : Act → Prop} (r : Option Value) (hw : Region.wanted o (yielded ops a.tmps) = true) (mo x : Operand) (t : TypeId) (c : Bool) (hop : o.op = Op.lookup t mo x c) {e : TypeId}
 (ht : Tryz.prog.underlying t = some (.map 42 e)) (hm : a.eval mo = v) (h : ∀ w, C w → MapV w v ps) (k : Tx) (hx : a.eval x = txE k) (hr : assocOf k ps = r) (z : Value) (hz : ∀ w, (zeroValue e).run Tryz.prog w = .ok z w)
 (hK : wpQuiet Tryz.prog ops C Q rest (a.put o.dst (if c then .tuple #[r.getD z, .bool r.isSome] else r.getD z))) : wpQuiet Tryz.prog ops C Q (o :: rest) a := by
 refine BigFrame.wpQuiet_want hw fun K hK' => ⟨_, fun w hC => ?_, hK' _ hK⟩
 unfold Oper.quietAt execOp
 subst hr
 simp only [hop, hm, hx, Sem.run_bind, run_lookup_v ht (h w hC) k z (hz w) c, Sem.run_pure, Result.andThen_ok, Oper.quietUpon, and_self]
end
theorem MpAt.mapV {β : Type} {R : Rep β} {V : List Value → Value} {w : World} {P : Nat → Prop} {v : Value} {l : List (Tx × β)} (h : MpAt txE R V w P v l) :
 ∃ LA : List (Tx × (β × List Value)), MapV w v (LA.map fun p => (p.1, V p.2.2)) ∧ (∀ p ∈ LA, R.rep w P p.2.2 p.2.1) ∧ l = LA.map fun p => (p.1, p.2.1) := by
 obtain ⟨_, ⟨rfl, rfl⟩ | ⟨m, LA, rfl, _, hM, hr, hl⟩⟩ := h
 ·exact ⟨[], .inl ⟨rfl, rfl⟩, by simp, rfl⟩
 ·exact ⟨LA, .inr ⟨m, rfl, hM⟩, hr, hl⟩
theorem zero_held (w : World) : (zeroValue 192).run Tryz.prog w = .ok (.agg #[.int .i64 0, .int .i64 0, .int .i64 0, .string ⟨#[]⟩, .slice none 0 0, .int .i64 0, .int .i64 0, .int .i64 0, .slice none 0 0]) w := by kernel_rfl
theorem zero_i64 (w : World) : (zeroValue 3).run Tryz.prog w = .ok (.int .i64 0) w := by kernel_rfl
section
variable {β : Type} {R : Rep β} {V : List Value → Value} {w w' : World} {P P' : Nat → Prop} {LA : List (Tx × (β × List Value))}
theorem MpAt.with_ {m : Nat} {t : Tx} {a : β} {cs : List Value} (hn : ((LA.map fun p => (p.1, p.2.1)).map (·.1)).Nodup) (hr : ∀ p ∈ LA, R.rep w' P' p.2.2 p.2.1) (hM : MapAt txE w' m (assocPut t (V cs) (LA.map fun p => (p.1, V p.2.2)))) (ha : R.rep w' P' cs a) (hm : P' m) :
 MpAt txE R V w' P' (.map (some m)) (putA t a (LA.map fun p => (p.1, p.2.1))) := by
 refine ⟨putA_nodup hn, .inr ⟨m, putA t (a, cs) LA, rfl, hm, ?_, fun p hp => ?_, ?_⟩⟩
 ·rw [assocPut_eq, putA_map (fun x : β × List Value => V x.2) t (a, cs) LA] at hM; exact hM
 ·rcases putA_mem hp with rfl | h | h
  ·exact ha
  ·exact hr p h.1
  ·exact hr p h
 ·rw [putA_map (fun x : β × List Value => x.1) t (a, cs) LA]
end
theorem held_of {LA : List (Tx × (Held × List Value))} {w : World} {P : Nat → Prop} (hr : ∀ p ∈ LA, HeldR.rep w P p.2.2 p.2.1) (t : Tx) :
 (getA t (LA.map fun p => (p.1, p.2.1)) = none ∧ assocOf t (LA.map fun p => (p.1, aggV p.2.2)) = none) ∨
 ∃ h pA pc fA fc, getA t (LA.map fun p => (p.1, p.2.1)) = some h ∧ assocOf t (LA.map fun p => (p.1, aggV p.2.2)) = some (.agg (h.cellsV pA pc fA fc).toArray) ∧ h.tx.fit ∧ sfit h.batch.key ∧ h.stamp.fit ∧ (h.batch.puts.length ≤ pc ∧ pc ≤ 9223372036854775807 ∧ PutR.Row w P pA h.batch.puts) ∧ (h.firsts.length ≤ fc ∧ fc ≤ 9223372036854775807 ∧ IntR.Row w P fA h.firsts) := by
 rw [assocOf_eq, getA_map (fun x : Held × List Value => x.1) t LA, getA_map (fun x : Held × List Value => aggV x.2) t LA]
 cases hg : getA t LA with
 | none => exact .inl ⟨rfl, rfl⟩
 | some x =>
   obtain ⟨h, cs⟩ := x
   have := hr _ (getA_mem hg)
   dsimp only at this
   obtain ⟨pA, pc, fA, fc, rfl, h1, h2, h3, h4, h5⟩ := held_rep.1 this
   exact .inr ⟨h, pA, pc, fA, fc, rfl, rfl, h1, h2, h3, h4, h5⟩
theorem decided_of {LD : List (Tx × (Int × List Value))} {w : World} {P : Nat → Prop} (hr : ∀ p ∈ LD, IntR.rep w P p.2.2 p.2.1) (t : Tx) :
 (assocOf t (LD.map fun p => (p.1, oneV p.2.2))).getD (.int .i64 0) = .int .i64 ((getA t (LD.map fun p => (p.1, p.2.1))).getD 0) ∧ i64 ((getA t (LD.map fun p => (p.1, p.2.1))).getD 0) := by
 rw [assocOf_eq, getA_map (fun x : Int × List Value => x.1) t LD, getA_map (fun x : Int × List Value => oneV x.2) t LD]
 cases hg : getA t LD with
 | none => exact ⟨rfl, by simp [i64]⟩
 | some x =>
   obtain ⟨n, cs⟩ := x
   have := hr _ (getA_mem hg)
   dsimp only at this
   obtain ⟨rfl, h⟩ := this
   exact ⟨rfl, h⟩
structure HeldFit (h : Held) : Prop where
 few : h.batch.puts.length ≤ 8
 data : ∀ p ∈ h.batch.puts, p.data.length ≤ 20 ∧ 0 < p.data.length
 firsts : h.firsts.length ≤ 100 ∧ ∀ n ∈ h.firsts, -1000000000 ≤ n ∧ n ≤ 1000000000
structure Fit (s : St) : Prop where
 self : s.self ≠ 0
 ring : s.ring.length ≤ 1000000
 vers : ∀ n, 0 ≤ versionT s.table n ∧ versionT s.table n ≤ 40000
 fits : ∀ n k, (knownT s.table n k).1.fit
 fair : StFair s
 frozen : s.frozen.length ≤ 1000000
 held : ∀ x ∈ s.held, HeldFit x.2
theorem Fit.seen {s : St} (h : Fit s) {w : World} {P : Nat → Prop} {g : Nat} (hst : StAt w P g s) : Seen g s w :=
 ⟨h.self, h.ring, h.vers, h.fits, fun n W hn hW => by
  obtain ⟨v, hB, hI⟩ := hst
  exact busy_any g s n P W ⟨v, hB.ext hW, hI.same (js hW)⟩ h.frozen (fun x hx => by have := (h.held x hx).few; omega) hn⟩
def StOut (w : World) (P : Nat → Prop) (g : Nat) (q : St × Int) (e : Ending) (w' : World) : Prop :=
 e = .returned (.int .i64 q.2) ∧ StAt w' (fun k => P k ∨ w.heap.size ≤ k) g q.1 ∧ Only (· = g) w w'
theorem prepare_any (g : Nat) (s : St) (r : Rec) (nA pA sA : Option Addr) (nc pc sc : Nat) (P Q : Nat → Prop) (w : World) (h : StAt w P g s) (hg : ¬ P g) (hF : Fit s)
 (hr : RecAt w Q r nA nc pA pc sA sc) (hQ : ¬ Q g) (hl : r.batch.puts.length ≤ 1000000) (hd : ∀ p ∈ r.batch.puts, p.data.length ≤ 1000000) (hT : Tabs w) (h2 : 2 ≤ g) :
 Calls Tryz.prog 90 #[ptrV g, .agg (r.cells nA nc pA pc sA sc).toArray] w (StOut w P g (prepareS s r)) := by
 have hgl := h.lt
 have HH := jh (ja h (ja hg (ja hF (ja hr (ja hQ (ja hd hT))))))
 clear h hg hF hr hQ hd hT
 have hb1 := (jb w.heap.size w).al (.cells (r.cells nA nc pA pc sA sc).toArray 46)
 have B0 := Blk.new w 46 (r.cells nA nc pA pc sA sc)
 have hs1 : (w.alloc (.cells (r.cells nA nc pA pc sA sc).toArray 46)).heap.size = w.heap.size + 1 := by simp
 unfold ptrV
 go_enter Tryz.func90, Tryz.ntmps90
 go_upto_region 1 with fail
 refine forget (M := fun W => Code.wp _ _ _ _ W) (fun W => Below w.heap.size w W ∧ Blk W w.heap.size 46 (r.cells nA nc pA pc sA sc) ∧ W.heap.size = w.heap.size + 1) ⟨hb1, B0, hs1⟩ ?_
 clear B0 hb1 hs1
 rintro w1 ⟨hb1, B0, hs1⟩
 obtain ⟨v, hB, hI⟩ := HH.out.1
 have HB := jh (ja hB hI)
 obtain ⟨LA, hMV, hrep, hlA⟩ := hI.held.mapV
 obtain ⟨LD, hMD, hrepD, hlD⟩ := hI.decided.mapV
 have HE := jh (show prepareS s r = if (getA r.tx s.held).isSome then (s, 11) else if 0 < (getA r.tx s.decided).getD 0 then (s, 1) else if (mayS s r.batch).2.2 = 0 then ({ s with held := putA r.tx ⟨r.tx, r.batch, r.stamp, (mayS s r.batch).1⟩ s.held }, 0) else (s, (mayS s r.batch).2.2) from rfl)
 obtain ⟨hdec, hdfit⟩ := decided_of hrepD r.tx
 rw [← hlD] at hdec hdfit
 have hho := held_of hrep r.tx
 rw [← hlA] at hho
 have y6 := On.cell ((hB.ext hb1).cell 6 : w1.cell? ⟨g, 6, none⟩ = some v.held)
 have y8 := On.cell ((hB.ext hb1).cell 8 : w1.cell? ⟨g, 8, none⟩ = some v.decided)
 have z7 := On.cell (B0.cell 7 : w1.cell? ⟨w.heap.size, 7, none⟩ = some (.int .i64 r.tx.node))
 have z8 := On.cell (B0.cell 8 : w1.cell? ⟨w.heap.size, 8, none⟩ = some (.int .i64 r.tx.life))
 have z9 := On.cell (B0.cell 9 : w1.cell? ⟨w.heap.size, 9, none⟩ = some (.int .i64 r.tx.num))
 have HMV := jh (fun (W : World) (hW : ∃ d : Wd (On w1), W = d.w) => (show MapV W v.held (LA.map fun p => (p.1, aggV p.2.2)) from by obtain ⟨d, rfl⟩ := hW; exact hMV.ext (hb1.tr d.ok)))
 have H1 := jh (ja hb1 (ja B0 hs1))
 have HMD := jh (fun (W : World) (hW : ∃ d : Wd (On w1), W = d.w) => (show MapV W v.decided (LD.map fun p => (p.1, oneV p.2.2)) from by obtain ⟨d, rfl⟩ := hW; exact hMD.ext (hb1.tr d.ok)))
 have HREP := jh (ja hrep hlA)
 have HDEC := jh hdec
 clear hB hI hMV hMD hb1 B0 hs1 hrep hlA hrepD hlD hdec
 refine wp_region_mix (.seg [0, 1, 2, 3, 4, 5, 6, 7, 8, 9] 10 (.seg [] 11 (.leaf [12]))) (fun w' => ∃ d : Wd (On w1), w' = d.w) (by kernel_rfl) (by kernel_rfl) (fun _ _ d _ _ h => by cases d <;> exact h) (ClsW.mk (jb _ _).drew) ?_
 unfold wpMix; simp only [pick, j1, j2, j3, j4]
 rcases hho with ⟨hg0, hq⟩ | ⟨hh, qA, qc, uA, uc, hg1, hq, _⟩
 ·have HG := jh hg0
  clear hg0
  (repeat (show wpQuiet _ _ _ _ (_ :: _) _; first | (refine wpQuiet_lookup_v none rfl (.tmp 14) (.tmp 16) 172 true rfl Tryz.underlying172 rfl HMV.out r.tx rfl hq _ zero_held ?_; simp only [Option.getD_none, Option.isSome_none, if_true]; go_simp) | go_big_quiet_step (fail))); refine qn ?_
  go_wp2_with fail
  (refine segw (D := On w1) (by unfold On; repeat (with_reducible first | assumption | exact jb _ _ | refine Below.al ?_ _ | refine Below.drew ?_ | apply Below.st1)) ?_; unfold wpMix; simp only [pick, j1, j2, j3, j4]; (repeat (show wpQuiet _ _ _ _ (_ :: _) _; go_big_quiet_step (fail))); refine qn ?_)
  go_wp2_with fail
  (refine segw (D := On w1) (by unfold On; repeat (with_reducible first | assumption | exact jb _ _ | refine Below.al ?_ _ | refine Below.drew ?_ | apply Below.st1)) ?_; unfold wpMix; simp only [pick, j1, j2, j3, j4]; (repeat (show wpQuiet _ _ _ _ (_ :: _) _; go_big_quiet_step (fail))); refine qn ?_)
  go_upto_region 4 with fail
  have h14 : Below w1.heap.size w1 ((w1.alloc (.cells #[.int .i64 0, .int .i64 0, .int .i64 0, .string ⟨#[]⟩, .slice none 0 0, .int .i64 0, .int .i64 0, .int .i64 0, .slice none 0 0] 192)).drew) := by repeat (with_reducible first | assumption | exact jb _ _ | refine Below.al ?_ _ | refine Below.drew ?_ | apply Below.st1)
  generalize hw4 : ((w1.alloc (.cells #[.int .i64 0, .int .i64 0, .int .i64 0, .string ⟨#[]⟩, .slice none 0 0, .int .i64 0, .int .i64 0, .int .i64 0, .slice none 0 0] 192)).drew) = w4 at *
  clear hw4 hq
  have h14d : Below w1.heap.size w1 w4.drew := h14.drew
  have hst4 : StAt w4.drew P g s := ⟨v, HB.out.1.ext (H1.out.1.tr h14d), HB.out.2.same (js (H1.out.1.tr h14d))⟩
  refine wp_region_mix (.leaf [0, 1, 2, 3, 4, 5, 6, 7]) (fun w' => ∃ d : Wd (On w1), w' = d.w) (by kernel_rfl) (by kernel_rfl) (fun _ _ d _ _ h => by cases d <;> exact h) (ClsW.mk h14d) ?_
  unfold wpMix; simp only [pick, j1, j2, j3, j4]
  (repeat (show wpQuiet _ _ _ _ (_ :: _) _; first | (refine wpQuiet_lookup_v _ rfl (.tmp 24) (.tmp 26) 174 false rfl Tryz.underlying174 rfl HMD.out r.tx rfl rfl _ zero_i64 ?_; simp only [Bool.false_eq_true, if_false]; rw [HDEC.out]; go_simp) | go_big_quiet_step (fail))); refine qn ?_
  by_cases hpos : 0 < (getA r.tx s.decided).getD 0
  ·have HS := jh (show prepareS s r = (s, 1) from by rw [HE.out, HG.out]; simp [hpos])
   have HF4 := jh (ja hst4 (H1.out.1.tr h14d))
   clear hst4 h14d h14
   go_wp2_with fail
   go_ret
   unfold StOut
   rw [HS.out]
   obtain ⟨v', a1, a2⟩ := HF4.out.1
   exact ⟨rfl, ⟨v', a1, a2.mono fun k hk => .inl hk⟩, jo HF4.out.2⟩
  ·have HS := jh (show prepareS s r = if (mayS s r.batch).2.2 = 0 then ({ s with held := putA r.tx ⟨r.tx, r.batch, r.stamp, (mayS s r.batch).1⟩ s.held }, 0) else (s, (mayS s r.batch).2.2) from by rw [HE.out, HG.out, if_neg (by simp), if_neg hpos])
   have hw4 := H1.out.1.tr h14d
   have x11 : w4.drew.cell? ⟨w.heap.size, 11, none⟩ = some (.string r.batch.key) := (H1.out.2.1.ext h14d).cell 11
   have x12 : w4.drew.cell? ⟨w.heap.size, 12, none⟩ = some (.slice pA r.batch.puts.length pc) := (H1.out.2.1.ext h14d).cell 12
   have C1 := may_any' g s r.batch pA pc P Q w4.drew hst4 (HH.out.2.2.1.seen hst4) (HH.out.2.2.2.1.puts.2.2.ext hw4) hl HH.out.2.2.2.1.key HH.out.2.2.2.2.2.1 (HH.out.2.2.2.2.2.2.below hw4) (by have := hw4.size; omega)
   unfold Got3 ptrV at C1
   have HM := jh (@mayS_ok s r.batch)
   generalize hq : mayS s r.batch = q at *
   obtain ⟨fl, kn, code⟩ := q
   simp only at C1
   have H4 := jh (ja h14d hw4)
   clear hq h14 h14d hw4 hst4
   go_wp2_with fail
   refine C1.mono ?_
   clear C1 x11 x12
   rintro e w5 ⟨⟨fv, rfl, hfv⟩, hb5⟩
   have hb6 := hb5.al (.cells #[.string kn.key, .int .i64 kn.first, .int .i64 kn.stamp.wall, .int .i64 kn.stamp.logic, .int .i64 kn.stamp.node] 49)
   have hfv6 := hfv.alloc (.cells #[.string kn.key, .int .i64 kn.first, .int .i64 kn.stamp.wall, .int .i64 kn.stamp.logic, .int .i64 kn.stamp.node] 49)
   obtain ⟨Af, cf, rfl, hcf, hcfm⟩ := hfv.form
   go_upto_region 7 with fail
   generalize (w5.alloc (.cells #[.string kn.key, .int .i64 kn.first, .int .i64 kn.stamp.wall, .int .i64 kn.stamp.logic, .int .i64 kn.stamp.node] 49)) = w6 at *
   have h16 := H4.out.1.tr hb6
   have hw6 := H4.out.2.tr hb6
   by_cases hcd : code = 0
   ·have hm := HM.out hcd
    have hgd := checkB_good hm.1
    have hbd := mayV_bound s.table HH.out.2.2.1.vers r.batch.puts [] (by simp) (by simp; have := hgd.few; omega)
    rw [← hm.2] at hbd
    have HS2 := jh (show prepareS s r = ({ s with held := putA r.tx ⟨r.tx, r.batch, r.stamp, fl⟩ s.held }, 0) from by rw [HS.out]; exact if_pos hcd)
    have B6 := H1.out.2.1.ext h16
    have b6 : w6.cell? ⟨g, 6, none⟩ = some v.held := (HB.out.1.ext hw6).cell 6
    have b6f : w6.frozen? ⟨g, 6, none⟩ = false := (HB.out.1.ext hw6).frozen 6
    have u6 := On.cell b6
    have u7 := On.cell (B6.cell 7 : w6.cell? ⟨w.heap.size, 7, none⟩ = some (.int .i64 r.tx.node))
    have u8 := On.cell (B6.cell 8 : w6.cell? ⟨w.heap.size, 8, none⟩ = some (.int .i64 r.tx.life))
    have u9 := On.cell (B6.cell 9 : w6.cell? ⟨w.heap.size, 9, none⟩ = some (.int .i64 r.tx.num))
    have u11 := On.cell (B6.cell 11 : w6.cell? ⟨w.heap.size, 11, none⟩ = some (.string r.batch.key))
    have u12 := On.cell (B6.cell 12 : w6.cell? ⟨w.heap.size, 12, none⟩ = some (.slice pA r.batch.puts.length pc))
    have u4 := On.cell (B6.cell 4 : w6.cell? ⟨w.heap.size, 4, none⟩ = some (.int .i64 r.stamp.wall))
    have u5 := On.cell (B6.cell 5 : w6.cell? ⟨w.heap.size, 5, none⟩ = some (.int .i64 r.stamp.logic))
    have u6b := On.cell (B6.cell 6 : w6.cell? ⟨w.heap.size, 6, none⟩ = some (.int .i64 r.stamp.node))
    have hMV6 := jh (HMV.out w6 ⟨⟨w6, h16⟩, rfl⟩)
    have hrowF := hfv6.row' (P := fun k => k < w6.heap.size) int_plain (fun k hk => (hfv6.lt k hk).2)
    have hrowP := (HH.out.2.2.2.1.puts.2.2.ext hw6).mono (Q := fun k => k < w6.heap.size) (fun k _ hk => hk)
    have H6 := jh (ja hw6 (ja hrowF (ja hrowP (ja hgd hbd))))
    subst hcd
    clear hm hgd hbd B6 h16 hw6 hb6 hfv hfv6 hb5 hrowF hrowP b6 b6f
    go_upto_region 8 with fail
    refine wp_region_mix (.seg [0, 1, 2, 3, 4, 5, 6, 7, 8, 9, 10, 11, 12, 13] 14 (.seg [] 15 (.seg [] 16 (.seg [] 17 (.last [18] 19))))) (fun w' => ∃ d : Wd (On w6), w' = d.w) (by kernel_rfl) (by kernel_rfl) (fun _ _ d _ _ h => by cases d <;> exact h) (ClsW.mk (jb _ _).drew) ?_
    unfold wpMix; simp only [pick, j1, j2, j3, j4]
    (repeat (show wpQuiet _ _ _ _ (_ :: _) _; go_big_quiet_step (fail))); refine qn ?_
    go_wp2_with fail
    (refine segw (D := On w6) (by unfold On; repeat (with_reducible first | assumption | exact jb _ _ | refine Below.al ?_ _ | refine Below.drew ?_ | apply Below.st1)) ?_; unfold wpMix; simp only [pick, j1, j2, j3, j4]; (repeat (show wpQuiet _ _ _ _ (_ :: _) _; go_big_quiet_step (fail))); refine qn ?_)
    have hd6 : Below w6.heap.size w6 w6.drew := (jb _ _).drew
    have CO := own_any ⟨r.tx, r.batch, r.stamp, fl⟩ pA Af pc cf (fun k => k < w6.heap.size) w6.drew (H6.out.2.2.1.ext hd6) (H6.out.2.1.ext hd6) (by have := H6.out.2.2.2.1.few; show r.batch.puts.length ≤ _; omega) (fun p hp => by have := (H6.out.2.2.2.1.puts p hp).1.1; omega) (by have := H6.out.2.2.2.2.1; show fl.length ≤ _; omega)
    unfold Held.cellsV at CO
    go_wp2_with fail
    refine CO.mono ?_
    clear CO
    rintro e w7 ⟨⟨p7, pc7, f7, fc7, rfl, hp7, hf7⟩, hb7⟩
    unfold Held.cellsV
    have h67 := hd6.tr hb7
    go_wp2_with fail
    (refine segw (D := On w6) (h67) ?_; unfold wpMix; simp only [pick, j1, j2, j3, j4]; (repeat (show wpQuiet _ _ _ _ (_ :: _) _; go_big_quiet_step (fail))); refine qn ?_)
    have CW := withH_any v.held _ r.tx r.tx.node r.tx.life r.tx.num r.stamp.wall r.stamp.logic r.stamp.node r.batch.key p7 f7 r.batch.puts.length pc7 fl.length fc7 w7 (hMV6.out.ext h67)
    unfold txE at CW
    go_wp2_with fail
    refine CW.mono ?_
    clear CW
    rintro e w8 ⟨⟨m8, rfl, hm8, hM8⟩, hb8⟩
    have h68 := h67.tr hb8
    have hw8 := H6.out.1.tr h68
    have b6 : w8.cell? ⟨g, 6, none⟩ = some v.held := (HB.out.1.ext hw8).cell 6
    have b6f : w8.frozen? ⟨g, 6, none⟩ = false := (HB.out.1.ext hw8).frozen 6
    have hp8 := hp7.2.2.ext hb8
    have hf8 := hf7.2.2.ext hb8
    go_wp2_with fail
    (refine segw (D := On w6) (h68) ?_; unfold wpMix; simp only [pick, j1, j2, j3, j4]; (repeat (show wpQuiet _ _ _ _ (_ :: _) _; go_big_quiet_step (fail))); refine qn ?_)
    go_wp2_with fail
    (refine segw (D := On w6) (h68) ?_; unfold wpMix; simp only [pick, j1, j2, j3, j4]; (repeat (show wpQuiet _ _ _ _ (_ :: _) _; go_big_quiet_step (fail))); refine qn ?_)
    have B9 : Blk (w8.setCell ⟨g, 6, none⟩ (.map (some m8))) g 176 (St.cells { s with held := putA r.tx ⟨r.tx, r.batch, r.stamp, fl⟩ s.held } { v with held := .map (some m8) }) := (HB.out.1.ext hw8).set_ 6 (.map (some m8))
    have O9 : Only (fun k => k = g) w8 (w8.setCell ⟨g, 6, none⟩ (.map (some m8))) := Only.set_ (F := fun k => k = g) rfl _
    have H9 := jh (ja B9 (ja O9 (ja hw8 (ja hp8 (ja hf8 (ja hp7 hf7))))))
    have HM8 := jh (ja hm8 (ja hM8 (ja h68 h67.size)))
    clear B9 O9 hw8 hp8 hf8 hp7 hf7 hm8 hM8 h68 hb8 h67 hb7 hd6
    go_wp2_with fail
    dsimp only [wpList, SegQ]
    generalize hw9 : w8.setCell ⟨g, 6, none⟩ (.map (some m8)) = w9 at *
    clear hw9 b6 b6f u4 u5 u6 u6b u7 u8 u9 u11 u12
    go_wp2_with fail
    go_ret
    unfold StOut
    rw [HS2.out]
    obtain ⟨B9, O9, hw8, hp8, hf8, hp7, hf7⟩ := H9.out
    obtain ⟨hm8, hM8, h68, hz8⟩ := HM8.out
    have hO : Only (· = g) w w9 := (jo hw8).tr O9
    have hI9 := (HB.out.2.same (Same.of_only hO fun k hk e => HH.out.2.1 (e ▸ hk))).mono (Q := fun k => P k ∨ w.heap.size ≤ k) fun k hk => .inl hk
    have hz6 := h68.size
    have hz7 := H6.out.1.size
    have hzd : w6.drew.heap.size = w6.heap.size := rfl
    have hnd := HB.out.2.held.1
    rw [HREP.out.2] at hnd ⊢
    refine ⟨rfl, ⟨_, B9, ⟨hI9.fit, hI9.ring, hI9.table, ?_, hI9.outcomes, hI9.decided, hI9.frozen, hI9.log⟩⟩, hO⟩
    have hgm : w6.heap.size ≤ m8 := by have := hm8; omega
    refine MpAt.with_ (cs := Held.cellsV ⟨r.tx, r.batch, r.stamp, fl⟩ p7 pc7 f7 fc7) hnd (fun p hp => HeldR.mono (HeldR.same (HREP.out.1 p hp) (Same.of_only hO fun k hk e => HH.out.2.1 (e ▸ hk))) fun k hk _ => .inl hk) (hM8.only O9 (fun e => by have e' : m8 = g := e; omega)) ?_ (.inr (by omega))
    refine held_rep.2 ⟨p7, pc7, f7, fc7, rfl, HH.out.2.2.2.1.tx, HH.out.2.2.2.1.key, HH.out.2.2.2.1.stamp, ⟨hp7.1, hp7.2.1, ?_⟩, ⟨hf7.1, hf7.2.1, ?_⟩⟩
    ·exact (hp8.same (Same.of_only O9 fun k hk e => by have e' : k = g := e; omega) O9.size).mono fun k hk _ => .inr (by omega)
    ·exact (hf8.same (Same.of_only O9 fun k hk e => by have e' : k = g := e; omega) O9.size).mono fun k hk _ => .inr (by omega)
   ·have hc' : (code == 0) = false := by rw [beq_eq_false_iff_ne]; exact hcd
    have HS2 := jh (show prepareS s r = (s, code) from by rw [HS.out]; exact if_neg hcd)
    have H6 := jh hw6
    clear hcd h16 hw6 hb6 hfv hfv6 hb5
    go_wp2_with fail
    go_ret
    unfold StOut
    rw [HS2.out]
    exact ⟨rfl, ⟨v, HB.out.1.ext H6.out, (HB.out.2.same (js H6.out)).mono fun k hk => .inl hk⟩, jo H6.out⟩
 ·have HS := jh (show prepareS s r = (s, 11) from by rw [HE.out, hg1]; rfl)
  clear hg1
  (repeat (show wpQuiet _ _ _ _ (_ :: _) _; first | (refine wpQuiet_lookup_v _ rfl (.tmp 14) (.tmp 16) 172 true rfl Tryz.underlying172 rfl HMV.out r.tx rfl hq _ zero_held ?_; simp only [Option.getD_some, Option.isSome_some, if_true]; unfold Held.cellsV; go_simp) | go_big_quiet_step (fail))); refine qn ?_
  go_wp2_with fail
  (refine segw (D := On w1) (by unfold On; repeat (with_reducible first | assumption | exact jb _ _ | refine Below.al ?_ _ | refine Below.drew ?_ | apply Below.st1)) ?_; unfold wpMix; simp only [pick, j1, j2, j3, j4]; (repeat (show wpQuiet _ _ _ _ (_ :: _) _; go_big_quiet_step (fail))); refine qn ?_)
  go_wp2_with fail
  (refine segw (D := On w1) (by unfold On; repeat (with_reducible first | assumption | exact jb _ _ | refine Below.al ?_ _ | refine Below.drew ?_ | apply Below.st1)) ?_; unfold wpMix; simp only [pick, j1, j2, j3, j4]; (repeat (show wpQuiet _ _ _ _ (_ :: _) _; go_big_quiet_step (fail))); refine qn ?_)
  go_wp2_with fail
  go_ret
  unfold StOut
  rw [HS.out]
  have hb4 : Below w.heap.size w ((w1.alloc (.cells #[.int .i64 hh.tx.node, .int .i64 hh.tx.life, .int .i64 hh.tx.num, .string hh.batch.key, .slice qA hh.batch.puts.length qc, .int .i64 hh.stamp.wall, .int .i64 hh.stamp.logic, .int .i64 hh.stamp.node, .slice uA hh.firsts.length uc] 192)).drew) := (H1.out.1.al _).drew
  exact ⟨rfl, ⟨v, HB.out.1.ext hb4, (HB.out.2.same (js hb4)).mono fun k hk => .inl hk⟩, jo hb4⟩
end Go.Proofs.YtcmjgghkmdbphaaGreatDoor
namespace Go.Proofs.YtcmjgghkmdbphaaGreatDoor
open Go.RowKit
theorem recCheck_any (r : Rec) (nA pA sA : Option Addr) (nc pc sc : Nat) (P : Nat → Prop) (w : World) (hr : RecAt w P r nA nc pA pc sA sc) (hF : r.Fair) (hTb : Tabs w) (h2 : 2 ≤ w.heap.size) :
 Calls Tryz.prog 87 #[.agg (r.cells nA nc pA pc sA sc).toArray] w fun e w' => e = .returned (.int .i64 (checkR r)) ∧ Below w.heap.size w w' := by
 have C := fun W (h : Below w.heap.size w W) => recEncode_any r nA pA sA nc pc sc P W (hr.ext (js h) h.size) hF (hTb.below h) (by have := h.size; omega)
 unfold Rec.cells at C ⊢
 clear hr hF hTb
 go_enter Tryz.func87, Tryz.ntmps87
 go_wp2_with fail
 refine (C _ ((jb _ _).al _)).mono ?_
 clear C
 rintro e w1 ⟨⟨v, rfl⟩, hb1⟩
 go_wp2_with fail
 go_ret
 exact ⟨rfl, ((jb _ _).al _).tr hb1⟩
end Go.Proofs.YtcmjgghkmdbphaaGreatDoor
namespace Go.Proofs.YtcmjgghkmdbphaaGreatDoor
open Go.RowKit
theorem checkR_iff {r : Rec} : checkR r = 0 ↔ namedK r.kind = true ∧ spareB r (fieldsF r.kind) = true ∧ headBad r (fieldsF r.kind) = false ∧ listsBad r (fieldsF r.kind) = false := by
 unfold checkR recB
 cases namedK r.kind <;> cases spareB r (fieldsF r.kind) <;> cases headBad r (fieldsF r.kind) <;> cases listsBad r (fieldsF r.kind) <;> simp
theorem checkR_kind {r : Rec} (h : checkR r = 0) : 1 ≤ r.kind ∧ r.kind ≤ 11 := by
 have := (checkR_iff.1 h).1
 simpa [namedK] using this
theorem checkR_batch {r : Rec} (h : checkR r = 0) (hk : r.kind = 3 ∨ r.kind = 4) : checkB r.batch = 0 ∧ soundB r.stamp = true := by
 have := (checkR_iff.1 h).2.2.1
 rcases hk with hk | hk <;> (rw [hk] at this; simp [headBad, fieldsF] at this)
 ·exact this
 ·exact this.2
theorem checkR_stamp {r : Rec} (h : checkR r = 0) (hk : r.kind = 5 ∨ r.kind = 6) : soundB r.stamp = true := by
 have := (checkR_iff.1 h).2.2.1
 rcases hk with hk | hk <;> (rw [hk] at this; simp [headBad, fieldsF] at this) <;> exact this.2
theorem checkR_span {r : Rec} (h : checkR r = 0) (hk : r.kind = 9 ∨ r.kind = 10 ∨ r.kind = 11) : 0 ≤ r.range.first ∧ 0 ≤ r.range.last ∧ 0 ≤ r.range.owner ∧ 0 ≤ r.range.epoch := by
 have := (checkR_iff.1 h).2.2.1
 rcases hk with hk | hk | hk <;> (rw [hk] at this; simp [headBad, fieldsF, inW] at this) <;> omega
def lifeS (s : St) (r : Rec) : St × Int := if r.n ≤ s.life then (s, 1) else ({ s with life := r.n }, 0)
def ceilS (s : St) (r : Rec) : St × Int := if r.n ≤ s.ceiling then (s, 1) else ({ s with ceiling := r.n }, 0)
def doS (s : St) (r : Rec) : St × Int :=
 if r.kind = 1 then lifeS s r else if r.kind = 2 then ceilS s r else if r.kind = 3 then commitS s r else if r.kind = 4 then prepareS s r else if r.kind = 5 then decideS s r
 else if r.kind = 6 then outcomeS s r else if r.kind = 7 then forgetS s r else if r.kind = 8 then splitS s r else if r.kind = 9 then freezeS s r else if r.kind = 10 then installS s r else releaseS s r
def applyS (s : St) (r : Rec) : St × Int := if checkR r ≠ 0 then (s, checkR r) else doS s r
def heldD (l : List (Tx × Held)) : Nat := (l.map fun p => sumD p.2.batch.puts).sum
def costR (r : Rec) : Nat := sumD r.batch.puts + (r.streams.map fun s => s.events.length + s.keys.length + 1).sum
structure HeldOk (s : St) (h : Held) : Prop where
 check : checkB h.batch = 0
 firsts : h.firsts = firstsT s.table h.batch.puts
 serves : ∀ p ∈ h.batch.puts, servesS s p.stream = true
 warm : ∀ p ∈ h.batch.puts, ∀ f ∈ s.frozen, f.range.has (hashS p.stream) = false
def Apart (p q : Tx × Held) : Prop := ∀ a ∈ p.2.batch.puts, ∀ b ∈ q.2.batch.puts, a.stream ≠ b.stream
structure Inv (s : St) (N : Nat) : Prop where
 self : 1 ≤ s.self ∧ s.self ≤ s.nodes ∧ s.nodes ≤ 5
 ring : soundR s.ring = true
 tab : s.table.Ok
 size : s.table.length + heldD s.held ≤ N
 evs : ∀ n, (evT s.table n).length + heldD s.held ≤ N
 kys : ∀ n, (kyT s.table n).length + heldD s.held ≤ N
 log : s.log.length + heldD s.held ≤ N
 held : ∀ p ∈ s.held, HeldOk s p.2
 apart : s.held.Pairwise Apart
 nd : (s.held.map (·.1)).Nodup
 frozen : ∀ f ∈ s.frozen, f.range ∈ s.ring ∧ f.range.owner = s.self ∧ f.to ≠ s.self
 fnd : (s.frozen.map Rec.range).Nodup
theorem Inv.mono {s : St} {N M : Nat} (h : Inv s N) (hm : N ≤ M) : Inv s M :=
 { h with size := Nat.le_trans h.size hm, evs := fun n => Nat.le_trans (h.evs n) hm, kys := fun n => Nat.le_trans (h.kys n) hm, log := Nat.le_trans h.log hm }
theorem serves_iff {s : St} (hs : soundR s.ring = true) (n : Str) : servesS s n = true ↔ ∃ x ∈ s.ring, x.has (hashS n) = true ∧ x.owner = s.self := by
 have hb := hashS_bd n
 obtain ⟨a, x, b, hl, hx, _, hf⟩ := at_spec hs hb.1 hb.2
 unfold servesS ofR
 rw [hf]
 simp only [Bool.true_and, decide_eq_true_eq]
 constructor
 ·intro h; exact ⟨x, by rw [hl]; simp, hx, h⟩
 ·rintro ⟨y, hy, h1, h2⟩
  rw [← h2, soundFrom_uniq (sound_iff.1 hs).1 (show x ∈ s.ring by rw [hl]; simp) hy hx h1]
theorem mayP_zero {s : St} {l : List Put} (h : mayP s l = 0) : ∀ p ∈ l, servesS s p.stream = true ∧ busyS s p.stream = false := by
 induction l with
 | nil => simp
 | cons p l ih =>
   unfold mayP at h
   split at h
   ·omega
   ·rename_i h1
    split at h
    ·omega
    ·rename_i h2
     intro q hq
     rcases List.mem_cons.1 hq with rfl | hq
     ·exact ⟨by simpa using h1, by simpa using h2⟩
     ·exact ih h q hq
theorem mayV_zero {T : Tab} {l : List Put} {f : List Int} (h : (mayV T l f).2.2 = 0) : (mayV T l f).1 = f ++ firstsT T l ∧ ∀ p ∈ l, p.expect = -1 ∨ p.expect = versionT T p.stream := by
 induction l generalizing f with
 | nil => simp [mayV, firstsT]
 | cons p l ih =>
   unfold mayV at h ⊢
   split at h
   ·cases h
   ·rename_i hc
    rw [if_neg hc]
    obtain ⟨h1, h2⟩ := ih h
    refine ⟨by rw [h1]; simp [firstsT], fun q hq => ?_⟩
    rcases List.mem_cons.1 hq with rfl | hq
    ·by_cases c : q.expect = -1
     ·exact .inl c
     ·exact .inr (Decidable.byContradiction fun c2 => hc ⟨c, c2⟩)
    ·exact h2 q hq
theorem mayS_zero {s : St} {b : Batch} (h : (mayS s b).2.2 = 0) : checkB b = 0 ∧ (∀ p ∈ b.puts, servesS s p.stream = true ∧ busyS s p.stream = false) ∧ (knownS s b).2.2 = 0 ∧ (mayS s b).1 = firstsT s.table b.puts ∧ ∀ p ∈ b.puts, p.expect = -1 ∨ p.expect = versionT s.table p.stream := by
 unfold mayS at h ⊢
 split at h
 ·rename_i h1; exact absurd h h1
 ·rename_i h1
  rw [if_neg h1]
  split at h
  ·rename_i h2; exact absurd h h2
  ·rename_i h2
   rw [if_neg h2]
   split at h
   ·rename_i h3; exact absurd h h3
   ·rename_i h3
    rw [if_neg h3]
    obtain ⟨h4, h5⟩ := mayV_zero h
    exact ⟨by omega, mayP_zero (by omega), by omega, by simpa using h4, h5⟩
theorem putA_len {κ β : Type} [DecidableEq κ] (k : κ) (v : β) (l : List (κ × β)) : (putA k v l).length ≤ l.length + 1 := by
 induction l with
 | nil => simp [putA]
 | cons p l ih => obtain ⟨x, u⟩ := p; unfold putA; split <;> simp; omega
theorem appendT_len (k : Str) (l : List Event) (T : Tab) : (appendT k l T).1.length ≤ T.length + 1 ∧ ∀ n, (kyT (appendT k l T).1 n).length ≤ (kyT T n).length + 1 := by
 unfold appendT
 cases l with
 | nil => exact ⟨by simp, fun n => by simp⟩
 | cons e l =>
   dsimp only
   split
   ·exact ⟨by simp, fun n => by simp⟩
   ·split
    ·exact ⟨by simp, fun n => by simp⟩
    ·refine ⟨putA_len _ _ _, fun n => ?_⟩
     rw [kyT_put]
     split
     ·rename_i hn; subst hn
      rw [ts_getD]
      unfold addKey
      split
      ·exact putA_len _ _ _
      ·simp
     ·omega
theorem putP_len (k : Str) : ∀ (l : List Put) (E : List Event) (T : Tab), (putP k l E T).length ≤ T.length + l.length ∧ ∀ n, (kyT (putP k l E T) n).length ≤ (kyT T n).length + l.length
 | [], E, T => ⟨by simp [putP], fun n => by simp [putP]⟩
 | p :: l, E, T => by
   obtain ⟨h1, h2⟩ := appendT_len k (E.take p.data.length) T
   obtain ⟨h3, h4⟩ := putP_len k l (E.drop p.data.length) (appendT k (E.take p.data.length) T).1
   unfold putP
   refine ⟨by rw [List.length_cons]; omega, fun n => ?_⟩
   have := h2 n; have := h4 n
   rw [List.length_cons]; omega
theorem fresh_len {T : Tab} (hT : T.Ok) : (freshT T).length = T.length ∧ ∀ n, (kyT (freshT T) n).length = (kyT T n).length := by
 obtain ⟨hL, hO⟩ := fresh_like hashS_bd hT
 refine ⟨?_, fun n => ?_⟩
 ·have := (perm_of_mem hO.nd hT.nd (like_mem hL)).length_eq
  simpa using this
 ·have hn := hL n
  have h1 := ev_ok hO n
  have h2 := ev_ok hT n
  have : ((kyT (freshT T) n).map (·.1)).Perm ((kyT T n).map (·.1)) := by
   refine perm_of_mem h1.2.2.2 h2.2.2.2 fun x => ?_
   have e : getA x (kyT (freshT T) n) = getA x (kyT T n) := by
    unfold kyT
    cases h3 : getA n (freshT T) <;> cases h4 : getA n T <;> rw [h3, h4] at hn
    ·exact hn.elim
    ·exact hn.elim
    ·exact hn.2 x
   cases h : getA x (kyT T n) with
   | none =>
     rw [h] at e
     exact ⟨fun q => absurd q (getA_none.1 e), fun q => absurd q (getA_none.1 h)⟩
   | some y =>
     rw [h] at e
     exact ⟨fun _ => List.mem_map.2 ⟨_, getA_mem h, rfl⟩, fun _ => List.mem_map.2 ⟨_, getA_mem e, rfl⟩⟩
  simpa using this.length_eq
theorem puts_le_sum {l : List Put} (h : ∀ p ∈ l, PutOk p) : l.length ≤ sumD l := by
 induction l with
 | nil => simp
 | cons p l ih =>
   have h1 := ih fun q hq => h q (by simp [hq])
   have h2 : p.data.length ≠ 0 := fun e => (h p (by simp)).full (List.length_eq_zero_iff.1 e)
   simp only [sumD, List.map_cons, List.sum_cons, List.length_cons] at *
   omega
theorem sumD_le {l : List Put} (h : ∀ p ∈ l, PutOk p) : sumD l ≤ 20 * l.length := by
 induction l with
 | nil => simp [sumD]
 | cons p l ih =>
   have h1 := ih fun q hq => h q (by simp [hq])
   have h2 := (h p (by simp)).few
   simp only [sumD, List.map_cons, List.sum_cons, List.length_cons] at *
   omega
structure PutS (s : St) (b : Batch) (st : Stamp) (s' : St) : Prop where
 rest : s' = { s with table := s'.table, log := s'.log }
 ok : s'.table.Ok
 log : s'.log = s.log ++ makeB b (firstsT s.table b.puts) st 0
 evs : ∀ n, evT s'.table n = evT s.table n ++ (makeB b (firstsT s.table b.puts) st 0).filter fun e => decide (e.stream = n)
 knows : ∀ n x, knownT s'.table n x = knowsT s.table b.key st (b.puts.any fun p => decide (p.stream = n)) n x
 size : s'.table.length ≤ s.table.length + b.puts.length
 kys : ∀ n, (kyT s'.table n).length ≤ (kyT s.table n).length + b.puts.length
theorem firsts_like {T T' : Tab} (h : T.Like T') (l : List Put) : firstsT T l = firstsT T' l := List.map_congr_left fun p _ => by rw [TS.Like.version h]
theorem putS_spec {s : St} {b : Batch} {st : Stamp} (hT : s.table.Ok) (hc : checkB b = 0) (hst : soundB st = true) (hv : ∀ n, (evT s.table n).length ≤ 1000000) : PutS s b st (putS s b (firstsT s.table b.puts) st) := by
 obtain ⟨hL, hO⟩ := fresh_like hashS_bd hT
 have hg := checkB_good hc
 have hp := hg.putOk
 have h1 := sumD_le hp
 have h2 := hg.few
 have e := firsts_like hL b.puts
 obtain ⟨a1, a2, a3⟩ := putP_spec (k := b.key) (st := st) hg.key hst b.puts 0 (freshT s.table) hO (checkB_dist hc) hp (fun n => by
  have := hv n
  rw [version_ev, like_ev hL]; omega) (by omega)
 rw [e] at a1 a2 a3
 obtain ⟨l1, l2⟩ := putP_len b.key b.puts (makeB b (firstsT s.table b.puts) st 0) (freshT s.table)
 obtain ⟨f1, f2⟩ := fresh_len hT
 refine ⟨rfl, a1, rfl, fun n => ?_, fun n x => ?_, by show (putP _ _ _ _).length ≤ _; omega, fun n => by have := l2 n; have := f2 n; show (kyT (putP _ _ _ _) n).length ≤ _; omega⟩
 ·show evT (putP _ _ _ _) n = _
  rw [show makeB b (firstsT s.table b.puts) st 0 = makeF b.puts (firstsT s.table b.puts) st 0 0 from rfl, a2, like_ev hL]
 ·show knownT (putP _ _ _ _) n x = _
  rw [show makeB b (firstsT s.table b.puts) st 0 = makeF b.puts (firstsT s.table b.puts) st 0 0 from rfl, a3]
  unfold knowsT
  rw [TS.Like.known hL, TS.Like.known hL, TS.Like.version hL]
end Go.Proofs.YtcmjgghkmdbphaaGreatDoor
namespace Go.Proofs.YtcmjgghkmdbphaaGreatDoor
open Go.RowKit
theorem doS_4 {s : St} {r : Rec} (h : r.kind = 4) : doS s r = prepareS s r := by unfold doS; rw [h]; rfl
theorem applyK_4 (g : Nat) (s : St) (r : Rec) (nA pA sA : Option Addr) (nc pc sc : Nat) (P Q : Nat → Prop) (w : World) (h : StAt w P g s) (hg : ¬ P g) (hS : Fit s)
 (hr : RecAt w Q r nA nc pA pc sA sc) (hQ : ¬ Q g) (hF : r.Fair) (hT : Tabs w) (h2 : 2 ≤ g) (h3 : r.kind = 4) :
 Calls Tryz.prog 19 #[ptrV g, .agg (r.cells nA nc pA pc sA sc).toArray] w (StOut w P g (applyS s r)) := by
 have hgl := h.lt
 have HH := jh (ja h (ja hg (ja hS (ja hr (ja hQ (ja hF hT))))))
 clear h hg hS hr hQ hF hT
 have hb1 := (jb w.heap.size w).al (.cells (r.cells nA nc pA pc sA sc).toArray 46)
 have B0 := Blk.new w 46 (r.cells nA nc pA pc sA sc)
 have hs1 : (w.alloc (.cells (r.cells nA nc pA pc sA sc).toArray 46)).heap.size = w.heap.size + 1 := by simp
 unfold ptrV
 go_enter Tryz.func19, Tryz.ntmps19
 go_upto_region 1 with fail
 refine forget (M := fun W => Code.wp _ _ _ _ W) (fun W => Below w.heap.size w W ∧ Blk W w.heap.size 46 (r.cells nA nc pA pc sA sc) ∧ W.heap.size = w.heap.size + 1) ⟨hb1, B0, hs1⟩ ?_
 clear B0 hb1 hs1
 rintro w1 ⟨hb1, B0, hs1⟩
 obtain ⟨v, hB, hI⟩ := HH.out.1
 have C1 := gone_any g s.self w1 ((hB.ext hb1).cell 0) HH.out.2.2.1.self
 have C2 := recCheck_any r nA pA sA nc pc sc Q w1 (HH.out.2.2.2.1.ext (js hb1) hb1.size) HH.out.2.2.2.2.2.1 (HH.out.2.2.2.2.2.2.below hb1) (by omega)
 unfold ptrV at C1
 have H1 := jh (ja hb1 hs1)
 clear hB hI hb1
 go_wp2_with fail
 refine C1.mono ?_
 clear C1
 rintro e w' ⟨rfl, rfl⟩
 go_wp2_with (first
  | ((with_reducible refine wpList_load_blk rfl rfl ?_ B0 Tryz.underlying46 rfl (by kernel_rfl) ?_); · rfl)
  | fail)
 refine C2.mono ?_
 clear C2
 rintro e w2 ⟨rfl, hb2⟩
 have B2 := B0.ext hb2
 have hw2 := H1.out.1.tr hb2
 by_cases hc : checkR r = 0
 ·have HC := jh (show applyS s r = prepareS s r from by unfold applyS; rw [if_neg (by rw [hc]; simp)]; exact doS_4 h3)
  rw [hc]
  have x0 : w2.cell? ⟨w.heap.size, 0, none⟩ = some (.int .i64 r.kind) := B2.cell 0
  rw [h3] at x0
  obtain ⟨v, hB, hI⟩ := HH.out.1
  have C3 := prepare_any g s r nA pA sA nc pc sc P (fun k => Q k ∧ k < w.heap.size) w2 ⟨v, hB.ext hw2, hI.same (js hw2)⟩ HH.out.2.1 HH.out.2.2.1
   ((HH.out.2.2.2.1.mono fun k h h' => (⟨h, h'⟩ : Q k ∧ k < w.heap.size)).ext (js hw2) hw2.size) (fun h => HH.out.2.2.2.2.1 h.1) HH.out.2.2.2.2.2.1.puts HH.out.2.2.2.2.2.1.data (HH.out.2.2.2.2.2.2.below hw2) h2
  unfold ptrV at C3
  have H2 := jh hw2
  clear hc hB hI hb2 hw2 B0
  go_wp2_with (first
   | ((with_reducible refine wpList_load_blk rfl rfl ?_ B2 Tryz.underlying46 rfl (by kernel_rfl) ?_); · rfl)
   | fail)
  refine C3.mono ?_
  clear C3 x0 B2
  rintro e w3 ⟨rfl, hst, hO⟩
  have H3 := jh (ja hst hO)
  clear hst hO
  go_wp2_with fail
  go_ret
  unfold StOut
  rw [HC.out]
  obtain ⟨v', a1, a2⟩ := H3.out.1
  exact ⟨rfl, ⟨v', a1, a2.mono fun k hk => by
   rcases hk with h | h
   ·exact .inl h
   ·exact .inr (by have := H2.out.size; omega)⟩, (jo H2.out).tr H3.out.2⟩
 ·have HC := jh (show applyS s r = (s, checkR r) from by unfold applyS; rw [if_pos hc])
  have hc' : (checkR r != 0) = true := bne_iff_ne.2 hc
  obtain ⟨v, hB, hI⟩ := HH.out.1
  have H3 := jh (ja (⟨v, hB.ext hw2, hI.same (js hw2)⟩ : StAt w2 P g s) hw2)
  clear hc hB hI hb2 hw2 B0 B2
  go_wp2_with fail
  go_ret
  unfold StOut
  rw [HC.out]
  obtain ⟨v', a1, a2⟩ := H3.out.1
  exact ⟨rfl, ⟨v', a1, a2.mono fun k hk => .inl hk⟩, jo H3.out.2⟩
end Go.Proofs.YtcmjgghkmdbphaaGreatDoor
namespace Go.Proofs.YtcmjgghkmdbphaaGreatDoor
open Go.RowKit Go.Shelf Go.Sort
instance : Inhabited Tx := ⟨⟨0, 0, 0⟩⟩
def orderT (x y : Tx) : Int := orI [cmpI x.node y.node, cmpI x.life y.life, cmpI x.num y.num]
theorem three_alloc (w : World) (a b c : Obj) : (((w.alloc a).alloc b).drew).alloc c = grow (w.drewN 1) #[a, b, c] := by
 rw [alloc_eq_grow, alloc_eq_grow, alloc_eq_grow, grow_grow]
 show grow (grow w.drew _) _ = _
 rw [grow_grow]
 rfl
theorem int_cells {w : World} {b : Nat} {t : TypeId} {l : List Int} (h : Blk w b t (l.map fun n => .int .i64 n)) (k : Nat) (x : Int) (hk : l[k]? = some x) : w.cell? ⟨b, k, none⟩ = some (.int .i64 x) := by
 rw [h.cell, List.getElem?_map, hk]; rfl
theorem order_any (x y : Tx) (w : World) : Calls Tryz.prog 132 #[.agg (x.cells).toArray, .agg (y.cells).toArray] w fun e w' => e = .returned (.int .i64 (orderT x y)) ∧ ∃ q os', w' = grow (w.drewN q) os' := by
 have BX := (Blk.new w 42 (x.cells)).alloc (.cells (y.cells).toArray 42)
 have BY := Blk.new1 w (.cells (x.cells).toArray 42) 42 (y.cells)
 unfold Tx.cells at *
 go_enter Tryz.func132, Tryz.ntmps132
 go_upto_region 1 with fail
 generalize hw1 : (w.alloc (.cells #[.int .i64 x.node, .int .i64 x.life, .int .i64 x.num] 42)).alloc (.cells #[.int .i64 y.node, .int .i64 y.life, .int .i64 y.num] 42) = w1 at *
 have HW := jh hw1
 clear hw1
 have x0 := On.cell (BX.cell 0 : w1.cell? ⟨w.heap.size, 0, none⟩ = some (.int .i64 x.node))
 have x1 := On.cell (BX.cell 1 : w1.cell? ⟨w.heap.size, 1, none⟩ = some (.int .i64 x.life))
 have x2 := On.cell (BX.cell 2 : w1.cell? ⟨w.heap.size, 2, none⟩ = some (.int .i64 x.num))
 have y0 := On.cell (BY.cell 0 : w1.cell? ⟨w.heap.size + 1, 0, none⟩ = some (.int .i64 y.node))
 have y1 := On.cell (BY.cell 1 : w1.cell? ⟨w.heap.size + 1, 1, none⟩ = some (.int .i64 y.life))
 have y2 := On.cell (BY.cell 2 : w1.cell? ⟨w.heap.size + 1, 2, none⟩ = some (.int .i64 y.num))
 clear BX BY
 have C0 := cmp_any x.node y.node w1.drew
 have C1 := cmp_any x.life y.life w1.drew
 have C2 := cmp_any x.num y.num w1.drew
 refine wp_region_mix (.seg [0, 1, 2, 3, 5, 6, 7, 8, 10, 11, 12, 13] 4 (.seg [] 9 (.seg [] 14 (.seg [] 15 (.seg [] 16 (.leaf [17])))))) (fun w' => ∃ d : Wd (On w1), w' = d.w) (by kernel_rfl) (by kernel_rfl) (fun _ _ d _ _ h => by cases d <;> exact h) (ClsW.mk (jb _ _).drew) ?_
 unfold wpMix; simp only [pick, j1, j2, j3, j4]
 (repeat (show wpQuiet _ _ _ _ (_ :: _) _; go_big_quiet_step (fail))); refine qn ?_
 go_wp2_with fail
 refine C0.mono ?_
 clear C0
 rintro e w' ⟨rfl, rfl⟩
 go_wp2_with fail
 (refine segw (D := On w1) ((jb _ _).drew) ?_; unfold wpMix; simp only [pick, j1, j2, j3, j4]; (repeat (show wpQuiet _ _ _ _ (_ :: _) _; go_big_quiet_step (fail))); refine qn ?_)
 go_wp2_with fail
 refine C1.mono ?_
 clear C1
 rintro e w' ⟨rfl, rfl⟩
 go_wp2_with fail
 (refine segw (D := On w1) ((jb _ _).drew) ?_; unfold wpMix; simp only [pick, j1, j2, j3, j4]; (repeat (show wpQuiet _ _ _ _ (_ :: _) _; go_big_quiet_step (fail))); refine qn ?_)
 go_wp2_with fail
 refine C2.mono ?_
 clear C2
 rintro e w' ⟨rfl, rfl⟩
 go_wp2_with fail
 (refine segw (D := On w1) ((jb _ _).drew) ?_; unfold wpMix; simp only [pick, j1, j2, j3, j4]; (repeat (show wpQuiet _ _ _ _ (_ :: _) _; go_big_quiet_step (fail))); refine qn ?_)
 have C3 := or_any [cmpI x.node y.node, cmpI x.life y.life, cmpI x.num y.num] w1.drew.heap.size 3 (w1.drew.alloc (.cells #[.int .i64 (cmpI x.node y.node), .int .i64 (cmpI x.life y.life), .int .i64 (cmpI x.num y.num)] 3)) (by simp) (int_cells (Blk.new w1.drew 3 _))
 go_wp2_with fail
 (refine segw (D := On w1) ((jb _ _).drew.al _) ?_; unfold wpMix; simp only [pick, j1, j2, j3, j4]; (repeat (show wpQuiet _ _ _ _ (_ :: _) _; go_big_quiet_step (fail))); refine qn ?_)
 go_wp2_with fail
 refine C3.mono ?_
 clear C3
 rintro e w' ⟨rfl, rfl⟩
 go_wp2_with fail
 (refine segw (D := On w1) ((jb _ _).drew.al _) ?_; unfold wpMix; simp only [pick, j1, j2, j3, j4]; (repeat (show wpQuiet _ _ _ _ (_ :: _) _; go_big_quiet_step (fail))); refine qn ?_)
 clear x0 x1 x2 y0 y1 y2
 go_wp2_with fail
 go_ret
 refine ⟨rfl, 1, #[.cells x.cells.toArray 42, .cells y.cells.toArray 42, .cells #[.int .i64 (cmpI x.node y.node), .int .i64 (cmpI x.life y.life), .int .i64 (cmpI x.num y.num)] 3], ?_⟩
 rw [← HW.out]
 exact three_alloc w _ _ _
theorem orI_neg (a b c : Int) : orI [a, b, c] < 0 ↔ a < 0 ∨ (a = 0 ∧ (b < 0 ∨ (b = 0 ∧ c < 0))) := by
 simp only [orI]
 split
 ·split
  ·split <;> omega
  ·omega
 ·omega
theorem cmpI_neg (x y : Int) : (cmpI x y < 0 ↔ x < y) ∧ (cmpI x y = 0 ↔ x = y) := by
 unfold cmpI
 constructor
 ·repeat' split
  all_goals omega
 ·repeat' split
  all_goals omega
theorem ltOf_order (x y : Tx) : ltOf orderT x y = decide (x.node < y.node ∨ (x.node = y.node ∧ (x.life < y.life ∨ (x.life = y.life ∧ x.num < y.num)))) := by
 unfold ltOf orderT
 refine decide_eq_decide.2 ?_
 rw [orI_neg, (cmpI_neg _ _).1, (cmpI_neg _ _).2, (cmpI_neg _ _).1, (cmpI_neg _ _).2, (cmpI_neg _ _).1]
theorem order_swo : SWO (ltOf orderT) where
 irrefl x := by rw [ltOf_order]; simp
 trans x y z h1 h2 := by rw [ltOf_order] at *; simp only [decide_eq_true_eq] at *; omega
 ntrans x y z h1 h2 := by rw [ltOf_order] at *; simp only [decide_eq_false_iff_not] at *; omega
theorem order_lays (blk off size : Nat) (w : World) : CmpLays Tryz.prog 132 #[] Tx.cells 3 orderT blk off size w := fun _ _ _ _ x y => order_any x y _
end Go.Proofs.YtcmjgghkmdbphaaGreatDoor
