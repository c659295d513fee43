/- rec.Encode. state.commit. -/
import Derived.Test.YtpgocpodhamibaaGreatDoorNK0A
namespace Go.Proofs.YtpgocpodhamibaaGreatDoor
open Go.RowKit
theorem head_any (k : Int) (hk : namedK k = true) (r : Rec) (nA pA sA : Option Addr) (nc pc sc : Nat) (g base n0 : Nat) (bad : Bool) (P : Nat → Prop) (w : World) (hW : Wr w base g bad n0) (hr : RecAt w P r nA nc pA pc sA sc) (hP : ∀ k, P k → k < base) (hn : n0 ≤ 1000000) (hg : base ≤ g) (hbw : base ≤ w.heap.size) (hl : r.batch.puts.length ≤ 1000000) (hd : ∀ p ∈ r.batch.puts, p.data.length ≤ 1000000) (hTb : Tabs w) (h2 : 2 ≤ base) :
 Calls Tryz.prog 223 #[.pointer (some ⟨g, 0, none⟩), .agg (r.cells nA nc pA pc sA sc).toArray, .agg (fieldsF k).cells.toArray] w (WrOut g base n0 (n0 + 500000) (bad || headBad r (fieldsF k)) w) := by
 have h1 : 1 ≤ k ∧ k ≤ 11 := by simpa [namedK] using hk
 have hk : k = 1 ∨ k = 2 ∨ k = 3 ∨ k = 4 ∨ k = 5 ∨ k = 6 ∨ k = 7 ∨ k = 8 ∨ k = 9 ∨ k = 10 ∨ k = 11 := by omega
 rcases hk with rfl | rfl | rfl | rfl | rfl | rfl | rfl | rfl | rfl | rfl | rfl
 ·exact head_a r nA pA sA nc pc sc g base n0 bad P w hW hr hP hn hg hbw hl hd hTb h2
 ·exact head_a r nA pA sA nc pc sc g base n0 bad P w hW hr hP hn hg hbw hl hd hTb h2
 ·exact head_b r nA pA sA nc pc sc g base n0 bad P w hW hr hP hn hg hbw hl hd hTb h2
 ·exact head_c r nA pA sA nc pc sc g base n0 bad P w hW hr hP hn hg hbw hl hd hTb h2
 ·exact head_d r nA pA sA nc pc sc g base n0 bad P w hW hr hP hn hg hbw hl hd hTb h2
 ·exact head_e r nA pA sA nc pc sc g base n0 bad P w hW hr hP hn hg hbw hl hd hTb h2
 ·exact head_f r nA pA sA nc pc sc g base n0 bad P w hW hr hP hn hg hbw hl hd hTb h2
 ·exact head_a r nA pA sA nc pc sc g base n0 bad P w hW hr hP hn hg hbw hl hd hTb h2
 ·exact head_g r nA pA sA nc pc sc g base n0 bad P w hW hr hP hn hg hbw hl hd hTb h2
 ·exact head_h r nA pA sA nc pc sc g base n0 bad P w hW hr hP hn hg hbw hl hd hTb h2
 ·exact head_i r nA pA sA nc pc sc g base n0 bad P w hW hr hP hn hg hbw hl hd hTb h2
theorem lists_any (k : Int) (hk : namedK k = true) (r : Rec) (nA pA sA : Option Addr) (nc pc sc : Nat) (g base n0 : Nat) (bad : Bool) (P : Nat → Prop) (w : World) (hW : Wr w base g bad n0) (hr : RecAt w P r nA nc pA pc sA sc) (hP : ∀ k, P k → k < base) (hn : n0 ≤ 1000000) (hg : base ≤ g) (hbw : base ≤ w.heap.size) (hl : r.nodes.length ≤ 1000000) (hl2 : r.streams.length ≤ 1000000) (hd : weights r.streams ≤ 50000000) (hd2 : ∀ s ∈ r.streams, s.events.length ≤ 40000 ∧ s.keys.length ≤ 40000) (hTb : Tabs w) (h2 : 2 ≤ base) :
 Calls Tryz.prog 224 #[.pointer (some ⟨g, 0, none⟩), .agg (r.cells nA nc pA pc sA sc).toArray, .agg (fieldsF k).cells.toArray] w (WrOut g base n0 (n0 + 11000000 + weights r.streams) (bad || listsBad r (fieldsF k)) w) := by
 have h1 : 1 ≤ k ∧ k ≤ 11 := by simpa [namedK] using hk
 have hk : k = 1 ∨ k = 2 ∨ k = 3 ∨ k = 4 ∨ k = 5 ∨ k = 6 ∨ k = 7 ∨ k = 8 ∨ k = 9 ∨ k = 10 ∨ k = 11 := by omega
 rcases hk with rfl | rfl | rfl | rfl | rfl | rfl | rfl | rfl | rfl | rfl | rfl
 ·exact lists_a r nA pA sA nc pc sc g base n0 bad P w hW hr hP hn hg hbw hl hl2 hd hd2 hTb h2
 ·exact lists_a r nA pA sA nc pc sc g base n0 bad P w hW hr hP hn hg hbw hl hl2 hd hd2 hTb h2
 ·exact lists_b r nA pA sA nc pc sc g base n0 bad P w hW hr hP hn hg hbw hl hl2 hd hd2 hTb h2
 ·exact lists_c r nA pA sA nc pc sc g base n0 bad P w hW hr hP hn hg hbw hl hl2 hd hd2 hTb h2
 ·exact lists_d r nA pA sA nc pc sc g base n0 bad P w hW hr hP hn hg hbw hl hl2 hd hd2 hTb h2
 ·exact lists_e r nA pA sA nc pc sc g base n0 bad P w hW hr hP hn hg hbw hl hl2 hd hd2 hTb h2
 ·exact lists_f r nA pA sA nc pc sc g base n0 bad P w hW hr hP hn hg hbw hl hl2 hd hd2 hTb h2
 ·exact lists_a r nA pA sA nc pc sc g base n0 bad P w hW hr hP hn hg hbw hl hl2 hd hd2 hTb h2
 ·exact lists_g r nA pA sA nc pc sc g base n0 bad P w hW hr hP hn hg hbw hl hl2 hd hd2 hTb h2
 ·exact lists_h r nA pA sA nc pc sc g base n0 bad P w hW hr hP hn hg hbw hl hl2 hd hd2 hTb h2
 ·exact lists_i r nA pA sA nc pc sc g base n0 bad P w hW hr hP hn hg hbw hl hl2 hd hd2 hTb h2
def recB (r : Rec) : Bool := namedK r.kind && (spareB r (fieldsF r.kind) && !(headBad r (fieldsF r.kind) || listsBad r (fieldsF r.kind)))
def checkR (r : Rec) : Int := if recB r then 0 else 1
structure Rec.Fair (r : Rec) : Prop where
 puts : r.batch.puts.length ≤ 1000000
 data : ∀ p ∈ r.batch.puts, p.data.length ≤ 1000000
 nodes : r.nodes.length ≤ 1000000
 streams : r.streams.length ≤ 1000000
 weight : weights r.streams ≤ 50000000
 each : ∀ s ∈ r.streams, s.events.length ≤ 40000 ∧ s.keys.length ≤ 40000
def GotCode (n : Int) (e : Ending) : Prop := ∃ v, e = .returned (.tuple #[v, .int .i64 n])
theorem RecAt.ext {w w' : World} {P : Nat → Prop} {r : Rec} {nA pA sA : Option Addr} {nc pc sc : Nat} (h : RecAt w P r nA nc pA pc sA sc) (hs : Same P w w') (hz : w.heap.size ≤ w'.heap.size) : RecAt w' P r nA nc pA pc sA sc :=
 { h with nodes := ⟨h.nodes.1, h.nodes.2.1, h.nodes.2.2.same hs hz⟩, puts := ⟨h.puts.1, h.puts.2.1, h.puts.2.2.same hs hz⟩, streams := ⟨h.streams.1, h.streams.2.1, h.streams.2.2.same hs hz⟩ }
theorem RecAt.mono {w : World} {P Q : Nat → Prop} {r : Rec} {nA pA sA : Option Addr} {nc pc sc : Nat} (h : RecAt w P r nA nc pA pc sA sc) (hs : ∀ g, P g → g < w.heap.size → Q g) : RecAt w Q r nA nc pA pc sA sc :=
 { h with nodes := ⟨h.nodes.1, h.nodes.2.1, h.nodes.2.2.mono hs⟩, puts := ⟨h.puts.1, h.puts.2.1, h.puts.2.2.mono hs⟩, streams := ⟨h.streams.1, h.streams.2.1, h.streams.2.2.mono hs⟩ }
set_option maxRecDepth 20000 in
set_option maxHeartbeats 3200000 in
theorem recEncode_any (r : Rec) (nA pA sA : Option Addr) (nc pc sc : Nat) (P : Nat → Prop) (w : World) (hr : RecAt w P r nA nc pA pc sA sc) (hF : r.Fair) (hTb : Tabs w) (h2 : 2 ≤ w.heap.size) :
 Calls Tryz.prog 145 #[.agg (r.cells nA nc pA pc sA sc).toArray] w fun e w' => GotCode (checkR r) e ∧ Below w.heap.size w w' := by
 have hr := hr.mono (Q := fun g => g < w.heap.size) fun g _ h => h
 have HR := jh hr
 have HF := jh hF
 have CN := fun W => recNamed_any r.kind W
 have B0 := Blk.new w 43 (r.cells nA nc pA pc sA sc)
 unfold Rec.cells at B0 ⊢
 clear hr hF
 go_enter Tryz.func145, Tryz.ntmps145
 go_wp2_with fail
 refine (CN _).mono ?_
 rintro e w1 ⟨rfl, hb1⟩
 have hw1 : Below w.heap.size w w1 := ((jb _ _).al _).tr hb1
 have B1 := B0.ext hb1
 clear B0 hb1
 generalize hq : namedK r.kind = q
 have HQ := jh hq
 clear hq
 have hz1 := hw1.size
 have b0 : w1.cell? ⟨w.heap.size, 0, none⟩ = some (.int .i64 r.kind) := B1.cell 0
 unfold Fields.cells
 cases q
 ·go_wp2_with fail
  go_ret2
  rw [show checkR r = 1 from by unfold checkR recB; rw [HQ.out]; rfl]
  exact ⟨⟨_, rfl⟩, hw1.al _⟩
 ·have hax := (jb w1.heap.size w1).al (.cells (fieldsF r.kind).cells.toArray 290)
  have B2 := B1.alloc (.cells (fieldsF r.kind).cells.toArray 290)
  have D2 := Blk.new w1 290 (fieldsF r.kind).cells
  have hw2 := hw1.tr hax
  have hs2 : (w1.alloc (.cells (fieldsF r.kind).cells.toArray 290)).heap.size = w1.heap.size + 1 := by simp
  unfold Rec.cells at B2
  unfold Fields.cells at B2 D2 hw2 hs2 hax
  go_upto_region 2 with fail
  refine forget (M := fun W => Code.wp _ _ _ _ W) (fun W => Below w.heap.size w W ∧ Blk W w.heap.size 43 [.int .i64 r.kind, .int .i64 r.n, .int .i64 r.to, .bool r.yes, .int .i64 r.stamp.wall, .int .i64 r.stamp.logic, .int .i64 r.stamp.node, .int .i64 r.tx.node, .int .i64 r.tx.life, .int .i64 r.tx.num, .slice nA r.nodes.length nc, .string r.batch.key, .slice pA r.batch.puts.length pc, .int .i64 r.range.first, .int .i64 r.range.last, .int .i64 r.range.owner, .int .i64 r.range.epoch, .slice sA r.streams.length sc] ∧ Blk W w1.heap.size 290 [.bool (fieldsF r.kind).fN, .bool (fieldsF r.kind).fTo, .bool (fieldsF r.kind).fYes, .bool (fieldsF r.kind).fStamp, .bool (fieldsF r.kind).fTx, .bool (fieldsF r.kind).fNodes, .bool (fieldsF r.kind).fBatch, .bool (fieldsF r.kind).fSpan, .bool (fieldsF r.kind).fStreams] ∧ w1.heap.size + 1 = W.heap.size) ⟨hw2, B2, D2, hs2.symm⟩ ?_
  clear hw2 hs2 hax B2 D2 b0 B1
  rintro w2 ⟨hw2, C0, C1, hs2⟩
  have CP := fun W => spare_any r r.kind HQ.out nA pA sA nc pc sc W
  unfold Rec.cells Fields.cells at CP
  have c0 : w2.cell? ⟨w.heap.size, 0, none⟩ = some (.int .i64 r.kind) := C0.cell 0
  have c1 : w2.cell? ⟨w.heap.size, 1, none⟩ = some (.int .i64 r.n) := C0.cell 1
  have c2 : w2.cell? ⟨w.heap.size, 2, none⟩ = some (.int .i64 r.to) := C0.cell 2
  have c3 : w2.cell? ⟨w.heap.size, 3, none⟩ = some (.bool r.yes) := C0.cell 3
  have c4 : w2.cell? ⟨w.heap.size, 4, none⟩ = some (.int .i64 r.stamp.wall) := C0.cell 4
  have c5 : w2.cell? ⟨w.heap.size, 5, none⟩ = some (.int .i64 r.stamp.logic) := C0.cell 5
  have c6 : w2.cell? ⟨w.heap.size, 6, none⟩ = some (.int .i64 r.stamp.node) := C0.cell 6
  have c7 : w2.cell? ⟨w.heap.size, 7, none⟩ = some (.int .i64 r.tx.node) := C0.cell 7
  have c8 : w2.cell? ⟨w.heap.size, 8, none⟩ = some (.int .i64 r.tx.life) := C0.cell 8
  have c9 : w2.cell? ⟨w.heap.size, 9, none⟩ = some (.int .i64 r.tx.num) := C0.cell 9
  have c10 : w2.cell? ⟨w.heap.size, 10, none⟩ = some (.slice nA r.nodes.length nc) := C0.cell 10
  have c11 : w2.cell? ⟨w.heap.size, 11, none⟩ = some (.string r.batch.key) := C0.cell 11
  have c12 : w2.cell? ⟨w.heap.size, 12, none⟩ = some (.slice pA r.batch.puts.length pc) := C0.cell 12
  have c13 : w2.cell? ⟨w.heap.size, 13, none⟩ = some (.int .i64 r.range.first) := C0.cell 13
  have c14 : w2.cell? ⟨w.heap.size, 14, none⟩ = some (.int .i64 r.range.last) := C0.cell 14
  have c15 : w2.cell? ⟨w.heap.size, 15, none⟩ = some (.int .i64 r.range.owner) := C0.cell 15
  have c16 : w2.cell? ⟨w.heap.size, 16, none⟩ = some (.int .i64 r.range.epoch) := C0.cell 16
  have c17 : w2.cell? ⟨w.heap.size, 17, none⟩ = some (.slice sA r.streams.length sc) := C0.cell 17
  have d0 : w2.cell? ⟨w1.heap.size, 0, none⟩ = some (.bool (fieldsF r.kind).fN) := C1.cell 0
  have d1 : w2.cell? ⟨w1.heap.size, 1, none⟩ = some (.bool (fieldsF r.kind).fTo) := C1.cell 1
  have d2 : w2.cell? ⟨w1.heap.size, 2, none⟩ = some (.bool (fieldsF r.kind).fYes) := C1.cell 2
  have d3 : w2.cell? ⟨w1.heap.size, 3, none⟩ = some (.bool (fieldsF r.kind).fStamp) := C1.cell 3
  have d4 : w2.cell? ⟨w1.heap.size, 4, none⟩ = some (.bool (fieldsF r.kind).fTx) := C1.cell 4
  have d5 : w2.cell? ⟨w1.heap.size, 5, none⟩ = some (.bool (fieldsF r.kind).fNodes) := C1.cell 5
  have d6 : w2.cell? ⟨w1.heap.size, 6, none⟩ = some (.bool (fieldsF r.kind).fBatch) := C1.cell 6
  have d7 : w2.cell? ⟨w1.heap.size, 7, none⟩ = some (.bool (fieldsF r.kind).fSpan) := C1.cell 7
  have d8 : w2.cell? ⟨w1.heap.size, 8, none⟩ = some (.bool (fieldsF r.kind).fStreams) := C1.cell 8
  go_wp2_with fail
  refine (CP w2).mono ?_
  rintro e w3 ⟨rfl, hb3⟩
  have C0' := C0.ext hb3
  have C1' := C1.ext hb3
  have hw3 := hw2.tr hb3
  have hs3 := hb3.size
  generalize hq : spareB r (fieldsF r.kind) = q
  have HS := jh hq
  clear hq CP
  clear c0 c1 c2 c3 c4 c5 c6 c7 c8 c9 c10 c11 c12 c13 c14 c15 c16 c17 d0 d1 d2 d3 d4 d5 d6 d7 d8
  clear C0 C1
  have C0 := C0'
  have C1 := C1'
  cases q
  ·go_wp2_with fail
   go_ret2
   rw [show checkR r = 1 from by unfold checkR recB; rw [HQ.out, HS.out]; rfl]
   exact ⟨⟨_, rfl⟩, hw3⟩
  ·clear C0' C1'
   have c0 : w3.cell? ⟨w.heap.size, 0, none⟩ = some (.int .i64 r.kind) := C0.cell 0
   go_upto_region 5 with fail
   have hsw : ((w3.alloc (.cells #[.int .u8 (r.kind % 256)] 5)).alloc (.cells #[.slice (some ⟨w3.heap.size, 0, none⟩) 1 1, .bool false] 296)).heap.size = w3.heap.size + 2 := by simp
   have HWr : Wr ((w3.alloc (.cells #[.int .u8 (r.kind % 256)] 5)).alloc (.cells #[.slice (some ⟨w3.heap.size, 0, none⟩) 1 1, .bool false] 296)) w.heap.size (w3.heap.size + 1) false 1 := ⟨_, by simpa using Blk.new (w3.alloc (.cells #[.int .u8 (r.kind % 256)] 5)) 296 [.slice (some ⟨w3.heap.size, 0, none⟩) 1 1, .bool false], ((bts_new1 w3 _).ext ((jb _ _).al _)).base_ (by have := hw3.size; omega)⟩
   refine forget (M := fun W => Code.wp _ _ _ _ W) (fun W => Below w3.heap.size w3 W ∧ Wr W w.heap.size (w3.heap.size + 1) false 1 ∧ W.heap.size = w3.heap.size + 2) ⟨((jb _ _).al _).al _, HWr, hsw⟩ ?_
   clear HWr hsw c0
   rintro w4 ⟨hb4, HW4, hs4⟩
   have hw4 := hw3.tr hb4
   have C04 := C0.ext hb4
   have C14 := C1.ext hb4
   have CH := head_any r.kind HQ.out r nA pA sA nc pc sc (w3.heap.size + 1) w.heap.size 1 false (fun g => g < w.heap.size) w4 HW4 (HR.out.ext (Same.of_below hw4) hw4.size) (fun k h => h) (by omega) (by have := hw3.size; omega) hw4.size HF.out.puts HF.out.data (hTb.below hw4) h2
   unfold Rec.cells Fields.cells at CH
   clear C0 C1 hb4
   have hg4 : w3.heap.size + 1 < w4.heap.size := HW4.lt
   go_wp2_with (first
    | ((with_reducible refine wpList_load_blk rfl rfl ?_ C04 Tryz.underlying43 rfl (by kernel_rfl) ?_); · rfl)
    | ((with_reducible refine wpList_load_blk rfl rfl ?_ C14 Tryz.underlying290 rfl (by kernel_rfl) ?_); · rfl)
    | fail)
   refine CH.mono ?_
   clear CH
   rintro en w5 ⟨rfl, ⟨n5, hn5, hn5', HW5⟩, hb5, ht5⟩
   have C05 := ht5.blk C04 (by decide) (by omega)
   have C15 := ht5.blk C14 (by decide) (by have := C14.lt; omega)
   have hw5 := hw4.trans hb5
   have CL := lists_any r.kind HQ.out r nA pA sA nc pc sc (w3.heap.size + 1) w.heap.size n5 (false || headBad r (fieldsF r.kind)) (fun g => g < w.heap.size) w5 HW5 (HR.out.ext (Same.of_below hw5) hw5.size) (fun k h => h) (by omega) (by have := hw3.size; omega) hw5.size HF.out.nodes HF.out.streams HF.out.weight HF.out.each (hTb.below hw5) h2
   unfold Rec.cells Fields.cells at CL
   clear C04 C14
   go_wp2_with (first
    | ((with_reducible refine wpList_load_blk rfl rfl ?_ C05 Tryz.underlying43 rfl (by kernel_rfl) ?_); · rfl)
    | ((with_reducible refine wpList_load_blk rfl rfl ?_ C15 Tryz.underlying290 rfl (by kernel_rfl) ?_); · rfl)
    | fail)
   refine CL.mono ?_
   clear CL C05 C15
   rintro en w6 ⟨rfl, ⟨n6, hn6, hn6', ⟨v6, HB6, HV6⟩⟩, hb6, ht6⟩
   have hw6 := hw5.trans hb6
   have d0 := HB6.cell 0
   have d1 := HB6.cell 1
   simp only [List.getElem?_cons_zero, List.getElem?_cons_succ] at d0 d1
   have HRB := jh (show recB r = !(headBad r (fieldsF r.kind) || listsBad r (fieldsF r.kind)) from by unfold recB; rw [HQ.out, HS.out]; rfl)
   simp only [Bool.false_or] at d1
   clear HB6 HV6
   generalize hqq : (headBad r (fieldsF r.kind) || listsBad r (fieldsF r.kind)) = qq at d1
   have HQQ := jh hqq
   clear hqq
   cases qq
   ·go_wp2_with fail
    go_ret2
    rw [show checkR r = 0 from by unfold checkR; rw [HRB.out, HQQ.out]; rfl]
    exact ⟨⟨_, rfl⟩, hw6⟩
   ·go_wp2_with fail
    go_ret2
    rw [show checkR r = 1 from by unfold checkR; rw [HRB.out, HQQ.out]; rfl]
    exact ⟨⟨_, rfl⟩, hw6⟩
open Go.RowKit
theorem mayV_bound (T : Tab) (hT : ∀ n, 0 ≤ versionT T n ∧ versionT T n ≤ 40000) : ∀ (l : List Put) (f : List Int), (∀ n ∈ f, -1000000000 ≤ n ∧ n ≤ 1000000000) → f.length + l.length ≤ 100 →
 (mayV T l f).1.length ≤ 100 ∧ ∀ n ∈ (mayV T l f).1, -1000000000 ≤ n ∧ n ≤ 1000000000
 | [], f, h, hl => ⟨by simpa [mayV] using hl, h⟩
 | p :: r, f, h, hl => by
   unfold mayV
   split
   ·exact ⟨by simp, by simp⟩
   ·refine mayV_bound T hT r _ (fun n hn => ?_) (by simp at hl ⊢; omega)
    rcases List.mem_append.1 hn with hn | hn
    ·exact h n hn
    ·have := hT p.stream
     simp only [List.mem_singleton] at hn
     omega
theorem mayS_ok {s : St} {b : Batch} (h : (mayS s b).2.2 = 0) : checkB b = 0 ∧ (mayS s b).1 = (mayV s.table b.puts []).1 := by
 unfold mayS at h ⊢
 split at h
 ·rename_i h1; exact absurd h h1
 ·rename_i h1
  rw [if_neg h1]
  split at h
  ·rename_i h2; exact absurd h h2
  ·rename_i h2
   rw [if_neg h2]
   split at h
   ·rename_i h3; exact absurd h h3
   ·rename_i h3
    rw [if_neg h3]
    exact ⟨by omega, rfl⟩
def CodeOut (w : World) (P : Nat → Prop) (g : Nat) (q : St × Int) (e : Ending) (w' : World) : Prop :=
 e = .returned (.int .i64 q.2) ∧ StAt w' (fun k => P k ∨ w.heap.size ≤ k) g q.1 ∧ Only (· = g) w w' ∧ w'.cell? ⟨g, 6, none⟩ = w.cell? ⟨g, 6, none⟩
set_option maxRecDepth 20000 in
set_option maxHeartbeats 3200000 in
theorem commit_any (g : Nat) (s : St) (r : Rec) (nA pA sA : Option Addr) (nc pc sc : Nat) (P Q : Nat → Prop) (w : World) (h : StAt w P g s) (hg : ¬ P g) (hs : StFair s) (hS : Seen g s w)
 (hr : RecAt w Q r nA nc pA pc sA sc) (hQ : ¬ Q g) (hl : r.batch.puts.length ≤ 1000000) (hd : ∀ p ∈ r.batch.puts, p.data.length ≤ 1000000) (hT : Tabs w) (h2 : 2 ≤ g) :
 Calls Tryz.prog 72 #[ptrV g, .agg (r.cells nA nc pA pc sA sc).toArray] w (CodeOut w P g (commitS s r)) := by
 have hgl := h.lt
 have HH := jh (ja h (ja hg (ja hs (ja hS (ja hr (ja hQ (ja hd hT)))))))
 clear h hg hs hS hr hQ hd hT
 have hb1 := (jb w.heap.size w).al (.cells (r.cells nA nc pA pc sA sc).toArray 43)
 have B0 := Blk.new w 43 (r.cells nA nc pA pc sA sc)
 have hs1 : (w.alloc (.cells (r.cells nA nc pA pc sA sc).toArray 43)).heap.size = w.heap.size + 1 := by simp
 unfold ptrV
 go_enter Tryz.func72, Tryz.ntmps72
 go_upto_region 1 with fail
 refine forget (M := fun W => Code.wp _ _ _ _ W) (fun W => Below w.heap.size w W ∧ Blk W w.heap.size 43 (r.cells nA nc pA pc sA sc) ∧ W.heap.size = w.heap.size + 1) ⟨hb1, B0, hs1⟩ ?_
 clear B0 hb1 hs1
 rintro w1 ⟨hb1, B0, hs1⟩
 have x11 : w1.cell? ⟨w.heap.size, 11, none⟩ = some (.string r.batch.key) := B0.cell 11
 have x12 : w1.cell? ⟨w.heap.size, 12, none⟩ = some (.slice pA r.batch.puts.length pc) := B0.cell 12
 obtain ⟨v, hB, hI⟩ := HH.out.1
 have C1 := may_any' g s r.batch pA pc P Q w1 ⟨v, hB.ext hb1, hI.same (Same.of_below hb1)⟩ (HH.out.2.2.2.1.ext hb1) (HH.out.2.2.2.2.1.puts.2.2.ext hb1) hl HH.out.2.2.2.2.1.key HH.out.2.2.2.2.2.2.1 (HH.out.2.2.2.2.2.2.2.below hb1) (by omega)
 unfold Got3 ptrV at C1
 have H1 := jh (ja hb1 (ja B0 hs1))
 have HM := jh (@mayS_ok s r.batch)
 have HC := jh (show commitS s r = if (mayS s r.batch).2.2 = 0 then (putS s r.batch (mayS s r.batch).1 r.stamp, 0) else (s, (mayS s r.batch).2.2) from rfl)
 generalize hq : mayS s r.batch = q at *
 obtain ⟨fl, kn, code⟩ := q
 simp only at C1
 clear hq hB hI hb1 B0 hs1
 go_wp2_with fail
 refine C1.mono ?_
 clear C1 x11 x12
 rintro e w2 ⟨⟨fv, rfl, hfv⟩, hb2⟩
 have hz2 := hb2.size
 have hw2 := H1.out.1.tr hb2
 have hb3 := hw2.al (.cells #[.string kn.key, .int .i64 kn.first, .int .i64 kn.stamp.wall, .int .i64 kn.stamp.logic, .int .i64 kn.stamp.node] 70)
 have hb23 := hb2.al (.cells #[.string kn.key, .int .i64 kn.first, .int .i64 kn.stamp.wall, .int .i64 kn.stamp.logic, .int .i64 kn.stamp.node] 70)
 have hfv3 := hfv.alloc (.cells #[.string kn.key, .int .i64 kn.first, .int .i64 kn.stamp.wall, .int .i64 kn.stamp.logic, .int .i64 kn.stamp.node] 70)
 obtain ⟨Af, cf, rfl, _⟩ := hfv.form
 go_upto_region 2 with fail
 generalize (w2.alloc (.cells #[.string kn.key, .int .i64 kn.first, .int .i64 kn.stamp.wall, .int .i64 kn.stamp.logic, .int .i64 kn.stamp.node] 70)) = w3 at *
 obtain ⟨v, hB, hI⟩ := HH.out.1
 have hst3 : StAt w3 P g s := ⟨v, hB.ext hb3, hI.same (Same.of_below hb3)⟩
 have H3 := jh (ja hst3 (ja hb3 (((hB.ext hb3).cell 6).trans (hB.cell 6).symm)))
 by_cases hcd : code = 0
 ·have hm := HM.out hcd
  have hgd := checkB_good hm.1
  have hbd := mayV_bound s.table HH.out.2.2.2.1.vers r.batch.puts [] (by simp) (by simp; have := hgd.few; omega)
  rw [← hm.2] at hbd
  have hz3 := hb3.size
  have C3 := sput_any g s r.batch fl r.stamp pA Af pc cf P (fun k => (Q k ∧ k < w.heap.size) ∨ w1.heap.size ≤ k) w3 hst3 HH.out.2.1 HH.out.2.2.1
   (((HH.out.2.2.2.2.1.puts.2.2.mono fun k h h' => (⟨h, h'⟩ : Q k ∧ k < w.heap.size)).ext hb3).mono fun k h _ => .inl h) (hfv3.row' int_plain fun k h => .inr (hfv3.lt k h).1) (fun h => by
     rcases h with h | h
     ·exact HH.out.2.2.2.2.2.1 h.1
     ·have := H1.out.2.2; omega) hgd.few (fun p hp => (hgd.puts p hp).1.1) (fun p hp => List.length_pos_iff.2 (hgd.puts p hp).2.2.1) HH.out.2.2.2.2.1.key hbd.1 hbd.2 HH.out.2.2.2.2.1.stamp (HH.out.2.2.2.2.2.2.2.below hb3) h2
  have B3 := H1.out.2.1.ext hb23
  have x11 : w3.cell? ⟨w.heap.size, 11, none⟩ = some (.string r.batch.key) := B3.cell 11
  have x12 : w3.cell? ⟨w.heap.size, 12, none⟩ = some (.slice pA r.batch.puts.length pc) := B3.cell 12
  have x4 : w3.cell? ⟨w.heap.size, 4, none⟩ = some (.int .i64 r.stamp.wall) := B3.cell 4
  have x5 : w3.cell? ⟨w.heap.size, 5, none⟩ = some (.int .i64 r.stamp.logic) := B3.cell 5
  have x6 : w3.cell? ⟨w.heap.size, 6, none⟩ = some (.int .i64 r.stamp.node) := B3.cell 6
  have HE := jh (show commitS s r = (putS s r.batch fl r.stamp, 0) from by rw [HC.out]; exact if_pos hcd)
  subst hcd
  unfold ptrV at C3
  clear hm hgd hbd B3 hst3 hb3 hb23 hfv hfv3 hb2 hw2 hB hI
  go_wp2_with fail
  refine C3.mono ?_
  clear C3 x11 x12 x4 x5 x6
  rintro e w4 ⟨rfl, hst4, hO4, h64⟩
  have H4 := jh (ja hst4 (ja hO4 h64))
  clear hst4 hO4 h64
  go_wp2_with fail
  go_ret
  unfold CodeOut
  rw [HE.out]
  refine ⟨rfl, ?_, (Only.of_below H3.out.2.1).tr H4.out.2.1, H4.out.2.2.trans H3.out.2.2⟩
  obtain ⟨v', a1, a2⟩ := H4.out.1
  exact ⟨v', a1, a2.mono fun k hk => by
   rcases hk with h | h
   ·exact .inl h
   ·exact .inr (by have := H3.out.2.1.size; omega)⟩
 ·have hc' : (code == 0) = false := by rw [beq_eq_false_iff_ne]; exact hcd
  have HE := jh (show commitS s r = (s, code) from by rw [HC.out]; exact if_neg hcd)
  clear hcd hst3 hb3 hb23 hfv hfv3 hb2 hw2 hB hI
  go_wp2_with fail
  go_ret
  unfold CodeOut
  rw [HE.out]
  obtain ⟨v', a1, a2⟩ := H3.out.1
  exact ⟨rfl, ⟨v', a1, a2.mono fun k hk => .inl hk⟩, Only.of_below H3.out.2.1, H3.out.2.2⟩
end Go.Proofs.YtpgocpodhamibaaGreatDoor
