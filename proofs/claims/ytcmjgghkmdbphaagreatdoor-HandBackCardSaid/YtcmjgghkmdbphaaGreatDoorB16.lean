/- rec.Encode, rec.Check. state.commit. Look-ups in drawn regions; what is asked of a state; state.prepare. rec.Check. tables that answer alike; a table made anew (plain law). what putting a batch in does (plain law). -/
import Derived.Test.YtcmjgghkmdbphaaGreatDoorB15
import Derived.Test.YtcmjgghkmdbphaaGreatDoorB07
import Derived.Test.YtcmjgghkmdbphaaGreatDoorB08
import Derived.Test.YtcmjgghkmdbphaaGreatDoorB13
import Derived.Test.YtcmjgghkmdbphaaGreatDoorB06
import Derived.Test.YtcmjgghkmdbphaaGreatDoorB05
set_option maxRecDepth 20000
set_option maxHeartbeats 25600000
namespace Go.Proofs.YtcmjgghkmdbphaaGreatDoor
open Go.RowKit
def HeadC (r : Rec) : Prop := namedK r.kind = true → ∀ (nA pA sA : Option Addr) (nc pc sc : Nat) (g base n0 : Nat) (bad : Bool) (P : Nat → Prop) (w : World) (_hW : Wr w base g bad n0) (_hr : RecAt w P r nA nc pA pc sA sc) (_hP : ∀ k, P k → k < base) (_hn : n0 ≤ 1000000) (_hg : base ≤ g) (_hbw : base ≤ w.heap.size) (_hl : r.batch.puts.length ≤ 1000000) (_hd : ∀ p ∈ r.batch.puts, p.data.length ≤ 1000000) (_hTb : Tabs w) (_h2 : 2 ≤ base),
    Calls Tryz.prog 253 #[.pointer (some ⟨g, 0, none⟩), .agg (r.cells nA nc pA pc sA sc).toArray, .agg (fieldsF r.kind).cells.toArray] w (WrOut g base n0 (n0 + 500000) (bad || headBad r (fieldsF r.kind)) w)
def ListsC (r : Rec) : Prop := namedK r.kind = true → ∀ (nA pA sA : Option Addr) (nc pc sc : Nat) (g base n0 : Nat) (bad : Bool) (P : Nat → Prop) (w : World) (_hW : Wr w base g bad n0) (_hr : RecAt w P r nA nc pA pc sA sc) (_hP : ∀ k, P k → k < base) (_hn : n0 ≤ 1000000) (_hg : base ≤ g) (_hbw : base ≤ w.heap.size) (_hl : r.nodes.length ≤ 1000000) (_hl2 : r.streams.length ≤ 1000000) (_hd : weights r.streams ≤ 50000000) (_hd2 : ∀ s ∈ r.streams, s.events.length ≤ 40000 ∧ s.keys.length ≤ 40000) (_hTb : Tabs w) (_h2 : 2 ≤ base),
    Calls Tryz.prog 254 #[.pointer (some ⟨g, 0, none⟩), .agg (r.cells nA nc pA pc sA sc).toArray, .agg (fieldsF r.kind).cells.toArray] w (WrOut g base n0 (n0 + 11000000 + weights r.streams) (bad || listsBad r (fieldsF r.kind)) w)
def recB (r : Rec) : Bool := namedK r.kind && (spareB r (fieldsF r.kind) && !(headBad r (fieldsF r.kind) || listsBad r (fieldsF r.kind)))
def checkR (r : Rec) : Int := if recB r then 0 else 1
structure Rec.Fair (r : Rec) : Prop where
 puts : r.batch.puts.length ≤ 1000000
 data : ∀ p ∈ r.batch.puts, p.data.length ≤ 1000000
 nodes : r.nodes.length ≤ 1000000
 streams : r.streams.length ≤ 1000000
 weight : weights r.streams ≤ 50000000
 each : ∀ s ∈ r.streams, s.events.length ≤ 40000 ∧ s.keys.length ≤ 40000
def GotCode (n : Int) (e : Ending) : Prop := ∃ v, e = .returned (.tuple #[v, .int .i64 n])
theorem RecAt.ext {w w' : World} {P : Nat → Prop} {r : Rec} {nA pA sA : Option Addr} {nc pc sc : Nat} (h : RecAt w P r nA nc pA pc sA sc) (hs : Same P w w') (hz : w.heap.size ≤ w'.heap.size) : RecAt w' P r nA nc pA pc sA sc :=
 { h with nodes := ⟨h.nodes.1, h.nodes.2.1, h.nodes.2.2.same hs hz⟩, puts := ⟨h.puts.1, h.puts.2.1, h.puts.2.2.same hs hz⟩, streams := ⟨h.streams.1, h.streams.2.1, h.streams.2.2.same hs hz⟩ }
theorem RecAt.mono {w : World} {P Q : Nat → Prop} {r : Rec} {nA pA sA : Option Addr} {nc pc sc : Nat} (h : RecAt w P r nA nc pA pc sA sc) (hs : ∀ g, P g → g < w.heap.size → Q g) : RecAt w Q r nA nc pA pc sA sc :=
 { h with nodes := ⟨h.nodes.1, h.nodes.2.1, h.nodes.2.2.mono hs⟩, puts := ⟨h.puts.1, h.puts.2.1, h.puts.2.2.mono hs⟩, streams := ⟨h.streams.1, h.streams.2.1, h.streams.2.2.mono hs⟩ }
theorem recEncode_of (r : Rec) (hHC : HeadC r) (hLC : ListsC r) (nA pA sA : Option Addr) (nc pc sc : Nat) (P : Nat → Prop) (w : World) (hr : RecAt w P r nA nc pA pc sA sc) (hF : r.Fair) (hTb : Tabs w) (h2 : 2 ≤ w.heap.size) :
 Calls Tryz.prog 171 #[.agg (r.cells nA nc pA pc sA sc).toArray] w fun e w' => GotCode (checkR r) e ∧ Below w.heap.size w w' := by
 have HHC := jh hHC
 have HLC := jh hLC
 clear hHC hLC
 have hr := hr.mono (Q := fun g => g < w.heap.size) fun g _ h => h
 have HR := jh hr
 have HF := jh hF
 have CN := fun W => recNamed_any r.kind W
 have B0 := Blk.new w 46 (r.cells nA nc pA pc sA sc)
 unfold Rec.cells at B0 ⊢
 clear hr hF
 go_enter Tryz.func171, Tryz.ntmps171
 go_wp2_with fail
 refine (CN _).mono ?_
 rintro e w1 ⟨rfl, hb1⟩
 have hw1 : Below w.heap.size w w1 := ((jb _ _).al _).tr hb1
 have B1 := B0.ext hb1
 clear B0 hb1
 generalize hq : namedK r.kind = q
 have HQ := jh hq
 clear hq
 have hz1 := hw1.size
 have b0 : w1.cell? ⟨w.heap.size, 0, none⟩ = some (.int .i64 r.kind) := B1.cell 0
 unfold Fields.cells
 cases q
 ·go_wp2_with fail
  go_ret2
  rw [show checkR r = 1 from by unfold checkR recB; rw [HQ.out]; rfl]
  exact ⟨⟨_, rfl⟩, hw1.al _⟩
 ·have hax := (jb w1.heap.size w1).al (.cells (fieldsF r.kind).cells.toArray 320)
  have B2 := B1.alloc (.cells (fieldsF r.kind).cells.toArray 320)
  have D2 := Blk.new w1 320 (fieldsF r.kind).cells
  have hw2 := hw1.tr hax
  have hs2 : (w1.alloc (.cells (fieldsF r.kind).cells.toArray 320)).heap.size = w1.heap.size + 1 := by simp
  unfold Rec.cells at B2
  unfold Fields.cells at B2 D2 hw2 hs2 hax
  go_upto_region 2 with fail
  refine forget (M := fun W => Code.wp _ _ _ _ W) (fun W => Below w.heap.size w W ∧ Blk W w.heap.size 46 [.int .i64 r.kind, .int .i64 r.n, .int .i64 r.to, .bool r.yes, .int .i64 r.stamp.wall, .int .i64 r.stamp.logic, .int .i64 r.stamp.node, .int .i64 r.tx.node, .int .i64 r.tx.life, .int .i64 r.tx.num, .slice nA r.nodes.length nc, .string r.batch.key, .slice pA r.batch.puts.length pc, .int .i64 r.range.first, .int .i64 r.range.last, .int .i64 r.range.owner, .int .i64 r.range.epoch, .slice sA r.streams.length sc] ∧ Blk W w1.heap.size 320 [.bool (fieldsF r.kind).fN, .bool (fieldsF r.kind).fTo, .bool (fieldsF r.kind).fYes, .bool (fieldsF r.kind).fStamp, .bool (fieldsF r.kind).fTx, .bool (fieldsF r.kind).fNodes, .bool (fieldsF r.kind).fBatch, .bool (fieldsF r.kind).fSpan, .bool (fieldsF r.kind).fStreams] ∧ w1.heap.size + 1 = W.heap.size) ⟨hw2, B2, D2, hs2.symm⟩ ?_
  clear hw2 hs2 hax B2 D2 b0 B1
  rintro w2 ⟨hw2, C0, C1, hs2⟩
  have CP := fun W => spare_any r r.kind HQ.out nA pA sA nc pc sc W
  unfold Rec.cells Fields.cells at CP
  have c0 : w2.cell? ⟨w.heap.size, 0, none⟩ = some (.int .i64 r.kind) := C0.cell 0
  have c1 : w2.cell? ⟨w.heap.size, 1, none⟩ = some (.int .i64 r.n) := C0.cell 1
  have c2 : w2.cell? ⟨w.heap.size, 2, none⟩ = some (.int .i64 r.to) := C0.cell 2
  have c3 : w2.cell? ⟨w.heap.size, 3, none⟩ = some (.bool r.yes) := C0.cell 3
  have c4 : w2.cell? ⟨w.heap.size, 4, none⟩ = some (.int .i64 r.stamp.wall) := C0.cell 4
  have c5 : w2.cell? ⟨w.heap.size, 5, none⟩ = some (.int .i64 r.stamp.logic) := C0.cell 5
  have c6 : w2.cell? ⟨w.heap.size, 6, none⟩ = some (.int .i64 r.stamp.node) := C0.cell 6
  have c7 : w2.cell? ⟨w.heap.size, 7, none⟩ = some (.int .i64 r.tx.node) := C0.cell 7
  have c8 : w2.cell? ⟨w.heap.size, 8, none⟩ = some (.int .i64 r.tx.life) := C0.cell 8
  have c9 : w2.cell? ⟨w.heap.size, 9, none⟩ = some (.int .i64 r.tx.num) := C0.cell 9
  have c10 : w2.cell? ⟨w.heap.size, 10, none⟩ = some (.slice nA r.nodes.length nc) := C0.cell 10
  have c11 : w2.cell? ⟨w.heap.size, 11, none⟩ = some (.string r.batch.key) := C0.cell 11
  have c12 : w2.cell? ⟨w.heap.size, 12, none⟩ = some (.slice pA r.batch.puts.length pc) := C0.cell 12
  have c13 : w2.cell? ⟨w.heap.size, 13, none⟩ = some (.int .i64 r.range.first) := C0.cell 13
  have c14 : w2.cell? ⟨w.heap.size, 14, none⟩ = some (.int .i64 r.range.last) := C0.cell 14
  have c15 : w2.cell? ⟨w.heap.size, 15, none⟩ = some (.int .i64 r.range.owner) := C0.cell 15
  have c16 : w2.cell? ⟨w.heap.size, 16, none⟩ = some (.int .i64 r.range.epoch) := C0.cell 16
  have c17 : w2.cell? ⟨w.heap.size, 17, none⟩ = some (.slice sA r.streams.length sc) := C0.cell 17
  have d0 : w2.cell? ⟨w1.heap.size, 0, none⟩ = some (.bool (fieldsF r.kind).fN) := C1.cell 0
  have d1 : w2.cell? ⟨w1.heap.size, 1, none⟩ = some (.bool (fieldsF r.kind).fTo) := C1.cell 1
  have d2 : w2.cell? ⟨w1.heap.size, 2, none⟩ = some (.bool (fieldsF r.kind).fYes) := C1.cell 2
  have d3 : w2.cell? ⟨w1.heap.size, 3, none⟩ = some (.bool (fieldsF r.kind).fStamp) := C1.cell 3
  have d4 : w2.cell? ⟨w1.heap.size, 4, none⟩ = some (.bool (fieldsF r.kind).fTx) := C1.cell 4
  have d5 : w2.cell? ⟨w1.heap.size, 5, none⟩ = some (.bool (fieldsF r.kind).fNodes) := C1.cell 5
  have d6 : w2.cell? ⟨w1.heap.size, 6, none⟩ = some (.bool (fieldsF r.kind).fBatch) := C1.cell 6
  have d7 : w2.cell? ⟨w1.heap.size, 7, none⟩ = some (.bool (fieldsF r.kind).fSpan) := C1.cell 7
  have d8 : w2.cell? ⟨w1.heap.size, 8, none⟩ = some (.bool (fieldsF r.kind).fStreams) := C1.cell 8
  go_wp2_with fail
  refine (CP w2).mono ?_
  rintro e w3 ⟨rfl, hb3⟩
  have C0' := C0.ext hb3
  have C1' := C1.ext hb3
  have hw3 := hw2.tr hb3
  have hs3 := hb3.size
  generalize hq : spareB r (fieldsF r.kind) = q
  have HS := jh hq
  clear hq CP
  clear c0 c1 c2 c3 c4 c5 c6 c7 c8 c9 c10 c11 c12 c13 c14 c15 c16 c17 d0 d1 d2 d3 d4 d5 d6 d7 d8
  clear C0 C1
  have C0 := C0'
  have C1 := C1'
  cases q
  ·go_wp2_with fail
   go_ret2
   rw [show checkR r = 1 from by unfold checkR recB; rw [HQ.out, HS.out]; rfl]
   exact ⟨⟨_, rfl⟩, hw3⟩
  ·clear C0' C1'
   have c0 : w3.cell? ⟨w.heap.size, 0, none⟩ = some (.int .i64 r.kind) := C0.cell 0
   go_upto_region 5 with fail
   have hsw : ((w3.alloc (.cells #[.int .u8 (r.kind % 256)] 5)).alloc (.cells #[.slice (some ⟨w3.heap.size, 0, none⟩) 1 1, .bool false] 326)).heap.size = w3.heap.size + 2 := by simp
   have HWr : Wr ((w3.alloc (.cells #[.int .u8 (r.kind % 256)] 5)).alloc (.cells #[.slice (some ⟨w3.heap.size, 0, none⟩) 1 1, .bool false] 326)) w.heap.size (w3.heap.size + 1) false 1 := ⟨_, by simpa using Blk.new (w3.alloc (.cells #[.int .u8 (r.kind % 256)] 5)) 326 [.slice (some ⟨w3.heap.size, 0, none⟩) 1 1, .bool false], ((bts_new1 w3 _).ext ((jb _ _).al _)).base_ (by have := hw3.size; omega)⟩
   refine forget (M := fun W => Code.wp _ _ _ _ W) (fun W => Below w3.heap.size w3 W ∧ Wr W w.heap.size (w3.heap.size + 1) false 1 ∧ W.heap.size = w3.heap.size + 2) ⟨((jb _ _).al _).al _, HWr, hsw⟩ ?_
   clear HWr hsw c0
   rintro w4 ⟨hb4, HW4, hs4⟩
   have hw4 := hw3.tr hb4
   have C04 := C0.ext hb4
   have C14 := C1.ext hb4
   have CH := HHC.out HQ.out nA pA sA nc pc sc (w3.heap.size + 1) w.heap.size 1 false (fun g => g < w.heap.size) w4 HW4 (HR.out.ext (js hw4) hw4.size) (fun k h => h) (by omega) (by have := hw3.size; omega) hw4.size HF.out.puts HF.out.data (hTb.below hw4) h2
   unfold Rec.cells Fields.cells at CH
   clear C0 C1 hb4
   have hg4 : w3.heap.size + 1 < w4.heap.size := HW4.lt
   go_wp2_with (first
    | ((with_reducible refine wpList_load_blk rfl rfl ?_ C04 Tryz.underlying46 rfl (by kernel_rfl) ?_); · rfl)
    | ((with_reducible refine wpList_load_blk rfl rfl ?_ C14 Tryz.underlying320 rfl (by kernel_rfl) ?_); · rfl)
    | fail)
   refine CH.mono ?_
   clear CH
   rintro en w5 ⟨rfl, ⟨n5, hn5, hn5', HW5⟩, hb5, ht5⟩
   have C05 := ht5.blk C04 (by decide) (by omega)
   have C15 := ht5.blk C14 (by decide) (by have := C14.lt; omega)
   have hw5 := hw4.trans hb5
   have CL := HLC.out HQ.out nA pA sA nc pc sc (w3.heap.size + 1) w.heap.size n5 (false || headBad r (fieldsF r.kind)) (fun g => g < w.heap.size) w5 HW5 (HR.out.ext (js hw5) hw5.size) (fun k h => h) (by omega) (by have := hw3.size; omega) hw5.size HF.out.nodes HF.out.streams HF.out.weight HF.out.each (hTb.below hw5) h2
   unfold Rec.cells Fields.cells at CL
   clear C04 C14
   go_wp2_with (first
    | ((with_reducible refine wpList_load_blk rfl rfl ?_ C05 Tryz.underlying46 rfl (by kernel_rfl) ?_); · rfl)
    | ((with_reducible refine wpList_load_blk rfl rfl ?_ C15 Tryz.underlying320 rfl (by kernel_rfl) ?_); · rfl)
    | fail)
   refine CL.mono ?_
   clear CL C05 C15
   rintro en w6 ⟨rfl, ⟨n6, hn6, hn6', ⟨v6, HB6, HV6⟩⟩, hb6, ht6⟩
   have hw6 := hw5.trans hb6
   have d0 := HB6.cell 0
   have d1 := HB6.cell 1
   simp only [List.getElem?_cons_zero, List.getElem?_cons_succ] at d0 d1
   have HRB := jh (show recB r = !(headBad r (fieldsF r.kind) || listsBad r (fieldsF r.kind)) from by unfold recB; rw [HQ.out, HS.out]; rfl)
   simp only [Bool.false_or] at d1
   clear HB6 HV6
   generalize hqq : (headBad r (fieldsF r.kind) || listsBad r (fieldsF r.kind)) = qq at d1
   have HQQ := jh hqq
   clear hqq
   cases qq
   ·go_wp2_with fail
    go_ret2
    rw [show checkR r = 0 from by unfold checkR; rw [HRB.out, HQQ.out]; rfl]
    exact ⟨⟨_, rfl⟩, hw6⟩
   ·go_wp2_with fail
    go_ret2
    rw [show checkR r = 1 from by unfold checkR; rw [HRB.out, HQQ.out]; rfl]
    exact ⟨⟨_, rfl⟩, hw6⟩
theorem headC_H {r : Rec} (h : r.kind = 3 ∨ r.kind = 9 ∨ r.kind = 10 ∨ r.kind = 11) : HeadC r := by
 intro _ nA pA sA nc pc sc g base n0 bad P w hW hr hP hn hg hbw hl hd hTb h2
 rcases h with h | h | h | h
 ·rw [h]; exact head_b r nA pA sA nc pc sc g base n0 bad P w hW hr hP hn hg hbw hl hd hTb h2
 ·rw [h]; exact head_g r nA pA sA nc pc sc g base n0 bad P w hW hr hP hn hg hbw hl hd hTb h2
 ·rw [h]; exact head_h r nA pA sA nc pc sc g base n0 bad P w hW hr hP hn hg hbw hl hd hTb h2
 ·rw [h]; exact head_i r nA pA sA nc pc sc g base n0 bad P w hW hr hP hn hg hbw hl hd hTb h2
theorem listsC_H {r : Rec} (h : r.kind = 3 ∨ r.kind = 9 ∨ r.kind = 10 ∨ r.kind = 11) : ListsC r := by
 intro _ nA pA sA nc pc sc g base n0 bad P w hW hr hP hn hg hbw hl hl2 hd hd2 hTb h2
 rcases h with h | h | h | h
 ·rw [h]; exact lists_b r nA pA sA nc pc sc g base n0 bad P w hW hr hP hn hg hbw hl hl2 hd hd2 hTb h2
 ·rw [h]; exact lists_g r nA pA sA nc pc sc g base n0 bad P w hW hr hP hn hg hbw hl hl2 hd hd2 hTb h2
 ·rw [h]; exact lists_h r nA pA sA nc pc sc g base n0 bad P w hW hr hP hn hg hbw hl hl2 hd hd2 hTb h2
 ·rw [h]; exact lists_i r nA pA sA nc pc sc g base n0 bad P w hW hr hP hn hg hbw hl hl2 hd hd2 hTb h2
end Go.Proofs.YtcmjgghkmdbphaaGreatDoor
namespace Go.Proofs.YtcmjgghkmdbphaaGreatDoor
open Go.RowKit
theorem mayV_bound (T : Tab) (hT : ∀ n, 0 ≤ versionT T n ∧ versionT T n ≤ 40000) : ∀ (l : List Put) (f : List Int), (∀ n ∈ f, -1000000000 ≤ n ∧ n ≤ 1000000000) → f.length + l.length ≤ 100 →
 (mayV T l f).1.length ≤ 100 ∧ ∀ n ∈ (mayV T l f).1, -1000000000 ≤ n ∧ n ≤ 1000000000
 | [], f, h, hl => ⟨by simpa [mayV] using hl, h⟩
 | p :: r, f, h, hl => by
   unfold mayV
   split
   ·exact ⟨by simp, by simp⟩
   ·refine mayV_bound T hT r _ (fun n hn => ?_) (by simp at hl ⊢; omega)
    rcases List.mem_append.1 hn with hn | hn
    ·exact h n hn
    ·have := hT p.stream
     simp only [List.mem_singleton] at hn
     omega
theorem mayS_ok {s : St} {b : Batch} (h : (mayS s b).2.2 = 0) : checkB b = 0 ∧ (mayS s b).1 = (mayV s.table b.puts []).1 := by
 unfold mayS at h ⊢
 split at h
 ·rename_i h1; exact absurd h h1
 ·rename_i h1
  rw [if_neg h1]
  split at h
  ·rename_i h2; exact absurd h h2
  ·rename_i h2
   rw [if_neg h2]
   split at h
   ·rename_i h3; exact absurd h h3
   ·rename_i h3
    rw [if_neg h3]
    exact ⟨by omega, rfl⟩
def CodeOut (w : World) (P : Nat → Prop) (g : Nat) (q : St × Int) (e : Ending) (w' : World) : Prop :=
 e = .returned (.int .i64 q.2) ∧ StAt w' (fun k => P k ∨ w.heap.size ≤ k) g q.1 ∧ Only (· = g) w w' ∧ w'.cell? ⟨g, 6, none⟩ = w.cell? ⟨g, 6, none⟩
theorem commit_any (g : Nat) (s : St) (r : Rec) (nA pA sA : Option Addr) (nc pc sc : Nat) (P Q : Nat → Prop) (w : World) (h : StAt w P g s) (hg : ¬ P g) (hs : StFair s) (hS : Seen g s w)
 (hr : RecAt w Q r nA nc pA pc sA sc) (hQ : ¬ Q g) (hl : r.batch.puts.length ≤ 1000000) (hd : ∀ p ∈ r.batch.puts, p.data.length ≤ 1000000) (hT : Tabs w) (h2 : 2 ≤ g) :
 Calls Tryz.prog 89 #[ptrV g, .agg (r.cells nA nc pA pc sA sc).toArray] w (CodeOut w P g (commitS s r)) := by
 have hgl := h.lt
 have HH := jh (ja h (ja hg (ja hs (ja hS (ja hr (ja hQ (ja hd hT)))))))
 clear h hg hs hS hr hQ hd hT
 have hb1 := (jb w.heap.size w).al (.cells (r.cells nA nc pA pc sA sc).toArray 46)
 have B0 := Blk.new w 46 (r.cells nA nc pA pc sA sc)
 have hs1 : (w.alloc (.cells (r.cells nA nc pA pc sA sc).toArray 46)).heap.size = w.heap.size + 1 := by simp
 unfold ptrV
 go_enter Tryz.func89, Tryz.ntmps89
 go_upto_region 1 with fail
 refine forget (M := fun W => Code.wp _ _ _ _ W) (fun W => Below w.heap.size w W ∧ Blk W w.heap.size 46 (r.cells nA nc pA pc sA sc) ∧ W.heap.size = w.heap.size + 1) ⟨hb1, B0, hs1⟩ ?_
 clear B0 hb1 hs1
 rintro w1 ⟨hb1, B0, hs1⟩
 have x11 : w1.cell? ⟨w.heap.size, 11, none⟩ = some (.string r.batch.key) := B0.cell 11
 have x12 : w1.cell? ⟨w.heap.size, 12, none⟩ = some (.slice pA r.batch.puts.length pc) := B0.cell 12
 obtain ⟨v, hB, hI⟩ := HH.out.1
 have C1 := may_any' g s r.batch pA pc P Q w1 ⟨v, hB.ext hb1, hI.same (js hb1)⟩ (HH.out.2.2.2.1.ext hb1) (HH.out.2.2.2.2.1.puts.2.2.ext hb1) hl HH.out.2.2.2.2.1.key HH.out.2.2.2.2.2.2.1 (HH.out.2.2.2.2.2.2.2.below hb1) (by omega)
 unfold Got3 ptrV at C1
 have H1 := jh (ja hb1 (ja B0 hs1))
 have HM := jh (@mayS_ok s r.batch)
 have HC := jh (show commitS s r = if (mayS s r.batch).2.2 = 0 then (putS s r.batch (mayS s r.batch).1 r.stamp, 0) else (s, (mayS s r.batch).2.2) from rfl)
 generalize hq : mayS s r.batch = q at *
 obtain ⟨fl, kn, code⟩ := q
 simp only at C1
 clear hq hB hI hb1 B0 hs1
 go_wp2_with fail
 refine C1.mono ?_
 clear C1 x11 x12
 rintro e w2 ⟨⟨fv, rfl, hfv⟩, hb2⟩
 have hz2 := hb2.size
 have hw2 := H1.out.1.tr hb2
 have hb3 := hw2.al (.cells #[.string kn.key, .int .i64 kn.first, .int .i64 kn.stamp.wall, .int .i64 kn.stamp.logic, .int .i64 kn.stamp.node] 49)
 have hb23 := hb2.al (.cells #[.string kn.key, .int .i64 kn.first, .int .i64 kn.stamp.wall, .int .i64 kn.stamp.logic, .int .i64 kn.stamp.node] 49)
 have hfv3 := hfv.alloc (.cells #[.string kn.key, .int .i64 kn.first, .int .i64 kn.stamp.wall, .int .i64 kn.stamp.logic, .int .i64 kn.stamp.node] 49)
 obtain ⟨Af, cf, rfl, _⟩ := hfv.form
 go_upto_region 2 with fail
 generalize (w2.alloc (.cells #[.string kn.key, .int .i64 kn.first, .int .i64 kn.stamp.wall, .int .i64 kn.stamp.logic, .int .i64 kn.stamp.node] 49)) = w3 at *
 obtain ⟨v, hB, hI⟩ := HH.out.1
 have hst3 : StAt w3 P g s := ⟨v, hB.ext hb3, hI.same (js hb3)⟩
 have H3 := jh (ja hst3 (ja hb3 (((hB.ext hb3).cell 6).trans (hB.cell 6).symm)))
 by_cases hcd : code = 0
 ·have hm := HM.out hcd
  have hgd := checkB_good hm.1
  have hbd := mayV_bound s.table HH.out.2.2.2.1.vers r.batch.puts [] (by simp) (by simp; have := hgd.few; omega)
  rw [← hm.2] at hbd
  have hz3 := hb3.size
  have C3 := sput_any g s r.batch fl r.stamp pA Af pc cf P (fun k => (Q k ∧ k < w.heap.size) ∨ w1.heap.size ≤ k) w3 hst3 HH.out.2.1 HH.out.2.2.1
   (((HH.out.2.2.2.2.1.puts.2.2.mono fun k h h' => (⟨h, h'⟩ : Q k ∧ k < w.heap.size)).ext hb3).mono fun k h _ => .inl h) (hfv3.row' int_plain fun k h => .inr (hfv3.lt k h).1) (fun h => by
     rcases h with h | h
     ·exact HH.out.2.2.2.2.2.1 h.1
     ·have := H1.out.2.2; omega) hgd.few (fun p hp => (hgd.puts p hp).1.1) (fun p hp => List.length_pos_iff.2 (hgd.puts p hp).2.2.1) HH.out.2.2.2.2.1.key hbd.1 hbd.2 HH.out.2.2.2.2.1.stamp (HH.out.2.2.2.2.2.2.2.below hb3) h2
  have B3 := H1.out.2.1.ext hb23
  have x11 : w3.cell? ⟨w.heap.size, 11, none⟩ = some (.string r.batch.key) := B3.cell 11
  have x12 : w3.cell? ⟨w.heap.size, 12, none⟩ = some (.slice pA r.batch.puts.length pc) := B3.cell 12
  have x4 : w3.cell? ⟨w.heap.size, 4, none⟩ = some (.int .i64 r.stamp.wall) := B3.cell 4
  have x5 : w3.cell? ⟨w.heap.size, 5, none⟩ = some (.int .i64 r.stamp.logic) := B3.cell 5
  have x6 : w3.cell? ⟨w.heap.size, 6, none⟩ = some (.int .i64 r.stamp.node) := B3.cell 6
  have HE := jh (show commitS s r = (putS s r.batch fl r.stamp, 0) from by rw [HC.out]; exact if_pos hcd)
  subst hcd
  unfold ptrV at C3
  clear hm hgd hbd B3 hst3 hb3 hb23 hfv hfv3 hb2 hw2 hB hI
  go_wp2_with fail
  refine C3.mono ?_
  clear C3 x11 x12 x4 x5 x6
  rintro e w4 ⟨rfl, hst4, hO4, h64⟩
  have H4 := jh (ja hst4 (ja hO4 h64))
  clear hst4 hO4 h64
  go_wp2_with fail
  go_ret
  unfold CodeOut
  rw [HE.out]
  refine ⟨rfl, ?_, (jo H3.out.2.1).tr H4.out.2.1, H4.out.2.2.trans H3.out.2.2⟩
  obtain ⟨v', a1, a2⟩ := H4.out.1
  exact ⟨v', a1, a2.mono fun k hk => by
   rcases hk with h | h
   ·exact .inl h
   ·exact .inr (by have := H3.out.2.1.size; omega)⟩
 ·have hc' : (code == 0) = false := by rw [beq_eq_false_iff_ne]; exact hcd
  have HE := jh (show commitS s r = (s, code) from by rw [HC.out]; exact if_neg hcd)
  clear hcd hst3 hb3 hb23 hfv hfv3 hb2 hw2 hB hI
  go_wp2_with fail
  go_ret
  unfold CodeOut
  rw [HE.out]
  obtain ⟨v', a1, a2⟩ := H3.out.1
  exact ⟨rfl, ⟨v', a1, a2.mono fun k hk => .inl hk⟩, jo H3.out.2.1, H3.out.2.2⟩
end Go.Proofs.YtcmjgghkmdbphaaGreatDoor
namespace Go.Proofs.YtcmjgghkmdbphaaGreatDoor
open Go.RowKit
section
variable {w : World} {v : Value} {ps : List (Tx × Value)}
theorem run_lookup_v {t e : TypeId} (ht : Tryz.prog.underlying t = some (.map 42 e)) (h : MapV w v ps) (k : Tx) (z : Value) (hz : (zeroValue e).run Tryz.prog w = .ok z w) (c : Bool) :
 (Instr.lookup t v (txE k) c).run Tryz.prog w = .ok (if c then .tuple #[(assocOf k ps).getD z, .bool (assocOf k ps).isSome] else (assocOf k ps).getD z) w := by
 rcases h with ⟨rfl, rfl⟩ | ⟨m, rfl, hM⟩
 ·have := run_lookup_nil tx_key ht k z hz c
  simpa [assocOf] using this
 ·exact run_lookup_map tx_key ht hM k z hz c
theorem wpQuiet_lookup_v {ops : Array Oper} {rest : List Oper} {o : Oper} {a : Act} {C : World → Prop} {Q : Act → Prop} (r : Option Value) (hw : Region.wanted o (yielded ops a.tmps) = true) (mo x : Operand) (t : TypeId) (c : Bool) (hop : o.op = Op.lookup t mo x c) {e : TypeId}
 (ht : Tryz.prog.underlying t = some (.map 42 e)) (hm : a.eval mo = v) (h : ∀ w, C w → MapV w v ps) (k : Tx) (hx : a.eval x = txE k) (hr : assocOf k ps = r) (z : Value) (hz : ∀ w, (zeroValue e).run Tryz.prog w = .ok z w)
 (hK : wpQuiet Tryz.prog ops C Q rest (a.put o.dst (if c then .tuple #[r.getD z, .bool r.isSome] else r.getD z))) : wpQuiet Tryz.prog ops C Q (o :: rest) a := by
 refine BigFrame.wpQuiet_want hw fun K hK' => ⟨_, fun w hC => ?_, hK' _ hK⟩
 unfold Oper.quietAt execOp
 subst hr
 simp only [hop, hm, hx, Sem.run_bind, run_lookup_v ht (h w hC) k z (hz w) c, Sem.run_pure, Result.andThen_ok, Oper.quietUpon, and_self]
end
theorem MpAt.mapV {β : Type} {R : Rep β} {V : List Value → Value} {w : World} {P : Nat → Prop} {v : Value} {l : List (Tx × β)} (h : MpAt txE R V w P v l) :
 ∃ LA : List (Tx × (β × List Value)), MapV w v (LA.map fun p => (p.1, V p.2.2)) ∧ (∀ p ∈ LA, R.rep w P p.2.2 p.2.1) ∧ l = LA.map fun p => (p.1, p.2.1) := by
 obtain ⟨_, ⟨rfl, rfl⟩ | ⟨m, LA, rfl, _, hM, hr, hl⟩⟩ := h
 ·exact ⟨[], .inl ⟨rfl, rfl⟩, by simp, rfl⟩
 ·exact ⟨LA, .inr ⟨m, rfl, hM⟩, hr, hl⟩
theorem zero_held (w : World) : (zeroValue 192).run Tryz.prog w = .ok (.agg #[.int .i64 0, .int .i64 0, .int .i64 0, .string ⟨#[]⟩, .slice none 0 0, .int .i64 0, .int .i64 0, .int .i64 0, .slice none 0 0]) w := by kernel_rfl
theorem held_of {LA : List (Tx × (Held × List Value))} {w : World} {P : Nat → Prop} (hr : ∀ p ∈ LA, HeldR.rep w P p.2.2 p.2.1) (t : Tx) :
 (getA t (LA.map fun p => (p.1, p.2.1)) = none ∧ assocOf t (LA.map fun p => (p.1, aggV p.2.2)) = none) ∨
 ∃ h pA pc fA fc, getA t (LA.map fun p => (p.1, p.2.1)) = some h ∧ assocOf t (LA.map fun p => (p.1, aggV p.2.2)) = some (.agg (h.cellsV pA pc fA fc).toArray) ∧ h.tx.fit ∧ sfit h.batch.key ∧ h.stamp.fit ∧ (h.batch.puts.length ≤ pc ∧ pc ≤ 9223372036854775807 ∧ PutR.Row w P pA h.batch.puts) ∧ (h.firsts.length ≤ fc ∧ fc ≤ 9223372036854775807 ∧ IntR.Row w P fA h.firsts) := by
 rw [assocOf_eq, getA_map (fun x : Held × List Value => x.1) t LA, getA_map (fun x : Held × List Value => aggV x.2) t LA]
 cases hg : getA t LA with
 | none => exact .inl ⟨rfl, rfl⟩
 | some x =>
   obtain ⟨h, cs⟩ := x
   have := hr _ (getA_mem hg)
   dsimp only at this
   obtain ⟨pA, pc, fA, fc, rfl, h1, h2, h3, h4, h5⟩ := held_rep.1 this
   exact .inr ⟨h, pA, pc, fA, fc, rfl, rfl, h1, h2, h3, h4, h5⟩
structure HeldFit (h : Held) : Prop where
 few : h.batch.puts.length ≤ 8
 data : ∀ p ∈ h.batch.puts, p.data.length ≤ 20 ∧ 0 < p.data.length
 firsts : h.firsts.length ≤ 100 ∧ ∀ n ∈ h.firsts, -1000000000 ≤ n ∧ n ≤ 1000000000
structure Fit (s : St) : Prop where
 self : s.self ≠ 0
 ring : s.ring.length ≤ 1000000
 vers : ∀ n, 0 ≤ versionT s.table n ∧ versionT s.table n ≤ 40000
 fits : ∀ n k, (knownT s.table n k).1.fit
 fair : StFair s
 frozen : s.frozen.length ≤ 1000000
 held : ∀ x ∈ s.held, HeldFit x.2
theorem Fit.seen {s : St} (h : Fit s) {w : World} {P : Nat → Prop} {g : Nat} (hst : StAt w P g s) : Seen g s w :=
 ⟨h.self, h.ring, h.vers, h.fits, fun n W hn hW => by
  obtain ⟨v, hB, hI⟩ := hst
  exact busy_any g s n P W ⟨v, hB.ext hW, hI.same (js hW)⟩ h.frozen (fun x hx => by have := (h.held x hx).few; omega) hn⟩
def StOut (w : World) (P : Nat → Prop) (g : Nat) (q : St × Int) (e : Ending) (w' : World) : Prop :=
 e = .returned (.int .i64 q.2) ∧ StAt w' (fun k => P k ∨ w.heap.size ≤ k) g q.1 ∧ Only (· = g) w w'
theorem CodeOut.out {w w' : World} {P : Nat → Prop} {g : Nat} {q : St × Int} {e : Ending} (h : CodeOut w P g q e w') : StOut w P g q e w' := ⟨h.1, h.2.1, h.2.2.1⟩
end Go.Proofs.YtcmjgghkmdbphaaGreatDoor
namespace Go.Proofs.YtcmjgghkmdbphaaGreatDoor
open Go.RowKit
theorem recCheck_of (r : Rec) (hHC : HeadC r) (hLC : ListsC r) (nA pA sA : Option Addr) (nc pc sc : Nat) (P : Nat → Prop) (w : World) (hr : RecAt w P r nA nc pA pc sA sc) (hF : r.Fair) (hTb : Tabs w) (h2 : 2 ≤ w.heap.size) :
 Calls Tryz.prog 87 #[.agg (r.cells nA nc pA pc sA sc).toArray] w fun e w' => e = .returned (.int .i64 (checkR r)) ∧ Below w.heap.size w w' := by
 have C := fun W (h : Below w.heap.size w W) => recEncode_of r hHC hLC nA pA sA nc pc sc P W (hr.ext (js h) h.size) hF (hTb.below h) (by have := h.size; omega)
 unfold Rec.cells at C ⊢
 clear hr hF hTb hHC hLC
 go_enter Tryz.func87, Tryz.ntmps87
 go_wp2_with fail
 refine (C _ ((jb _ _).al _)).mono ?_
 clear C
 rintro e w1 ⟨⟨v, rfl⟩, hb1⟩
 go_wp2_with fail
 go_ret
 exact ⟨rfl, ((jb _ _).al _).tr hb1⟩
theorem recCheckH_any (r : Rec) (hK : r.kind = 3 ∨ r.kind = 9 ∨ r.kind = 10 ∨ r.kind = 11) (nA pA sA : Option Addr) (nc pc sc : Nat) (P : Nat → Prop) (w : World) (hr : RecAt w P r nA nc pA pc sA sc) (hF : r.Fair) (hTb : Tabs w) (h2 : 2 ≤ w.heap.size) :
 Calls Tryz.prog 87 #[.agg (r.cells nA nc pA pc sA sc).toArray] w fun e w' => e = .returned (.int .i64 (checkR r)) ∧ Below w.heap.size w w' :=
 recCheck_of r (headC_H hK) (listsC_H hK) nA pA sA nc pc sc P w hr hF hTb h2
end Go.Proofs.YtcmjgghkmdbphaaGreatDoor
namespace Go.Proofs.YtcmjgghkmdbphaaGreatDoor
open Go.RowKit
theorem sort_perm (l : List Str) : (sortS l).Perm l := List.mergeSort_perm _ _
theorem mem_sort {l : List Str} {x : Str} : x ∈ sortS l ↔ x ∈ l := (sort_perm l).mem_iff
theorem sort_nodup {l : List Str} (h : l.Nodup) : (sortS l).Nodup := (sort_perm l).nodup_iff.2 h
theorem perm_of_mem {α : Type} [DecidableEq α] {l m : List α} (hl : l.Nodup) (hm : m.Nodup) (h : ∀ x, x ∈ l ↔ x ∈ m) : l.Perm m := by
 rw [List.perm_iff_count]
 intro a
 rw [hl.count, hm.count]
 simp only [h a]
theorem goesFrom_iff (l : List Event) (v i : Int) : goesFrom l v i = true ↔ ∀ (j : Nat) (e : Event), l[j]? = some e → e.version = v + 1 + (i + j) := by
 induction l generalizing i with
 | nil => simp [goesFrom]
 | cons e l ih =>
   unfold goesFrom
   rw [Bool.and_eq_true, decide_eq_true_eq, ih]
   constructor
   ·rintro ⟨h1, h2⟩ j x hx
    cases j with
    | zero => simp at hx; subst hx; omega
    | succ j => have := h2 j x (by simpa using hx); omega
   ·intro h
    refine ⟨by have := h 0 e rfl; simpa using this, fun j x hx => ?_⟩
    have := h (j + 1) x (by simpa using hx)
    omega
theorem goes_iff (l : List Event) (v : Int) : goesB l v = true ↔ ∀ (j : Nat) (e : Event), l[j]? = some e → e.version = v + 1 + j := by
 unfold goesB; rw [goesFrom_iff]
 constructor <;> intro h j e he <;> have := h j e he <;> omega
def keyFit (ev : List Event) (k : Known) : Prop := k.first ≤ ev.length ∧ (ev.map Event.stamp).getD (k.first - 1).toNat zeroStamp = k.stamp
theorem metK_zero {l : List Known} {k : Str} : metK l k = 0 ↔ ∀ x ∈ l, x.key ≠ k := by
 unfold metK
 rw [List.length_eq_zero_iff, List.filter_eq_nil_iff]
 simp
theorem keysB_iff (ev : List Event) (l r : List Known) : keysB ev l r = true ↔ (∀ k ∈ r, keyFit ev k) ∧ (r.map Known.key).Nodup ∧ ∀ k ∈ r, ∀ x ∈ l, x.key ≠ k.key := by
 induction r generalizing l with
 | nil => simp [keysB]
 | cons k r ih =>
   unfold keysB
   simp only [Bool.and_eq_true, decide_eq_true_eq, ih, metK_zero, List.mem_cons, List.map_cons, List.nodup_cons, List.mem_append, List.mem_map, not_exists, not_and]
   constructor
   ·rintro ⟨h1, h2, h3, h4, h5, h6⟩
    refine ⟨?_, ⟨?_, h5⟩, ?_⟩
    ·rintro x (rfl | hx)
     ·exact ⟨h2, h3⟩
     ·exact h4 x hx
    ·intro x hx e
     exact h6 x hx k (.inr (.inl rfl)) e.symm
    ·rintro x (rfl | hx) y hy
     ·exact h1 y hy
     ·exact h6 x hx y (.inl hy)
   ·rintro ⟨h1, ⟨h2, h3⟩, h4⟩
    refine ⟨h4 k (.inl rfl), (h1 k (.inl rfl)).1, (h1 k (.inl rfl)).2, fun x hx => h1 x (.inr hx), h3, ?_⟩
    rintro x hx y (hy | rfl | hy)
    ·exact h4 x (.inr hx) y hy
    ·exact fun e => h2 x hx e.symm
    ·cases hy
structure TS.Ok (n : Str) (s : TS) : Prop where
 name : nameB n = true
 full : s.events ≠ []
 evs : ∀ e ∈ s.events, okE n e = true
 goes : ∀ (j : Nat) (e : Event), s.events[j]? = some e → e.version = j + 1
 keys : ∀ p ∈ s.keys, p.2.key = p.1 ∧ knownB p.2 = true ∧ keyFit s.events p.2
 nd : (s.keys.map (·.1)).Nodup
structure Tab.Ok (T : Tab) : Prop where
 nd : (T.map (·.1)).Nodup
 each : ∀ p ∈ T, p.2.Ok p.1
theorem getD_of {α : Type} {o : Option α} {a d : α} (h : o = some a) : o.getD d = a := by rw [h]; rfl
theorem mem_keys {s : TS} {n : Str} (h : s.Ok n) {k : Known} : k ∈ (streamOf n s).keys ↔ (k.key, k) ∈ s.keys := by
 unfold streamOf
 simp only [List.mem_map, mem_sort]
 constructor
 ·rintro ⟨x, ⟨p, hp, rfl⟩, rfl⟩
  rw [getD_of (getA_of_mem h.nd (show (p.1, p.2) ∈ s.keys from hp))]
  rw [(h.keys p hp).1]; exact hp
 ·intro hk
  exact ⟨k.key, ⟨_, hk, rfl⟩, getD_of (getA_of_mem h.nd hk)⟩
theorem keys_fst {s : TS} {n : Str} (h : s.Ok n) : (streamOf n s).keys.map Known.key = sortS (s.keys.map (·.1)) := by
 unfold streamOf
 simp only [List.map_map]
 conv => rhs; rw [← List.map_id (sortS (s.keys.map (·.1)))]
 apply List.map_congr_left
 intro x hx
 rw [mem_sort] at hx
 obtain ⟨p, hp, rfl⟩ := List.mem_map.1 hx
 simp only [Function.comp, id]
 rw [getD_of (getA_of_mem h.nd (show (p.1, p.2) ∈ s.keys from hp))]
 exact (h.keys p hp).1
theorem TS.Ok.whole {s : TS} {n : Str} (h : s.Ok n) : wholeB (streamOf n s) = true := by
 unfold wholeB streamB
 simp only [Bool.and_eq_true, decide_eq_true_eq, List.all_eq_true]
 refine ⟨⟨h.name, h.evs, fun k hk => (h.keys _ ((mem_keys h).1 hk)).2.1⟩, h.full, ?_, ?_⟩
 ·rw [goes_iff]; intro j e he; have := h.goes j e he; omega
 ·rw [keysB_iff]
  refine ⟨fun k hk => (h.keys _ ((mem_keys h).1 hk)).2.2, ?_, fun _ _ x hx => by cases hx⟩
  rw [keys_fst h]; exact sort_nodup h.nd
theorem foldl_putA_out {α κ β : Type} [DecidableEq κ] (f : α → κ) (v : α → β) (l : List α) (m : List (κ × β)) {x : κ} (h : x ∉ l.map f) : getA x (l.foldl (fun m a => putA (f a) (v a) m) m) = getA x m := by
 induction l generalizing m with
 | nil => rfl
 | cons a l ih =>
   simp only [List.map_cons, List.mem_cons, not_or] at h
   rw [List.foldl_cons, ih _ h.2, getA_put, if_neg h.1]
theorem foldl_putA_in {α κ β : Type} [DecidableEq κ] (f : α → κ) (v : α → β) (l : List α) (m : List (κ × β)) (hn : (l.map f).Nodup) {a : α} (h : a ∈ l) : getA (f a) (l.foldl (fun m a => putA (f a) (v a) m) m) = some (v a) := by
 induction l generalizing m with
 | nil => cases h
 | cons b l ih =>
   simp only [List.map_cons, List.nodup_cons] at hn
   rw [List.foldl_cons]
   rcases List.mem_cons.1 h with rfl | h
   ·rw [foldl_putA_out f v l _ hn.1, getA_put, if_pos rfl]
   ·exact ih _ hn.2 h
theorem foldl_putA_nd {α κ β : Type} [DecidableEq κ] (f : α → κ) (v : α → β) (l : List α) (m : List (κ × β)) (hn : (m.map (·.1)).Nodup) : ((l.foldl (fun m a => putA (f a) (v a) m) m).map (·.1)).Nodup := by
 induction l generalizing m with
 | nil => exact hn
 | cons a l ih => rw [List.foldl_cons]; exact ih _ (putA_nodup hn)
theorem foldl_putA_mem {α κ β : Type} [DecidableEq κ] (f : α → κ) (v : α → β) (l : List α) (m : List (κ × β)) {p : κ × β} (h : p ∈ l.foldl (fun m a => putA (f a) (v a) m) m) : p ∈ m ∨ ∃ a ∈ l, p = (f a, v a) := by
 induction l generalizing m with
 | nil => exact .inl h
 | cons a l ih =>
   rw [List.foldl_cons] at h
   rcases ih _ h with h | ⟨b, hb, e⟩
   ·rcases putA_mem h with h | h | h
    ·exact .inr ⟨a, by simp, h⟩
    ·exact .inl h.1
    ·exact .inl h
   ·exact .inr ⟨b, by simp [hb], e⟩
def tsOf (s : Stream) : TS := ⟨s.events, keysOf s.keys⟩
theorem tsOf_ok {s : Stream} (h : wholeB s = true) : (tsOf s).Ok s.name := by
 unfold wholeB streamB at h
 simp only [Bool.and_eq_true, decide_eq_true_eq, List.all_eq_true, goes_iff, keysB_iff] at h
 obtain ⟨⟨h1, h2, h3⟩, h4, h5, h6, h7, _⟩ := h
 refine ⟨h1, h4, h2, fun j e he => by have := h5 j e he; omega, fun p hp => ?_, foldl_putA_nd _ _ _ _ (by simp)⟩
 rcases foldl_putA_mem Known.key (fun k => k) s.keys [] hp with hp | ⟨k, hk, rfl⟩
 ·cases hp
 ·exact ⟨rfl, h3 k hk, h6 k hk⟩
theorem getA_keysOf {l : List Known} (hn : (l.map Known.key).Nodup) {k : Known} (h : k ∈ l) : getA k.key (keysOf l) = some k := foldl_putA_in Known.key (fun k => k) l [] hn h
theorem getA_keysOf_none {l : List Known} {x : Str} (h : x ∉ l.map Known.key) : getA x (keysOf l) = none := foldl_putA_out Known.key (fun k => k) l [] h
def TS.Like (s s' : TS) : Prop := s.events = s'.events ∧ ∀ k, getA k s.keys = getA k s'.keys
def OptLike : Option TS → Option TS → Prop
 | none, none => True
 | some s, some s' => s.Like s'
 | _, _ => False
def Tab.Like (T T' : Tab) : Prop := ∀ n, OptLike (getA n T) (getA n T')
theorem streamOf_like {n : Str} {s : TS} (h : s.Ok n) : (tsOf (streamOf n s)).Like s := by
 refine ⟨rfl, fun k => ?_⟩
 show getA k (keysOf (streamOf n s).keys) = _
 by_cases hk : k ∈ (streamOf n s).keys.map Known.key
 ·obtain ⟨x, hx, rfl⟩ := List.mem_map.1 hk
  rw [getA_keysOf (by rw [keys_fst h]; exact sort_nodup h.nd) hx, getA_of_mem h.nd ((mem_keys h).1 hx)]
 ·rw [getA_keysOf_none hk]
  rw [keys_fst h, mem_sort] at hk
  exact (getA_none.2 hk).symm
theorem TS.Like.version {T T' : Tab} (h : T.Like T') (n : Str) : versionT T n = versionT T' n := by
 have := h n
 unfold versionT
 cases h1 : getA n T <;> cases h2 : getA n T' <;> rw [h1, h2] at this
 ·exact this.elim
 ·exact this.elim
 ·exact congrArg (fun l : List Event => (l.length : Int)) this.1
theorem TS.Like.known {T T' : Tab} (h : T.Like T') (n k : Str) : knownT T n k = knownT T' n k := by
 have := h n
 unfold knownT
 cases h1 : getA n T <;> cases h2 : getA n T' <;> rw [h1, h2] at this
 ·exact this.elim
 ·exact this.elim
 ·simp only [this.2 k]
theorem like_mem {T T' : Tab} (h : T.Like T') (x : Str) : x ∈ T.map (·.1) ↔ x ∈ T'.map (·.1) := by
 have := h x
 cases h1 : getA x T <;> cases h2 : getA x T' <;> rw [h1, h2] at this
 ·rw [getA_none] at h1 h2; simp [h1, h2]
 ·exact this.elim
 ·exact this.elim
 ·exact ⟨fun _ => List.mem_map.2 ⟨_, getA_mem h2, rfl⟩, fun _ => List.mem_map.2 ⟨_, getA_mem h1, rfl⟩⟩
theorem metS_zero {l : List Stream} {n : Str} : metS l n = 0 ↔ ∀ x ∈ l, x.name ≠ n := by
 unfold metS
 rw [List.length_eq_zero_iff, List.filter_eq_nil_iff]
 simp
theorem okPut_iff (l r : List Stream) : okPut l r = true ↔ (∀ s ∈ r, wholeB s = true) ∧ (r.map Stream.name).Nodup ∧ ∀ s ∈ r, ∀ x ∈ l, x.name ≠ s.name := by
 induction r generalizing l with
 | nil => simp [okPut]
 | cons k r ih =>
   unfold okPut
   simp only [Bool.and_eq_true, decide_eq_true_eq, ih, metS_zero, List.mem_cons, List.map_cons, List.nodup_cons, List.mem_append, List.mem_map, not_exists, not_and]
   constructor
   ·rintro ⟨h1, h2, h4, h5, h6⟩
    refine ⟨?_, ⟨?_, h5⟩, ?_⟩
    ·rintro x (rfl | hx)
     ·exact h2
     ·exact h4 x hx
    ·intro x hx e
     exact h6 x hx k (.inr (.inl rfl)) e.symm
    ·rintro x (rfl | hx) y hy
     ·exact h1 y hy
     ·exact h6 x hx y (.inl hy)
   ·rintro ⟨h1, ⟨h2, h3⟩, h4⟩
    refine ⟨h4 k (.inl rfl), h1 k (.inl rfl), fun x hx => h1 x (.inr hx), h3, ?_⟩
    rintro x hx y (hy | rfl | hy)
    ·exact h4 x (.inr hx) y hy
    ·exact fun e => h2 x hx e.symm
    ·cases hy
theorem putAll_out {l : List Stream} {T : Tab} {x : Str} (h : x ∉ l.map Stream.name) : getA x (putAll l T) = getA x T := foldl_putA_out Stream.name (fun s => tsOf s) l T h
theorem putAll_in {l : List Stream} {T : Tab} (hn : (l.map Stream.name).Nodup) {s : Stream} (h : s ∈ l) : getA s.name (putAll l T) = some (tsOf s) := foldl_putA_in Stream.name (fun s => tsOf s) l T hn h
theorem putAll_ok {l : List Stream} {T : Tab} (hT : T.Ok) (h : ∀ s ∈ l, wholeB s = true) : (putAll l T).Ok := by
 refine ⟨foldl_putA_nd Stream.name (fun s => tsOf s) l T hT.nd, fun p hp => ?_⟩
 rcases foldl_putA_mem Stream.name (fun s => tsOf s) l T hp with hp | ⟨s, hs, rfl⟩
 ·exact hT.each p hp
 ·exact tsOf_ok (h s hs)
theorem Tab.Ok.nil_ : Tab.Ok [] := ⟨by simp, fun p hp => by cases hp⟩
theorem mem_take {T : Tab} (hT : T.Ok) {r : Range} {s : Stream} : s ∈ takeT T r ↔ ∃ t, getA s.name T = some t ∧ s = streamOf s.name t ∧ inR r s.name = true := by
 unfold takeT someT
 simp only [List.mem_map, List.mem_filter, mem_sort]
 constructor
 ·rintro ⟨n, ⟨⟨p, hp, rfl⟩, hr⟩, rfl⟩
  have hg := getA_of_mem hT.nd (show (p.1, p.2) ∈ T from hp)
  rw [getD_of hg]
  exact ⟨p.2, hg, rfl, hr⟩
 ·rintro ⟨t, ht, hs, hr⟩
  refine ⟨s.name, ⟨⟨_, getA_mem ht, rfl⟩, hr⟩, ?_⟩
  rw [getD_of ht]; exact hs.symm
theorem take_names (T : Tab) (r : Range) : (takeT T r).map Stream.name = someT T r := by
 unfold takeT
 rw [List.map_map]
 conv => rhs; rw [← List.map_id (someT T r)]
 exact List.map_congr_left fun x _ => rfl
theorem some_nodup {T : Tab} (hT : T.Ok) (r : Range) : (someT T r).Nodup := (sort_nodup hT.nd).sublist List.filter_sublist
theorem take_whole {T : Tab} (hT : T.Ok) (r : Range) : ∀ s ∈ takeT T r, wholeB s = true := by
 intro s hs
 obtain ⟨t, ht, he, _⟩ := (mem_take hT).1 hs
 rw [he]
 exact (hT.each _ (getA_mem ht)).whole
theorem take_okPut {T : Tab} (hT : T.Ok) (r : Range) : okPut [] (takeT T r) = true :=
 (okPut_iff _ _).2 ⟨take_whole hT r, by rw [take_names]; exact some_nodup hT r, fun _ _ x hx => by cases hx⟩
theorem hash_all (h : ∀ n, 0 ≤ hashS n ∧ hashS n < 4294967296) (n : Str) : inR allHashes n = true := by
 unfold inR Range.has allHashes
 have := h n
 simp; omega
theorem fresh_like (hh : ∀ n, 0 ≤ hashS n ∧ hashS n < 4294967296) {T : Tab} (hT : T.Ok) : (freshT T).Like T ∧ (freshT T).Ok := by
 unfold freshT putT
 rw [if_pos (take_okPut hT _)]
 refine ⟨fun n => ?_, putAll_ok Tab.Ok.nil_ (take_whole hT _)⟩
 cases h : getA n T with
 | none =>
   rw [putAll_out]
   ·exact trivial
   ·rw [take_names]
    unfold someT
    rw [List.mem_filter, mem_sort]
    exact fun hx => getA_none.1 h hx.1
 | some s =>
   have hm : streamOf n s ∈ takeT T allHashes := (mem_take hT).2 ⟨s, h, rfl, hash_all hh n⟩
   have := putAll_in (T := []) (by rw [take_names]; exact some_nodup hT _) hm
   rw [show getA n (putAll (takeT T allHashes) []) = _ from this]
   exact streamOf_like (hT.each _ (getA_mem h))
end Go.Proofs.YtcmjgghkmdbphaaGreatDoor
namespace Go.Proofs.YtcmjgghkmdbphaaGreatDoor
open Go.RowKit
theorem hashS_bd (s : Str) : 0 ≤ hashS s ∧ hashS s < 4294967296 := hash_bd s.data.toList
def evT (T : Tab) (n : Str) : List Event := match getA n T with | some s => s.events | none => []
def kyT (T : Tab) (n : Str) : List (Str × Known) := match getA n T with | some s => s.keys | none => []
theorem version_ev (T : Tab) (n : Str) : versionT T n = (evT T n).length := by
 unfold versionT evT; cases getA n T <;> rfl
theorem known_ky (T : Tab) (n k : Str) : knownT T n k = match getA k (kyT T n) with | some x => (x, true) | none => (zeroKnown, false) := by
 unfold knownT kyT; cases getA n T <;> rfl
theorem ts_getD (T : Tab) (n : Str) : (getA n T).getD ⟨[], []⟩ = ⟨evT T n, kyT T n⟩ := by
 unfold evT kyT; cases getA n T <;> rfl
theorem like_ev {T T' : Tab} (h : T.Like T') (n : Str) : evT T n = evT T' n := by
 have := h n
 unfold evT
 cases h1 : getA n T <;> cases h2 : getA n T' <;> rw [h1, h2] at this
 ·exact this.elim
 ·exact this.elim
 ·exact this.1
theorem evT_put (T : Tab) (n x : Str) (s : TS) : evT (putA n s T) x = if x = n then s.events else evT T x := by
 unfold evT; rw [getA_put]; by_cases h : x = n <;> simp [h]
theorem kyT_put (T : Tab) (n x : Str) (s : TS) : kyT (putA n s T) x = if x = n then s.keys else kyT T x := by
 unfold kyT; rw [getA_put]; by_cases h : x = n <;> simp [h]
theorem getA_addKey (k : Str) (e : Event) (m : List (Str × Known)) (x : Str) : getA x (addKey k e m) = if x = k ∧ getA k m = none ∧ k.toList ≠ [] then some ⟨k, e.version, e.stamp⟩ else getA x m := by
 unfold addKey
 by_cases h : (getA k m).isNone = true ∧ k.toList ≠ []
 ·rw [if_pos h, getA_put]
  by_cases hx : x = k
  ·rw [if_pos hx, if_pos ⟨hx, by simpa using h.1, h.2⟩]
  ·rw [if_neg hx, if_neg (fun q => hx q.1)]
 ·rw [if_neg h, if_neg (fun q => h ⟨by simp [q.2.1], q.2.2⟩)]
theorem addKey_nd {k : Str} {e : Event} {m : List (Str × Known)} (h : (m.map (·.1)).Nodup) : ((addKey k e m).map (·.1)).Nodup := by
 unfold addKey; split
 ·exact putA_nodup h
 ·exact h
theorem addKey_mem {k : Str} {e : Event} {m : List (Str × Known)} {p : Str × Known} (h : p ∈ addKey k e m) : p ∈ m ∨ (p = (k, ⟨k, e.version, e.stamp⟩) ∧ k.toList ≠ []) := by
 unfold addKey at h; split at h
 ·rename_i hc
  rcases putA_mem h with h | h | h
  ·exact .inr ⟨h, hc.2⟩
  ·exact .inl h.1
  ·exact .inl h
 ·exact .inl h
theorem getA_ok {T : Tab} (hT : T.Ok) {n : Str} {s : TS} (h : getA n T = some s) : s.Ok n := hT.each _ (getA_mem h)
theorem Tab.Ok.put {T : Tab} (hT : T.Ok) {n : Str} {s : TS} (h : s.Ok n) : Tab.Ok (putA n s T) := by
 refine ⟨putA_nodup hT.nd, fun p hp => ?_⟩
 rcases putA_mem hp with rfl | h' | h'
 ·exact h
 ·exact hT.each _ h'.1
 ·exact hT.each _ h'
theorem ev_ok {T : Tab} (hT : T.Ok) (n : Str) : (∀ e ∈ evT T n, okE n e = true) ∧ (∀ (j : Nat) (e : Event), (evT T n)[j]? = some e → e.version = j + 1) ∧ (∀ p ∈ kyT T n, p.2.key = p.1 ∧ knownB p.2 = true ∧ keyFit (evT T n) p.2) ∧ ((kyT T n).map (·.1)).Nodup := by
 unfold evT kyT
 cases h : getA n T with
 | none => simp
 | some s => have := getA_ok hT h; exact ⟨this.evs, this.goes, this.keys, this.nd⟩
theorem keyFit_app {ev l : List Event} {k : Known} (h : keyFit ev k) (h1 : 1 ≤ k.first) : keyFit (ev ++ l) k := by
 obtain ⟨h2, h3⟩ := h
 refine ⟨by rw [List.length_append]; omega, ?_⟩
 rw [← h3, List.map_append]
 have : (k.first - 1).toNat < (ev.map Event.stamp).length := by rw [List.length_map]; omega
 simp only [List.getD_eq_getElem?_getD]
 rw [List.getElem?_append_left this]
theorem append_spec {T : Tab} (hT : T.Ok) {k : Str} {e : Event} {l : List Event} (hk : keyB k = true) (ha : ∀ x ∈ e :: l, x.stream = e.stream ∧ x.stamp = e.stamp ∧ eventB x = true)
 (hg : ∀ (j : Nat) (x : Event), (e :: l)[j]? = some x → x.version = versionT T e.stream + 1 + j) :
 (appendT k (e :: l) T).2 = 0 ∧ (appendT k (e :: l) T).1.Ok ∧ (∀ n, evT (appendT k (e :: l) T).1 n = if n = e.stream then evT T n ++ (e :: l) else evT T n) ∧
 ∀ n, kyT (appendT k (e :: l) T).1 n = if n = e.stream then addKey k e (kyT T n) else kyT T n := by
 have h1 : alikeB (e :: l) = true := by
  unfold alikeB
  simp only [List.all_eq_true, Bool.and_eq_true, decide_eq_true_eq]
  exact ha
 have h2 : goesB (e :: l) (versionT T e.stream) = true := (goes_iff _ _).2 hg
 have he : appendT k (e :: l) T = (putA e.stream ⟨evT T e.stream ++ (e :: l), addKey k e (kyT T e.stream)⟩ T, 0) := by
  unfold appendT
  simp only [h1, hk, h2, ts_getD]
  simp
 rw [he]
 have hev := ev_ok hT e.stream
 have hb := eventB_iff.1 (ha e (by simp)).2.2
 have hve : e.version = versionT T e.stream + 1 := by have := hg 0 e rfl; simpa using this
 refine ⟨rfl, hT.put ⟨hb.1, by simp, ?_, ?_, ?_, addKey_nd hev.2.2.2⟩, fun n => ?_, fun n => ?_⟩
 ·intro x hx
  rcases List.mem_append.1 hx with hx | hx
  ·exact hev.1 x hx
  ·have := ha x hx
   unfold okE
   rw [this.2.2, this.1]; simp
 ·intro j x hx
  rw [List.getElem?_append] at hx
  split at hx
  ·exact hev.2.1 j x hx
  ·rename_i hj
   have := hg _ x hx
   rw [version_ev] at this
   omega
 ·intro p hp
  rcases addKey_mem hp with hp | ⟨rfl, hne⟩
  ·have := hev.2.2.1 p hp
   exact ⟨this.1, this.2.1, keyFit_app this.2.2 (knownB_iff.1 this.2.1).2.2.1⟩
  ·refine ⟨rfl, knownB_iff.2 ⟨by simpa using hne, hk, hb.2.1, hb.2.2.1, hb.2.2.2.2.2.1⟩, ?_, ?_⟩
   ·rw [version_ev] at hve; simp only [List.length_append, List.length_cons]; omega
   ·rw [version_ev] at hve
    have : (e.version - 1).toNat = (evT T e.stream).length := by omega
    simp only [this, List.getD_eq_getElem?_getD, List.getElem?_map]
    rw [List.getElem?_append_right (Nat.le_refl _)]
    simp
 ·rw [evT_put]
  by_cases h : n = e.stream <;> simp [h]
 ·rw [kyT_put]
  by_cases h : n = e.stream <;> simp [h]
structure PutOk (p : Put) : Prop where
 few : p.data.length ≤ 20
 data : ∀ s ∈ p.data, s.size ≤ 1000 ∧ validB s = true
 name : nameB p.stream = true
 full : p.data ≠ []
theorem Batch.Good.putOk {b : Batch} (h : b.Good) : ∀ p ∈ b.puts, PutOk p := fun p hp => by
 obtain ⟨⟨h1, h2⟩, h3, h4, h5, _⟩ := h.puts p hp
 exact ⟨h1, fun s hs => ⟨h2 s hs, by rw [h5] at hs; exact (List.mem_filter.1 hs).2⟩, h3, h4⟩
theorem metOf_zero {l : List Put} {n : Str} : metOf l n = 0 ↔ ∀ x ∈ l, x.stream ≠ n := by
 unfold metOf
 rw [List.length_eq_zero_iff, List.filter_eq_nil_iff]
 simp
theorem putsB_dist (l r : List Put) (h : putsB l r = true) : (r.map Put.stream).Nodup ∧ ∀ p ∈ r, ∀ x ∈ l, x.stream ≠ p.stream := by
 induction r generalizing l with
 | nil => simp
 | cons p r ih =>
   unfold putsB at h
   simp only [Bool.and_eq_true] at h
   obtain ⟨i1, i2⟩ := ih _ h.2
   have hm := metOf_zero.1 (putB_iff.1 h.1).2.1
   simp only [List.map_cons, List.nodup_cons, List.mem_map, not_exists, not_and]
   refine ⟨⟨fun x hx e => i2 x hx p (by simp) e.symm, i1⟩, fun q hq x hx => ?_⟩
   rcases List.mem_cons.1 hq with rfl | hq
   ·exact hm x hx
   ·exact i2 q hq x (by simp [hx])
theorem checkB_dist {b : Batch} (h : checkB b = 0) : (b.puts.map Put.stream).Nodup := by
 unfold checkB at h
 by_cases hm : mayB b = true
 ·unfold mayB at hm
  simp only [Bool.and_eq_true] at hm
  exact (putsB_dist _ _ hm.1).1
 ·rw [if_neg hm] at h; cases h
theorem makeP_at (p : Put) (a b : Int) (st : Stamp) (ix : Int) (d : List Str) (k n j : Nat) : (makeP p a b st ix d k n)[j]? = d[j]?.map fun x => ⟨p.stream, a + b * ((k + j : Nat) : Int), x, st, ix + ((n + j : Nat) : Int)⟩ := by
 induction d generalizing k n j with
 | nil => simp [makeP]
 | cons x d ih =>
   cases j with
   | zero => simp [makeP]
   | succ j =>
     simp only [makeP, List.getElem?_cons_succ, ih]
     rw [show k + 1 + j = k + (j + 1) by omega, show n + 1 + j = n + (j + 1) by omega]
theorem makeP_mem {p : Put} {a b : Int} {st : Stamp} {ix : Int} {d : List Str} {k n : Nat} {e : Event} (h : e ∈ makeP p a b st ix d k n) : ∃ j x, j < d.length ∧ d[j]? = some x ∧ e = ⟨p.stream, a + b * ((k + j : Nat) : Int), x, st, ix + ((n + j : Nat) : Int)⟩ := by
 obtain ⟨j, hj⟩ := List.getElem?_of_mem h
 rw [makeP_at] at hj
 obtain ⟨x, hx, rfl⟩ := Option.map_eq_some_iff.1 hj
 exact ⟨j, x, (List.getElem?_eq_some_iff.1 hx).1, hx, rfl⟩
theorem makeP_stream {p : Put} {a b : Int} {st : Stamp} {ix : Int} {d : List Str} {k n : Nat} {e : Event} (h : e ∈ makeP p a b st ix d k n) : e.stream = p.stream ∧ e.stamp = st := by
 obtain ⟨j, x, _, _, rfl⟩ := makeP_mem h; exact ⟨rfl, rfl⟩
theorem makeF_stream (l : List Put) (f : List Int) (st : Stamp) (ix : Int) (n : Nat) {e : Event} (h : e ∈ makeF l f st ix n) : (∃ p ∈ l, p.stream = e.stream) ∧ e.stamp = st := by
 induction l generalizing f n with
 | nil => cases h
 | cons p r ih =>
   unfold makeF at h
   rcases List.mem_append.1 h with h | h
   ·exact ⟨⟨p, by simp, (makeP_stream h).1.symm⟩, (makeP_stream h).2⟩
   ·obtain ⟨⟨q, hq, e1⟩, e2⟩ := ih _ _ h
    exact ⟨⟨q, by simp [hq], e1⟩, e2⟩
def firstsT (T : Tab) (l : List Put) : List Int := l.map fun p => versionT T p.stream + 1
def knowsT (T : Tab) (k : Str) (st : Stamp) (hit : Bool) (n x : Str) : Known × Bool := if x = k ∧ k.toList ≠ [] ∧ hit = true ∧ (knownT T n k).2 = false then (⟨k, versionT T n + 1, st⟩, true) else knownT T n x
theorem putP_spec {k : Str} {st : Stamp} (hk : keyB k = true) (hst : soundB st = true) : ∀ (l : List Put) (ix : Nat) (T : Tab), T.Ok → (l.map Put.stream).Nodup → (∀ p ∈ l, PutOk p) → (∀ n, versionT T n + 20 * l.length ≤ 1099511627000) → ix + sumD l ≤ 160 →
 (putP k l (makeF l (firstsT T l) st 0 ix) T).Ok ∧ (∀ n, evT (putP k l (makeF l (firstsT T l) st 0 ix) T) n = evT T n ++ (makeF l (firstsT T l) st 0 ix).filter fun e => decide (e.stream = n)) ∧
 ∀ n x, knownT (putP k l (makeF l (firstsT T l) st 0 ix) T) n x = knowsT T k st (l.any fun p => decide (p.stream = n)) n x
 | [], ix, T, hT, _, _, _, _ => by
   refine ⟨hT, fun n => by simp [putP, makeF], fun n x => ?_⟩
   unfold knowsT
   rw [if_neg (by simp)]; rfl
 | p :: r, ix, T, hT, hd, hp, hv, hs => by
   have hpo := hp p (by simp)
   simp only [List.map_cons, List.nodup_cons] at hd
   have hsd : sumD (p :: r) = p.data.length + sumD r := by simp [sumD]
   have hEq : makeF (p :: r) (firstsT T (p :: r)) st 0 ix = makeP p (versionT T p.stream + 1) 1 st 0 p.data 0 ix ++ makeF r (firstsT T r) st 0 (ix + p.data.length) := by
    rw [makeF]; rfl
   have hlen := makeP_len p (versionT T p.stream + 1) 1 st 0 p.data 0 ix
   have hM := @makeP_at p (versionT T p.stream + 1) 1 st 0 p.data 0 ix
   have hMm := fun e => @makeP_mem p (versionT T p.stream + 1) 1 st 0 p.data 0 ix e
   generalize hm : makeP p (versionT T p.stream + 1) 1 st 0 p.data 0 ix = m at hEq hlen hM hMm
   have hput : putP k (p :: r) (makeF (p :: r) (firstsT T (p :: r)) st 0 ix) T = putP k r (makeF r (firstsT T r) st 0 (ix + p.data.length)) (appendT k m T).1 := by
    rw [hEq]
    show putP k r ((m ++ _).drop p.data.length) (appendT k ((m ++ _).take p.data.length) T).1 = _
    rw [← hlen, List.drop_left, List.take_left]
   have hne : p.data.length ≠ 0 := fun e => hpo.full (List.length_eq_zero_iff.1 e)
   cases m with
   | nil => exact absurd hlen.symm (by simpa using hne)
   | cons e m =>
     have hst1 : ∀ x ∈ e :: m, x.stream = p.stream ∧ x.stamp = st ∧ eventB x = true := fun x hx => by
      obtain ⟨j, d, hj, hd2, rfl⟩ := hMm x hx
      have h1 := hv p.stream
      have h2 := (version_ev T p.stream)
      refine ⟨rfl, rfl, eventB_iff.2 ⟨hpo.name, ?_, ?_, (hpo.data d (List.mem_of_getElem? hd2)).1, (hpo.data d (List.mem_of_getElem? hd2)).2, hst, ?_, ?_⟩⟩ <;> (have := hpo.few; simp only []; omega)
     have he := hst1 e (by simp)
     obtain ⟨a1, a2, a3, a4⟩ := append_spec (k := k) (e := e) (l := m) hT hk (fun x hx => ⟨(hst1 x hx).1.trans he.1.symm, (hst1 x hx).2.1.trans he.2.1.symm, (hst1 x hx).2.2⟩) (fun j x hx => by
      rw [hM] at hx
      obtain ⟨d, _, rfl⟩ := Option.map_eq_some_iff.1 hx
      rw [he.1]; simp only []; omega)
     have hev1 : e.version = versionT T p.stream + 1 := by
      have := hM 0
      simp only [List.getElem?_cons_zero] at this
      obtain ⟨d, _, h⟩ := Option.map_eq_some_iff.1 this.symm
      rw [← h]; simp
     rw [he.1] at a3 a4
     have hvr : firstsT (appendT k (e :: m) T).1 r = firstsT T r := by
      unfold firstsT
      refine List.map_congr_left fun q hq => ?_
      rw [version_ev, version_ev, a3, if_neg]
      exact fun h => hd.1 (List.mem_map.2 ⟨q, hq, h⟩)
     have hkn : ∀ n x, knownT (appendT k (e :: m) T).1 n x = knowsT T k st (decide (p.stream = n)) n x := fun n x => by
      unfold knowsT
      simp only [known_ky]
      rw [a4]
      by_cases hn : n = p.stream
      ·subst hn
       simp only [if_true, decide_true, true_and]
       rw [getA_addKey]
       cases h1 : getA k (kyT T p.stream) with
       | none =>
         by_cases hx : x = k ∧ k.toList ≠ []
         ·rw [if_pos ⟨hx.1, rfl, hx.2⟩, if_pos ⟨hx.1, hx.2, rfl⟩, hev1, he.2.1]
         ·rw [if_neg (fun q => hx ⟨q.1, q.2.2⟩), if_neg (fun q => hx ⟨q.1, q.2.1⟩)]
       | some y =>
         rw [if_neg (fun q => by cases q.2.1), if_neg (fun q => by cases q.2.2)]
      ·rw [if_neg hn, if_neg (fun q => hn (of_decide_eq_true q.2.2.1).symm)]
     have hv1 : ∀ n, versionT (appendT k (e :: m) T).1 n + 20 * r.length ≤ 1099511627000 := fun n => by
      have h1 := hv n
      have h2 := hpo.few
      rw [version_ev] at h1 ⊢
      rw [List.length_cons] at h1
      rw [a3]; split
      ·rw [List.length_append]; omega
      ·omega
     obtain ⟨b1, b2, b3⟩ := putP_spec hk hst r (ix + p.data.length) (appendT k (e :: m) T).1 a2 hd.2 (fun q hq => hp q (by simp [hq])) hv1 (by omega)
     rw [hvr] at b1 b2 b3
     rw [hput]
     refine ⟨b1, fun n => ?_, fun n x => ?_⟩
     ·rw [b2, a3, hEq, List.filter_append]
      by_cases hn : n = p.stream
      ·rw [if_pos hn, show (e :: m).filter (fun e => decide (e.stream = n)) = e :: m from List.filter_eq_self.2 (fun x hx => by rw [(hst1 x hx).1, hn]; simp), List.append_assoc]
      ·rw [if_neg hn, show (e :: m).filter (fun e => decide (e.stream = n)) = [] from List.filter_eq_nil_iff.2 (fun x hx => by rw [(hst1 x hx).1]; simpa using fun h => hn h.symm), List.nil_append]
     ·rw [b3]
      simp only [List.any_cons]
      unfold knowsT
      simp only [hkn]
      unfold knowsT
      by_cases hn : p.stream = n
      ·have hno : (r.any fun q => decide (q.stream = n)) = false := by
        rw [List.any_eq_false]
        intro q hq
        simp only [decide_eq_true_eq]
        exact fun h => hd.1 (List.mem_map.2 ⟨q, hq, h.trans hn.symm⟩)
       simp [hn, hno]
      ·have hv2 : versionT (appendT k (e :: m) T).1 n = versionT T n := by rw [version_ev, version_ev, a3, if_neg (fun h => hn h.symm)]
       simp [hn, hv2]
end Go.Proofs.YtcmjgghkmdbphaaGreatDoor
