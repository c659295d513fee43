/- rec.Encode, rec.Check. state.commit. Look-ups in drawn regions; what is asked of a state; state.prepare. state.decide. rec.Check. -/
import Derived.Test.YtcmjgghkmdbphaaGreatDoorT15
import Derived.Test.YtcmjgghkmdbphaaGreatDoorT07
import Derived.Test.YtcmjgghkmdbphaaGreatDoorT05
import Derived.Test.YtcmjgghkmdbphaaGreatDoorT13
import Derived.Test.YtcmjgghkmdbphaaGreatDoorT08
set_option maxRecDepth 20000
set_option maxHeartbeats 25600000
namespace Go.Proofs.YtcmjgghkmdbphaaGreatDoor
open Go.RowKit
def HeadC (r : Rec) : Prop := namedK r.kind = true → ∀ (nA pA sA : Option Addr) (nc pc sc : Nat) (g base n0 : Nat) (bad : Bool) (P : Nat → Prop) (w : World) (_hW : Wr w base g bad n0) (_hr : RecAt w P r nA nc pA pc sA sc) (_hP : ∀ k, P k → k < base) (_hn : n0 ≤ 1000000) (_hg : base ≤ g) (_hbw : base ≤ w.heap.size) (_hl : r.batch.puts.length ≤ 1000000) (_hd : ∀ p ∈ r.batch.puts, p.data.length ≤ 1000000) (_hTb : Tabs w) (_h2 : 2 ≤ base),
    Calls Tryz.prog 253 #[.pointer (some ⟨g, 0, none⟩), .agg (r.cells nA nc pA pc sA sc).toArray, .agg (fieldsF r.kind).cells.toArray] w (WrOut g base n0 (n0 + 500000) (bad || headBad r (fieldsF r.kind)) w)
def ListsC (r : Rec) : Prop := namedK r.kind = true → ∀ (nA pA sA : Option Addr) (nc pc sc : Nat) (g base n0 : Nat) (bad : Bool) (P : Nat → Prop) (w : World) (_hW : Wr w base g bad n0) (_hr : RecAt w P r nA nc pA pc sA sc) (_hP : ∀ k, P k → k < base) (_hn : n0 ≤ 1000000) (_hg : base ≤ g) (_hbw : base ≤ w.heap.size) (_hl : r.nodes.length ≤ 1000000) (_hl2 : r.streams.length ≤ 1000000) (_hd : weights r.streams ≤ 50000000) (_hd2 : ∀ s ∈ r.streams, s.events.length ≤ 40000 ∧ s.keys.length ≤ 40000) (_hTb : Tabs w) (_h2 : 2 ≤ base),
    Calls Tryz.prog 254 #[.pointer (some ⟨g, 0, none⟩), .agg (r.cells nA nc pA pc sA sc).toArray, .agg (fieldsF r.kind).cells.toArray] w (WrOut g base n0 (n0 + 11000000 + weights r.streams) (bad || listsBad r (fieldsF r.kind)) w)
def recB (r : Rec) : Bool := namedK r.kind && (spareB r (fieldsF r.kind) && !(headBad r (fieldsF r.kind) || listsBad r (fieldsF r.kind)))
def checkR (r : Rec) : Int := if recB r then 0 else 1
structure Rec.Fair (r : Rec) : Prop where
 puts : r.batch.puts.length ≤ 1000000
 data : ∀ p ∈ r.batch.puts, p.data.length ≤ 1000000
 nodes : r.nodes.length ≤ 1000000
 streams : r.streams.length ≤ 1000000
 weight : weights r.streams ≤ 50000000
 each : ∀ s ∈ r.streams, s.events.length ≤ 40000 ∧ s.keys.length ≤ 40000
def GotCode (n : Int) (e : Ending) : Prop := ∃ v, e = .returned (.tuple #[v, .int .i64 n])
theorem RecAt.ext {w w' : World} {P : Nat → Prop} {r : Rec} {nA pA sA : Option Addr} {nc pc sc : Nat} (h : RecAt w P r nA nc pA pc sA sc) (hs : Same P w w') (hz : w.heap.size ≤ w'.heap.size) : RecAt w' P r nA nc pA pc sA sc :=
 { h with nodes := ⟨h.nodes.1, h.nodes.2.1, h.nodes.2.2.same hs hz⟩, puts := ⟨h.puts.1, h.puts.2.1, h.puts.2.2.same hs hz⟩, streams := ⟨h.streams.1, h.streams.2.1, h.streams.2.2.same hs hz⟩ }
theorem RecAt.mono {w : World} {P Q : Nat → Prop} {r : Rec} {nA pA sA : Option Addr} {nc pc sc : Nat} (h : RecAt w P r nA nc pA pc sA sc) (hs : ∀ g, P g → g < w.heap.size → Q g) : RecAt w Q r nA nc pA pc sA sc :=
 { h with nodes := ⟨h.nodes.1, h.nodes.2.1, h.nodes.2.2.mono hs⟩, puts := ⟨h.puts.1, h.puts.2.1, h.puts.2.2.mono hs⟩, streams := ⟨h.streams.1, h.streams.2.1, h.streams.2.2.mono hs⟩ }
theorem recEncode_of (r : Rec) (hHC : HeadC r) (hLC : ListsC r) (nA pA sA : Option Addr) (nc pc sc : Nat) (P : Nat → Prop) (w : World) (hr : RecAt w P r nA nc pA pc sA sc) (hF : r.Fair) (hTb : Tabs w) (h2 : 2 ≤ w.heap.size) :
 Calls Tryz.prog 171 #[.agg (r.cells nA nc pA pc sA sc).toArray] w fun e w' => GotCode (checkR r) e ∧ Below w.heap.size w w' := by
 have HHC := jh hHC
 have HLC := jh hLC
 clear hHC hLC
 have hr := hr.mono (Q := fun g => g < w.heap.size) fun g _ h => h
 have HR := jh hr
 have HF := jh hF
 have CN := fun W => recNamed_any r.kind W
 have B0 := Blk.new w 46 (r.cells nA nc pA pc sA sc)
 unfold Rec.cells at B0 ⊢
 clear hr hF
 go_enter Tryz.func171, Tryz.ntmps171
 go_wp2_with fail
 refine (CN _).mono ?_
 rintro e w1 ⟨rfl, hb1⟩
 have hw1 : Below w.heap.size w w1 := ((jb _ _).al _).tr hb1
 have B1 := B0.ext hb1
 clear B0 hb1
 generalize hq : namedK r.kind = q
 have HQ := jh hq
 clear hq
 have hz1 := hw1.size
 have b0 : w1.cell? ⟨w.heap.size, 0, none⟩ = some (.int .i64 r.kind) := B1.cell 0
 unfold Fields.cells
 cases q
 ·go_wp2_with fail
  go_ret2
  rw [show checkR r = 1 from by unfold checkR recB; rw [HQ.out]; rfl]
  exact ⟨⟨_, rfl⟩, hw1.al _⟩
 ·have hax := (jb w1.heap.size w1).al (.cells (fieldsF r.kind).cells.toArray 320)
  have B2 := B1.alloc (.cells (fieldsF r.kind).cells.toArray 320)
  have D2 := Blk.new w1 320 (fieldsF r.kind).cells
  have hw2 := hw1.tr hax
  have hs2 : (w1.alloc (.cells (fieldsF r.kind).cells.toArray 320)).heap.size = w1.heap.size + 1 := by simp
  unfold Rec.cells at B2
  unfold Fields.cells at B2 D2 hw2 hs2 hax
  go_upto_region 2 with fail
  refine forget (M := fun W => Code.wp _ _ _ _ W) (fun W => Below w.heap.size w W ∧ Blk W w.heap.size 46 [.int .i64 r.kind, .int .i64 r.n, .int .i64 r.to, .bool r.yes, .int .i64 r.stamp.wall, .int .i64 r.stamp.logic, .int .i64 r.stamp.node, .int .i64 r.tx.node, .int .i64 r.tx.life, .int .i64 r.tx.num, .slice nA r.nodes.length nc, .string r.batch.key, .slice pA r.batch.puts.length pc, .int .i64 r.range.first, .int .i64 r.range.last, .int .i64 r.range.owner, .int .i64 r.range.epoch, .slice sA r.streams.length sc] ∧ Blk W w1.heap.size 320 [.bool (fieldsF r.kind).fN, .bool (fieldsF r.kind).fTo, .bool (fieldsF r.kind).fYes, .bool (fieldsF r.kind).fStamp, .bool (fieldsF r.kind).fTx, .bool (fieldsF r.kind).fNodes, .bool (fieldsF r.kind).fBatch, .bool (fieldsF r.kind).fSpan, .bool (fieldsF r.kind).fStreams] ∧ w1.heap.size + 1 = W.heap.size) ⟨hw2, B2, D2, hs2.symm⟩ ?_
  clear hw2 hs2 hax B2 D2 b0 B1
  rintro w2 ⟨hw2, C0, C1, hs2⟩
  have CP := fun W => spare_any r r.kind HQ.out nA pA sA nc pc sc W
  unfold Rec.cells Fields.cells at CP
  have c0 : w2.cell? ⟨w.heap.size, 0, none⟩ = some (.int .i64 r.kind) := C0.cell 0
  have c1 : w2.cell? ⟨w.heap.size, 1, none⟩ = some (.int .i64 r.n) := C0.cell 1
  have c2 : w2.cell? ⟨w.heap.size, 2, none⟩ = some (.int .i64 r.to) := C0.cell 2
  have c3 : w2.cell? ⟨w.heap.size, 3, none⟩ = some (.bool r.yes) := C0.cell 3
  have c4 : w2.cell? ⟨w.heap.size, 4, none⟩ = some (.int .i64 r.stamp.wall) := C0.cell 4
  have c5 : w2.cell? ⟨w.heap.size, 5, none⟩ = some (.int .i64 r.stamp.logic) := C0.cell 5
  have c6 : w2.cell? ⟨w.heap.size, 6, none⟩ = some (.int .i64 r.stamp.node) := C0.cell 6
  have c7 : w2.cell? ⟨w.heap.size, 7, none⟩ = some (.int .i64 r.tx.node) := C0.cell 7
  have c8 : w2.cell? ⟨w.heap.size, 8, none⟩ = some (.int .i64 r.tx.life) := C0.cell 8
  have c9 : w2.cell? ⟨w.heap.size, 9, none⟩ = some (.int .i64 r.tx.num) := C0.cell 9
  have c10 : w2.cell? ⟨w.heap.size, 10, none⟩ = some (.slice nA r.nodes.length nc) := C0.cell 10
  have c11 : w2.cell? ⟨w.heap.size, 11, none⟩ = some (.string r.batch.key) := C0.cell 11
  have c12 : w2.cell? ⟨w.heap.size, 12, none⟩ = some (.slice pA r.batch.puts.length pc) := C0.cell 12
  have c13 : w2.cell? ⟨w.heap.size, 13, none⟩ = some (.int .i64 r.range.first) := C0.cell 13
  have c14 : w2.cell? ⟨w.heap.size, 14, none⟩ = some (.int .i64 r.range.last) := C0.cell 14
  have c15 : w2.cell? ⟨w.heap.size, 15, none⟩ = some (.int .i64 r.range.owner) := C0.cell 15
  have c16 : w2.cell? ⟨w.heap.size, 16, none⟩ = some (.int .i64 r.range.epoch) := C0.cell 16
  have c17 : w2.cell? ⟨w.heap.size, 17, none⟩ = some (.slice sA r.streams.length sc) := C0.cell 17
  have d0 : w2.cell? ⟨w1.heap.size, 0, none⟩ = some (.bool (fieldsF r.kind).fN) := C1.cell 0
  have d1 : w2.cell? ⟨w1.heap.size, 1, none⟩ = some (.bool (fieldsF r.kind).fTo) := C1.cell 1
  have d2 : w2.cell? ⟨w1.heap.size, 2, none⟩ = some (.bool (fieldsF r.kind).fYes) := C1.cell 2
  have d3 : w2.cell? ⟨w1.heap.size, 3, none⟩ = some (.bool (fieldsF r.kind).fStamp) := C1.cell 3
  have d4 : w2.cell? ⟨w1.heap.size, 4, none⟩ = some (.bool (fieldsF r.kind).fTx) := C1.cell 4
  have d5 : w2.cell? ⟨w1.heap.size, 5, none⟩ = some (.bool (fieldsF r.kind).fNodes) := C1.cell 5
  have d6 : w2.cell? ⟨w1.heap.size, 6, none⟩ = some (.bool (fieldsF r.kind).fBatch) := C1.cell 6
  have d7 : w2.cell? ⟨w1.heap.size, 7, none⟩ = some (.bool (fieldsF r.kind).fSpan) := C1.cell 7
  have d8 : w2.cell? ⟨w1.heap.size, 8, none⟩ = some (.bool (fieldsF r.kind).fStreams) := C1.cell 8
  go_wp2_with fail
  refine (CP w2).mono ?_
  rintro e w3 ⟨rfl, hb3⟩
  have C0' := C0.ext hb3
  have C1' := C1.ext hb3
  have hw3 := hw2.tr hb3
  have hs3 := hb3.size
  generalize hq : spareB r (fieldsF r.kind) = q
  have HS := jh hq
  clear hq CP
  clear c0 c1 c2 c3 c4 c5 c6 c7 c8 c9 c10 c11 c12 c13 c14 c15 c16 c17 d0 d1 d2 d3 d4 d5 d6 d7 d8
  clear C0 C1
  have C0 := C0'
  have C1 := C1'
  cases q
  ·go_wp2_with fail
   go_ret2
   rw [show checkR r = 1 from by unfold checkR recB; rw [HQ.out, HS.out]; rfl]
   exact ⟨⟨_, rfl⟩, hw3⟩
  ·clear C0' C1'
   have c0 : w3.cell? ⟨w.heap.size, 0, none⟩ = some (.int .i64 r.kind) := C0.cell 0
   go_upto_region 5 with fail
   have hsw : ((w3.alloc (.cells #[.int .u8 (r.kind % 256)] 5)).alloc (.cells #[.slice (some ⟨w3.heap.size, 0, none⟩) 1 1, .bool false] 326)).heap.size = w3.heap.size + 2 := by simp
   have HWr : Wr ((w3.alloc (.cells #[.int .u8 (r.kind % 256)] 5)).alloc (.cells #[.slice (some ⟨w3.heap.size, 0, none⟩) 1 1, .bool false] 326)) w.heap.size (w3.heap.size + 1) false 1 := ⟨_, by simpa using Blk.new (w3.alloc (.cells #[.int .u8 (r.kind % 256)] 5)) 326 [.slice (some ⟨w3.heap.size, 0, none⟩) 1 1, .bool false], ((bts_new1 w3 _).ext ((jb _ _).al _)).base_ (by have := hw3.size; omega)⟩
   refine forget (M := fun W => Code.wp _ _ _ _ W) (fun W => Below w3.heap.size w3 W ∧ Wr W w.heap.size (w3.heap.size + 1) false 1 ∧ W.heap.size = w3.heap.size + 2) ⟨((jb _ _).al _).al _, HWr, hsw⟩ ?_
   clear HWr hsw c0
   rintro w4 ⟨hb4, HW4, hs4⟩
   have hw4 := hw3.tr hb4
   have C04 := C0.ext hb4
   have C14 := C1.ext hb4
   have CH := HHC.out HQ.out nA pA sA nc pc sc (w3.heap.size + 1) w.heap.size 1 false (fun g => g < w.heap.size) w4 HW4 (HR.out.ext (js hw4) hw4.size) (fun k h => h) (by omega) (by have := hw3.size; omega) hw4.size HF.out.puts HF.out.data (hTb.below hw4) h2
   unfold Rec.cells Fields.cells at CH
   clear C0 C1 hb4
   have hg4 : w3.heap.size + 1 < w4.heap.size := HW4.lt
   go_wp2_with (first
    | ((with_reducible refine wpList_load_blk rfl rfl ?_ C04 Tryz.underlying46 rfl (by kernel_rfl) ?_); · rfl)
    | ((with_reducible refine wpList_load_blk rfl rfl ?_ C14 Tryz.underlying320 rfl (by kernel_rfl) ?_); · rfl)
    | fail)
   refine CH.mono ?_
   clear CH
   rintro en w5 ⟨rfl, ⟨n5, hn5, hn5', HW5⟩, hb5, ht5⟩
   have C05 := ht5.blk C04 (by decide) (by omega)
   have C15 := ht5.blk C14 (by decide) (by have := C14.lt; omega)
   have hw5 := hw4.trans hb5
   have CL := HLC.out HQ.out nA pA sA nc pc sc (w3.heap.size + 1) w.heap.size n5 (false || headBad r (fieldsF r.kind)) (fun g => g < w.heap.size) w5 HW5 (HR.out.ext (js hw5) hw5.size) (fun k h => h) (by omega) (by have := hw3.size; omega) hw5.size HF.out.nodes HF.out.streams HF.out.weight HF.out.each (hTb.below hw5) h2
   unfold Rec.cells Fields.cells at CL
   clear C04 C14
   go_wp2_with (first
    | ((with_reducible refine wpList_load_blk rfl rfl ?_ C05 Tryz.underlying46 rfl (by kernel_rfl) ?_); · rfl)
    | ((with_reducible refine wpList_load_blk rfl rfl ?_ C15 Tryz.underlying320 rfl (by kernel_rfl) ?_); · rfl)
    | fail)
   refine CL.mono ?_
   clear CL C05 C15
   rintro en w6 ⟨rfl, ⟨n6, hn6, hn6', ⟨v6, HB6, HV6⟩⟩, hb6, ht6⟩
   have hw6 := hw5.trans hb6
   have d0 := HB6.cell 0
   have d1 := HB6.cell 1
   simp only [List.getElem?_cons_zero, List.getElem?_cons_succ] at d0 d1
   have HRB := jh (show recB r = !(headBad r (fieldsF r.kind) || listsBad r (fieldsF r.kind)) from by unfold recB; rw [HQ.out, HS.out]; rfl)
   simp only [Bool.false_or] at d1
   clear HB6 HV6
   generalize hqq : (headBad r (fieldsF r.kind) || listsBad r (fieldsF r.kind)) = qq at d1
   have HQQ := jh hqq
   clear hqq
   cases qq
   ·go_wp2_with fail
    go_ret2
    rw [show checkR r = 0 from by unfold checkR; rw [HRB.out, HQQ.out]; rfl]
    exact ⟨⟨_, rfl⟩, hw6⟩
   ·go_wp2_with fail
    go_ret2
    rw [show checkR r = 1 from by unfold checkR; rw [HRB.out, HQQ.out]; rfl]
    exact ⟨⟨_, rfl⟩, hw6⟩
theorem headC_P {r : Rec} (h : r.kind = 4 ∨ r.kind = 5) : HeadC r := by
 intro _ nA pA sA nc pc sc g base n0 bad P w hW hr hP hn hg hbw hl hd hTb h2
 rcases h with h | h
 ·rw [h]; exact head_c r nA pA sA nc pc sc g base n0 bad P w hW hr hP hn hg hbw hl hd hTb h2
 ·rw [h]; exact head_d r nA pA sA nc pc sc g base n0 bad P w hW hr hP hn hg hbw hl hd hTb h2
theorem listsC_P {r : Rec} (h : r.kind = 4 ∨ r.kind = 5) : ListsC r := by
 intro _ nA pA sA nc pc sc g base n0 bad P w hW hr hP hn hg hbw hl hl2 hd hd2 hTb h2
 rcases h with h | h
 ·rw [h]; exact lists_c r nA pA sA nc pc sc g base n0 bad P w hW hr hP hn hg hbw hl hl2 hd hd2 hTb h2
 ·rw [h]; exact lists_d r nA pA sA nc pc sc g base n0 bad P w hW hr hP hn hg hbw hl hl2 hd hd2 hTb h2
end Go.Proofs.YtcmjgghkmdbphaaGreatDoor
namespace Go.Proofs.YtcmjgghkmdbphaaGreatDoor
open Go.RowKit
theorem mayV_bound (T : Tab) (hT : ∀ n, 0 ≤ versionT T n ∧ versionT T n ≤ 40000) : ∀ (l : List Put) (f : List Int), (∀ n ∈ f, -1000000000 ≤ n ∧ n ≤ 1000000000) → f.length + l.length ≤ 100 →
 (mayV T l f).1.length ≤ 100 ∧ ∀ n ∈ (mayV T l f).1, -1000000000 ≤ n ∧ n ≤ 1000000000
 | [], f, h, hl => ⟨by simpa [mayV] using hl, h⟩
 | p :: r, f, h, hl => by
   unfold mayV
   split
   ·exact ⟨by simp, by simp⟩
   ·refine mayV_bound T hT r _ (fun n hn => ?_) (by simp at hl ⊢; omega)
    rcases List.mem_append.1 hn with hn | hn
    ·exact h n hn
    ·have := hT p.stream
     simp only [List.mem_singleton] at hn
     omega
theorem mayS_ok {s : St} {b : Batch} (h : (mayS s b).2.2 = 0) : checkB b = 0 ∧ (mayS s b).1 = (mayV s.table b.puts []).1 := by
 unfold mayS at h ⊢
 split at h
 ·rename_i h1; exact absurd h h1
 ·rename_i h1
  rw [if_neg h1]
  split at h
  ·rename_i h2; exact absurd h h2
  ·rename_i h2
   rw [if_neg h2]
   split at h
   ·rename_i h3; exact absurd h h3
   ·rename_i h3
    rw [if_neg h3]
    exact ⟨by omega, rfl⟩
end Go.Proofs.YtcmjgghkmdbphaaGreatDoor
namespace Go.Proofs.YtcmjgghkmdbphaaGreatDoor
open Go.RowKit
section
variable {w : World} {v : Value} {ps : List (Tx × Value)}
theorem run_lookup_v {t e : TypeId} (ht : Tryz.prog.underlying t = some (.map 42 e)) (h : MapV w v ps) (k : Tx) (z : Value) (hz : (zeroValue e).run Tryz.prog w = .ok z w) (c : Bool) :
 (Instr.lookup t v (txE k) c).run Tryz.prog w = .ok (if c then .tuple #[(assocOf k ps).getD z, .bool (assocOf k ps).isSome] else (assocOf k ps).getD z) w := by
 rcases h with ⟨rfl, rfl⟩ | ⟨m, rfl, hM⟩
 ·have := run_lookup_nil tx_key ht k z hz c
  simpa [assocOf] using this
 ·exact run_lookup_map tx_key ht hM k z hz c
theorem wpQuiet_lookup_v {ops : Array Oper} {rest : List Oper} {o : Oper} {a : Act} {C : World → Prop} {Q : Act → Prop} (r : Option Value) (hw : Region.wanted o (yielded ops a.tmps) = true) (mo x : Operand) (t : TypeId) (c : Bool) (hop : o.op = Op.lookup t mo x c) {e : TypeId}
 (ht : Tryz.prog.underlying t = some (.map 42 e)) (hm : a.eval mo = v) (h : ∀ w, C w → MapV w v ps) (k : Tx) (hx : a.eval x = txE k) (hr : assocOf k ps = r) (z : Value) (hz : ∀ w, (zeroValue e).run Tryz.prog w = .ok z w)
 (hK : wpQuiet Tryz.prog ops C Q rest (a.put o.dst (if c then .tuple #[r.getD z, .bool r.isSome] else r.getD z))) : wpQuiet Tryz.prog ops C Q (o :: rest) a := by
 refine BigFrame.wpQuiet_want hw fun K hK' => ⟨_, fun w hC => ?_, hK' _ hK⟩
 unfold Oper.quietAt execOp
 subst hr
 simp only [hop, hm, hx, Sem.run_bind, run_lookup_v ht (h w hC) k z (hz w) c, Sem.run_pure, Result.andThen_ok, Oper.quietUpon, and_self]
end
theorem MpAt.mapV {β : Type} {R : Rep β} {V : List Value → Value} {w : World} {P : Nat → Prop} {v : Value} {l : List (Tx × β)} (h : MpAt txE R V w P v l) :
 ∃ LA : List (Tx × (β × List Value)), MapV w v (LA.map fun p => (p.1, V p.2.2)) ∧ (∀ p ∈ LA, R.rep w P p.2.2 p.2.1) ∧ l = LA.map fun p => (p.1, p.2.1) := by
 obtain ⟨_, ⟨rfl, rfl⟩ | ⟨m, LA, rfl, _, hM, hr, hl⟩⟩ := h
 ·exact ⟨[], .inl ⟨rfl, rfl⟩, by simp, rfl⟩
 ·exact ⟨LA, .inr ⟨m, rfl, hM⟩, hr, hl⟩
theorem zero_held (w : World) : (zeroValue 192).run Tryz.prog w = .ok (.agg #[.int .i64 0, .int .i64 0, .int .i64 0, .string ⟨#[]⟩, .slice none 0 0, .int .i64 0, .int .i64 0, .int .i64 0, .slice none 0 0]) w := by kernel_rfl
theorem zero_i64 (w : World) : (zeroValue 3).run Tryz.prog w = .ok (.int .i64 0) w := by kernel_rfl
section
variable {β : Type} {R : Rep β} {V : List Value → Value} {w w' : World} {P P' : Nat → Prop} {LA : List (Tx × (β × List Value))}
theorem MpAt.with_ {m : Nat} {t : Tx} {a : β} {cs : List Value} (hn : ((LA.map fun p => (p.1, p.2.1)).map (·.1)).Nodup) (hr : ∀ p ∈ LA, R.rep w' P' p.2.2 p.2.1) (hM : MapAt txE w' m (assocPut t (V cs) (LA.map fun p => (p.1, V p.2.2)))) (ha : R.rep w' P' cs a) (hm : P' m) :
 MpAt txE R V w' P' (.map (some m)) (putA t a (LA.map fun p => (p.1, p.2.1))) := by
 refine ⟨putA_nodup hn, .inr ⟨m, putA t (a, cs) LA, rfl, hm, ?_, fun p hp => ?_, ?_⟩⟩
 ·rw [assocPut_eq, putA_map (fun x : β × List Value => V x.2) t (a, cs) LA] at hM; exact hM
 ·rcases putA_mem hp with rfl | h | h
  ·exact ha
  ·exact hr p h.1
  ·exact hr p h
 ·rw [putA_map (fun x : β × List Value => x.1) t (a, cs) LA]
theorem MpAt.without_ {m : Nat} {t : Tx} (hn : ((LA.map fun p => (p.1, p.2.1)).map (·.1)).Nodup) (hr : ∀ p ∈ LA, R.rep w' P' p.2.2 p.2.1) (hM : MapAt txE w' m (assocDel t (LA.map fun p => (p.1, V p.2.2)))) (hm : P' m) :
 MpAt txE R V w' P' (.map (some m)) (delA t (LA.map fun p => (p.1, p.2.1))) := by
 refine ⟨delA_nodup hn, .inr ⟨m, delA t LA, rfl, hm, ?_, fun p hp => hr p ((delA_sub t LA).subset hp), ?_⟩⟩
 ·rw [assocDel_eq, delA_map (fun x : β × List Value => V x.2) t LA] at hM; exact hM
 ·rw [delA_map (fun x : β × List Value => x.1) t LA]
end
theorem held_of {LA : List (Tx × (Held × List Value))} {w : World} {P : Nat → Prop} (hr : ∀ p ∈ LA, HeldR.rep w P p.2.2 p.2.1) (t : Tx) :
 (getA t (LA.map fun p => (p.1, p.2.1)) = none ∧ assocOf t (LA.map fun p => (p.1, aggV p.2.2)) = none) ∨
 ∃ h pA pc fA fc, getA t (LA.map fun p => (p.1, p.2.1)) = some h ∧ assocOf t (LA.map fun p => (p.1, aggV p.2.2)) = some (.agg (h.cellsV pA pc fA fc).toArray) ∧ h.tx.fit ∧ sfit h.batch.key ∧ h.stamp.fit ∧ (h.batch.puts.length ≤ pc ∧ pc ≤ 9223372036854775807 ∧ PutR.Row w P pA h.batch.puts) ∧ (h.firsts.length ≤ fc ∧ fc ≤ 9223372036854775807 ∧ IntR.Row w P fA h.firsts) := by
 rw [assocOf_eq, getA_map (fun x : Held × List Value => x.1) t LA, getA_map (fun x : Held × List Value => aggV x.2) t LA]
 cases hg : getA t LA with
 | none => exact .inl ⟨rfl, rfl⟩
 | some x =>
   obtain ⟨h, cs⟩ := x
   have := hr _ (getA_mem hg)
   dsimp only at this
   obtain ⟨pA, pc, fA, fc, rfl, h1, h2, h3, h4, h5⟩ := held_rep.1 this
   exact .inr ⟨h, pA, pc, fA, fc, rfl, rfl, h1, h2, h3, h4, h5⟩
theorem decided_of {LD : List (Tx × (Int × List Value))} {w : World} {P : Nat → Prop} (hr : ∀ p ∈ LD, IntR.rep w P p.2.2 p.2.1) (t : Tx) :
 (assocOf t (LD.map fun p => (p.1, oneV p.2.2))).getD (.int .i64 0) = .int .i64 ((getA t (LD.map fun p => (p.1, p.2.1))).getD 0) ∧ i64 ((getA t (LD.map fun p => (p.1, p.2.1))).getD 0) := by
 rw [assocOf_eq, getA_map (fun x : Int × List Value => x.1) t LD, getA_map (fun x : Int × List Value => oneV x.2) t LD]
 cases hg : getA t LD with
 | none => exact ⟨rfl, by simp [i64]⟩
 | some x =>
   obtain ⟨n, cs⟩ := x
   have := hr _ (getA_mem hg)
   dsimp only at this
   obtain ⟨rfl, h⟩ := this
   exact ⟨rfl, h⟩
structure HeldFit (h : Held) : Prop where
 few : h.batch.puts.length ≤ 8
 data : ∀ p ∈ h.batch.puts, p.data.length ≤ 20 ∧ 0 < p.data.length
 firsts : h.firsts.length ≤ 100 ∧ ∀ n ∈ h.firsts, -1000000000 ≤ n ∧ n ≤ 1000000000
structure Fit (s : St) : Prop where
 self : s.self ≠ 0
 ring : s.ring.length ≤ 1000000
 vers : ∀ n, 0 ≤ versionT s.table n ∧ versionT s.table n ≤ 40000
 fits : ∀ n k, (knownT s.table n k).1.fit
 fair : StFair s
 frozen : s.frozen.length ≤ 1000000
 held : ∀ x ∈ s.held, HeldFit x.2
theorem Fit.seen {s : St} (h : Fit s) {w : World} {P : Nat → Prop} {g : Nat} (hst : StAt w P g s) : Seen g s w :=
 ⟨h.self, h.ring, h.vers, h.fits, fun n W hn hW => by
  obtain ⟨v, hB, hI⟩ := hst
  exact busy_any g s n P W ⟨v, hB.ext hW, hI.same (js hW)⟩ h.frozen (fun x hx => by have := (h.held x hx).few; omega) hn⟩
def StOut (w : World) (P : Nat → Prop) (g : Nat) (q : St × Int) (e : Ending) (w' : World) : Prop :=
 e = .returned (.int .i64 q.2) ∧ StAt w' (fun k => P k ∨ w.heap.size ≤ k) g q.1 ∧ Only (· = g) w w'
theorem prepare_any (g : Nat) (s : St) (r : Rec) (nA pA sA : Option Addr) (nc pc sc : Nat) (P Q : Nat → Prop) (w : World) (h : StAt w P g s) (hg : ¬ P g) (hF : Fit s)
 (hr : RecAt w Q r nA nc pA pc sA sc) (hQ : ¬ Q g) (hl : r.batch.puts.length ≤ 1000000) (hd : ∀ p ∈ r.batch.puts, p.data.length ≤ 1000000) (hT : Tabs w) (h2 : 2 ≤ g) :
 Calls Tryz.prog 90 #[ptrV g, .agg (r.cells nA nc pA pc sA sc).toArray] w (StOut w P g (prepareS s r)) := by
 have hgl := h.lt
 have HH := jh (ja h (ja hg (ja hF (ja hr (ja hQ (ja hd hT))))))
 clear h hg hF hr hQ hd hT
 have hb1 := (jb w.heap.size w).al (.cells (r.cells nA nc pA pc sA sc).toArray 46)
 have B0 := Blk.new w 46 (r.cells nA nc pA pc sA sc)
 have hs1 : (w.alloc (.cells (r.cells nA nc pA pc sA sc).toArray 46)).heap.size = w.heap.size + 1 := by simp
 unfold ptrV
 go_enter Tryz.func90, Tryz.ntmps90
 go_upto_region 1 with fail
 refine forget (M := fun W => Code.wp _ _ _ _ W) (fun W => Below w.heap.size w W ∧ Blk W w.heap.size 46 (r.cells nA nc pA pc sA sc) ∧ W.heap.size = w.heap.size + 1) ⟨hb1, B0, hs1⟩ ?_
 clear B0 hb1 hs1
 rintro w1 ⟨hb1, B0, hs1⟩
 obtain ⟨v, hB, hI⟩ := HH.out.1
 have HB := jh (ja hB hI)
 obtain ⟨LA, hMV, hrep, hlA⟩ := hI.held.mapV
 obtain ⟨LD, hMD, hrepD, hlD⟩ := hI.decided.mapV
 have HE := jh (show prepareS s r = if (getA r.tx s.held).isSome then (s, 11) else if 0 < (getA r.tx s.decided).getD 0 then (s, 1) else if (mayS s r.batch).2.2 = 0 then ({ s with held := putA r.tx ⟨r.tx, r.batch, r.stamp, (mayS s r.batch).1⟩ s.held }, 0) else (s, (mayS s r.batch).2.2) from rfl)
 obtain ⟨hdec, hdfit⟩ := decided_of hrepD r.tx
 rw [← hlD] at hdec hdfit
 have hho := held_of hrep r.tx
 rw [← hlA] at hho
 have y6 := On.cell ((hB.ext hb1).cell 6 : w1.cell? ⟨g, 6, none⟩ = some v.held)
 have y8 := On.cell ((hB.ext hb1).cell 8 : w1.cell? ⟨g, 8, none⟩ = some v.decided)
 have z7 := On.cell (B0.cell 7 : w1.cell? ⟨w.heap.size, 7, none⟩ = some (.int .i64 r.tx.node))
 have z8 := On.cell (B0.cell 8 : w1.cell? ⟨w.heap.size, 8, none⟩ = some (.int .i64 r.tx.life))
 have z9 := On.cell (B0.cell 9 : w1.cell? ⟨w.heap.size, 9, none⟩ = some (.int .i64 r.tx.num))
 have HMV := jh (fun (W : World) (hW : ∃ d : Wd (On w1), W = d.w) => (show MapV W v.held (LA.map fun p => (p.1, aggV p.2.2)) from by obtain ⟨d, rfl⟩ := hW; exact hMV.ext (hb1.tr d.ok)))
 have H1 := jh (ja hb1 (ja B0 hs1))
 have HMD := jh (fun (W : World) (hW : ∃ d : Wd (On w1), W = d.w) => (show MapV W v.decided (LD.map fun p => (p.1, oneV p.2.2)) from by obtain ⟨d, rfl⟩ := hW; exact hMD.ext (hb1.tr d.ok)))
 have HREP := jh (ja hrep hlA)
 have HDEC := jh hdec
 clear hB hI hMV hMD hb1 B0 hs1 hrep hlA hrepD hlD hdec
 refine wp_region_mix (.seg [0, 1, 2, 3, 4, 5, 6, 7, 8, 9] 10 (.seg [] 11 (.leaf [12]))) (fun w' => ∃ d : Wd (On w1), w' = d.w) (by kernel_rfl) (by kernel_rfl) (fun _ _ d _ _ h => by cases d <;> exact h) (ClsW.mk (jb _ _).drew) ?_
 unfold wpMix; simp only [pick, j1, j2, j3, j4]
 rcases hho with ⟨hg0, hq⟩ | ⟨hh, qA, qc, uA, uc, hg1, hq, _⟩
 ·have HG := jh hg0
  clear hg0
  (repeat (show wpQuiet _ _ _ _ (_ :: _) _; first | (refine wpQuiet_lookup_v none rfl (.tmp 14) (.tmp 16) 172 true rfl Tryz.underlying172 rfl HMV.out r.tx rfl hq _ zero_held ?_; simp only [Option.getD_none, Option.isSome_none, if_true]; go_simp) | go_big_quiet_step (fail))); refine qn ?_
  go_wp2_with fail
  (refine segw (D := On w1) (by unfold On; repeat (with_reducible first | assumption | exact jb _ _ | refine Below.al ?_ _ | refine Below.drew ?_ | apply Below.st1)) ?_; unfold wpMix; simp only [pick, j1, j2, j3, j4]; (repeat (show wpQuiet _ _ _ _ (_ :: _) _; go_big_quiet_step (fail))); refine qn ?_)
  go_wp2_with fail
  (refine segw (D := On w1) (by unfold On; repeat (with_reducible first | assumption | exact jb _ _ | refine Below.al ?_ _ | refine Below.drew ?_ | apply Below.st1)) ?_; unfold wpMix; simp only [pick, j1, j2, j3, j4]; (repeat (show wpQuiet _ _ _ _ (_ :: _) _; go_big_quiet_step (fail))); refine qn ?_)
  go_upto_region 4 with fail
  have h14 : Below w1.heap.size w1 ((w1.alloc (.cells #[.int .i64 0, .int .i64 0, .int .i64 0, .string ⟨#[]⟩, .slice none 0 0, .int .i64 0, .int .i64 0, .int .i64 0, .slice none 0 0] 192)).drew) := by repeat (with_reducible first | assumption | exact jb _ _ | refine Below.al ?_ _ | refine Below.drew ?_ | apply Below.st1)
  generalize hw4 : ((w1.alloc (.cells #[.int .i64 0, .int .i64 0, .int .i64 0, .string ⟨#[]⟩, .slice none 0 0, .int .i64 0, .int .i64 0, .int .i64 0, .slice none 0 0] 192)).drew) = w4 at *
  clear hw4 hq
  have h14d : Below w1.heap.size w1 w4.drew := h14.drew
  have hst4 : StAt w4.drew P g s := ⟨v, HB.out.1.ext (H1.out.1.tr h14d), HB.out.2.same (js (H1.out.1.tr h14d))⟩
  refine wp_region_mix (.leaf [0, 1, 2, 3, 4, 5, 6, 7]) (fun w' => ∃ d : Wd (On w1), w' = d.w) (by kernel_rfl) (by kernel_rfl) (fun _ _ d _ _ h => by cases d <;> exact h) (ClsW.mk h14d) ?_
  unfold wpMix; simp only [pick, j1, j2, j3, j4]
  (repeat (show wpQuiet _ _ _ _ (_ :: _) _; first | (refine wpQuiet_lookup_v _ rfl (.tmp 24) (.tmp 26) 174 false rfl Tryz.underlying174 rfl HMD.out r.tx rfl rfl _ zero_i64 ?_; simp only [Bool.false_eq_true, if_false]; rw [HDEC.out]; go_simp) | go_big_quiet_step (fail))); refine qn ?_
  by_cases hpos : 0 < (getA r.tx s.decided).getD 0
  ·have HS := jh (show prepareS s r = (s, 1) from by rw [HE.out, HG.out]; simp [hpos])
   have HF4 := jh (ja hst4 (H1.out.1.tr h14d))
   clear hst4 h14d h14
   go_wp2_with fail
   go_ret
   unfold StOut
   rw [HS.out]
   obtain ⟨v', a1, a2⟩ := HF4.out.1
   exact ⟨rfl, ⟨v', a1, a2.mono fun k hk => .inl hk⟩, jo HF4.out.2⟩
  ·have HS := jh (show prepareS s r = if (mayS s r.batch).2.2 = 0 then ({ s with held := putA r.tx ⟨r.tx, r.batch, r.stamp, (mayS s r.batch).1⟩ s.held }, 0) else (s, (mayS s r.batch).2.2) from by rw [HE.out, HG.out, if_neg (by simp), if_neg hpos])
   have hw4 := H1.out.1.tr h14d
   have x11 : w4.drew.cell? ⟨w.heap.size, 11, none⟩ = some (.string r.batch.key) := (H1.out.2.1.ext h14d).cell 11
   have x12 : w4.drew.cell? ⟨w.heap.size, 12, none⟩ = some (.slice pA r.batch.puts.length pc) := (H1.out.2.1.ext h14d).cell 12
   have C1 := may_any' g s r.batch pA pc P Q w4.drew hst4 (HH.out.2.2.1.seen hst4) (HH.out.2.2.2.1.puts.2.2.ext hw4) hl HH.out.2.2.2.1.key HH.out.2.2.2.2.2.1 (HH.out.2.2.2.2.2.2.below hw4) (by have := hw4.size; omega)
   unfold Got3 ptrV at C1
   have HM := jh (@mayS_ok s r.batch)
   generalize hq : mayS s r.batch = q at *
   obtain ⟨fl, kn, code⟩ := q
   simp only at C1
   have H4 := jh (ja h14d hw4)
   clear hq h14 h14d hw4 hst4
   go_wp2_with fail
   refine C1.mono ?_
   clear C1 x11 x12
   rintro e w5 ⟨⟨fv, rfl, hfv⟩, hb5⟩
   have hb6 := hb5.al (.cells #[.string kn.key, .int .i64 kn.first, .int .i64 kn.stamp.wall, .int .i64 kn.stamp.logic, .int .i64 kn.stamp.node] 49)
   have hfv6 := hfv.alloc (.cells #[.string kn.key, .int .i64 kn.first, .int .i64 kn.stamp.wall, .int .i64 kn.stamp.logic, .int .i64 kn.stamp.node] 49)
   obtain ⟨Af, cf, rfl, hcf, hcfm⟩ := hfv.form
   go_upto_region 7 with fail
   generalize (w5.alloc (.cells #[.string kn.key, .int .i64 kn.first, .int .i64 kn.stamp.wall, .int .i64 kn.stamp.logic, .int .i64 kn.stamp.node] 49)) = w6 at *
   have h16 := H4.out.1.tr hb6
   have hw6 := H4.out.2.tr hb6
   by_cases hcd : code = 0
   ·have hm := HM.out hcd
    have hgd := checkB_good hm.1
    have hbd := mayV_bound s.table HH.out.2.2.1.vers r.batch.puts [] (by simp) (by simp; have := hgd.few; omega)
    rw [← hm.2] at hbd
    have HS2 := jh (show prepareS s r = ({ s with held := putA r.tx ⟨r.tx, r.batch, r.stamp, fl⟩ s.held }, 0) from by rw [HS.out]; exact if_pos hcd)
    have B6 := H1.out.2.1.ext h16
    have b6 : w6.cell? ⟨g, 6, none⟩ = some v.held := (HB.out.1.ext hw6).cell 6
    have b6f : w6.frozen? ⟨g, 6, none⟩ = false := (HB.out.1.ext hw6).frozen 6
    have u6 := On.cell b6
    have u7 := On.cell (B6.cell 7 : w6.cell? ⟨w.heap.size, 7, none⟩ = some (.int .i64 r.tx.node))
    have u8 := On.cell (B6.cell 8 : w6.cell? ⟨w.heap.size, 8, none⟩ = some (.int .i64 r.tx.life))
    have u9 := On.cell (B6.cell 9 : w6.cell? ⟨w.heap.size, 9, none⟩ = some (.int .i64 r.tx.num))
    have u11 := On.cell (B6.cell 11 : w6.cell? ⟨w.heap.size, 11, none⟩ = some (.string r.batch.key))
    have u12 := On.cell (B6.cell 12 : w6.cell? ⟨w.heap.size, 12, none⟩ = some (.slice pA r.batch.puts.length pc))
    have u4 := On.cell (B6.cell 4 : w6.cell? ⟨w.heap.size, 4, none⟩ = some (.int .i64 r.stamp.wall))
    have u5 := On.cell (B6.cell 5 : w6.cell? ⟨w.heap.size, 5, none⟩ = some (.int .i64 r.stamp.logic))
    have u6b := On.cell (B6.cell 6 : w6.cell? ⟨w.heap.size, 6, none⟩ = some (.int .i64 r.stamp.node))
    have hMV6 := jh (HMV.out w6 ⟨⟨w6, h16⟩, rfl⟩)
    have hrowF := hfv6.row' (P := fun k => k < w6.heap.size) int_plain (fun k hk => (hfv6.lt k hk).2)
    have hrowP := (HH.out.2.2.2.1.puts.2.2.ext hw6).mono (Q := fun k => k < w6.heap.size) (fun k _ hk => hk)
    have H6 := jh (ja hw6 (ja hrowF (ja hrowP (ja hgd hbd))))
    subst hcd
    clear hm hgd hbd B6 h16 hw6 hb6 hfv hfv6 hb5 hrowF hrowP b6 b6f
    go_upto_region 8 with fail
    refine wp_region_mix (.seg [0, 1, 2, 3, 4, 5, 6, 7, 8, 9, 10, 11, 12, 13] 14 (.seg [] 15 (.seg [] 16 (.seg [] 17 (.last [18] 19))))) (fun w' => ∃ d : Wd (On w6), w' = d.w) (by kernel_rfl) (by kernel_rfl) (fun _ _ d _ _ h => by cases d <;> exact h) (ClsW.mk (jb _ _).drew) ?_
    unfold wpMix; simp only [pick, j1, j2, j3, j4]
    (repeat (show wpQuiet _ _ _ _ (_ :: _) _; go_big_quiet_step (fail))); refine qn ?_
    go_wp2_with fail
    (refine segw (D := On w6) (by unfold On; repeat (with_reducible first | assumption | exact jb _ _ | refine Below.al ?_ _ | refine Below.drew ?_ | apply Below.st1)) ?_; unfold wpMix; simp only [pick, j1, j2, j3, j4]; (repeat (show wpQuiet _ _ _ _ (_ :: _) _; go_big_quiet_step (fail))); refine qn ?_)
    have hd6 : Below w6.heap.size w6 w6.drew := (jb _ _).drew
    have CO := own_any ⟨r.tx, r.batch, r.stamp, fl⟩ pA Af pc cf (fun k => k < w6.heap.size) w6.drew (H6.out.2.2.1.ext hd6) (H6.out.2.1.ext hd6) (by have := H6.out.2.2.2.1.few; show r.batch.puts.length ≤ _; omega) (fun p hp => by have := (H6.out.2.2.2.1.puts p hp).1.1; omega) (by have := H6.out.2.2.2.2.1; show fl.length ≤ _; omega)
    unfold Held.cellsV at CO
    go_wp2_with fail
    refine CO.mono ?_
    clear CO
    rintro e w7 ⟨⟨p7, pc7, f7, fc7, rfl, hp7, hf7⟩, hb7⟩
    unfold Held.cellsV
    have h67 := hd6.tr hb7
    go_wp2_with fail
    (refine segw (D := On w6) (h67) ?_; unfold wpMix; simp only [pick, j1, j2, j3, j4]; (repeat (show wpQuiet _ _ _ _ (_ :: _) _; go_big_quiet_step (fail))); refine qn ?_)
    have CW := withH_any v.held _ r.tx r.tx.node r.tx.life r.tx.num r.stamp.wall r.stamp.logic r.stamp.node r.batch.key p7 f7 r.batch.puts.length pc7 fl.length fc7 w7 (hMV6.out.ext h67)
    unfold txE at CW
    go_wp2_with fail
    refine CW.mono ?_
    clear CW
    rintro e w8 ⟨⟨m8, rfl, hm8, hM8⟩, hb8⟩
    have h68 := h67.tr hb8
    have hw8 := H6.out.1.tr h68
    have b6 : w8.cell? ⟨g, 6, none⟩ = some v.held := (HB.out.1.ext hw8).cell 6
    have b6f : w8.frozen? ⟨g, 6, none⟩ = false := (HB.out.1.ext hw8).frozen 6
    have hp8 := hp7.2.2.ext hb8
    have hf8 := hf7.2.2.ext hb8
    go_wp2_with fail
    (refine segw (D := On w6) (h68) ?_; unfold wpMix; simp only [pick, j1, j2, j3, j4]; (repeat (show wpQuiet _ _ _ _ (_ :: _) _; go_big_quiet_step (fail))); refine qn ?_)
    go_wp2_with fail
    (refine segw (D := On w6) (h68) ?_; unfold wpMix; simp only [pick, j1, j2, j3, j4]; (repeat (show wpQuiet _ _ _ _ (_ :: _) _; go_big_quiet_step (fail))); refine qn ?_)
    have B9 : Blk (w8.setCell ⟨g, 6, none⟩ (.map (some m8))) g 176 (St.cells { s with held := putA r.tx ⟨r.tx, r.batch, r.stamp, fl⟩ s.held } { v with held := .map (some m8) }) := (HB.out.1.ext hw8).set_ 6 (.map (some m8))
    have O9 : Only (fun k => k = g) w8 (w8.setCell ⟨g, 6, none⟩ (.map (some m8))) := Only.set_ (F := fun k => k = g) rfl _
    have H9 := jh (ja B9 (ja O9 (ja hw8 (ja hp8 (ja hf8 (ja hp7 hf7))))))
    have HM8 := jh (ja hm8 (ja hM8 (ja h68 h67.size)))
    clear B9 O9 hw8 hp8 hf8 hp7 hf7 hm8 hM8 h68 hb8 h67 hb7 hd6
    go_wp2_with fail
    dsimp only [wpList, SegQ]
    generalize hw9 : w8.setCell ⟨g, 6, none⟩ (.map (some m8)) = w9 at *
    clear hw9 b6 b6f u4 u5 u6 u6b u7 u8 u9 u11 u12
    go_wp2_with fail
    go_ret
    unfold StOut
    rw [HS2.out]
    obtain ⟨B9, O9, hw8, hp8, hf8, hp7, hf7⟩ := H9.out
    obtain ⟨hm8, hM8, h68, hz8⟩ := HM8.out
    have hO : Only (· = g) w w9 := (jo hw8).tr O9
    have hI9 := (HB.out.2.same (Same.of_only hO fun k hk e => HH.out.2.1 (e ▸ hk))).mono (Q := fun k => P k ∨ w.heap.size ≤ k) fun k hk => .inl hk
    have hz6 := h68.size
    have hz7 := H6.out.1.size
    have hzd : w6.drew.heap.size = w6.heap.size := rfl
    have hnd := HB.out.2.held.1
    rw [HREP.out.2] at hnd ⊢
    refine ⟨rfl, ⟨_, B9, ⟨hI9.fit, hI9.ring, hI9.table, ?_, hI9.outcomes, hI9.decided, hI9.frozen, hI9.log⟩⟩, hO⟩
    have hgm : w6.heap.size ≤ m8 := by have := hm8; omega
    refine MpAt.with_ (cs := Held.cellsV ⟨r.tx, r.batch, r.stamp, fl⟩ p7 pc7 f7 fc7) hnd (fun p hp => HeldR.mono (HeldR.same (HREP.out.1 p hp) (Same.of_only hO fun k hk e => HH.out.2.1 (e ▸ hk))) fun k hk _ => .inl hk) (hM8.only O9 (fun e => by have e' : m8 = g := e; omega)) ?_ (.inr (by omega))
    refine held_rep.2 ⟨p7, pc7, f7, fc7, rfl, HH.out.2.2.2.1.tx, HH.out.2.2.2.1.key, HH.out.2.2.2.1.stamp, ⟨hp7.1, hp7.2.1, ?_⟩, ⟨hf7.1, hf7.2.1, ?_⟩⟩
    ·exact (hp8.same (Same.of_only O9 fun k hk e => by have e' : k = g := e; omega) O9.size).mono fun k hk _ => .inr (by omega)
    ·exact (hf8.same (Same.of_only O9 fun k hk e => by have e' : k = g := e; omega) O9.size).mono fun k hk _ => .inr (by omega)
   ·have hc' : (code == 0) = false := by rw [beq_eq_false_iff_ne]; exact hcd
    have HS2 := jh (show prepareS s r = (s, code) from by rw [HS.out]; exact if_neg hcd)
    have H6 := jh hw6
    clear hcd h16 hw6 hb6 hfv hfv6 hb5
    go_wp2_with fail
    go_ret
    unfold StOut
    rw [HS2.out]
    exact ⟨rfl, ⟨v, HB.out.1.ext H6.out, (HB.out.2.same (js H6.out)).mono fun k hk => .inl hk⟩, jo H6.out⟩
 ·have HS := jh (show prepareS s r = (s, 11) from by rw [HE.out, hg1]; rfl)
  clear hg1
  (repeat (show wpQuiet _ _ _ _ (_ :: _) _; first | (refine wpQuiet_lookup_v _ rfl (.tmp 14) (.tmp 16) 172 true rfl Tryz.underlying172 rfl HMV.out r.tx rfl hq _ zero_held ?_; simp only [Option.getD_some, Option.isSome_some, if_true]; unfold Held.cellsV; go_simp) | go_big_quiet_step (fail))); refine qn ?_
  go_wp2_with fail
  (refine segw (D := On w1) (by unfold On; repeat (with_reducible first | assumption | exact jb _ _ | refine Below.al ?_ _ | refine Below.drew ?_ | apply Below.st1)) ?_; unfold wpMix; simp only [pick, j1, j2, j3, j4]; (repeat (show wpQuiet _ _ _ _ (_ :: _) _; go_big_quiet_step (fail))); refine qn ?_)
  go_wp2_with fail
  (refine segw (D := On w1) (by unfold On; repeat (with_reducible first | assumption | exact jb _ _ | refine Below.al ?_ _ | refine Below.drew ?_ | apply Below.st1)) ?_; unfold wpMix; simp only [pick, j1, j2, j3, j4]; (repeat (show wpQuiet _ _ _ _ (_ :: _) _; go_big_quiet_step (fail))); refine qn ?_)
  go_wp2_with fail
  go_ret
  unfold StOut
  rw [HS.out]
  have hb4 : Below w.heap.size w ((w1.alloc (.cells #[.int .i64 hh.tx.node, .int .i64 hh.tx.life, .int .i64 hh.tx.num, .string hh.batch.key, .slice qA hh.batch.puts.length qc, .int .i64 hh.stamp.wall, .int .i64 hh.stamp.logic, .int .i64 hh.stamp.node, .slice uA hh.firsts.length uc] 192)).drew) := (H1.out.1.al _).drew
  exact ⟨rfl, ⟨v, HB.out.1.ext hb4, (HB.out.2.same (js hb4)).mono fun k hk => .inl hk⟩, jo hb4⟩
end Go.Proofs.YtcmjgghkmdbphaaGreatDoor
namespace Go.Proofs.YtcmjgghkmdbphaaGreatDoor
open Go.RowKit
structure DcD (g gb : Nat) (t : Tx) (u : Value) (W : World) : Prop where
 c7 : W.cell? ⟨gb, 7, none⟩ = some (.int .i64 t.node)
 c8 : W.cell? ⟨gb, 8, none⟩ = some (.int .i64 t.life)
 c9 : W.cell? ⟨gb, 9, none⟩ = some (.int .i64 t.num)
 d8 : W.cell? ⟨g, 8, none⟩ = some u
section
variable {g gb : Nat} {t : Tx} {u : Value}
theorem DcD.a7 (d : Wd (DcD g gb t u)) : d.w.cell? ⟨gb, 7, none⟩ = some (.int .i64 t.node) := d.ok.c7
theorem DcD.a8 (d : Wd (DcD g gb t u)) : d.w.cell? ⟨gb, 8, none⟩ = some (.int .i64 t.life) := d.ok.c8
theorem DcD.a9 (d : Wd (DcD g gb t u)) : d.w.cell? ⟨gb, 9, none⟩ = some (.int .i64 t.num) := d.ok.c9
theorem DcD.b8 (d : Wd (DcD g gb t u)) : d.w.cell? ⟨g, 8, none⟩ = some u := d.ok.d8
theorem DcD.of {W : World} {ty ty' : TypeId} {r : Rec} {nA pA sA : Option Addr} {nc pc sc : Nat} {s : St} {v : SV} (hB : Blk W gb ty (r.cells nA nc pA pc sA sc)) (hS : Blk W g ty' (s.cells v)) : DcD g gb r.tx v.decided W :=
 ⟨hB.cell 7, hB.cell 8, hB.cell 9, hS.cell 8⟩
end
theorem decide_any (g : Nat) (s : St) (r : Rec) (nA pA sA : Option Addr) (nc pc sc : Nat) (P Q : Nat → Prop) (w : World) (h : StAt w P g s) (hg : ¬ P g) (hF : Fit s)
 (hr : RecAt w Q r nA nc pA pc sA sc) (hQ : ¬ Q g) (hT : Tabs w) (h2 : 2 ≤ g) :
 Calls Tryz.prog 91 #[ptrV g, .agg (r.cells nA nc pA pc sA sc).toArray] w (StOut w P g (decideS s r)) := by
 have hgl := h.lt
 have HH := jh (ja h (ja hg (ja hF (ja hr (ja hQ hT)))))
 clear h hg hF hr hQ hT
 have hb1 := (jb w.heap.size w).al (.cells (r.cells nA nc pA pc sA sc).toArray 46)
 have B0 := Blk.new w 46 (r.cells nA nc pA pc sA sc)
 have hs1 : (w.alloc (.cells (r.cells nA nc pA pc sA sc).toArray 46)).heap.size = w.heap.size + 1 := by simp
 unfold ptrV
 go_enter Tryz.func91, Tryz.ntmps91
 go_upto_region 1 with fail
 refine forget (M := fun W => Code.wp _ _ _ _ W) (fun W => Below w.heap.size w W ∧ Blk W w.heap.size 46 (r.cells nA nc pA pc sA sc) ∧ W.heap.size = w.heap.size + 1) ⟨hb1, B0, hs1⟩ ?_
 clear B0 hb1 hs1
 rintro w1 ⟨hb1, B0, hs1⟩
 obtain ⟨v, hB, hI⟩ := HH.out.1
 have HB := jh (ja hB hI)
 obtain ⟨LA, hMV, hrep, hlA⟩ := hI.held.mapV
 obtain ⟨LD, hMD, hrepD, hlD⟩ := hI.decided.mapV
 have hho := held_of hrep r.tx
 rw [← hlA] at hho
 have y6 := On.cell ((hB.ext hb1).cell 6 : w1.cell? ⟨g, 6, none⟩ = some v.held)
 have z7 := On.cell (B0.cell 7 : w1.cell? ⟨w.heap.size, 7, none⟩ = some (.int .i64 r.tx.node))
 have z8 := On.cell (B0.cell 8 : w1.cell? ⟨w.heap.size, 8, none⟩ = some (.int .i64 r.tx.life))
 have z9 := On.cell (B0.cell 9 : w1.cell? ⟨w.heap.size, 9, none⟩ = some (.int .i64 r.tx.num))
 have HMV := jh (fun (W : World) (hW : ∃ d : Wd (On w1), W = d.w) => (show MapV W v.held (LA.map fun p => (p.1, aggV p.2.2)) from by obtain ⟨d, rfl⟩ := hW; exact hMV.ext (hb1.tr d.ok)))
 have HMD := jh (fun (W : World) (hW : Below w.heap.size w W) => (show MapV W v.decided (LD.map fun p => (p.1, oneV p.2.2)) from hMD.ext hW))
 have H1 := jh (ja hb1 (ja B0 hs1))
 have HREP := jh (ja hrep (ja hlA (ja hrepD (ja hlD hMV))))
 clear hB hI hMV hMD hb1 B0 hs1 hrep hlA hrepD hlD
 refine wp_region_mix (.seg [0, 1, 2, 3, 4, 5, 6, 7, 8, 9] 10 (.seg [] 11 (.leaf [12]))) (fun w' => ∃ d : Wd (On w1), w' = d.w) (by kernel_rfl) (by kernel_rfl) (fun _ _ d _ _ h => by cases d <;> exact h) (ClsW.mk (jb _ _).drew) ?_
 unfold wpMix; simp only [pick, j1, j2, j3, j4]
 rcases hho with ⟨hg0, hq⟩ | ⟨hh, qA, qc, uA, uc, hg1, hq, k1, k2, k3, k4, k5⟩
 ·have HS := jh (show decideS s r = (s, 4) from by unfold decideS; rw [hg0])
  clear hg0
  (repeat (show wpQuiet _ _ _ _ (_ :: _) _; first | (refine wpQuiet_lookup_v none rfl (.tmp 11) (.tmp 13) 172 true rfl Tryz.underlying172 rfl HMV.out r.tx rfl hq _ zero_held ?_; simp only [Option.getD_none, Option.isSome_none, if_true]; go_simp) | go_big_quiet_step (fail))); refine qn ?_
  go_wp2_with fail
  (refine segw (D := On w1) (by unfold On; repeat (with_reducible first | assumption | exact jb _ _ | refine Below.al ?_ _ | refine Below.drew ?_ | apply Below.st1)) ?_; unfold wpMix; simp only [pick, j1, j2, j3, j4]; (repeat (show wpQuiet _ _ _ _ (_ :: _) _; go_big_quiet_step (fail))); refine qn ?_)
  go_wp2_with fail
  (refine segw (D := On w1) (by unfold On; repeat (with_reducible first | assumption | exact jb _ _ | refine Below.al ?_ _ | refine Below.drew ?_ | apply Below.st1)) ?_; unfold wpMix; simp only [pick, j1, j2, j3, j4]; (repeat (show wpQuiet _ _ _ _ (_ :: _) _; go_big_quiet_step (fail))); refine qn ?_)
  go_wp2_with fail
  go_ret
  unfold StOut
  rw [HS.out]
  have hb4 : Below w.heap.size w ((w1.alloc (.cells #[.int .i64 0, .int .i64 0, .int .i64 0, .string ⟨#[]⟩, .slice none 0 0, .int .i64 0, .int .i64 0, .int .i64 0, .slice none 0 0] 192)).drew) := (H1.out.1.al _).drew
  exact ⟨rfl, ⟨v, HB.out.1.ext hb4, (HB.out.2.same (js hb4)).mono fun k hk => .inl hk⟩, jo hb4⟩
 ·obtain ⟨m, hvm, hMm⟩ : ∃ m, v.held = .map (some m) ∧ MapAt txE w m (LA.map fun p => (p.1, aggV p.2.2)) := by
   rcases HREP.out.2.2.2.2 with ⟨_, e⟩ | ⟨m, e, hM⟩
   ·rw [e] at hq; cases hq
   ·exact ⟨m, e, hM⟩
  have HS := jh (show decideS s r = (if r.yes then putS { s with held := delA r.tx s.held, decided := putA r.tx 1 s.decided } hh.batch hh.firsts r.stamp else { s with held := delA r.tx s.held, decided := putA r.tx 1 s.decided }, 0) from by unfold decideS; rw [hg1])
  have HK := jh (ja k2 (ja k4 (ja k5 (ja (HH.out.2.2.1.held _ (getA_mem hg1)) (ja hvm hMm)))))
  clear hg1 k1 k2 k3 k4 k5 hvm hMm
  (repeat (show wpQuiet _ _ _ _ (_ :: _) _; first | (refine wpQuiet_lookup_v _ rfl (.tmp 11) (.tmp 13) 172 true rfl Tryz.underlying172 rfl HMV.out r.tx rfl hq _ zero_held ?_; simp only [Option.getD_some, Option.isSome_some, if_true]; unfold Held.cellsV; go_simp) | go_big_quiet_step (fail))); refine qn ?_
  go_wp2_with fail
  (refine segw (D := On w1) (by unfold On; repeat (with_reducible first | assumption | exact jb _ _ | refine Below.al ?_ _ | refine Below.drew ?_ | apply Below.st1)) ?_; unfold wpMix; simp only [pick, j1, j2, j3, j4]; (repeat (show wpQuiet _ _ _ _ (_ :: _) _; go_big_quiet_step (fail))); refine qn ?_)
  go_wp2_with fail
  (refine segw (D := On w1) (by unfold On; repeat (with_reducible first | assumption | exact jb _ _ | refine Below.al ?_ _ | refine Below.drew ?_ | apply Below.st1)) ?_; unfold wpMix; simp only [pick, j1, j2, j3, j4]; (repeat (show wpQuiet _ _ _ _ (_ :: _) _; go_big_quiet_step (fail))); refine qn ?_)
  go_upto_region 4 with fail
  have B4 := (Blk.new w1 192 (hh.cellsV qA qc uA uc)).drew
  have h14 : Below w1.heap.size w1 ((w1.alloc (.cells #[.int .i64 hh.tx.node, .int .i64 hh.tx.life, .int .i64 hh.tx.num, .string hh.batch.key, .slice qA hh.batch.puts.length qc, .int .i64 hh.stamp.wall, .int .i64 hh.stamp.logic, .int .i64 hh.stamp.node, .slice uA hh.firsts.length uc] 192)).drew) := by repeat (with_reducible first | assumption | exact jb _ _ | refine Below.al ?_ _ | refine Below.drew ?_ | apply Below.st1)
  unfold Held.cellsV at B4
  generalize hw4 : ((w1.alloc (.cells #[.int .i64 hh.tx.node, .int .i64 hh.tx.life, .int .i64 hh.tx.num, .string hh.batch.key, .slice qA hh.batch.puts.length qc, .int .i64 hh.stamp.wall, .int .i64 hh.stamp.logic, .int .i64 hh.stamp.node, .slice uA hh.firsts.length uc] 192)).drew) = w4 at *
  have hs4 : w4.heap.size = w1.heap.size + 1 := by rw [← hw4]; show (w1.alloc _).heap.size = _; simp
  clear hw4 hq y6 z7 z8 z9
  have h14d : Below w1.heap.size w1 w4.drew := h14.drew
  have hw4 := H1.out.1.tr h14d
  have D4 : DcD g w.heap.size r.tx v.decided w4.drew := .of (H1.out.2.1.ext h14d) (HB.out.1.ext hw4)
  haveI : Nonempty (Wd (DcD g w.heap.size r.tx v.decided)) := ⟨⟨_, D4⟩⟩
  have a7 := DcD.a7 (g := g) (gb := w.heap.size) (t := r.tx) (u := v.decided)
  have a8 := DcD.a8 (g := g) (gb := w.heap.size) (t := r.tx) (u := v.decided)
  have a9 := DcD.a9 (g := g) (gb := w.heap.size) (t := r.tx) (u := v.decided)
  have b8 := DcD.b8 (g := g) (gb := w.heap.size) (t := r.tx) (u := v.decided)
  have x6 : w4.drew.cell? ⟨g, 6, none⟩ = some (.map (some m)) := by rw [← HK.out.2.2.2.2.1]; exact (HB.out.1.ext hw4).cell 6
  have H4 := jh (ja h14d (ja hw4 (ja B4.drew D4)))
  clear h14 h14d hw4 B4
  refine wp_region_mix (.seg [0, 1, 2, 3, 4, 6, 7, 9, 10, 11, 12, 13, 14] 5 (.seg [] 8 (.seg [] 15 (.seg [16, 17] 18 (.seg [] 19 (.last [20] 21)))))) (fun w' => ∃ d : Wd (DcD g w.heap.size r.tx v.decided), w' = d.w) (by kernel_rfl) (by kernel_rfl) (fun _ _ d _ _ h => by cases d <;> exact h) (ClsW.mk (D := DcD g w.heap.size r.tx v.decided) D4) ?_
  unfold wpMix; simp only [pick, j1, j2, j3, j4]
  (repeat (show wpQuiet _ _ _ _ (_ :: _) _; go_big_quiet_step (fail))); refine qn ?_
  go_wp2_with fail
  dsimp only [wpList, SegQ]
  refine ⟨fun w' => ∃ d : Wd (DcD g w.heap.size r.tx v.decided), w' = d.w, ClsW.mk (D := DcD g w.heap.size r.tx v.decided) D4, fun _ h => h, ?_⟩
  unfold wpMix; simp only [pick, j1, j2, j3, j4]
  (repeat (show wpQuiet _ _ _ _ (_ :: _) _; go_big_quiet_step (fail))); refine qn ?_
  have CA := withoutH_any m _ r.tx w4.drew (HK.out.2.2.2.2.2.ext H4.out.2.1)
  unfold txE at CA
  go_wp2_with fail
  refine CA.mono ?_
  clear CA x6 D4
  rintro e w5 ⟨⟨m5, rfl, hm5, hM5⟩, hb5⟩
  have h15 := H4.out.1.tr hb5
  have hw5 := H4.out.2.1.tr hb5
  have D5 : DcD g w.heap.size r.tx v.decided w5 := .of (H1.out.2.1.ext h15) (HB.out.1.ext hw5)
  go_wp2_with fail
  dsimp only [wpList, SegQ]
  refine ⟨fun w' => ∃ d : Wd (DcD g w.heap.size r.tx v.decided), w' = d.w, ClsW.mk (D := DcD g w.heap.size r.tx v.decided) D5, fun _ h => h, ?_⟩
  unfold wpMix; simp only [pick, j1, j2, j3, j4]
  (repeat (show wpQuiet _ _ _ _ (_ :: _) _; go_big_quiet_step (fail))); refine qn ?_
  have CB := withI_any v.decided _ r.tx 1 w5 (HMD.out w5 hw5)
  unfold txE at CB
  go_wp2_with fail
  refine CB.mono ?_
  clear CB D5
  rintro e w6 ⟨⟨m6, rfl, hm6, hM6⟩, hb6⟩
  have h16 := h15.tr hb6
  have hw6 := hw5.tr hb6
  have D6 : DcD g w.heap.size r.tx v.decided w6 := .of (H1.out.2.1.ext h16) (HB.out.1.ext hw6)
  go_wp2_with fail
  dsimp only [wpList, SegQ]
  refine ⟨fun w' => ∃ d : Wd (DcD g w.heap.size r.tx v.decided), w' = d.w, ClsW.mk (D := DcD g w.heap.size r.tx v.decided) D6, fun _ h => h, ?_⟩
  unfold wpMix; simp only [pick, j1, j2, j3, j4]
  (repeat (show wpQuiet _ _ _ _ (_ :: _) _; go_big_quiet_step (fail))); refine qn ?_
  have B6 := HB.out.1.ext hw6
  have x6 : w6.cell? ⟨g, 6, none⟩ = some v.held := B6.cell 6
  have x6f : w6.frozen? ⟨g, 6, none⟩ = false := B6.frozen 6
  have B7 := B6.set_ 6 (.map (some m5))
  have O7 : Only (fun k => k = g) w6 (w6.setCell ⟨g, 6, none⟩ (.map (some m5))) := Only.set_ (F := fun k => k = g) rfl _
  have D7 : DcD g w.heap.size r.tx v.decided (w6.setCell ⟨g, 6, none⟩ (.map (some m5))) := ⟨((H1.out.2.1.ext h16).only O7 (fun e => by have : w.heap.size = g := e; omega)).cell 7, ((H1.out.2.1.ext h16).only O7 (fun e => by have : w.heap.size = g := e; omega)).cell 8, ((H1.out.2.1.ext h16).only O7 (fun e => by have : w.heap.size = g := e; omega)).cell 9, B7.cell 8⟩
  have H7 := jh (ja B7 (ja O7 (ja D7 (ja h16 (ja hw6 (hb5.tr hb6))))))
  have HM := jh (ja hm5 (ja hM5 (ja hm6 (ja hM6 (ja h15.size (ja hb6 h16.size))))))
  clear B7 O7 D7 D6 h16 hw6 h15 hw5 hb5 hb6 hm5 hM5 hm6 hM6 B6
  go_wp2_with fail
  dsimp only [wpList, SegQ]
  refine ⟨fun w' => ∃ d : Wd (DcD g w.heap.size r.tx v.decided), w' = d.w, ClsW.mk (D := DcD g w.heap.size r.tx v.decided) H7.out.2.2.1, fun _ h => h, ?_⟩
  unfold wpMix; simp only [pick, j1, j2, j3, j4]
  (repeat (show wpQuiet _ _ _ _ (_ :: _) _; go_big_quiet_step (fail))); refine qn ?_
  clear x6 x6f
  go_wp2_with fail
  dsimp only [wpList, SegQ]
  refine ⟨fun w' => ∃ d : Wd (DcD g w.heap.size r.tx v.decided), w' = d.w, ClsW.mk (D := DcD g w.heap.size r.tx v.decided) H7.out.2.2.1, fun _ h => h, ?_⟩
  unfold wpMix; simp only [pick, j1, j2, j3, j4]
  (repeat (show wpQuiet _ _ _ _ (_ :: _) _; go_big_quiet_step (fail))); refine qn ?_
  have x8 : (w6.setCell ⟨g, 6, none⟩ (.map (some m5))).cell? ⟨g, 8, none⟩ = some v.decided := H7.out.1.cell 8
  have x8f : (w6.setCell ⟨g, 6, none⟩ (.map (some m5))).frozen? ⟨g, 8, none⟩ = false := H7.out.1.frozen 8
  have B8 : Blk ((w6.setCell ⟨g, 6, none⟩ (.map (some m5))).setCell ⟨g, 8, none⟩ (.map (some m6))) g 176 (St.cells { s with held := delA r.tx s.held, decided := putA r.tx 1 s.decided } { v with held := .map (some m5), decided := .map (some m6) }) := H7.out.1.set_ 8 (.map (some m6))
  have O8 : Only (fun k => k = g) w6 ((w6.setCell ⟨g, 6, none⟩ (.map (some m5))).setCell ⟨g, 8, none⟩ (.map (some m6))) := H7.out.2.1.tr (Only.set_ (F := fun k => k = g) rfl _)
  have H8 := jh (ja B8 O8)
  clear B8 O8
  go_wp2_with fail
  dsimp only [wpList, SegQ]
  generalize hw8 : (w6.setCell ⟨g, 6, none⟩ (.map (some m5))).setCell ⟨g, 8, none⟩ (.map (some m6)) = w8 at *
  clear hw8 x8 x8f a7 a8 a9 b8
  obtain ⟨B8, O8⟩ := H8.out
  obtain ⟨hm5, hM5, hm6, hM6, hz5, hb6, hz6⟩ := HM.out
  obtain ⟨_, _, _, h16, hw6, h46⟩ := H7.out
  have hO : Only (· = g) w w8 := (jo hw6).tr O8
  have hzd : w4.drew.heap.size = w4.heap.size := rfl
  have hz1 := H1.out.2.2
  have hz68 := O8.size
  have hI8 := (HB.out.2.same (Same.of_only hO fun k hk e => HH.out.2.1 (e ▸ hk))).mono (Q := fun k => P k ∨ w.heap.size ≤ k) fun k hk => .inl hk
  have hst8 : StAt w8 (fun k => P k ∨ w.heap.size ≤ k) g { s with held := delA r.tx s.held, decided := putA r.tx 1 s.decided } := by
   have hnd := HB.out.2.held.1
   have hndD := HB.out.2.decided.1
   refine ⟨_, B8, ⟨hI8.fit, hI8.ring, hI8.table, ?_, hI8.outcomes, ?_, hI8.frozen, hI8.log⟩⟩
   ·rw [HREP.out.2.1] at hnd
    show MpAt _ _ _ _ _ _ (delA r.tx s.held)
    rw [HREP.out.2.1]
    exact MpAt.without_ hnd (fun p hp => HeldR.mono (HeldR.same (HREP.out.1 p hp) (Same.of_only hO fun k hk e => HH.out.2.1 (e ▸ hk))) fun k hk _ => .inl hk) ((hM5.ext hb6).only O8 (fun e => by have e' : m5 = g := e; omega)) (.inr (by omega))
   ·rw [HREP.out.2.2.2.1] at hndD
    show MpAt _ _ _ _ _ _ (putA r.tx 1 s.decided)
    rw [HREP.out.2.2.2.1]
    exact MpAt.with_ (cs := [.int .i64 1]) hndD (fun p hp => IntR.mono (IntR.same (HREP.out.2.2.1 p hp) (Same.of_only hO fun k hk e => HH.out.2.1 (e ▸ hk))) fun k hk _ => .inl hk) (hM6.only O8 (fun e => by have e' : m6 = g := e; omega)) ⟨rfl, by constructor <;> omega⟩ (.inr (by omega))
  have hgn : ¬ (P g ∨ w.heap.size ≤ g) := fun e => by
   rcases e with e | e
   ·exact HH.out.2.1 e
   ·omega
  have BR := (H1.out.2.1.ext h16).only O8 (fun e => by have e' : w.heap.size = g := e; omega)
  have BH := (H4.out.2.2.1.ext h46).only O8 (fun e => by have e' : w1.heap.size = g := e; omega)
  have x3 : w8.cell? ⟨w.heap.size, 3, none⟩ = some (.bool r.yes) := BR.cell 3
  have HX := jh (ja hst8 (ja hO (ja BR BH)))
  clear hst8 hO BR BH hI8 B8 O8 hM5 hM6 hb6 h16 hw6 h46 hm5 hm6
  cases hy : r.yes
  ·rw [hy] at x3
   have HS2 := jh (show decideS s r = ({ s with held := delA r.tx s.held, decided := putA r.tx 1 s.decided }, 0) from by rw [HS.out, hy]; rfl)
   clear hy
   go_wp2_with fail
   go_ret
   unfold StOut
   rw [HS2.out]
   exact ⟨rfl, HX.out.1, HX.out.2.1⟩
  ·rw [hy] at x3
   have HS2 := jh (show decideS s r = (putS { s with held := delA r.tx s.held, decided := putA r.tx 1 s.decided } hh.batch hh.firsts r.stamp, 0) from by rw [HS.out, hy]; rfl)
   clear hy
   have BR := HX.out.2.2.1
   have BH := HX.out.2.2.2
   have x4 : w8.cell? ⟨w.heap.size, 4, none⟩ = some (.int .i64 r.stamp.wall) := BR.cell 4
   have x5 : w8.cell? ⟨w.heap.size, 5, none⟩ = some (.int .i64 r.stamp.logic) := BR.cell 5
   have x6 : w8.cell? ⟨w.heap.size, 6, none⟩ = some (.int .i64 r.stamp.node) := BR.cell 6
   have v3 : w8.cell? ⟨w1.heap.size, 3, none⟩ = some (.string hh.batch.key) := BH.cell 3
   have v4 : w8.cell? ⟨w1.heap.size, 4, none⟩ = some (.slice qA hh.batch.puts.length qc) := BH.cell 4
   have v8 : w8.cell? ⟨w1.heap.size, 8, none⟩ = some (.slice uA hh.firsts.length uc) := BH.cell 8
   obtain ⟨hk, hpR, hfR, hfit, _, _⟩ := HK.out
   have hsm := fun (k : Nat) (hk : P k) => (fun (e : (fun k => k = g) k) => HH.out.2.1 (e ▸ hk))
   have C := sput_any g { s with held := delA r.tx s.held, decided := putA r.tx 1 s.decided } hh.batch hh.firsts r.stamp qA uA qc uc (fun k => P k ∨ w.heap.size ≤ k) P w8 HX.out.1 hgn ⟨HH.out.2.2.1.fair.1, HH.out.2.2.1.fair.2, HH.out.2.2.1.fair.3, HH.out.2.2.1.fair.4, HH.out.2.2.1.fair.5⟩
    (hpR.2.2.same (Same.of_only HX.out.2.1 hsm) HX.out.2.1.size) (hfR.2.2.same (Same.of_only HX.out.2.1 hsm) HX.out.2.1.size) HH.out.2.1 hfit.few (fun p hp => (hfit.data p hp).1) (fun p hp => (hfit.data p hp).2) hk hfit.firsts.1 hfit.firsts.2 HH.out.2.2.2.1.stamp (HH.out.2.2.2.2.2.only HX.out.2.1 (by omega) (by omega)) h2
   unfold ptrV at C
   have HZ := jh (ja hz1 (ja hs4 (ja hzd (ja hz5 (ja hz6 hz68)))))
   clear hk hpR hfR hfit hsm BR BH hz1 hs4 hzd hz5 hz6 hz68
   go_wp2_with fail
   refine C.mono ?_
   clear C x4 x5 x6 v3 v4 v8 x3
   rintro e w9 ⟨rfl, hst9, hO9, _⟩
   have H9 := jh (ja hst9 hO9)
   clear hst9 hO9
   go_wp2_with fail
   go_ret
   unfold StOut
   rw [HS2.out]
   obtain ⟨v9, a1, a2⟩ := H9.out.1
   exact ⟨rfl, ⟨v9, a1, a2.mono fun k hk => by
    rcases hk with h | h
    ·exact h
    ·exact .inr (by have := HX.out.2.1.size; omega)⟩, HX.out.2.1.tr H9.out.2⟩
end Go.Proofs.YtcmjgghkmdbphaaGreatDoor
namespace Go.Proofs.YtcmjgghkmdbphaaGreatDoor
open Go.RowKit
theorem recCheck_of (r : Rec) (hHC : HeadC r) (hLC : ListsC r) (nA pA sA : Option Addr) (nc pc sc : Nat) (P : Nat → Prop) (w : World) (hr : RecAt w P r nA nc pA pc sA sc) (hF : r.Fair) (hTb : Tabs w) (h2 : 2 ≤ w.heap.size) :
 Calls Tryz.prog 87 #[.agg (r.cells nA nc pA pc sA sc).toArray] w fun e w' => e = .returned (.int .i64 (checkR r)) ∧ Below w.heap.size w w' := by
 have C := fun W (h : Below w.heap.size w W) => recEncode_of r hHC hLC nA pA sA nc pc sc P W (hr.ext (js h) h.size) hF (hTb.below h) (by have := h.size; omega)
 unfold Rec.cells at C ⊢
 clear hr hF hTb hHC hLC
 go_enter Tryz.func87, Tryz.ntmps87
 go_wp2_with fail
 refine (C _ ((jb _ _).al _)).mono ?_
 clear C
 rintro e w1 ⟨⟨v, rfl⟩, hb1⟩
 go_wp2_with fail
 go_ret
 exact ⟨rfl, ((jb _ _).al _).tr hb1⟩
theorem recCheckP_any (r : Rec) (hK : r.kind = 4 ∨ r.kind = 5) (nA pA sA : Option Addr) (nc pc sc : Nat) (P : Nat → Prop) (w : World) (hr : RecAt w P r nA nc pA pc sA sc) (hF : r.Fair) (hTb : Tabs w) (h2 : 2 ≤ w.heap.size) :
 Calls Tryz.prog 87 #[.agg (r.cells nA nc pA pc sA sc).toArray] w fun e w' => e = .returned (.int .i64 (checkR r)) ∧ Below w.heap.size w w' :=
 recCheck_of r (headC_P hK) (listsC_P hK) nA pA sA nc pc sc P w hr hF hTb h2
end Go.Proofs.YtcmjgghkmdbphaaGreatDoor
