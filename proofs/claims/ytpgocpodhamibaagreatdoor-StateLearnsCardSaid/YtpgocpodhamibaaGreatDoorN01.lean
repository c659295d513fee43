/- state.outcome, state.forget. state.Apply: outcome and forget. state.above, and State.Apply for a life and a ceiling. DERIVED: THE SHELF's CONTRACTS AT THIS DUMP, IN PLAIN WORDS (tools/lay-plain.mjs out of 'YtpgocpodhamibaaGreatDoorSgRaw.lean', which tools/lay-shelf.mjs wrote): THE SAME DECLARATIONS UNDER THE SAME NAMES: 'import', 'namespace', 'open', 'def', 'theorem' AND NOTHING ELSE: no command of the shelf's: FOR A HAND-IN. Each laying: the table of numbers ('.._ren') and one theorem, a field a fact of the dump's own or the kernel's comparison; each contract: ONE APPLICATION. ring: slices.Concat at ranges; Split. -/
import Derived.Test.YtpgocpodhamibaaGreatDoorNL02
import Derived.Shelf.Spec.SlicesGrow
import Derived.Ground.Names8Prog
import Derived.Test.YtpgocpodhamibaaGreatDoorProg
import Derived.Test.YtpgocpodhamibaaGreatDoorNK05
import Derived.Test.YtpgocpodhamibaaGreatDoorNK02
import Derived.Test.YtpgocpodhamibaaGreatDoorNK01
import Derived.Laws.AppendOwn
namespace Go.Proofs.YtpgocpodhamibaaGreatDoor
open Go.RowKit
def Outcome.cellsV (h : Outcome) (fA : Option Addr) (fc : Nat) : List Value :=
 [.int .i64 h.tx.node, .int .i64 h.tx.life, .int .i64 h.tx.num, .bool h.yes, .int .i64 h.stamp.wall, .int .i64 h.stamp.logic, .int .i64 h.stamp.node, .slice fA h.nodes.length fc]
theorem outcome_rep {w : World} {P : Nat → Prop} {cs : List Value} {h : Outcome} : OutcomeR.rep w P cs h ↔ ∃ fA fc, cs = h.cellsV fA fc ∧ h.tx.fit ∧ h.stamp.fit ∧ (h.nodes.length ≤ fc ∧ fc ≤ 9223372036854775807 ∧ IntR.Row w P fA h.nodes) := by
 constructor
 ·rintro ⟨c1, c2, rfl, htx, c3, c4, rfl, rfl, c5, c6, rfl, hst, ⟨fA, fc, rfl, f1, f2, f3⟩⟩
  obtain ⟨rfl, h1⟩ := tx_rep.1 htx
  obtain ⟨rfl, h2⟩ := stamp_rep.1 hst
  exact ⟨fA, fc, rfl, h1, h2, ⟨f1, f2, f3⟩⟩
 ·rintro ⟨fA, fc, rfl, h1, h2, ⟨f1, f2, f3⟩⟩
  exact ⟨_, _, rfl, tx_rep.2 ⟨rfl, h1⟩, [_], _, rfl, rfl, _, [_], rfl, stamp_rep.2 ⟨rfl, h2⟩, fA, fc, rfl, f1, f2, f3⟩
theorem outcome_of {LA : List (Tx × (Outcome × List Value))} {w : World} {P : Nat → Prop} (hr : ∀ p ∈ LA, OutcomeR.rep w P p.2.2 p.2.1) (t : Tx) :
 (getA t (LA.map fun p => (p.1, p.2.1)) = none ∧ assocOf t (LA.map fun p => (p.1, aggV p.2.2)) = none) ∨
 ∃ h fA fc, getA t (LA.map fun p => (p.1, p.2.1)) = some h ∧ assocOf t (LA.map fun p => (p.1, aggV p.2.2)) = some (.agg (h.cellsV fA fc).toArray) := by
 rw [assocOf_eq, getA_map (fun x : Outcome × List Value => x.1) t LA, getA_map (fun x : Outcome × List Value => aggV x.2) t LA]
 cases hg : getA t LA with
 | none => exact .inl ⟨rfl, rfl⟩
 | some x =>
   obtain ⟨h, cs⟩ := x
   have := hr _ (getA_mem hg)
   dsimp only at this
   obtain ⟨fA, fc, rfl, _⟩ := outcome_rep.1 this
   exact .inr ⟨h, fA, fc, rfl, rfl⟩
def farN (n : Int) : Bool := decide (n < 1) || decide (5 < n)
theorem farNode_any (n : Int) (w : World) : Calls Tryz.prog 151 #[.int .i64 n] w fun e w' => e = .returned (.bool (farN n)) ∧ w = w' := by
 go_enter Tryz.func151, Tryz.ntmps151
 go_wp2
 all_goals
  go_ret
  refine ⟨ret_bool ?_, rfl⟩
  go_light
  unfold farN
  refine Bool.eq_iff_iff.2 ?_
  simp at *
  try omega
theorem enters_far : ∀ args w, (callFunc 151 args).run Tryz.prog w = .ok (.enter 151 args) w := enters_of Tryz.func151 (by kernel_rfl) rfl
set_option maxRecDepth 20000 in
set_option maxHeartbeats 3200000 in
theorem forget_any (g : Nat) (s : St) (r : Rec) (nA pA sA : Option Addr) (nc pc sc : Nat) (P Q : Nat → Prop) (w : World) (h : StAt w P g s) (hg : ¬ P g)
 (hr : RecAt w Q r nA nc pA pc sA sc) (_hln : r.nodes.length ≤ 1000000) :
 Calls Tryz.prog 76 #[ptrV g, .agg (r.cells nA nc pA pc sA sc).toArray] w (StOut w P g (forgetS s r)) := by
 have hgl := h.lt
 have HH := jh (ja h (ja hg hr))
 clear h hg hr
 have hb1 := (jb w.heap.size w).al (.cells (r.cells nA nc pA pc sA sc).toArray 43)
 have B0 := Blk.new w 43 (r.cells nA nc pA pc sA sc)
 have hs1 : (w.alloc (.cells (r.cells nA nc pA pc sA sc).toArray 43)).heap.size = w.heap.size + 1 := by simp
 unfold ptrV
 go_enter Tryz.func76, Tryz.ntmps76
 go_upto_region 1 with fail
 refine forget (M := fun W => Code.wp _ _ _ _ W) (fun W => Below w.heap.size w W ∧ Blk W w.heap.size 43 (r.cells nA nc pA pc sA sc) ∧ W.heap.size = w.heap.size + 1) ⟨hb1, B0, hs1⟩ ?_
 clear B0 hb1 hs1
 rintro w1 ⟨hb1, B0, hs1⟩
 obtain ⟨v, hB, hI⟩ := HH.out.1
 have HB := jh (ja hB hI)
 obtain ⟨LA, hMV, hrep, hlA⟩ := hI.outcomes.mapV
 have hho := outcome_of hrep r.tx
 rw [← hlA] at hho
 have y7 := On.cell ((hB.ext hb1).cell 7 : w1.cell? ⟨g, 7, none⟩ = some v.outcomes)
 have z7 := On.cell (B0.cell 7 : w1.cell? ⟨w.heap.size, 7, none⟩ = some (.int .i64 r.tx.node))
 have z8 := On.cell (B0.cell 8 : w1.cell? ⟨w.heap.size, 8, none⟩ = some (.int .i64 r.tx.life))
 have z9 := On.cell (B0.cell 9 : w1.cell? ⟨w.heap.size, 9, none⟩ = some (.int .i64 r.tx.num))
 have HMV := jh (fun (W : World) (hW : ∃ d : Wd (On w1), W = d.w) => (show MapV W v.outcomes (LA.map fun p => (p.1, aggV p.2.2)) from by obtain ⟨d, rfl⟩ := hW; exact hMV.ext (hb1.tr d.ok)))
 have HMW := jh (fun (W : World) (hW : Below w.heap.size w W) => (show MapV W v.outcomes (LA.map fun p => (p.1, aggV p.2.2)) from hMV.ext hW))
 have H1 := jh (ja hb1 (ja B0 hs1))
 have HREP := jh (ja hrep (ja hlA hMV))
 clear hB hI hMV hb1 B0 hs1 hrep hlA
 refine wp_region_mix (.seg [0, 1, 2, 3, 4, 5, 6, 7, 8, 9] 10 (.seg [] 11 (.leaf [12]))) (fun w' => ∃ d : Wd (On w1), w' = d.w) (by kernel_rfl) (by kernel_rfl) (fun _ _ d _ _ h => by cases d <;> exact h) (ClsW.mk (jb _ _).drew) ?_
 unfold wpMix; simp only [pick, j1, j2, j3, j4]
 rcases hho with ⟨hg0, hq⟩ | ⟨hh, uA, uc, hg1, hq⟩
 ·have HS := jh (show forgetS s r = (s, 4) from by unfold forgetS; rw [hg0]; rfl)
  clear hg0
  (repeat (show wpQuiet _ _ _ _ (_ :: _) _; first | (refine wpQuiet_lookup_v none rfl (.tmp 11) (.tmp 13) 138 true rfl Tryz.underlying138 rfl HMV.out r.tx rfl hq _ zero_outcome ?_; simp only [Option.getD_none, Option.isSome_none, if_true]; go_simp) | go_big_quiet_step (fail))); refine qn ?_
  go_wp2_with fail
  (dsimp only [wpList, SegQ]; refine ⟨fun w' => ∃ d : Wd (On w1), w' = d.w, ClsW.mk (by unfold On; repeat (with_reducible first | assumption | exact jb _ _ | refine Below.al ?_ _ | refine Below.drew ?_ | apply Below.st1)), fun _ h => h, ?_⟩; unfold wpMix; simp only [pick, j1, j2, j3, j4]; (repeat (show wpQuiet _ _ _ _ (_ :: _) _; go_big_quiet_step (fail))); refine qn ?_)
  go_wp2_with fail
  (dsimp only [wpList, SegQ]; refine ⟨fun w' => ∃ d : Wd (On w1), w' = d.w, ClsW.mk (by unfold On; repeat (with_reducible first | assumption | exact jb _ _ | refine Below.al ?_ _ | refine Below.drew ?_ | apply Below.st1)), fun _ h => h, ?_⟩; unfold wpMix; simp only [pick, j1, j2, j3, j4]; (repeat (show wpQuiet _ _ _ _ (_ :: _) _; go_big_quiet_step (fail))); refine qn ?_)
  go_wp2_with fail
  go_ret
  unfold StOut
  rw [HS.out]
  have hb4 : Below w.heap.size w ((w1.alloc (.cells #[.int .i64 0, .int .i64 0, .int .i64 0, .bool false, .int .i64 0, .int .i64 0, .int .i64 0, .slice none 0 0] 178)).drew) := (H1.out.1.al _).drew
  exact ⟨rfl, ⟨v, HB.out.1.ext hb4, (HB.out.2.same (Same.of_below hb4)).mono fun k hk => .inl hk⟩, Only.of_below hb4⟩
 ·have HS := jh (show forgetS s r = ({ s with outcomes := delA r.tx s.outcomes }, 0) from by unfold forgetS; rw [hg1]; rfl)
  obtain ⟨m, hvm, hMm⟩ : ∃ m, v.outcomes = .map (some m) ∧ MapAt txE w m (LA.map fun p => (p.1, aggV p.2.2)) := by
   rcases HREP.out.2.2 with ⟨_, e⟩ | ⟨m, e, hM⟩
   ·rw [e] at hq; cases hq
   ·exact ⟨m, e, hM⟩
  have HK := jh (ja hvm hMm)
  clear hg1 hvm hMm
  (repeat (show wpQuiet _ _ _ _ (_ :: _) _; first | (refine wpQuiet_lookup_v _ rfl (.tmp 11) (.tmp 13) 138 true rfl Tryz.underlying138 rfl HMV.out r.tx rfl hq _ zero_outcome ?_; simp only [Option.getD_some, Option.isSome_some, if_true]; unfold Outcome.cellsV; go_simp) | go_big_quiet_step (fail))); refine qn ?_
  go_wp2_with fail
  (dsimp only [wpList, SegQ]; refine ⟨fun w' => ∃ d : Wd (On w1), w' = d.w, ClsW.mk (by unfold On; repeat (with_reducible first | assumption | exact jb _ _ | refine Below.al ?_ _ | refine Below.drew ?_ | apply Below.st1)), fun _ h => h, ?_⟩; unfold wpMix; simp only [pick, j1, j2, j3, j4]; (repeat (show wpQuiet _ _ _ _ (_ :: _) _; go_big_quiet_step (fail))); refine qn ?_)
  go_wp2_with fail
  (dsimp only [wpList, SegQ]; refine ⟨fun w' => ∃ d : Wd (On w1), w' = d.w, ClsW.mk (by unfold On; repeat (with_reducible first | assumption | exact jb _ _ | refine Below.al ?_ _ | refine Below.drew ?_ | apply Below.st1)), fun _ h => h, ?_⟩; unfold wpMix; simp only [pick, j1, j2, j3, j4]; (repeat (show wpQuiet _ _ _ _ (_ :: _) _; go_big_quiet_step (fail))); refine qn ?_)
  go_upto_region 4 with fail
  have h14 : Below w1.heap.size w1 ((w1.alloc (.cells #[.int .i64 hh.tx.node, .int .i64 hh.tx.life, .int .i64 hh.tx.num, .bool hh.yes, .int .i64 hh.stamp.wall, .int .i64 hh.stamp.logic, .int .i64 hh.stamp.node, .slice uA hh.nodes.length uc] 178)).drew) := by repeat (with_reducible first | assumption | exact jb _ _ | refine Below.al ?_ _ | refine Below.drew ?_ | apply Below.st1)
  generalize hw4 : ((w1.alloc (.cells #[.int .i64 hh.tx.node, .int .i64 hh.tx.life, .int .i64 hh.tx.num, .bool hh.yes, .int .i64 hh.stamp.wall, .int .i64 hh.stamp.logic, .int .i64 hh.stamp.node, .slice uA hh.nodes.length uc] 178)).drew) = w4 at *
  clear hw4 hq y7 z7 z8 z9
  have hw4 := H1.out.1.tr h14
  have B4 := H1.out.2.1.ext h14
  have y7 := On.cell (by rw [← HK.out.1]; exact (HB.out.1.ext hw4).cell 7 : w4.cell? ⟨g, 7, none⟩ = some (.map (some m)))
  have z7 := On.cell (B4.cell 7 : w4.cell? ⟨w.heap.size, 7, none⟩ = some (.int .i64 r.tx.node))
  have z8 := On.cell (B4.cell 8 : w4.cell? ⟨w.heap.size, 8, none⟩ = some (.int .i64 r.tx.life))
  have z9 := On.cell (B4.cell 9 : w4.cell? ⟨w.heap.size, 9, none⟩ = some (.int .i64 r.tx.num))
  have H4 := jh (ja h14 hw4)
  clear h14 hw4 B4
  refine wp_region_mix (.seg [0, 1, 2, 3, 4, 5, 6] 7 (.seg [] 8 (.last [9] 10))) (fun w' => ∃ d : Wd (On w4), w' = d.w) (by kernel_rfl) (by kernel_rfl) (fun _ _ d _ _ h => by cases d <;> exact h) (ClsW.mk (jb _ _).drew) ?_
  unfold wpMix; simp only [pick, j1, j2, j3, j4]
  (repeat (show wpQuiet _ _ _ _ (_ :: _) _; go_big_quiet_step (fail))); refine qn ?_
  have hd4 : Below w4.heap.size w4 w4.drew := (jb _ _).drew
  have CA := withoutO_any m _ r.tx w4.drew (HK.out.2.ext (H4.out.2.tr hd4))
  unfold txE at CA
  go_wp2_with fail
  refine CA.mono ?_
  clear CA
  rintro e w5 ⟨⟨m5, rfl, hm5, hM5⟩, hb5⟩
  have h45 := hd4.tr hb5
  have hw5 := H4.out.2.tr h45
  have B5 := HB.out.1.ext hw5
  have x7 : w5.cell? ⟨g, 7, none⟩ = some v.outcomes := B5.cell 7
  have x7f : w5.frozen? ⟨g, 7, none⟩ = false := B5.frozen 7
  have B6 : Blk (w5.setCell ⟨g, 7, none⟩ (.map (some m5))) g 141 (St.cells { s with outcomes := delA r.tx s.outcomes } { v with outcomes := .map (some m5) }) := B5.set_ 7 (.map (some m5))
  have O6 : Only (fun k => k = g) w5 (w5.setCell ⟨g, 7, none⟩ (.map (some m5))) := Only.set_ (F := fun k => k = g) rfl _
  have H6 := jh (ja B6 (ja O6 (ja hw5 (ja hm5 (ja hM5 h45.size)))))
  clear B6 O6 hw5 hm5 hM5 hb5 B5 hd4
  go_wp2_with fail
  (dsimp only [wpList, SegQ]; refine ⟨fun w' => ∃ d : Wd (On w4), w' = d.w, ClsW.mk (h45), fun _ h => h, ?_⟩; unfold wpMix; simp only [pick, j1, j2, j3, j4]; (repeat (show wpQuiet _ _ _ _ (_ :: _) _; go_big_quiet_step (fail))); refine qn ?_)
  go_wp2_with fail
  (dsimp only [wpList, SegQ]; refine ⟨fun w' => ∃ d : Wd (On w4), w' = d.w, ClsW.mk (h45), fun _ h => h, ?_⟩; unfold wpMix; simp only [pick, j1, j2, j3, j4]; (repeat (show wpQuiet _ _ _ _ (_ :: _) _; go_big_quiet_step (fail))); refine qn ?_)
  clear h45 y7 z7 z8 z9
  go_wp2_with fail
  dsimp only [wpList, SegQ]
  generalize hw6 : w5.setCell ⟨g, 7, none⟩ (.map (some m5)) = w6 at *
  clear hw6 x7 x7f
  go_wp2_with fail
  go_ret
  unfold StOut
  rw [HS.out]
  obtain ⟨B6, O6, hw5, hm5, hM5, hz5⟩ := H6.out
  have hO : Only (· = g) w w6 := (Only.of_below hw5).tr O6
  have hz4 := H4.out.2.size
  have hzd : w4.drew.heap.size = w4.heap.size := rfl
  have hI6 := (HB.out.2.same (Same.of_only hO fun k hk e => HH.out.2.1 (e ▸ hk))).mono (Q := fun k => P k ∨ w.heap.size ≤ k) fun k hk => .inl hk
  have hnd := HB.out.2.outcomes.1
  refine ⟨rfl, ⟨_, B6, ⟨hI6.fit, hI6.ring, hI6.table, hI6.held, ?_, hI6.decided, hI6.frozen, hI6.log⟩⟩, hO⟩
  show MpAt _ _ _ _ _ _ (delA r.tx s.outcomes)
  rw [HREP.out.2.1] at hnd ⊢
  exact MpAt.without_ hnd (fun p hp => OutcomeR.mono (OutcomeR.same (HREP.out.1 p hp) (Same.of_only hO fun k hk e => HH.out.2.1 (e ▸ hk))) fun k hk _ => .inl hk) (hM5.only O6 (fun e => by have e' : m5 = g := e; omega)) (.inr (by omega))
set_option maxRecDepth 20000 in
set_option maxHeartbeats 3200000 in
theorem outcome_any (g : Nat) (s : St) (r : Rec) (nA pA sA : Option Addr) (nc pc sc : Nat) (P Q : Nat → Prop) (w : World) (h : StAt w P g s) (hg : ¬ P g)
 (hr : RecAt w Q r nA nc pA pc sA sc) (hln : r.nodes.length ≤ 1000000) :
 Calls Tryz.prog 75 #[ptrV g, .agg (r.cells nA nc pA pc sA sc).toArray] w (StOut w P g (outcomeS s r)) := by
 have hgl := h.lt
 have HH := jh (ja h (ja hg hr))
 clear h hg hr
 have hb1 := (jb w.heap.size w).al (.cells (r.cells nA nc pA pc sA sc).toArray 43)
 have B0 := Blk.new w 43 (r.cells nA nc pA pc sA sc)
 have hs1 : (w.alloc (.cells (r.cells nA nc pA pc sA sc).toArray 43)).heap.size = w.heap.size + 1 := by simp
 unfold ptrV
 go_enter Tryz.func75, Tryz.ntmps75
 go_upto_region 1 with fail
 refine forget (M := fun W => Code.wp _ _ _ _ W) (fun W => Below w.heap.size w W ∧ Blk W w.heap.size 43 (r.cells nA nc pA pc sA sc) ∧ W.heap.size = w.heap.size + 1) ⟨hb1, B0, hs1⟩ ?_
 clear B0 hb1 hs1
 rintro w1 ⟨hb1, B0, hs1⟩
 obtain ⟨v, hB, hI⟩ := HH.out.1
 have HB := jh (ja hB hI)
 obtain ⟨LA, hMV, hrep, hlA⟩ := hI.outcomes.mapV
 have hho := outcome_of hrep r.tx
 rw [← hlA] at hho
 have y7 := On.cell ((hB.ext hb1).cell 7 : w1.cell? ⟨g, 7, none⟩ = some v.outcomes)
 have z7 := On.cell (B0.cell 7 : w1.cell? ⟨w.heap.size, 7, none⟩ = some (.int .i64 r.tx.node))
 have z8 := On.cell (B0.cell 8 : w1.cell? ⟨w.heap.size, 8, none⟩ = some (.int .i64 r.tx.life))
 have z9 := On.cell (B0.cell 9 : w1.cell? ⟨w.heap.size, 9, none⟩ = some (.int .i64 r.tx.num))
 have HMV := jh (fun (W : World) (hW : ∃ d : Wd (On w1), W = d.w) => (show MapV W v.outcomes (LA.map fun p => (p.1, aggV p.2.2)) from by obtain ⟨d, rfl⟩ := hW; exact hMV.ext (hb1.tr d.ok)))
 have HMW := jh (fun (W : World) (hW : Below w.heap.size w W) => (show MapV W v.outcomes (LA.map fun p => (p.1, aggV p.2.2)) from hMV.ext hW))
 have H1 := jh (ja hb1 (ja B0 hs1))
 have HREP := jh (ja hrep (ja hlA hMV))
 clear hB hI hMV hb1 B0 hs1 hrep hlA
 refine wp_region_mix (.seg [0, 1, 2, 3, 4, 5, 6, 7, 8, 9] 10 (.seg [] 11 (.leaf [12]))) (fun w' => ∃ d : Wd (On w1), w' = d.w) (by kernel_rfl) (by kernel_rfl) (fun _ _ d _ _ h => by cases d <;> exact h) (ClsW.mk (jb _ _).drew) ?_
 unfold wpMix; simp only [pick, j1, j2, j3, j4]
 rcases hho with ⟨hg0, hq⟩ | ⟨hh, uA, uc, hg1, hq⟩
 ·have HS0 := jh (show outcomeS s r = if (r.nodes.any farN) = true then (s, 1) else ({ s with outcomes := putA r.tx ⟨r.tx, r.yes, r.stamp, r.nodes⟩ s.outcomes }, 0) from by unfold outcomeS; rw [hg0, if_neg (by simp)]; rfl)
  clear hg0
  (repeat (show wpQuiet _ _ _ _ (_ :: _) _; first | (refine wpQuiet_lookup_v none rfl (.tmp 11) (.tmp 13) 138 true rfl Tryz.underlying138 rfl HMV.out r.tx rfl hq _ zero_outcome ?_; simp only [Option.getD_none, Option.isSome_none, if_true]; go_simp) | go_big_quiet_step (fail))); refine qn ?_
  go_wp2_with fail
  (dsimp only [wpList, SegQ]; refine ⟨fun w' => ∃ d : Wd (On w1), w' = d.w, ClsW.mk (by unfold On; repeat (with_reducible first | assumption | exact jb _ _ | refine Below.al ?_ _ | refine Below.drew ?_ | apply Below.st1)), fun _ h => h, ?_⟩; unfold wpMix; simp only [pick, j1, j2, j3, j4]; (repeat (show wpQuiet _ _ _ _ (_ :: _) _; go_big_quiet_step (fail))); refine qn ?_)
  go_wp2_with fail
  (dsimp only [wpList, SegQ]; refine ⟨fun w' => ∃ d : Wd (On w1), w' = d.w, ClsW.mk (by unfold On; repeat (with_reducible first | assumption | exact jb _ _ | refine Below.al ?_ _ | refine Below.drew ?_ | apply Below.st1)), fun _ h => h, ?_⟩; unfold wpMix; simp only [pick, j1, j2, j3, j4]; (repeat (show wpQuiet _ _ _ _ (_ :: _) _; go_big_quiet_step (fail))); refine qn ?_)
  go_upto_region 4 with fail
  have h14 : Below w1.heap.size w1 ((w1.alloc (.cells #[.int .i64 0, .int .i64 0, .int .i64 0, .bool false, .int .i64 0, .int .i64 0, .int .i64 0, .slice none 0 0] 178)).drew) := by repeat (with_reducible first | assumption | exact jb _ _ | refine Below.al ?_ _ | refine Below.drew ?_ | apply Below.st1)
  generalize hw4 : ((w1.alloc (.cells #[.int .i64 0, .int .i64 0, .int .i64 0, .bool false, .int .i64 0, .int .i64 0, .int .i64 0, .slice none 0 0] 178)).drew) = w4 at *
  clear hw4 hq y7 z7 z8 z9
  have hw4 := H1.out.1.tr h14
  have B4 := H1.out.2.1.ext h14
  have x10 : w4.cell? ⟨w.heap.size, 10, none⟩ = some (.slice nA r.nodes.length nc) := B4.cell 10
  have hrow4 := (HH.out.2.2.nodes.2.2.ext hw4).mono (Q := fun k => k < w4.heap.size) (fun k _ hk => hk)
  have CN := hasF_int 151 [] farN enters_far nA nc r.nodes _ w4 hrow4 (by omega) (fun a cs W ha hra hb => by
   obtain ⟨rfl, _⟩ := hra
   exact (farNode_any a W).mono fun e w' ⟨h1, h2⟩ => ⟨h1, h2 ▸ jb _ _⟩)
  have H4 := jh (ja h14 (ja hw4 hrow4))
  clear h14 hw4 B4 hrow4
  go_wp2_with fail
  refine CN.mono ?_
  clear CN x10
  cases hq : r.nodes.any farN
  ·have HS := jh (show outcomeS s r = ({ s with outcomes := putA r.tx ⟨r.tx, r.yes, r.stamp, r.nodes⟩ s.outcomes }, 0) from by rw [HS0.out, if_neg (by rw [hq]; simp)])
   clear hq
   rintro e w5 ⟨rfl, hb5⟩
   have h15 := H4.out.1.tr hb5
   have hw5 := H4.out.2.1.tr hb5
   have B5 := H1.out.2.1.ext h15
   have u7 := On.cell ((HB.out.1.ext hw5).cell 7 : w5.cell? ⟨g, 7, none⟩ = some v.outcomes)
   have z7 := On.cell (B5.cell 7 : w5.cell? ⟨w.heap.size, 7, none⟩ = some (.int .i64 r.tx.node))
   have z8 := On.cell (B5.cell 8 : w5.cell? ⟨w.heap.size, 8, none⟩ = some (.int .i64 r.tx.life))
   have z9 := On.cell (B5.cell 9 : w5.cell? ⟨w.heap.size, 9, none⟩ = some (.int .i64 r.tx.num))
   have z3 := On.cell (B5.cell 3 : w5.cell? ⟨w.heap.size, 3, none⟩ = some (.bool r.yes))
   have z4 := On.cell (B5.cell 4 : w5.cell? ⟨w.heap.size, 4, none⟩ = some (.int .i64 r.stamp.wall))
   have z5 := On.cell (B5.cell 5 : w5.cell? ⟨w.heap.size, 5, none⟩ = some (.int .i64 r.stamp.logic))
   have z6 := On.cell (B5.cell 6 : w5.cell? ⟨w.heap.size, 6, none⟩ = some (.int .i64 r.stamp.node))
   have z10 := On.cell (B5.cell 10 : w5.cell? ⟨w.heap.size, 10, none⟩ = some (.slice nA r.nodes.length nc))
   have H5 := jh (ja hw5 (H4.out.2.2.ext hb5))
   clear h15 hw5 B5 hb5
   go_upto_region 6 with fail
   refine wp_region_mix (.seg [0, 1, 2, 3, 4, 5, 6, 7, 8, 9, 10, 11, 12, 13, 14] 15 (.seg [] 16 (.seg [] 17 (.seg [] 18 (.last [19] 20))))) (fun w' => ∃ d : Wd (On w5), w' = d.w) (by kernel_rfl) (by kernel_rfl) (fun _ _ d _ _ h => by cases d <;> exact h) (ClsW.mk (jb _ _).drew) ?_
   unfold wpMix; simp only [pick, j1, j2, j3, j4]
   (repeat (show wpQuiet _ _ _ _ (_ :: _) _; go_big_quiet_step (fail))); refine qn ?_
   have hd5 : Below w5.heap.size w5 w5.drew := (jb _ _).drew
   have CC := clone_int nA nc r.nodes _ w5.drew (H5.out.2.ext hd5) (by omega)
   unfold GotOwn at CC
   go_wp2_with fail
   refine CC.mono ?_
   clear CC
   rintro e w6 ⟨⟨v6, rfl, hv6⟩, hb6⟩
   obtain ⟨A6, c6, rfl, hc6, hc6m⟩ := hv6.form
   have h56 := hd5.tr hb6
   go_wp2_with fail
   (dsimp only [wpList, SegQ]; refine ⟨fun w' => ∃ d : Wd (On w5), w' = d.w, ClsW.mk (h56), fun _ h => h, ?_⟩; unfold wpMix; simp only [pick, j1, j2, j3, j4]; (repeat (show wpQuiet _ _ _ _ (_ :: _) _; go_big_quiet_step (fail))); refine qn ?_)
   go_wp2_with fail
   (dsimp only [wpList, SegQ]; refine ⟨fun w' => ∃ d : Wd (On w5), w' = d.w, ClsW.mk (h56), fun _ h => h, ?_⟩; unfold wpMix; simp only [pick, j1, j2, j3, j4]; (repeat (show wpQuiet _ _ _ _ (_ :: _) _; go_big_quiet_step (fail))); refine qn ?_)
   have CW := withO_any v.outcomes _ r.tx r.tx.node r.tx.life r.tx.num r.stamp.wall r.stamp.logic r.stamp.node r.yes A6 r.nodes.length c6 w6 (HMW.out w6 (H5.out.1.tr h56))
   unfold txE at CW
   go_wp2_with fail
   refine CW.mono ?_
   clear CW
   rintro e w8 ⟨⟨m8, rfl, hm8, hM8⟩, hb8⟩
   have h58 := h56.tr hb8
   have hw8 := H5.out.1.tr h58
   have x7 : w8.cell? ⟨g, 7, none⟩ = some v.outcomes := (HB.out.1.ext hw8).cell 7
   have x7f : w8.frozen? ⟨g, 7, none⟩ = false := (HB.out.1.ext hw8).frozen 7
   have hf8 := (hv6.row' (P := fun k => w5.drew.heap.size ≤ k) int_plain (fun k hk => (hv6.lt k hk).1)).ext hb8
   go_wp2_with fail
   (dsimp only [wpList, SegQ]; refine ⟨fun w' => ∃ d : Wd (On w5), w' = d.w, ClsW.mk (h58), fun _ h => h, ?_⟩; unfold wpMix; simp only [pick, j1, j2, j3, j4]; (repeat (show wpQuiet _ _ _ _ (_ :: _) _; go_big_quiet_step (fail))); refine qn ?_)
   go_wp2_with fail
   (dsimp only [wpList, SegQ]; refine ⟨fun w' => ∃ d : Wd (On w5), w' = d.w, ClsW.mk (h58), fun _ h => h, ?_⟩; unfold wpMix; simp only [pick, j1, j2, j3, j4]; (repeat (show wpQuiet _ _ _ _ (_ :: _) _; go_big_quiet_step (fail))); refine qn ?_)
   have B9 : Blk (w8.setCell ⟨g, 7, none⟩ (.map (some m8))) g 141 (St.cells { s with outcomes := putA r.tx ⟨r.tx, r.yes, r.stamp, r.nodes⟩ s.outcomes } { v with outcomes := .map (some m8) }) := (HB.out.1.ext hw8).set_ 7 (.map (some m8))
   have O9 : Only (fun k => k = g) w8 (w8.setCell ⟨g, 7, none⟩ (.map (some m8))) := Only.set_ (F := fun k => k = g) rfl _
   have H9 := jh (ja B9 (ja O9 (ja hw8 (ja hf8 (ja hc6 hc6m)))))
   have HM8 := jh (ja hm8 (ja hM8 (ja h58 h56.size)))
   clear B9 O9 hw8 hf8 hm8 hM8 h58 hb8 h56 hb6 hd5 hv6 hc6 hc6m
   go_wp2_with fail
   dsimp only [wpList, SegQ]
   generalize hw9 : w8.setCell ⟨g, 7, none⟩ (.map (some m8)) = w9 at *
   clear hw9 x7 x7f u7 z3 z4 z5 z6 z7 z8 z9 z10
   go_wp2_with fail
   go_ret
   unfold StOut
   rw [HS.out]
   obtain ⟨B9, O9, hw8, hf8, hc6, hc6m⟩ := H9.out
   obtain ⟨hm8, hM8, h58, hz6⟩ := HM8.out
   have hO : Only (· = g) w w9 := (Only.of_below hw8).tr O9
   have hI9 := (HB.out.2.same (Same.of_only hO fun k hk e => HH.out.2.1 (e ▸ hk))).mono (Q := fun k => P k ∨ w.heap.size ≤ k) fun k hk => .inl hk
   have hz5 := H5.out.1.size
   have hzd : w5.drew.heap.size = w5.heap.size := rfl
   have hnd := HB.out.2.outcomes.1
   refine ⟨rfl, ⟨_, B9, ⟨hI9.fit, hI9.ring, hI9.table, hI9.held, ?_, hI9.decided, hI9.frozen, hI9.log⟩⟩, hO⟩
   show MpAt _ _ _ _ _ _ (putA r.tx _ s.outcomes)
   rw [HREP.out.2.1] at hnd ⊢
   refine MpAt.with_ (cs := Outcome.cellsV ⟨r.tx, r.yes, r.stamp, r.nodes⟩ A6 c6) hnd (fun p hp => OutcomeR.mono (OutcomeR.same (HREP.out.1 p hp) (Same.of_only hO fun k hk e => HH.out.2.1 (e ▸ hk))) fun k hk _ => .inl hk) (hM8.only O9 (fun e => by have e' : m8 = g := e; omega)) ?_ (.inr (by omega))
   refine outcome_rep.2 ⟨A6, c6, rfl, HH.out.2.2.tx, HH.out.2.2.stamp, ⟨hc6, hc6m, ?_⟩⟩
   exact (hf8.same (Same.of_only O9 fun k hk e => by have e' : k = g := e; omega) O9.size).mono fun k hk _ => .inr (by omega)
  ·have HS := jh (show outcomeS s r = (s, 1) from by rw [HS0.out, if_pos hq])
   clear hq
   rintro e w5 ⟨rfl, hb5⟩
   have H5 := jh (H4.out.2.1.tr hb5)
   clear hb5
   go_wp2_with fail
   go_ret
   unfold StOut
   rw [HS.out]
   exact ⟨rfl, ⟨v, HB.out.1.ext H5.out, (HB.out.2.same (Same.of_below H5.out)).mono fun k hk => .inl hk⟩, Only.of_below H5.out⟩
 ·have HS := jh (show outcomeS s r = (s, 11) from by unfold outcomeS; rw [hg1]; rfl)
  clear hg1
  (repeat (show wpQuiet _ _ _ _ (_ :: _) _; first | (refine wpQuiet_lookup_v _ rfl (.tmp 11) (.tmp 13) 138 true rfl Tryz.underlying138 rfl HMV.out r.tx rfl hq _ zero_outcome ?_; simp only [Option.getD_some, Option.isSome_some, if_true]; unfold Outcome.cellsV; go_simp) | go_big_quiet_step (fail))); refine qn ?_
  go_wp2_with fail
  (dsimp only [wpList, SegQ]; refine ⟨fun w' => ∃ d : Wd (On w1), w' = d.w, ClsW.mk (by unfold On; repeat (with_reducible first | assumption | exact jb _ _ | refine Below.al ?_ _ | refine Below.drew ?_ | apply Below.st1)), fun _ h => h, ?_⟩; unfold wpMix; simp only [pick, j1, j2, j3, j4]; (repeat (show wpQuiet _ _ _ _ (_ :: _) _; go_big_quiet_step (fail))); refine qn ?_)
  go_wp2_with fail
  (dsimp only [wpList, SegQ]; refine ⟨fun w' => ∃ d : Wd (On w1), w' = d.w, ClsW.mk (by unfold On; repeat (with_reducible first | assumption | exact jb _ _ | refine Below.al ?_ _ | refine Below.drew ?_ | apply Below.st1)), fun _ h => h, ?_⟩; unfold wpMix; simp only [pick, j1, j2, j3, j4]; (repeat (show wpQuiet _ _ _ _ (_ :: _) _; go_big_quiet_step (fail))); refine qn ?_)
  go_wp2_with fail
  go_ret
  unfold StOut
  rw [HS.out]
  have hb4 : Below w.heap.size w ((w1.alloc (.cells #[.int .i64 hh.tx.node, .int .i64 hh.tx.life, .int .i64 hh.tx.num, .bool hh.yes, .int .i64 hh.stamp.wall, .int .i64 hh.stamp.logic, .int .i64 hh.stamp.node, .slice uA hh.nodes.length uc] 178)).drew) := (H1.out.1.al _).drew
  exact ⟨rfl, ⟨v, HB.out.1.ext hb4, (HB.out.2.same (Same.of_below hb4)).mono fun k hk => .inl hk⟩, Only.of_below hb4⟩
end Go.Proofs.YtpgocpodhamibaaGreatDoor
namespace Go.Proofs.YtpgocpodhamibaaGreatDoor
open Go.RowKit
theorem outcome_out (g : Nat) (s : St) (r : Rec) (nA pA sA : Option Addr) (nc pc sc : Nat) (P Q : Nat → Prop) (w : World) (h : StAt w P g s) (hg : ¬ P g) (_hF : Fit s)
 (hr : RecAt w Q r nA nc pA pc sA sc) (_hQ : ¬ Q g) (hln : r.nodes.length ≤ 1000000) (_hd : ∀ p ∈ r.batch.puts, p.data.length ≤ 1000000) (_hT : Tabs w) (_h2 : 2 ≤ g) :
 Calls Tryz.prog 75 #[ptrV g, .agg (r.cells nA nc pA pc sA sc).toArray] w (StOut w P g (outcomeS s r)) :=
 outcome_any g s r nA pA sA nc pc sc P Q w h hg hr hln
theorem forget_out (g : Nat) (s : St) (r : Rec) (nA pA sA : Option Addr) (nc pc sc : Nat) (P Q : Nat → Prop) (w : World) (h : StAt w P g s) (hg : ¬ P g) (_hF : Fit s)
 (hr : RecAt w Q r nA nc pA pc sA sc) (_hQ : ¬ Q g) (hln : r.nodes.length ≤ 1000000) (_hd : ∀ p ∈ r.batch.puts, p.data.length ≤ 1000000) (_hT : Tabs w) (_h2 : 2 ≤ g) :
 Calls Tryz.prog 76 #[ptrV g, .agg (r.cells nA nc pA pc sA sc).toArray] w (StOut w P g (forgetS s r)) :=
 forget_any g s r nA pA sA nc pc sc P Q w h hg hr hln
end Go.Proofs.YtpgocpodhamibaaGreatDoor
namespace Go.Proofs.YtpgocpodhamibaaGreatDoor
open Go.RowKit
def AboveOut (n v : Int) (g i : Nat) (t : TypeId) (cs : List Value) (w : World) (e : Ending) (w' : World) : Prop :=
 e = .returned (.int .i64 (if n ≤ v then 1 else 0)) ∧ Blk w' g t (if n ≤ v then cs else cs.set i (.int .i64 n)) ∧ Only (fun k => k = g) w w'
theorem above_any (n v : Int) (g i : Nat) (t : TypeId) (cs : List Value) (w : World) (hB : Blk w g t cs) (hi : cs[i]? = some (.int .i64 v)) :
 Calls Tryz.prog 71 #[.int .i64 n, .pointer (some ⟨g, i, none⟩)] w (AboveOut n v g i t cs w) := by
 have y0 := hB.cell i
 rw [hi] at y0
 have y1 := hB.frozen i
 have HH := jh hB
 clear hB hi
 go_enter Tryz.func71, Tryz.ntmps71
 by_cases hc : n ≤ v
 ·have HC := jh hc
  go_wp2_with fail
  go_ret
  refine ⟨?_, ?_, Only.refl _ _⟩
  ·rw [if_pos HC.out]; rfl
  ·rw [if_pos HC.out]; exact HH.out
 ·have HC := jh hc
  go_wp2_with fail
  go_ret
  refine ⟨?_, ?_, Only.set_ (F := fun k => k = g) rfl _⟩
  ·rw [if_neg (Int.not_le.2 HC.out)]; rfl
  ·rw [if_neg (Int.not_le.2 HC.out)]; exact HH.out.set_ i _
def ReB (nb : Nat) (r : Rec) (nA : Option Addr) (nc : Nat) (pA : Option Addr) (pc : Nat) (sA : Option Addr) (sc : Nat) (W : World) : Prop := Blk W nb 43 (r.cells nA nc pA pc sA sc)
theorem ReB.c1 {nb : Nat} {r : Rec} {nA pA sA : Option Addr} {nc pc sc : Nat} (d : Wd (ReB nb r nA nc pA pc sA sc)) : d.w.cell? ⟨nb, 1, none⟩ = some (.int .i64 r.n) := Blk.cell d.ok 1
theorem doS_1 {s : St} {r : Rec} (h : r.kind = 1) : doS s r = lifeS s r := by unfold doS; rw [h]; rfl
theorem doS_2 {s : St} {r : Rec} (h : r.kind = 2) : doS s r = ceilS s r := by unfold doS; rw [h]; rfl
theorem lifeS_out {g : Nat} {s : St} {r : Rec} {v : SV} {w w' : World} {P : Nat → Prop} {e : Ending} (hn : i64 r.n) (hI : StIn w P s v) (hg : ¬ P g)
 (h : AboveOut r.n s.life g 2 141 (s.cells v) w e w') : StOut w P g (lifeS s r) e w' := by
 obtain ⟨rfl, hB, hO⟩ := h
 unfold StOut lifeS
 by_cases hc : r.n ≤ s.life
 ·rw [if_pos hc] at hB ⊢
  rw [if_pos hc]
  exact ⟨rfl, ⟨v, hB, (hI.same (Same.of_only hO fun k hk e => hg (e ▸ hk))).mono fun k hk => .inl hk⟩, hO⟩
 ·rw [if_neg hc] at hB ⊢
  rw [if_neg hc]
  have hI' := hI.same (Same.of_only hO fun k hk e => hg (e ▸ hk))
  exact ⟨rfl, ⟨v, hB, ({ hI' with fit := ja hI.fit.1 (ja hI.fit.2.1 (ja hn hI.fit.2.2.2)) } : StIn w' P { s with life := r.n } v).mono fun k hk => .inl hk⟩, hO⟩
theorem ceilS_out {g : Nat} {s : St} {r : Rec} {v : SV} {w w' : World} {P : Nat → Prop} {e : Ending} (hn : i64 r.n) (hI : StIn w P s v) (hg : ¬ P g)
 (h : AboveOut r.n s.ceiling g 3 141 (s.cells v) w e w') : StOut w P g (ceilS s r) e w' := by
 obtain ⟨rfl, hB, hO⟩ := h
 unfold StOut ceilS
 by_cases hc : r.n ≤ s.ceiling
 ·rw [if_pos hc] at hB ⊢
  rw [if_pos hc]
  exact ⟨rfl, ⟨v, hB, (hI.same (Same.of_only hO fun k hk e => hg (e ▸ hk))).mono fun k hk => .inl hk⟩, hO⟩
 ·rw [if_neg hc] at hB ⊢
  rw [if_neg hc]
  have hI' := hI.same (Same.of_only hO fun k hk e => hg (e ▸ hk))
  exact ⟨rfl, ⟨v, hB, ({ hI' with fit := ja hI.fit.1 (ja hI.fit.2.1 (ja hI.fit.2.2.1 hn)) } : StIn w' P { s with ceiling := r.n } v).mono fun k hk => .inl hk⟩, hO⟩
set_option maxRecDepth 20000 in
set_option maxHeartbeats 3200000 in
theorem applyK_1 (g : Nat) (s : St) (r : Rec) (nA pA sA : Option Addr) (nc pc sc : Nat) (P Q : Nat → Prop) (w : World) (h : StAt w P g s) (hg : ¬ P g) (hS : Fit s)
 (hr : RecAt w Q r nA nc pA pc sA sc) (hQ : ¬ Q g) (hF : r.Fair) (hT : Tabs w) (h2 : 2 ≤ g) (h3 : r.kind = 1) :
 Calls Tryz.prog 17 #[ptrV g, .agg (r.cells nA nc pA pc sA sc).toArray] w (StOut w P g (applyS s r)) := by
 have hgl := h.lt
 have HH := jh (ja h (ja hg (ja hS (ja hr (ja hQ (ja hF hT))))))
 clear h hg hS hr hQ hF hT
 have hb1 := (jb w.heap.size w).al (.cells (r.cells nA nc pA pc sA sc).toArray 43)
 have B0 := Blk.new w 43 (r.cells nA nc pA pc sA sc)
 have hs1 : (w.alloc (.cells (r.cells nA nc pA pc sA sc).toArray 43)).heap.size = w.heap.size + 1 := by simp
 unfold ptrV
 go_enter Tryz.func17, Tryz.ntmps17
 go_upto_region 1 with fail
 refine forget (M := fun W => Code.wp _ _ _ _ W) (fun W => Below w.heap.size w W ∧ Blk W w.heap.size 43 (r.cells nA nc pA pc sA sc) ∧ W.heap.size = w.heap.size + 1) ⟨hb1, B0, hs1⟩ ?_
 clear B0 hb1 hs1
 rintro w1 ⟨hb1, B0, hs1⟩
 obtain ⟨v, hB, hI⟩ := HH.out.1
 have C1 := gone_any g s.self w1 ((hB.ext hb1).cell 0) HH.out.2.2.1.self
 have C2 := recCheck_any r nA pA sA nc pc sc Q w1 (HH.out.2.2.2.1.ext (Same.of_below hb1) hb1.size) HH.out.2.2.2.2.2.1 (HH.out.2.2.2.2.2.2.below hb1) (by omega)
 unfold ptrV at C1
 have H1 := jh (ja hb1 hs1)
 clear hB hI hb1
 go_wp2_with fail
 refine C1.mono ?_
 clear C1
 rintro e w' ⟨rfl, rfl⟩
 go_wp2_with (first
  | ((with_reducible refine wpList_load_blk rfl rfl ?_ B0 Tryz.underlying43 rfl (by kernel_rfl) ?_); · rfl)
  | fail)
 refine C2.mono ?_
 clear C2
 rintro e w2 ⟨rfl, hb2⟩
 have B2 := B0.ext hb2
 have hw2 := H1.out.1.tr hb2
 by_cases hc : checkR r = 0
 ·have HC := jh (show applyS s r = lifeS s r from by unfold applyS; rw [if_neg (by rw [hc]; simp)]; exact doS_1 h3)
  rw [hc]
  have x0 : w2.cell? ⟨w.heap.size, 0, none⟩ = some (.int .i64 r.kind) := B2.cell 0
  rw [h3] at x0
  obtain ⟨v, hB, hI⟩ := HH.out.1
  have hB2 := hB.ext hw2
  have H2 := jh (ja hw2 (ja hB2 (hI.same (Same.of_below hw2))))
  have hD2 : ReB w.heap.size r nA nc pA pc sA sc w2 := B2
  haveI : Nonempty (Wd (ReB w.heap.size r nA nc pA pc sA sc)) := ⟨⟨_, hD2⟩⟩
  have y1 := ReB.c1 (nb := w.heap.size) (r := r) (nA := nA) (nc := nc) (pA := pA) (pc := pc) (sA := sA) (sc := sc)
  clear hc hB hI hb2 hw2 B0
  go_upto_region 8 with fail
  refine wp_region_mix (.seg [0, 1, 2, 3, 4] 5 (.leaf [6])) (fun w' => ∃ d : Wd (ReB w.heap.size r nA nc pA pc sA sc), w' = d.w) (by kernel_rfl) (by kernel_rfl) (fun _ _ d _ _ h => by cases d <;> exact h) (ClsW.mk (D := ReB w.heap.size r nA nc pA pc sA sc) (Blk.drew hD2)) ?_
  unfold wpMix; simp only [pick, j1, j2, j3, j4]
  (repeat (show wpQuiet _ _ _ _ (_ :: _) _; go_big_quiet_step (fail))); refine qn ?_
  have C3 := above_any r.n s.life g 2 141 (s.cells v) w2.drew hB2.drew rfl
  clear hB2 B2
  go_wp2_with fail
  refine C3.mono ?_
  clear C3
  intro e w3 h3'
  have hD3 : ReB w.heap.size r nA nc pA pc sA sc w3 := (Blk.drew hD2).only h3'.2.2 (fun h => by omega)
  have h3 := lifeS_out HH.out.2.2.2.1.n (H2.out.2.2.same (Same.of_below (jb _ w2).drew)) HH.out.2.1 h3'
  have he := h3.1
  have H3 := jh h3.2
  clear h3 h3'
  subst he
  go_wp2_with fail
  dsimp only [wpList, SegQ]
  refine ⟨fun w' => ∃ d : Wd (ReB w.heap.size r nA nc pA pc sA sc), w' = d.w, ClsW.mk (D := ReB w.heap.size r nA nc pA pc sA sc) hD3, fun _ h => h, ?_⟩
  unfold wpMix; simp only [pick, j1, j2, j3, j4]
  (repeat (show wpQuiet _ _ _ _ (_ :: _) _; go_big_quiet_step (fail))); refine qn ?_
  clear y1
  go_wp2_with fail
  go_ret
  unfold StOut
  rw [HC.out]
  obtain ⟨⟨v', a1, a2⟩, a3⟩ := H3.out
  exact ⟨rfl, ⟨v', a1, a2.mono fun k hk => by
   rcases hk with h | h
   ·exact .inl h
   ·exact .inr (by have := H2.out.1.size; have hz : w2.drew.heap.size = w2.heap.size := rfl; omega)⟩, (Only.of_below (H2.out.1.tr (jb _ w2).drew)).tr a3⟩
 ·have HC := jh (show applyS s r = (s, checkR r) from by unfold applyS; rw [if_pos hc])
  have hc' : (checkR r != 0) = true := bne_iff_ne.2 hc
  obtain ⟨v, hB, hI⟩ := HH.out.1
  have H3 := jh (ja (⟨v, hB.ext hw2, hI.same (Same.of_below hw2)⟩ : StAt w2 P g s) hw2)
  clear hc hB hI hb2 hw2 B0 B2
  go_wp2_with fail
  go_ret
  unfold StOut
  rw [HC.out]
  obtain ⟨v', a1, a2⟩ := H3.out.1
  exact ⟨rfl, ⟨v', a1, a2.mono fun k hk => .inl hk⟩, Only.of_below H3.out.2⟩
set_option maxRecDepth 20000 in
set_option maxHeartbeats 3200000 in
theorem applyK_2 (g : Nat) (s : St) (r : Rec) (nA pA sA : Option Addr) (nc pc sc : Nat) (P Q : Nat → Prop) (w : World) (h : StAt w P g s) (hg : ¬ P g) (hS : Fit s)
 (hr : RecAt w Q r nA nc pA pc sA sc) (hQ : ¬ Q g) (hF : r.Fair) (hT : Tabs w) (h2 : 2 ≤ g) (h3 : r.kind = 2) :
 Calls Tryz.prog 17 #[ptrV g, .agg (r.cells nA nc pA pc sA sc).toArray] w (StOut w P g (applyS s r)) := by
 have hgl := h.lt
 have HH := jh (ja h (ja hg (ja hS (ja hr (ja hQ (ja hF hT))))))
 clear h hg hS hr hQ hF hT
 have hb1 := (jb w.heap.size w).al (.cells (r.cells nA nc pA pc sA sc).toArray 43)
 have B0 := Blk.new w 43 (r.cells nA nc pA pc sA sc)
 have hs1 : (w.alloc (.cells (r.cells nA nc pA pc sA sc).toArray 43)).heap.size = w.heap.size + 1 := by simp
 unfold ptrV
 go_enter Tryz.func17, Tryz.ntmps17
 go_upto_region 1 with fail
 refine forget (M := fun W => Code.wp _ _ _ _ W) (fun W => Below w.heap.size w W ∧ Blk W w.heap.size 43 (r.cells nA nc pA pc sA sc) ∧ W.heap.size = w.heap.size + 1) ⟨hb1, B0, hs1⟩ ?_
 clear B0 hb1 hs1
 rintro w1 ⟨hb1, B0, hs1⟩
 obtain ⟨v, hB, hI⟩ := HH.out.1
 have C1 := gone_any g s.self w1 ((hB.ext hb1).cell 0) HH.out.2.2.1.self
 have C2 := recCheck_any r nA pA sA nc pc sc Q w1 (HH.out.2.2.2.1.ext (Same.of_below hb1) hb1.size) HH.out.2.2.2.2.2.1 (HH.out.2.2.2.2.2.2.below hb1) (by omega)
 unfold ptrV at C1
 have H1 := jh (ja hb1 hs1)
 clear hB hI hb1
 go_wp2_with fail
 refine C1.mono ?_
 clear C1
 rintro e w' ⟨rfl, rfl⟩
 go_wp2_with (first
  | ((with_reducible refine wpList_load_blk rfl rfl ?_ B0 Tryz.underlying43 rfl (by kernel_rfl) ?_); · rfl)
  | fail)
 refine C2.mono ?_
 clear C2
 rintro e w2 ⟨rfl, hb2⟩
 have B2 := B0.ext hb2
 have hw2 := H1.out.1.tr hb2
 by_cases hc : checkR r = 0
 ·have HC := jh (show applyS s r = ceilS s r from by unfold applyS; rw [if_neg (by rw [hc]; simp)]; exact doS_2 h3)
  rw [hc]
  have x0 : w2.cell? ⟨w.heap.size, 0, none⟩ = some (.int .i64 r.kind) := B2.cell 0
  rw [h3] at x0
  obtain ⟨v, hB, hI⟩ := HH.out.1
  have hB2 := hB.ext hw2
  have H2 := jh (ja hw2 (ja hB2 (hI.same (Same.of_below hw2))))
  have hD2 : ReB w.heap.size r nA nc pA pc sA sc w2 := B2
  haveI : Nonempty (Wd (ReB w.heap.size r nA nc pA pc sA sc)) := ⟨⟨_, hD2⟩⟩
  have y1 := ReB.c1 (nb := w.heap.size) (r := r) (nA := nA) (nc := nc) (pA := pA) (pc := pc) (sA := sA) (sc := sc)
  clear hc hB hI hb2 hw2 B0
  go_upto_region 10 with fail
  refine wp_region_mix (.seg [0, 1, 2, 3, 4] 5 (.leaf [6])) (fun w' => ∃ d : Wd (ReB w.heap.size r nA nc pA pc sA sc), w' = d.w) (by kernel_rfl) (by kernel_rfl) (fun _ _ d _ _ h => by cases d <;> exact h) (ClsW.mk (D := ReB w.heap.size r nA nc pA pc sA sc) (Blk.drew hD2)) ?_
  unfold wpMix; simp only [pick, j1, j2, j3, j4]
  (repeat (show wpQuiet _ _ _ _ (_ :: _) _; go_big_quiet_step (fail))); refine qn ?_
  have C3 := above_any r.n s.ceiling g 3 141 (s.cells v) w2.drew hB2.drew rfl
  clear hB2 B2
  go_wp2_with fail
  refine C3.mono ?_
  clear C3
  intro e w3 h3'
  have hD3 : ReB w.heap.size r nA nc pA pc sA sc w3 := (Blk.drew hD2).only h3'.2.2 (fun h => by omega)
  have h3 := ceilS_out HH.out.2.2.2.1.n (H2.out.2.2.same (Same.of_below (jb _ w2).drew)) HH.out.2.1 h3'
  have he := h3.1
  have H3 := jh h3.2
  clear h3 h3'
  subst he
  go_wp2_with fail
  dsimp only [wpList, SegQ]
  refine ⟨fun w' => ∃ d : Wd (ReB w.heap.size r nA nc pA pc sA sc), w' = d.w, ClsW.mk (D := ReB w.heap.size r nA nc pA pc sA sc) hD3, fun _ h => h, ?_⟩
  unfold wpMix; simp only [pick, j1, j2, j3, j4]
  (repeat (show wpQuiet _ _ _ _ (_ :: _) _; go_big_quiet_step (fail))); refine qn ?_
  clear y1
  go_wp2_with fail
  go_ret
  unfold StOut
  rw [HC.out]
  obtain ⟨⟨v', a1, a2⟩, a3⟩ := H3.out
  exact ⟨rfl, ⟨v', a1, a2.mono fun k hk => by
   rcases hk with h | h
   ·exact .inl h
   ·exact .inr (by have := H2.out.1.size; have hz : w2.drew.heap.size = w2.heap.size := rfl; omega)⟩, (Only.of_below (H2.out.1.tr (jb _ w2).drew)).tr a3⟩
 ·have HC := jh (show applyS s r = (s, checkR r) from by unfold applyS; rw [if_pos hc])
  have hc' : (checkR r != 0) = true := bne_iff_ne.2 hc
  obtain ⟨v, hB, hI⟩ := HH.out.1
  have H3 := jh (ja (⟨v, hB.ext hw2, hI.same (Same.of_below hw2)⟩ : StAt w2 P g s) hw2)
  clear hc hB hI hb2 hw2 B0 B2
  go_wp2_with fail
  go_ret
  unfold StOut
  rw [HC.out]
  obtain ⟨v', a1, a2⟩ := H3.out.1
  exact ⟨rfl, ⟨v', a1, a2.mono fun k hk => .inl hk⟩, Only.of_below H3.out.2⟩
end Go.Proofs.YtpgocpodhamibaaGreatDoor
namespace Go.Proofs
open Go.Shelf
def Tryz.growR_ren : Go.Shelf.Ren := ⟨fun | 4 => 277 | n => n, fun | 22 => 51 | 25 => 40 | 3 => 3 | 4 => 4 | 9 => 9 | 20 => 20 | 0 => 0 | n => n, fun | n => n⟩
theorem Tryz.growR : Go.Proofs.Lays8.n4 Tryz.prog Tryz.growR_ren := {
 mixed := by kernel_rfl
 f4 := ⟨Tryz.f277.name, by decide, Tryz.func277.trans (congrArg some (by kernel_rfl))⟩
 t0 := Tryz.underlying0
 a0 := Tryz.isAgg0
 z0 := Tryz.sizeOf0
 v0 := Tryz.zeroValue0
 t3 := Tryz.underlying3
 a3 := Tryz.isAgg3
 z3 := Tryz.sizeOf3
 v3 := Tryz.zeroValue3
 t4 := Tryz.underlying4
 a4 := Tryz.isAgg4
 z4 := Tryz.sizeOf4
 v4 := Tryz.zeroValue4
 t9 := Tryz.underlying9
 a9 := Tryz.isAgg9
 z9 := Tryz.sizeOf9
 v9 := Tryz.zeroValue9
 t20 := Tryz.underlying20
 a20 := Tryz.isAgg20
 z20 := Tryz.sizeOf20
 v20 := Tryz.zeroValue20
 t22 := Tryz.underlying51
 a22 := Tryz.isAgg51
 z22 := Tryz.sizeOf51
 v22 := Tryz.zeroValue51 }
end Go.Proofs
namespace Go.Proofs.YtpgocpodhamibaaGreatDoor
open Go.RowKit Go.Shelf
set_option maxRecDepth 100000 in
theorem grow_any (n : Nat) (w : World) (h0 : 0 < n) (h1 : n ≤ 1000000) : Calls Tryz.prog 277 #[.slice none 0 0, .int .i64 n] w fun e w' => GotOwn RangeR w.heap.size 40 (fun _ => False) [] e w' ∧ Below w.heap.size w w' := by
 obtain ⟨i0, e1, e2, e3, e4⟩ := info_parts range_info
 have hz : (Value.agg #[.int .i64 0, .int .i64 0, .int .i64 0, .int .i64 0] : Value).cells.size = 4 := rfl
 refine (Any8.slices_Grow_grow Tryz.growR i0 _ e1 e2 (by rw [e3]; decide) none 0 0 n [] w (Nat.le_refl _) (by omega) (by rw [e4]; omega) (by omega) (by simp) (fun _ => rfl) (fun _ h => by cases h)).mono ?_
 rintro e w' ⟨rfl, rfl⟩
 have hge := grownCap_ge w (0 + n) 0 (Tryz.growR_ren.t 25)
 have hle := grownCap_le_maxLen w (0 + n) 0 (Tryz.growR_ren.t 25) (by unfold maxLen; omega)
 generalize grownCap w (0 + n) 0 (Tryz.growR_ren.t 25) = cap at *
 have hbl : Below w.heap.size w (w.drew.alloc (.cells (([] : List Value).toArray ++ Builtin.zeroCells (Value.agg #[.int .i64 0, .int .i64 0, .int .i64 0, .int .i64 0] : Value).cells (0 + n - 0) ++ Builtin.zeroCells (Value.agg #[.int .i64 0, .int .i64 0, .int .i64 0, .int .i64 0] : Value).cells (cap - (0 + n))) (Tryz.growR_ren.t 25))) := (jb _ w).drew.al _
 refine ⟨⟨_, rfl, [], ⟨rfl, .inr ⟨w.heap.size, cap, _, rfl, Nat.le_refl _, heap_alloc_new w.drew _, Nat.zero_le _, hle, ?_, rfl⟩⟩, Rep.flat.nil_⟩, hbl⟩
 simp only [Array.size_append, List.size_toArray, List.length_nil, size_zeroCells, hz]
 rw [Nat.zero_add, ← Nat.add_mul]
 show _ = cap * 4
 congr 1
 omega
structure RowsAt (w : World) (B : Nat) (b : Nat) (xss : List (Option Addr × Nat × List Range)) : Prop where
 blk : Blk w b 51 (xss.map fun x => .slice x.1 x.2.2.length x.2.1)
 rows : ∀ x ∈ xss, RangeR.Row w (fun k => k < B) x.1 x.2.2
def catL (xss : List (Option Addr × Nat × List Range)) : List Range := (xss.map fun x => x.2.2).flatten
theorem catL_snoc (l : List (Option Addr × Nat × List Range)) (x : Option Addr × Nat × List Range) : catL (l ++ [x]) = catL l ++ x.2.2 := by simp [catL]
theorem catL_le (l : List (Option Addr × Nat × List Range)) (k : Nat) : (catL (l.take k)).length ≤ (catL l).length := by
 have h : catL l = catL (l.take k) ++ catL (l.drop k) := by
  conv => lhs; rw [← List.take_append_drop k l]
  unfold catL
  rw [List.map_append, List.flatten_append]
 rw [h, List.length_append]
 omega
set_option maxRecDepth 20000 in
set_option maxHeartbeats 1600000 in
theorem concat_any (xss : List (Option Addr × Nat × List Range)) (b : Nat) (w : World) (h : RowsAt w w.heap.size b xss) (h0 : 0 < (catL xss).length) (h1 : (catL xss).length ≤ 1000) (h2 : xss.length ≤ 1000) :
 Calls Tryz.prog 234 #[.slice (some ⟨b, 0, none⟩) xss.length xss.length] w fun e w' => GotOwn RangeR w.heap.size 40 (fun _ => False) (catL xss) e w' ∧ Below w.heap.size w w' := by
 have HX := jh h
 clear h
 go_enter Tryz.func234, Tryz.ntmps234
 go_wp2_with fail
 go_loopw [3, 11] (fun x i wr => ∃ (k : Nat), k ≤ xss.length ∧ i = .int .i64 k ∧ x = .int .i64 ((catL (xss.take k)).length : Nat) ∧ wr = w) (fun _ i _ => xss.length - (intOf i).toNat)
 case atStart => exact ⟨0, Nat.zero_le _, rfl, by simp [catL], rfl⟩
 case round =>
  obtain ⟨k, hkl, rfl, rfl, hwr⟩ := hrel
  subst hwr
  by_cases hlt : k < xss.length
  ·have hlt' : (k : Int) < xss.length := by omega
   have hlk := List.getElem?_eq_getElem hlt
   have hts := take_snoc xss k hlt
   have hle1 := catL_le xss (k + 1)
   have y0 : wr.cell? ⟨b, k, none⟩ = some (.slice xss[k].1 xss[k].2.2.length xss[k].2.1) := by rw [HX.out.blk.cell, List.getElem?_map, hlk]; rfl
   rw [hts, catL_snoc, List.length_append] at hle1
   have hn0 : 0 ≤ (((catL (xss.take k)).length : Nat) : Int) := Int.natCast_nonneg _
   have hn1 : (((catL (xss.take k)).length : Nat) : Int) ≤ 1000 := by omega
   have hm1 : ((xss[k].2.2.length : Nat) : Int) ≤ 1000 := by omega
   have hm0 : 0 ≤ ((xss[k].2.2.length : Nat) : Int) := Int.natCast_nonneg _
   have HTS := jh (show (catL (xss.take (k + 1))).length = (catL (xss.take k)).length + xss[k].2.2.length from by rw [hts, catL_snoc, List.length_append])
   generalize (catL (xss.take k)).length = n at *
   generalize xss[k] = x at *
   clear hlk hts hle1
   go_wp2_with fail
   go_round
   case rel => exact ⟨k + 1, by omega, by go_num, by rw [HTS.out]; go_num, trivial⟩
   case measure => (simp [intOf]; omega)
  ·have hkn : k = xss.length := by omega
   subst hkn
   rw [List.take_length]
   have C1 := grow_any (catL xss).length wr h0 (by omega)
   unfold GotOwn at C1
   go_wp2_with fail
   refine C1.mono ?_
   clear C1
   rintro e w1 ⟨⟨v1, rfl, ho1⟩, hb1⟩
   have H1 := jh (ja ho1 hb1)
   obtain ⟨A1, c1, rfl, _⟩ := ho1.form
   clear ho1 hb1
   go_wp2_with fail
   go_loopw [6, 27] (fun x i w' => ∃ (k : Nat), k ≤ xss.length ∧ i = .int .i64 k ∧ RangeR.Own w' wr.heap.size 40 (fun _ => True) x (catL (xss.take k)) ∧ Below wr.heap.size wr w') (fun _ i _ => xss.length - (intOf i).toNat)
   case atStart => exact ⟨0, Nat.zero_le _, rfl, by rw [List.take_zero]; exact H1.out.1.plain range_plain, H1.out.2⟩
   case round =>
    obtain ⟨k, hkl2, rfl, hown, hbl⟩ := hrel
    have hbz := hbl.size
    by_cases hlt : k < xss.length
    ·have hlt' : (k : Int) < xss.length := by omega
     have hlk := List.getElem?_eq_getElem hlt
     have hts := take_snoc xss k hlt
     have hle1 := catL_le xss (k + 1)
     have y0 := (HX.out.blk.ext hbl).cell k
     rw [List.getElem?_map, hlk] at y0
     have hrow := (HX.out.rows _ (List.getElem_mem hlt)).ext hbl
     rw [hts, catL_snoc, List.length_append] at hle1
     have HTS := jh (show catL (xss.take (k + 1)) = catL (xss.take k) ++ xss[k].2.2 from by rw [hts, catL_snoc])
     generalize xss[k] = x at *
     generalize catL (xss.take k) = l0 at *
     obtain ⟨Ao, co, rfl, _⟩ := hown.form
     obtain ⟨Ax, cx, lx⟩ := x
     dsimp only [Option.map_some] at y0 hrow hle1 HTS
     obtain ⟨i0, e1, e2, e3, e4⟩ := info_parts range_info
     clear hlk hts H1
     go_wp2_with (first
      | (at_builtin; refine wpList_append_rep (R := RangeR) _ rfl _ _ _ rfl _ 40 i0 _ 32 Tryz.underlying51 e1 e2 e3 e4 rfl _ l0 (fun _ => True) rfl hown _ _ _ lx rfl hrow (fun q hq hq' => ⟨trivial, fun e => by have := (hown.lt q e.symm).1; omega⟩) (by unfold maxLen; omega) (by omega) hbz ?_; intro v' w2 ho2 hg2 hat2 hn2 hb2)
      | fail)
     go_round
     case rel => exact ⟨k + 1, by omega, by go_num, by rw [HTS.out]; exact ho2, hbl.trans hb2⟩
     case measure => (simp [intOf]; omega)
    ·have hkn : k = xss.length := by omega
     subst hkn
     rw [List.take_length] at hown
     have HO := jh (ja hown hbl)
     obtain ⟨Ao, co, rfl, _⟩ := hown.form
     clear hown hbl
     go_wp2_with fail
     go_ret
     exact ⟨⟨_, rfl, HO.out.1.plain range_plain⟩, HO.out.2⟩
end Go.Proofs.YtpgocpodhamibaaGreatDoor
