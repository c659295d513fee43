/- rec.Check. state.Apply: a gone receiver, a bad record, kind 3. -/
import Derived.Test.YtpgocpodhamibaaGreatDoorNK0B
namespace Go.Proofs.YtpgocpodhamibaaGreatDoor
open Go.RowKit
set_option maxHeartbeats 800000 in
theorem recCheck_any (r : Rec) (nA pA sA : Option Addr) (nc pc sc : Nat) (P : Nat → Prop) (w : World) (hr : RecAt w P r nA nc pA pc sA sc) (hF : r.Fair) (hTb : Tabs w) (h2 : 2 ≤ w.heap.size) :
 Calls Tryz.prog 70 #[.agg (r.cells nA nc pA pc sA sc).toArray] w fun e w' => e = .returned (.int .i64 (checkR r)) ∧ Below w.heap.size w w' := by
 have C := fun W (h : Below w.heap.size w W) => recEncode_any r nA pA sA nc pc sc P W (hr.ext (Same.of_below h) h.size) hF (hTb.below h) (by have := h.size; omega)
 unfold Rec.cells at C ⊢
 clear hr hF hTb
 go_enter Tryz.func70, Tryz.ntmps70
 go_wp2_with fail
 refine (C _ ((jb _ _).al _)).mono ?_
 clear C
 rintro e w1 ⟨⟨v, rfl⟩, hb1⟩
 go_wp2_with fail
 go_ret
 exact ⟨rfl, ((jb _ _).al _).tr hb1⟩
open Go.RowKit
def apply3 (s : St) (r : Rec) : St × Int := if checkR r ≠ 0 then (s, checkR r) else commitS s r
set_option maxRecDepth 20000 in
set_option maxHeartbeats 3200000 in
theorem apply_3 (g : Nat) (s : St) (r : Rec) (nA pA sA : Option Addr) (nc pc sc : Nat) (P Q : Nat → Prop) (w : World) (h : StAt w P g s) (hg : ¬ P g) (hs : StFair s) (hS : Seen g s w)
 (hr : RecAt w Q r nA nc pA pc sA sc) (hQ : ¬ Q g) (hF : r.Fair) (hT : Tabs w) (h2 : 2 ≤ g) (h3 : r.kind = 3) :
 Calls Tryz.prog 17 #[ptrV g, .agg (r.cells nA nc pA pc sA sc).toArray] w (CodeOut w P g (apply3 s r)) := by
 have hgl := h.lt
 have HH := jh (ja h (ja hg (ja hs (ja hS (ja hr (ja hQ (ja hF hT)))))))
 clear h hg hs hS hr hQ hF hT
 have hb1 := (jb w.heap.size w).al (.cells (r.cells nA nc pA pc sA sc).toArray 43)
 have B0 := Blk.new w 43 (r.cells nA nc pA pc sA sc)
 have hs1 : (w.alloc (.cells (r.cells nA nc pA pc sA sc).toArray 43)).heap.size = w.heap.size + 1 := by simp
 unfold ptrV
 go_enter Tryz.func17, Tryz.ntmps17
 go_upto_region 1 with fail
 refine forget (M := fun W => Code.wp _ _ _ _ W) (fun W => Below w.heap.size w W ∧ Blk W w.heap.size 43 (r.cells nA nc pA pc sA sc) ∧ W.heap.size = w.heap.size + 1) ⟨hb1, B0, hs1⟩ ?_
 clear B0 hb1 hs1
 rintro w1 ⟨hb1, B0, hs1⟩
 obtain ⟨v, hB, hI⟩ := HH.out.1
 have C1 := gone_any g s.self w1 ((hB.ext hb1).cell 0) HH.out.2.2.2.1.self
 have C2 := recCheck_any r nA pA sA nc pc sc Q w1 (HH.out.2.2.2.2.1.ext (Same.of_below hb1) hb1.size) HH.out.2.2.2.2.2.2.1 (HH.out.2.2.2.2.2.2.2.below hb1) (by omega)
 unfold ptrV at C1
 have H1 := jh (ja hb1 hs1)
 clear hB hI hb1
 go_wp2_with fail
 refine C1.mono ?_
 clear C1
 rintro e w' ⟨rfl, rfl⟩
 go_wp2_with (first
  | ((with_reducible refine wpList_load_blk rfl rfl ?_ B0 Tryz.underlying43 rfl (by kernel_rfl) ?_); · rfl)
  | fail)
 refine C2.mono ?_
 clear C2
 rintro e w2 ⟨rfl, hb2⟩
 have B2 := B0.ext hb2
 have hw2 := H1.out.1.tr hb2
 by_cases hc : checkR r = 0
 ·have HC := jh hc
  rw [hc]
  have x0 : w2.cell? ⟨w.heap.size, 0, none⟩ = some (.int .i64 r.kind) := B2.cell 0
  rw [h3] at x0
  obtain ⟨v, hB, hI⟩ := HH.out.1
  have C3 := commit_any g s r nA pA sA nc pc sc P (fun k => Q k ∧ k < w.heap.size) w2 ⟨v, hB.ext hw2, hI.same (Same.of_below hw2)⟩ HH.out.2.1 HH.out.2.2.1 (HH.out.2.2.2.1.ext hw2)
   ((HH.out.2.2.2.2.1.mono fun k h h' => (⟨h, h'⟩ : Q k ∧ k < w.heap.size)).ext (Same.of_below hw2) hw2.size) (fun h => HH.out.2.2.2.2.2.1 h.1) HH.out.2.2.2.2.2.2.1.puts HH.out.2.2.2.2.2.2.1.data (HH.out.2.2.2.2.2.2.2.below hw2) h2
  unfold ptrV at C3
  have H2 := jh (ja hw2 (((hB.ext hw2).cell 6).trans (hB.cell 6).symm))
  clear hc hB hI hb2 hw2 B0
  go_wp2_with (first
   | ((with_reducible refine wpList_load_blk rfl rfl ?_ B2 Tryz.underlying43 rfl (by kernel_rfl) ?_); · rfl)
   | fail)
  refine C3.mono ?_
  clear C3 x0 B2
  rintro e w3 ⟨rfl, hst, hO, h6⟩
  have H3 := jh (ja hst (ja hO h6))
  clear hst hO h6
  go_wp2_with fail
  go_ret
  unfold CodeOut
  rw [show apply3 s r = commitS s r from if_neg (by rw [HC.out]; simp)]
  obtain ⟨v', a1, a2⟩ := H3.out.1
  exact ⟨rfl, ⟨v', a1, a2.mono fun k hk => by
   rcases hk with h | h
   ·exact .inl h
   ·exact .inr (by have := H2.out.1.size; omega)⟩, (Only.of_below H2.out.1).tr H3.out.2.1, H3.out.2.2.trans H2.out.2⟩
 ·have HC := jh hc
  have hc' : (checkR r != 0) = true := bne_iff_ne.2 hc
  obtain ⟨v, hB, hI⟩ := HH.out.1
  have H3 := jh (ja (⟨v, hB.ext hw2, hI.same (Same.of_below hw2)⟩ : StAt w2 P g s) (ja hw2 (((hB.ext hw2).cell 6).trans (hB.cell 6).symm)))
  clear hc hB hI hb2 hw2 B0 B2
  go_wp2_with fail
  go_ret
  unfold CodeOut
  rw [show apply3 s r = (s, checkR r) from if_pos HC.out]
  obtain ⟨v', a1, a2⟩ := H3.out.1
  exact ⟨rfl, ⟨v', a1, a2.mono fun k hk => .inl hk⟩, Only.of_below H3.out.2.1, H3.out.2.2⟩
open Go.RowKit
theorem all_any (w : World) : Calls Tryz.prog 26 #[] w fun e w' => e = .returned (.agg #[.int .i64 0, .int .i64 4294967295, .int .i64 0, .int .i64 0]) ∧ Below w.heap.size w w' := by
 go_enter Tryz.func26, Tryz.ntmps26
 go_wp2_with fail
 exact bodyPost_blk rfl (Blk.new w 40 [.int .i64 0, .int .i64 4294967295, .int .i64 0, .int .i64 0]) rfl Tryz.underlying40 rfl (by kernel_rfl) rfl ⟨rfl, (jb _ _).al _⟩
open Go.RowKit
def awB : Batch := ⟨⟨#[107]⟩, [⟨⟨#[97]⟩, -1, [⟨#[120]⟩]⟩]⟩
def awR : Rec := ⟨3, 0, 0, false, ⟨5, 0, 1⟩, ⟨0, 0, 0⟩, [], awB, ⟨0, 0, 0, 0⟩, []⟩
def awS : St := ⟨1, 1, 0, 0, (newR 1).1, [], [], [], [], [], []⟩
theorem aw_check : checkR awR = 0 := by kernel_rfl
theorem aw_com : (commitS awS awR).2 = 0 := by kernel_rfl
theorem aw_ver : versionT (commitS awS awR).1.table ⟨#[97]⟩ = 1 := by kernel_rfl
theorem aw_may2 : mayS (commitS awS awR).1 awB = ([1], ⟨⟨#[107]⟩, 1, ⟨5, 0, 1⟩⟩, 4) := by kernel_rfl
end Go.Proofs.YtpgocpodhamibaaGreatDoor
