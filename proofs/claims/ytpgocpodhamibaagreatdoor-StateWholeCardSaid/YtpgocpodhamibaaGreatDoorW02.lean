/- state.above, and State.Apply for a life and a ceiling. state.State.Decided. Ranging over a map within a range over a function: the laws of Mf for fenced goals. maps.Keys at transactions: the iterator. slices.Collect at transactions. The keys of a map at transactions, collected. state.order: the order of transactions. -/
import Derived.Test.YtpgocpodhamibaaGreatDoorW01
import Derived.Test.YtpgocpodhamibaaGreatDoorK06
import Derived.Sort.MapsRangeIn
import Derived.Test.YtpgocpodhamibaaGreatDoorK05
import Derived.RangeFuncGives
import Derived.WalkKit
import Derived.OwnWalkIn
import Derived.TacticsInMore
import Derived.RegionIn
import Derived.LoopNIn
import Derived.LoopIn
import Derived.Shelf.SlIter.Collect
import Derived.Shelf.SlSortCmp.WholeK
namespace Go.Proofs.YtpgocpodhamibaaGreatDoor
open Go.RowKit

def AboveOut (n v : Int) (g i : Nat) (t : TypeId) (cs : List Value) (w : World) (e : Ending) (w' : World) : Prop :=
  e = .returned (.int .i64 (if n ≤ v then 1 else 0)) ∧ Blk w' g t (if n ≤ v then cs else cs.set i (.int .i64 n)) ∧ Only (fun k => k = g) w w'
theorem above_any (n v : Int) (g i : Nat) (t : TypeId) (cs : List Value) (w : World) (hB : Blk w g t cs) (hi : cs[i]? = some (.int .i64 v)) :
    Calls Tryz.prog 71 #[.int .i64 n, .pointer (some ⟨g, i, none⟩)] w (AboveOut n v g i t cs w) := by
  have y0 := hB.cell i
  rw [hi] at y0
  have y1 := hB.frozen i
  have HH := Lib.hid hB
  clear hB hi
  go_enter Tryz.func71, Tryz.ntmps71
  by_cases hc : n ≤ v
  · have HC := Lib.hid hc
    go_wp2_with fail
    go_ret
    refine ⟨?_, ?_, Only.refl _ _⟩
    · rw [if_pos HC.out]; rfl
    · rw [if_pos HC.out]; exact HH.out
  · have HC := Lib.hid hc
    go_wp2_with fail
    go_ret
    refine ⟨?_, ?_, Only.set_ (F := fun k => k = g) rfl _⟩
    · rw [if_neg (Int.not_le.2 HC.out)]; rfl
    · rw [if_neg (Int.not_le.2 HC.out)]; exact HH.out.set_ i _
def ReB (nb : Nat) (r : Rec) (nA : Option Addr) (nc : Nat) (pA : Option Addr) (pc : Nat) (sA : Option Addr) (sc : Nat) (W : World) : Prop := Blk W nb 43 (r.cells nA nc pA pc sA sc)
theorem ReB.c1 {nb : Nat} {r : Rec} {nA pA sA : Option Addr} {nc pc sc : Nat} (d : Wd (ReB nb r nA nc pA pc sA sc)) : d.w.cell? ⟨nb, 1, none⟩ = some (.int .i64 r.n) := Blk.cell d.ok 1
theorem doS_1 {s : St} {r : Rec} (h : r.kind = 1) : doS s r = lifeS s r := by unfold doS; rw [h]; rfl
theorem doS_2 {s : St} {r : Rec} (h : r.kind = 2) : doS s r = ceilS s r := by unfold doS; rw [h]; rfl

theorem lifeS_out {g : Nat} {s : St} {r : Rec} {v : SV} {w w' : World} {P : Nat → Prop} {e : Ending} (hn : i64 r.n) (hI : StIn w P s v) (hg : ¬ P g)
    (h : AboveOut r.n s.life g 2 141 (s.cells v) w e w') : StOut w P g (lifeS s r) e w' := by
  obtain ⟨rfl, hB, hO⟩ := h
  unfold StOut lifeS
  by_cases hc : r.n ≤ s.life
  · rw [if_pos hc] at hB ⊢
    rw [if_pos hc]
    exact ⟨rfl, ⟨v, hB, (hI.same (Same.of_only hO fun k hk e => hg (e ▸ hk))).mono fun k hk => .inl hk⟩, hO⟩
  · rw [if_neg hc] at hB ⊢
    rw [if_neg hc]
    have hI' := hI.same (Same.of_only hO fun k hk e => hg (e ▸ hk))
    exact ⟨rfl, ⟨v, hB, ({ hI' with fit := And.intro hI.fit.1 (And.intro hI.fit.2.1 (And.intro hn hI.fit.2.2.2)) } : StIn w' P { s with life := r.n } v).mono fun k hk => .inl hk⟩, hO⟩
theorem ceilS_out {g : Nat} {s : St} {r : Rec} {v : SV} {w w' : World} {P : Nat → Prop} {e : Ending} (hn : i64 r.n) (hI : StIn w P s v) (hg : ¬ P g)
    (h : AboveOut r.n s.ceiling g 3 141 (s.cells v) w e w') : StOut w P g (ceilS s r) e w' := by
  obtain ⟨rfl, hB, hO⟩ := h
  unfold StOut ceilS
  by_cases hc : r.n ≤ s.ceiling
  · rw [if_pos hc] at hB ⊢
    rw [if_pos hc]
    exact ⟨rfl, ⟨v, hB, (hI.same (Same.of_only hO fun k hk e => hg (e ▸ hk))).mono fun k hk => .inl hk⟩, hO⟩
  · rw [if_neg hc] at hB ⊢
    rw [if_neg hc]
    have hI' := hI.same (Same.of_only hO fun k hk e => hg (e ▸ hk))
    exact ⟨rfl, ⟨v, hB, ({ hI' with fit := And.intro hI.fit.1 (And.intro hI.fit.2.1 (And.intro hI.fit.2.2.1 hn)) } : StIn w' P { s with ceiling := r.n } v).mono fun k hk => .inl hk⟩, hO⟩
set_option maxRecDepth 20000 in
set_option maxHeartbeats 3200000 in
theorem applyK_1 (g : Nat) (s : St) (r : Rec) (nA pA sA : Option Addr) (nc pc sc : Nat) (P Q : Nat → Prop) (w : World) (h : StAt w P g s) (hg : ¬ P g) (hS : Fit s)
    (hr : RecAt w Q r nA nc pA pc sA sc) (hQ : ¬ Q g) (hF : r.Fair) (hT : Tabs w) (h2 : 2 ≤ g) (h3 : r.kind = 1) :
    Calls Tryz.prog 17 #[ptrV g, .agg (r.cells nA nc pA pc sA sc).toArray] w (StOut w P g (applyS s r)) := by
  have hgl := h.lt
  have HH := Lib.hid (And.intro h (And.intro hg (And.intro hS (And.intro hr (And.intro hQ (And.intro hF hT))))))
  clear h hg hS hr hQ hF hT
  have hb1 := (Below.refl w.heap.size w).al (.cells (r.cells nA nc pA pc sA sc).toArray 43)
  have B0 := Blk.new w 43 (r.cells nA nc pA pc sA sc)
  have hs1 : (w.alloc (.cells (r.cells nA nc pA pc sA sc).toArray 43)).heap.size = w.heap.size + 1 := by simp
  unfold ptrV
  go_enter Tryz.func17, Tryz.ntmps17
  go_upto_region 1 with fail
  refine forget (M := fun W => Code.wp _ _ _ _ W) (fun W => Below w.heap.size w W ∧ Blk W w.heap.size 43 (r.cells nA nc pA pc sA sc) ∧ W.heap.size = w.heap.size + 1) ⟨hb1, B0, hs1⟩ ?_
  clear B0 hb1 hs1
  rintro w1 ⟨hb1, B0, hs1⟩
  obtain ⟨v, hB, hI⟩ := HH.out.1
  have C1 := gone_any g s.self w1 ((hB.ext hb1).cell 0) HH.out.2.2.1.self
  have C2 := recCheck_any r nA pA sA nc pc sc Q w1 (HH.out.2.2.2.1.ext (Same.of_below hb1) hb1.size) HH.out.2.2.2.2.2.1 (HH.out.2.2.2.2.2.2.below hb1) (by omega)
  unfold ptrV at C1
  have H1 := Lib.hid (And.intro hb1 hs1)
  clear hB hI hb1
  go_wp2_with fail
  refine C1.mono ?_
  clear C1
  rintro e w' ⟨rfl, rfl⟩
  go_wp2_with (first
    | ((with_reducible refine wpList_load_blk rfl rfl ?_ B0 Tryz.underlying43 rfl (by kernel_rfl) ?_); · rfl)
    | fail)
  refine C2.mono ?_
  clear C2
  rintro e w2 ⟨rfl, hb2⟩
  have B2 := B0.ext hb2
  have hw2 := H1.out.1.tr hb2
  by_cases hc : checkR r = 0
  · have HC := Lib.hid (show applyS s r = lifeS s r from by unfold applyS; rw [if_neg (by rw [hc]; simp)]; exact doS_1 h3)
    rw [hc]
    have x0 : w2.cell? ⟨w.heap.size, 0, none⟩ = some (.int .i64 r.kind) := B2.cell 0
    rw [h3] at x0
    obtain ⟨v, hB, hI⟩ := HH.out.1
    have hB2 := hB.ext hw2
    have H2 := Lib.hid (And.intro hw2 (And.intro hB2 (hI.same (Same.of_below hw2))))
    have hD2 : ReB w.heap.size r nA nc pA pc sA sc w2 := B2
    haveI : Nonempty (Wd (ReB w.heap.size r nA nc pA pc sA sc)) := ⟨⟨_, hD2⟩⟩
    have y1 := ReB.c1 (nb := w.heap.size) (r := r) (nA := nA) (nc := nc) (pA := pA) (pc := pc) (sA := sA) (sc := sc)
    clear hc hB hI hb2 hw2 B0
    go_upto_region 8 with fail
    refine wp_region_mix (.seg [0, 1, 2, 3, 4] 5 (.leaf [6])) (fun w' => ∃ d : Wd (ReB w.heap.size r nA nc pA pc sA sc), w' = d.w) (by kernel_rfl) (by kernel_rfl) (fun _ _ d _ _ h => by cases d <;> exact h) (ClsW.mk (D := ReB w.heap.size r nA nc pA pc sA sc) (Blk.drew hD2)) ?_
    unfold wpMix; simp only [pick, List.filterMap_cons, List.filterMap_nil, List.getElem?_cons_zero, List.getElem?_cons_succ]
    (repeat (show wpQuiet _ _ _ _ (_ :: _) _; go_big_quiet_step (fail))); refine wpQuiet_nil ?_
    have C3 := above_any r.n s.life g 2 141 (s.cells v) w2.drew hB2.drew rfl
    clear hB2 B2
    go_wp2_with fail
    refine C3.mono ?_
    clear C3
    intro e w3 h3'
    have hD3 : ReB w.heap.size r nA nc pA pc sA sc w3 := (Blk.drew hD2).only h3'.2.2 (fun h => by omega)
    have h3 := lifeS_out HH.out.2.2.2.1.n (H2.out.2.2.same (Same.of_below (Below.refl _ w2).drew)) HH.out.2.1 h3'
    have he := h3.1
    have H3 := Lib.hid h3.2
    clear h3 h3'
    subst he
    go_wp2_with fail
    dsimp only [wpList, SegQ]
    refine ⟨fun w' => ∃ d : Wd (ReB w.heap.size r nA nc pA pc sA sc), w' = d.w, ClsW.mk (D := ReB w.heap.size r nA nc pA pc sA sc) hD3, fun _ h => h, ?_⟩
    unfold wpMix; simp only [pick, List.filterMap_cons, List.filterMap_nil, List.getElem?_cons_zero, List.getElem?_cons_succ]
    (repeat (show wpQuiet _ _ _ _ (_ :: _) _; go_big_quiet_step (fail))); refine wpQuiet_nil ?_
    clear y1
    go_wp2_with fail
    go_ret
    unfold StOut
    rw [HC.out]
    obtain ⟨⟨v', a1, a2⟩, a3⟩ := H3.out
    exact ⟨rfl, ⟨v', a1, a2.mono fun k hk => by
      rcases hk with h | h
      · exact .inl h
      · exact .inr (by have := H2.out.1.size; have hz : w2.drew.heap.size = w2.heap.size := rfl; omega)⟩, (Only.of_below (H2.out.1.tr (Below.refl _ w2).drew)).tr a3⟩
  · have HC := Lib.hid (show applyS s r = (s, checkR r) from by unfold applyS; rw [if_pos hc])
    have hc' : (checkR r != 0) = true := bne_iff_ne.2 hc
    obtain ⟨v, hB, hI⟩ := HH.out.1
    have H3 := Lib.hid (And.intro (⟨v, hB.ext hw2, hI.same (Same.of_below hw2)⟩ : StAt w2 P g s) hw2)
    clear hc hB hI hb2 hw2 B0 B2
    go_wp2_with fail
    go_ret
    unfold StOut
    rw [HC.out]
    obtain ⟨v', a1, a2⟩ := H3.out.1
    exact ⟨rfl, ⟨v', a1, a2.mono fun k hk => .inl hk⟩, Only.of_below H3.out.2⟩
set_option maxRecDepth 20000 in
set_option maxHeartbeats 3200000 in
theorem applyK_2 (g : Nat) (s : St) (r : Rec) (nA pA sA : Option Addr) (nc pc sc : Nat) (P Q : Nat → Prop) (w : World) (h : StAt w P g s) (hg : ¬ P g) (hS : Fit s)
    (hr : RecAt w Q r nA nc pA pc sA sc) (hQ : ¬ Q g) (hF : r.Fair) (hT : Tabs w) (h2 : 2 ≤ g) (h3 : r.kind = 2) :
    Calls Tryz.prog 17 #[ptrV g, .agg (r.cells nA nc pA pc sA sc).toArray] w (StOut w P g (applyS s r)) := by
  have hgl := h.lt
  have HH := Lib.hid (And.intro h (And.intro hg (And.intro hS (And.intro hr (And.intro hQ (And.intro hF hT))))))
  clear h hg hS hr hQ hF hT
  have hb1 := (Below.refl w.heap.size w).al (.cells (r.cells nA nc pA pc sA sc).toArray 43)
  have B0 := Blk.new w 43 (r.cells nA nc pA pc sA sc)
  have hs1 : (w.alloc (.cells (r.cells nA nc pA pc sA sc).toArray 43)).heap.size = w.heap.size + 1 := by simp
  unfold ptrV
  go_enter Tryz.func17, Tryz.ntmps17
  go_upto_region 1 with fail
  refine forget (M := fun W => Code.wp _ _ _ _ W) (fun W => Below w.heap.size w W ∧ Blk W w.heap.size 43 (r.cells nA nc pA pc sA sc) ∧ W.heap.size = w.heap.size + 1) ⟨hb1, B0, hs1⟩ ?_
  clear B0 hb1 hs1
  rintro w1 ⟨hb1, B0, hs1⟩
  obtain ⟨v, hB, hI⟩ := HH.out.1
  have C1 := gone_any g s.self w1 ((hB.ext hb1).cell 0) HH.out.2.2.1.self
  have C2 := recCheck_any r nA pA sA nc pc sc Q w1 (HH.out.2.2.2.1.ext (Same.of_below hb1) hb1.size) HH.out.2.2.2.2.2.1 (HH.out.2.2.2.2.2.2.below hb1) (by omega)
  unfold ptrV at C1
  have H1 := Lib.hid (And.intro hb1 hs1)
  clear hB hI hb1
  go_wp2_with fail
  refine C1.mono ?_
  clear C1
  rintro e w' ⟨rfl, rfl⟩
  go_wp2_with (first
    | ((with_reducible refine wpList_load_blk rfl rfl ?_ B0 Tryz.underlying43 rfl (by kernel_rfl) ?_); · rfl)
    | fail)
  refine C2.mono ?_
  clear C2
  rintro e w2 ⟨rfl, hb2⟩
  have B2 := B0.ext hb2
  have hw2 := H1.out.1.tr hb2
  by_cases hc : checkR r = 0
  · have HC := Lib.hid (show applyS s r = ceilS s r from by unfold applyS; rw [if_neg (by rw [hc]; simp)]; exact doS_2 h3)
    rw [hc]
    have x0 : w2.cell? ⟨w.heap.size, 0, none⟩ = some (.int .i64 r.kind) := B2.cell 0
    rw [h3] at x0
    obtain ⟨v, hB, hI⟩ := HH.out.1
    have hB2 := hB.ext hw2
    have H2 := Lib.hid (And.intro hw2 (And.intro hB2 (hI.same (Same.of_below hw2))))
    have hD2 : ReB w.heap.size r nA nc pA pc sA sc w2 := B2
    haveI : Nonempty (Wd (ReB w.heap.size r nA nc pA pc sA sc)) := ⟨⟨_, hD2⟩⟩
    have y1 := ReB.c1 (nb := w.heap.size) (r := r) (nA := nA) (nc := nc) (pA := pA) (pc := pc) (sA := sA) (sc := sc)
    clear hc hB hI hb2 hw2 B0
    go_upto_region 10 with fail
    refine wp_region_mix (.seg [0, 1, 2, 3, 4] 5 (.leaf [6])) (fun w' => ∃ d : Wd (ReB w.heap.size r nA nc pA pc sA sc), w' = d.w) (by kernel_rfl) (by kernel_rfl) (fun _ _ d _ _ h => by cases d <;> exact h) (ClsW.mk (D := ReB w.heap.size r nA nc pA pc sA sc) (Blk.drew hD2)) ?_
    unfold wpMix; simp only [pick, List.filterMap_cons, List.filterMap_nil, List.getElem?_cons_zero, List.getElem?_cons_succ]
    (repeat (show wpQuiet _ _ _ _ (_ :: _) _; go_big_quiet_step (fail))); refine wpQuiet_nil ?_
    have C3 := above_any r.n s.ceiling g 3 141 (s.cells v) w2.drew hB2.drew rfl
    clear hB2 B2
    go_wp2_with fail
    refine C3.mono ?_
    clear C3
    intro e w3 h3'
    have hD3 : ReB w.heap.size r nA nc pA pc sA sc w3 := (Blk.drew hD2).only h3'.2.2 (fun h => by omega)
    have h3 := ceilS_out HH.out.2.2.2.1.n (H2.out.2.2.same (Same.of_below (Below.refl _ w2).drew)) HH.out.2.1 h3'
    have he := h3.1
    have H3 := Lib.hid h3.2
    clear h3 h3'
    subst he
    go_wp2_with fail
    dsimp only [wpList, SegQ]
    refine ⟨fun w' => ∃ d : Wd (ReB w.heap.size r nA nc pA pc sA sc), w' = d.w, ClsW.mk (D := ReB w.heap.size r nA nc pA pc sA sc) hD3, fun _ h => h, ?_⟩
    unfold wpMix; simp only [pick, List.filterMap_cons, List.filterMap_nil, List.getElem?_cons_zero, List.getElem?_cons_succ]
    (repeat (show wpQuiet _ _ _ _ (_ :: _) _; go_big_quiet_step (fail))); refine wpQuiet_nil ?_
    clear y1
    go_wp2_with fail
    go_ret
    unfold StOut
    rw [HC.out]
    obtain ⟨⟨v', a1, a2⟩, a3⟩ := H3.out
    exact ⟨rfl, ⟨v', a1, a2.mono fun k hk => by
      rcases hk with h | h
      · exact .inl h
      · exact .inr (by have := H2.out.1.size; have hz : w2.drew.heap.size = w2.heap.size := rfl; omega)⟩, (Only.of_below (H2.out.1.tr (Below.refl _ w2).drew)).tr a3⟩
  · have HC := Lib.hid (show applyS s r = (s, checkR r) from by unfold applyS; rw [if_pos hc])
    have hc' : (checkR r != 0) = true := bne_iff_ne.2 hc
    obtain ⟨v, hB, hI⟩ := HH.out.1
    have H3 := Lib.hid (And.intro (⟨v, hB.ext hw2, hI.same (Same.of_below hw2)⟩ : StAt w2 P g s) hw2)
    clear hc hB hI hb2 hw2 B0 B2
    go_wp2_with fail
    go_ret
    unfold StOut
    rw [HC.out]
    obtain ⟨v', a1, a2⟩ := H3.out.1
    exact ⟨rfl, ⟨v', a1, a2.mono fun k hk => .inl hk⟩, Only.of_below H3.out.2⟩
end Go.Proofs.YtpgocpodhamibaaGreatDoor
namespace Go.Proofs.YtpgocpodhamibaaGreatDoor
open Go.RowKit

set_option maxRecDepth 20000 in
set_option maxHeartbeats 1600000 in
theorem sdecided_any (g : Nat) (s : St) (t : Tx) (P : Nat → Prop) (w : World) (h : StAt w P g s) (hs : s.self ≠ 0) :
    Calls Tryz.prog 45 #[ptrV g, .agg #[.int .i64 t.node, .int .i64 t.life, .int .i64 t.num]] w fun e w' => e = .returned (.bool (decide (0 < (getA t s.decided).getD 0))) ∧ Below w.heap.size w w' := by
  obtain ⟨v, hB, hI⟩ := h
  obtain ⟨LD, hMD, hrepD, hlD⟩ := hI.decided.mapV
  obtain ⟨hdec, hdfit⟩ := decided_of hrepD t
  rw [← hlD] at hdec hdfit
  have hb1 := (Below.refl w.heap.size w).al (.cells #[.int .i64 t.node, .int .i64 t.life, .int .i64 t.num] 34)
  have B0 := Blk.new w 34 [.int .i64 t.node, .int .i64 t.life, .int .i64 t.num]
  unfold ptrV
  have HH := Lib.hid (And.intro hB hMD)
  clear hB hI hMD hlD hrepD
  go_enter Tryz.func45, Tryz.ntmps45
  go_upto_region 1 with fail
  generalize hw1 : (w.alloc (.cells #[.int .i64 t.node, .int .i64 t.life, .int .i64 t.num] 34)) = w1 at *
  clear hw1
  have C1 := gone_any g s.self w1.drew ((HH.out.1.ext hb1.drew).cell 0) hs
  have y8 := On.cell ((HH.out.1.ext hb1).cell 8 : w1.cell? ⟨g, 8, none⟩ = some v.decided)
  have z0 := On.cell (B0.cell 0 : w1.cell? ⟨w.heap.size, 0, none⟩ = some (.int .i64 t.node))
  have z1 := On.cell (B0.cell 1 : w1.cell? ⟨w.heap.size, 1, none⟩ = some (.int .i64 t.life))
  have z2 := On.cell (B0.cell 2 : w1.cell? ⟨w.heap.size, 2, none⟩ = some (.int .i64 t.num))
  have HMD := Lib.hid (fun (W : World) (hW : ∃ d : Wd (On w1), W = d.w) => (show MapV W v.decided (LD.map fun p => (p.1, oneV p.2.2)) from by obtain ⟨d, rfl⟩ := hW; exact HH.out.2.ext (hb1.tr d.ok)))
  have HDEC := Lib.hid hdec
  have HB1 := Lib.hid hb1
  unfold ptrV at C1
  clear hdec B0 hb1
  refine wp_region_mix (.seg [0] 1 (.leaf [2, 3, 4, 5, 6, 7, 8, 9, 10, 11, 12])) (fun w' => ∃ d : Wd (On w1), w' = d.w) (by kernel_rfl) (by kernel_rfl) (fun _ _ d _ _ h => by cases d <;> exact h) (ClsW.mk (Below.refl _ _).drew) ?_
  unfold wpMix; simp only [pick, List.filterMap_cons, List.filterMap_nil, List.getElem?_cons_zero, List.getElem?_cons_succ]
  (repeat (show wpQuiet _ _ _ _ (_ :: _) _; go_big_quiet_step (fail))); refine wpQuiet_nil ?_
  go_wp2_with fail
  refine C1.mono ?_
  clear C1
  rintro e w' ⟨rfl, rfl⟩
  go_wp2_with fail
  dsimp only [wpList, SegQ]
  refine ⟨fun w' => ∃ d : Wd (On w1), w' = d.w, ClsW.mk (Below.refl _ _).drew, fun _ h => h, ?_⟩
  unfold wpMix; simp only [pick, List.filterMap_cons, List.filterMap_nil, List.getElem?_cons_zero, List.getElem?_cons_succ]
  (repeat (show wpQuiet _ _ _ _ (_ :: _) _; first | (refine wpQuiet_lookup_v _ rfl (.tmp 12) (.tmp 13) 139 false rfl Tryz.underlying139 rfl HMD.out t rfl rfl _ zero_i64 ?_; simp only [Bool.false_eq_true, if_false]; rw [HDEC.out]; go_simp) | go_big_quiet_step (fail))); refine wpQuiet_nil ?_
  clear y8 z0 z1 z2
  by_cases hpos : 0 < (getA t s.decided).getD 0
  · have HP := Lib.hid hpos
    go_wp2_with fail
    go_ret
    exact ⟨ret_bool (by rw [decide_eq_true HP.out]), HB1.out.drew⟩
  · have HP := Lib.hid hpos
    go_wp2_with fail
    go_ret
    exact ⟨ret_bool (by have := HP.out; rw [decide_eq_false (by omega)]), HB1.out.drew⟩
theorem slife_any (g : Nat) (s : St) (P : Nat → Prop) (w : World) (h : StAt w P g s) (hs : s.self ≠ 0) : Calls Tryz.prog 42 #[ptrV g] w fun e w' => e = .returned (.int .i64 s.life) ∧ w = w' := by
  obtain ⟨v, hB, hI⟩ := h
  have C1 := gone_any g s.self w (hB.cell 0) hs
  have b2 : w.cell? ⟨g, 2, none⟩ = some (.int .i64 s.life) := hB.cell 2
  clear hB hI
  unfold ptrV at C1 ⊢
  go_enter Tryz.func42, Tryz.ntmps42
  go_wp2_with fail
  refine C1.mono ?_
  clear C1
  rintro e w' ⟨rfl, rfl⟩
  go_wp2_with fail
  go_ret
  exact ⟨rfl, rfl⟩
theorem sceiling_any (g : Nat) (s : St) (P : Nat → Prop) (w : World) (h : StAt w P g s) (hs : s.self ≠ 0) : Calls Tryz.prog 47 #[ptrV g] w fun e w' => e = .returned (.int .i64 s.ceiling) ∧ w = w' := by
  obtain ⟨v, hB, hI⟩ := h
  have C1 := gone_any g s.self w (hB.cell 0) hs
  have b2 : w.cell? ⟨g, 3, none⟩ = some (.int .i64 s.ceiling) := hB.cell 3
  clear hB hI
  unfold ptrV at C1 ⊢
  go_enter Tryz.func47, Tryz.ntmps47
  go_wp2_with fail
  refine C1.mono ?_
  clear C1
  rintro e w' ⟨rfl, rfl⟩
  go_wp2_with fail
  go_ret
  exact ⟨rfl, rfl⟩
end Go.Proofs.YtpgocpodhamibaaGreatDoor
namespace Go.Proofs.YtpgocpodhamibaaGreatDoor
open Go.RowKit Go.ChangeMaps

section
variable {κ : Type} {enc : κ → Value} {w : World} {m it : Nat} {ps left : List (κ × Value)} {F : Fence} {n : Nat} {P : Program}
variable {ops : Array Oper} {rest : List Oper} {o : Oper} {a : Act} {Q : Exit → Act → World → Prop}
theorem wpListIn_range_map (hg : o.guard = none) (mo : Operand) (t : TypeId) (hop : o.op = Op.range t mo) {kt e : TypeId} (ht : P.underlying t = some (.map kt e)) (hm : a.eval mo = .map (some m)) (h : MapAt enc w m ps)
    (hK : ∀ w', IterAt enc w' w.heap.size m ps → Below w.heap.size w w' → w'.heap.size = w.heap.size + 1 → wpListIn F n P ops Q rest (a.put o.dst (.pointer (some ⟨w.heap.size, 0, none⟩))) w') : wpListIn F n P ops Q (o :: rest) a w := by
  refine wpListIn_plain hg fun K' hK' => ?_
  obtain ⟨w', hrun, r1, r2, r3⟩ := run_range_at (P := P) ht h
  unfold Oper.wpIn
  refine ⟨?_, ?_⟩
  · simp [Oper.about, hop]
  · rw [Oper.semAt_plain F _ _ (by rw [hop]; intro c hc'; cases hc')]
    simp [execOp, hop, hm, hrun, Result.andThen]
    exact hK' _ _ (hK w' r1 r2 r3)
theorem wpListIn_next_map (hg : o.guard = none) (ito : Operand) (hop : o.op = Op.next ito false) (hit : a.eval ito = .pointer (some ⟨it, 0, none⟩)) (h : IterAt enc w it m left)
    (hDone : left = [] → wpListIn F n P ops Q rest (a.put o.dst (.tuple #[.bool false])) w)
    (hMore : ∀ (i : Nat) (p : κ × Value) (w' : World), left[i]? = some p → IterAt enc w' it m (left.eraseIdx i) → Only (· = it) w w' → w'.heap.size = w.heap.size →
      (∀ w'', w''.heap[m]? = w'.heap[m]? → w''.heap[it]? = w'.heap[it]? → (Instr.entry (.pointer (some ⟨it, 0, none⟩))).run P w'' = .ok (.tuple #[enc p.1, p.2]) w'') → wpListIn F n P ops Q rest (a.put o.dst (.tuple #[.bool true, enc p.1, p.2])) w') : wpListIn F n P ops Q (o :: rest) a w := by
  refine wpListIn_plain hg fun K' hK' => ?_
  unfold Oper.wpIn
  refine ⟨by simp [Oper.about, hop], ?_⟩
  rw [Oper.semAt_plain F _ _ (by rw [hop]; intro c hc'; cases hc')]
  rcases run_next_iter (P := P) o.type h with ⟨h0, hrun⟩ | ⟨i, p, w', hp, hrun, r1, r2, r3, r4⟩
  · simp [execOp, hop, hit, hrun, Result.andThen]
    exact hK' _ _ (hDone h0)
  · simp [execOp, hop, hit, hrun, Result.andThen]
    exact hK' _ _ (hMore i p w' hp r1 r2 r3 r4)
theorem wpListIn_range_nil (hg : o.guard = none) (mo : Operand) (t : TypeId) (hop : o.op = Op.range t mo) {kt e : TypeId} (ht : P.underlying t = some (.map kt e)) (hm : a.eval mo = .map none)
    (hK : ∀ w', IterNil w' w.heap.size → Below w.heap.size w w' → w'.heap.size = w.heap.size + 1 → wpListIn F n P ops Q rest (a.put o.dst (.pointer (some ⟨w.heap.size, 0, none⟩))) w') : wpListIn F n P ops Q (o :: rest) a w := by
  refine wpListIn_plain hg fun K' hK' => ?_
  have hrun := run_range_nilMap (P := P) w t kt e ht
  unfold Oper.wpIn
  refine ⟨by simp [Oper.about, hop], ?_⟩
  rw [Oper.semAt_plain F _ _ (by rw [hop]; intro c hc'; cases hc')]
  simp [execOp, hop, hm, hrun, Result.andThen]
  exact hK' _ _ (hK _ ⟨_, _, _, heap_alloc_new w _⟩ ((Below.refl _ _).al _) (by simp))
theorem wpListIn_next_nil (hg : o.guard = none) (ito : Operand) (hop : o.op = Op.next ito false) (hit : a.eval ito = .pointer (some ⟨it, 0, none⟩)) (h : IterNil w it)
    (hDone : wpListIn F n P ops Q rest (a.put o.dst (.tuple #[.bool false])) w) : wpListIn F n P ops Q (o :: rest) a w := by
  refine wpListIn_plain hg fun K' hK' => ?_
  obtain ⟨x, s, b, h⟩ := h
  have hrun : (Instr.next (.pointer (some ⟨it, 0, none⟩)) false o.type).run P w = .ok (.tuple #[.bool false]) w := by
    simp only [Instr.next, getObj, Sem.run_bind, Sem.run, h, Result.andThen]
    rfl
  unfold Oper.wpIn
  refine ⟨by simp [Oper.about, hop], ?_⟩
  rw [Oper.semAt_plain F _ _ (by rw [hop]; intro c hc'; cases hc')]
  simp [execOp, hop, hit, hrun, Result.andThen]
  exact hK' _ _ hDone
end
end Go.Proofs.YtpgocpodhamibaaGreatDoor
namespace Go.Proofs.YtpgocpodhamibaaGreatDoor
open Go.RowKit Go.ChangeMaps

theorem cons_erase_perm {α : Type} : ∀ (l : List α) (i : Nat) (x : α), l[i]? = some x → (x :: l.eraseIdx i).Perm l
  | [], i, x, h => by simp at h
  | a :: l, 0, x, h => by
    simp at h; subst h
    exact List.Perm.refl _
  | a :: l, i + 1, x, h => by
    simp at h
    rw [List.eraseIdx_cons_succ]
    exact (List.Perm.swap a x _).trans ((cons_erase_perm l i x h).cons a)
theorem Only.grownBy {w w' : World} {it : Nat} (h : Only (· = it) w w') : w.grownBy w' (some it) := ⟨h.os, h.tape, h.output, h.size, fun g hg hn => h.block g hg (fun e => hn (by rw [e]))⟩
theorem below_grown {w w' : World} (h : Below w.heap.size w w') : w.grownBy w' none := ⟨h.os, h.tape, h.output, h.size, fun g hg _ => h.block g hg⟩
theorem IterAt.walk {κ : Type} {enc : κ → Value} {w : World} {it m : Nat} {left : List (κ × Value)} (h : IterAt enc w it m left) : ∃ o : Obj, w.heap[it]? = some o ∧ o.isWalk = true := by
  obtain ⟨es, clk, since, c0, seen, hm, hi, _⟩ := h
  exact ⟨_, hi, rfl⟩
theorem IterAt.walks {κ : Type} {enc : κ → Value} {w w' : World} {it m : Nat} {left : List (κ × Value)} (h : IterAt enc w it m left) (hk : KeepsWalks w w') : IterAt enc w' it m left := by
  obtain ⟨es, clk, since, c0, seen, hm, hi, r⟩ := h
  exact ⟨es, clk, since, c0, seen, hk.same _ _ hm rfl, hk.same _ _ hi rfl, r⟩
set_option maxRecDepth 100000 in
set_option maxHeartbeats 1000000 in
theorem keysH_in (F : Fence) (n : Nat) (h10 : F.fn 200) (hro : F.round = none) (hn : 1 ≤ n) (l Bm m : Nat) (ps : List (Tx × Value)) (J : List Tx → World → Prop)
    (hY : ∀ pre x W, J pre W → pre.length < ps.length → YieldAt F (n - 1) Tryz.prog l #[txE x] W fun e W' => e = .returned (.bool true) ∧ J (pre ++ [x]) W' ∧ KeepsWalks W W')
    (W : World) (hJ : AbidesFrom W.heap.size J) (hm : W.cell? ⟨Bm, 0, none⟩ = some (.map (some m))) (hown : MapAt txE W m ps) (h0 : J [] W) :
    CallsIn F n Tryz.prog 200 #[.func (.yield l) #[] #[], .pointer (some ⟨Bm, 0, none⟩)] W fun e W' => (∃ v, e = .returned v) ∧ ∃ xs : List Tx, xs.Perm (ps.map (·.1)) ∧ J xs W' := by
  refine callsIn_of_wp Tryz.func200 rfl h10 ?_ hro
  simp only [Tryz.ntmps200, List.size_toArray, List.length_cons, List.length_nil, Nat.reduceAdd, Nat.reduceSub, Array.replicate_succ, Array.replicate_zero, List.push_toArray, List.append_toArray, List.nil_append, List.cons_append]
  gi_wp2_with (first
    | (gi_at_range; refine wpListIn_range_map rfl (.tmp 4) 137 rfl Tryz.underlying137 rfl hown ?_; intro w0 hit0 hb0 hs0)
    | gi_in)
  go_frame
  have HY := Lib.hid (And.intro hY hJ)
  clear hY hJ
  gi_loopw [3] (fun _ wr => ∃ (left : List (Tx × Value)) (ss : List Tx), IterAt txE wr W.heap.size m left ∧ (ss ++ left.map (·.1)).Perm (ps.map (·.1)) ∧ J ss wr)
    (fun _ wr => leftLen wr W.heap.size m)
  case atStart =>
    exact ⟨ps, [], hit0, List.Perm.refl _, HY.out.2 [] W w0 none h0 (below_grown hb0) (fun r e => by cases e)⟩
  case round =>
    obtain ⟨left, ss, hit, hp, hJs⟩ := hrel
    have HP := Lib.hid hp
    have HL := Lib.hid (show leftLen wr W.heap.size m = left.length from hit.len)
    clear hp
    gi_wp2_with (first
      | (gi_at_next; refine wpListIn_next_map rfl (.tmp 5) rfl rfl hit ?_ ?_)
      | gi_in)
    · intro hl0
      subst hl0
      gi_wp2
      go_end0
      exact ⟨⟨_, rfl⟩, ss, by have := HP.out; simpa using this, hJs⟩
    · intro i x v w2 hi hit2 hO2 hs2 hen
      have hlen := HP.out.length_eq
      have hil : i < left.length := (List.getElem?_eq_some_iff.1 hi).1
      have hJ2 : J ss w2 := HY.out.2 ss wr w2 (some W.heap.size) hJs hO2.grownBy (fun r e => by cases e; exact ⟨Nat.le_refl _, hit.walk⟩)
      have hJ3 : J ss (w2.alloc (.cells #[.int .i64 x.node, .int .i64 x.life, .int .i64 x.num] 34)) := HY.out.2 ss w2 _ none hJ2 (below_grown ((Below.refl w2.heap.size w2).al _)) (fun r e => by cases e)
      obtain ⟨fn, tmps, assign, body, hy, hR⟩ := HY.out.1 ss x _ hJ3 (by simp only [List.length_append, List.length_map] at hlen; omega)
      replace hen := hen w2 rfl rfl
      have ex : txE x = .agg #[.int .i64 x.node, .int .i64 x.life, .int .i64 x.num] := rfl
      rw [ex] at hen hy ⊢
      clear ex
      have HC := Lib.hid (And.intro hlen (And.intro hi hit2))
      clear hlen hi hs2 hO2 hit hJs hJ2
      clear hJ3
      gi_wp2
      refine hR.mono ?_
      rintro e W3 ⟨rfl, hJ4, hk3⟩
      have hit3 := (HC.out.2.2.walks (KeepsWalks.alloc w2 _)).walks hk3
      have hl3 : leftLen W3 W.heap.size m = left.length - 1 := by rw [hit3.len, List.length_eraseIdx, if_pos hil]
      have H3 := Lib.hid (And.intro hit3 hl3)
      clear hit3 hl3 hk3
      gi_wp2
      go_roundw
      case rel =>
        refine ⟨left.eraseIdx i, ss ++ [x], H3.out.1, ?_, hJ4⟩
        refine List.Perm.trans ?_ HP.out
        rw [List.append_assoc]
        refine List.Perm.append_left ss ?_
        have h := HC.out.2.1
        rw [map_erase]
        have hx : (left.map (·.1))[i]? = some x := by rw [List.getElem?_map, h]; rfl
        exact cons_erase_perm _ i x hx
      case measure =>
        rw [H3.out.2, HL.out]
        omega
theorem keysH_gives (F : Fence) (n : Nat) (h10 : F.fn 200) (hro : F.round = none) (hn : 1 ≤ n) (Bm m : Nat) (ps : List (Tx × Value)) (w : World) (hBm : Bm < w.heap.size)
    (hm : w.cell? ⟨Bm, 0, none⟩ = some (.map (some m))) (hown : MapAt txE w m ps) :
    SeqGives F n Tryz.prog 200 #[.pointer (some ⟨Bm, 0, none⟩)] txE (fun xs => xs.Perm (ps.map (·.1))) ps.length w := fun l J W hW hJ hY h0 =>
  keysH_in F n h10 hro hn l Bm m ps J hY W hJ ((hW.cell (p := ⟨Bm, 0, none⟩) hBm).trans hm) (hown.ext hW) h0
set_option maxRecDepth 100000 in
set_option maxHeartbeats 1000000 in
theorem keysO_in (F : Fence) (n : Nat) (h10 : F.fn 205) (hro : F.round = none) (hn : 1 ≤ n) (l Bm m : Nat) (ps : List (Tx × Value)) (J : List Tx → World → Prop)
    (hY : ∀ pre x W, J pre W → pre.length < ps.length → YieldAt F (n - 1) Tryz.prog l #[txE x] W fun e W' => e = .returned (.bool true) ∧ J (pre ++ [x]) W' ∧ KeepsWalks W W')
    (W : World) (hJ : AbidesFrom W.heap.size J) (hm : W.cell? ⟨Bm, 0, none⟩ = some (.map (some m))) (hown : MapAt txE W m ps) (h0 : J [] W) :
    CallsIn F n Tryz.prog 205 #[.func (.yield l) #[] #[], .pointer (some ⟨Bm, 0, none⟩)] W fun e W' => (∃ v, e = .returned v) ∧ ∃ xs : List Tx, xs.Perm (ps.map (·.1)) ∧ J xs W' := by
  refine callsIn_of_wp Tryz.func205 rfl h10 ?_ hro
  simp only [Tryz.ntmps205, List.size_toArray, List.length_cons, List.length_nil, Nat.reduceAdd, Nat.reduceSub, Array.replicate_succ, Array.replicate_zero, List.push_toArray, List.append_toArray, List.nil_append, List.cons_append]
  gi_wp2_with (first
    | (gi_at_range; refine wpListIn_range_map rfl (.tmp 4) 138 rfl Tryz.underlying138 rfl hown ?_; intro w0 hit0 hb0 hs0)
    | gi_in)
  go_frame
  have HY := Lib.hid (And.intro hY hJ)
  clear hY hJ
  gi_loopw [3] (fun _ wr => ∃ (left : List (Tx × Value)) (ss : List Tx), IterAt txE wr W.heap.size m left ∧ (ss ++ left.map (·.1)).Perm (ps.map (·.1)) ∧ J ss wr)
    (fun _ wr => leftLen wr W.heap.size m)
  case atStart =>
    exact ⟨ps, [], hit0, List.Perm.refl _, HY.out.2 [] W w0 none h0 (below_grown hb0) (fun r e => by cases e)⟩
  case round =>
    obtain ⟨left, ss, hit, hp, hJs⟩ := hrel
    have HP := Lib.hid hp
    have HL := Lib.hid (show leftLen wr W.heap.size m = left.length from hit.len)
    clear hp
    gi_wp2_with (first
      | (gi_at_next; refine wpListIn_next_map rfl (.tmp 5) rfl rfl hit ?_ ?_)
      | gi_in)
    · intro hl0
      subst hl0
      gi_wp2
      go_end0
      exact ⟨⟨_, rfl⟩, ss, by have := HP.out; simpa using this, hJs⟩
    · intro i x v w2 hi hit2 hO2 hs2 hen
      have hlen := HP.out.length_eq
      have hil : i < left.length := (List.getElem?_eq_some_iff.1 hi).1
      have hJ2 : J ss w2 := HY.out.2 ss wr w2 (some W.heap.size) hJs hO2.grownBy (fun r e => by cases e; exact ⟨Nat.le_refl _, hit.walk⟩)
      have hJ3 : J ss (w2.alloc (.cells #[.int .i64 x.node, .int .i64 x.life, .int .i64 x.num] 34)) := HY.out.2 ss w2 _ none hJ2 (below_grown ((Below.refl w2.heap.size w2).al _)) (fun r e => by cases e)
      obtain ⟨fn, tmps, assign, body, hy, hR⟩ := HY.out.1 ss x _ hJ3 (by simp only [List.length_append, List.length_map] at hlen; omega)
      replace hen := hen w2 rfl rfl
      have ex : txE x = .agg #[.int .i64 x.node, .int .i64 x.life, .int .i64 x.num] := rfl
      rw [ex] at hen hy ⊢
      clear ex
      have HC := Lib.hid (And.intro hlen (And.intro hi hit2))
      clear hlen hi hs2 hO2 hit hJs hJ2
      clear hJ3
      gi_wp2
      refine hR.mono ?_
      rintro e W3 ⟨rfl, hJ4, hk3⟩
      have hit3 := (HC.out.2.2.walks (KeepsWalks.alloc w2 _)).walks hk3
      have hl3 : leftLen W3 W.heap.size m = left.length - 1 := by rw [hit3.len, List.length_eraseIdx, if_pos hil]
      have H3 := Lib.hid (And.intro hit3 hl3)
      clear hit3 hl3 hk3
      gi_wp2
      go_roundw
      case rel =>
        refine ⟨left.eraseIdx i, ss ++ [x], H3.out.1, ?_, hJ4⟩
        refine List.Perm.trans ?_ HP.out
        rw [List.append_assoc]
        refine List.Perm.append_left ss ?_
        have h := HC.out.2.1
        rw [map_erase]
        have hx : (left.map (·.1))[i]? = some x := by rw [List.getElem?_map, h]; rfl
        exact cons_erase_perm _ i x hx
      case measure =>
        rw [H3.out.2, HL.out]
        omega
theorem keysO_gives (F : Fence) (n : Nat) (h10 : F.fn 205) (hro : F.round = none) (hn : 1 ≤ n) (Bm m : Nat) (ps : List (Tx × Value)) (w : World) (hBm : Bm < w.heap.size)
    (hm : w.cell? ⟨Bm, 0, none⟩ = some (.map (some m))) (hown : MapAt txE w m ps) :
    SeqGives F n Tryz.prog 205 #[.pointer (some ⟨Bm, 0, none⟩)] txE (fun xs => xs.Perm (ps.map (·.1))) ps.length w := fun l J W hW hJ hY h0 =>
  keysO_in F n h10 hro hn l Bm m ps J hY W hJ ((hW.cell (p := ⟨Bm, 0, none⟩) hBm).trans hm) (hown.ext hW) h0
end Go.Proofs.YtpgocpodhamibaaGreatDoor
namespace Go.Proofs.YtpgocpodhamibaaGreatDoor
open Go.RowKit Go.Shelf

theorem tx_info : (Tryz.prog.info? 34).map (fun i => (i.zero, i.size, i.bytes)) = some (some (.agg #[.int .i64 0, .int .i64 0, .int .i64 0]), 3, 24) := by kernel_rfl
def loopOf : Option Code → Code × Code
  | some (.seq _ (.seq (.seq _ (.block _ (.rangeFunc _ _ a b))) _)) => (a, b)
  | _ => (.skip, .skip)
/-- The loop's record. -/
noncomputable def apRec (fn : FuncId) (sv : Value) (Bs D : Nat) (st : LoopState) (pend : Option Code) : Loop :=
  { state := st, pending := pend, fn, tmps := #[.slice none 0 0, sv, .pointer (some ⟨Bs, 0, none⟩), undef, .slice none 0 0, undef, sv, undef, undef, undef, undef, undef, undef], params := #[7], assign := (loopOf (Func.body Tryz.f259)).1, body := (loopOf (Func.body Tryz.f259)).2, defers := D }
structure ApAt (w0 : World) (fn : FuncId) (sv : Value) (Bs l D : Nat) (ss : List Tx) (W : World) : Prop where
  box : ∃ v, W.heap[Bs]? = some (.cells #[v] 81 (0, 0)) ∧ W.ownsRow w0.heap.size 34 3 v ss.length (ss.flatMap Tx.cells) ∧ (v = .slice none 0 0 ↔ ss = [])
  L : W.heap[l]? = some (.loop (apRec fn sv Bs D .ready none))
  K : W.heap[D]? = some (.deferred (some []))
  below : Below w0.heap.size w0 W
theorem ap_abides (w0 : World) (fn : FuncId) (sv : Value) (Bs l D B : Nat) (hB : w0.heap.size ≤ B) : AbidesFrom B (ApAt w0 fn sv Bs l D) := fun s W W' row h hg hrow => by
  have hrow' : ∀ r, row = some r → ∃ o : Obj, W.heap[r]? = some o ∧ o.isWalk = true := fun r e => (hrow r e).2
  obtain ⟨v, hv, hr, hn⟩ := h.box
  exact ⟨⟨v, (grownBy_keeps hg hrow' hv rfl).trans hv, ownsRow_abides_a hr hg hrow', hn⟩, (grownBy_keeps hg hrow' h.L rfl).trans h.L, (grownBy_keeps hg hrow' h.K rfl).trans h.K,
    h.below.grown hg h.below.size (fun k e => Nat.le_trans hB (hrow k e).1)⟩

set_option maxRecDepth 100000 in
set_option maxHeartbeats 2000000 in
theorem apYield (F : Fence) (m : Nat) (w0 : World) (fn : FuncId) (hfn : F.fn fn) (sv : Value) (Bs l D : Nat) (hBl : Bs ≠ l) (hDl : D ≠ l) (hDB : D ≠ Bs) (h0B : w0.heap.size ≤ Bs) (h0l : w0.heap.size ≤ l)
    (N : Nat) (hN : N ≤ 1000000) (ss : List Tx) (x : Tx) (W : World) (h : ApAt w0 fn sv Bs l D ss W) (hlen : ss.length < N) :
    YieldAt F m Tryz.prog l #[txE x] W fun e W' => e = .returned (.bool true) ∧ ApAt w0 fn sv Bs l D (ss ++ [x]) W' ∧ KeepsWalks W W' := by
  have hne : (81 : TypeId) ≠ 34 := by decide
  obtain ⟨i0, hi, hz0, hz1, hz2⟩ := info_parts tx_info
  refine ⟨fn, #[.slice none 0 0, sv, .pointer (some ⟨Bs, 0, none⟩), undef, .slice none 0 0, undef, sv, txE x, undef, undef, undef, undef, undef], (loopOf (Func.body Tryz.f259)).1, (loopOf (Func.body Tryz.f259)).2, by simpa [apRec] using run_yield (P := Tryz.prog) (args := #[txE x]) h.L rfl, roundIn_of_wpIn hfn ?_⟩
  have hl0 : l < W.heap.size := (Array.getElem?_eq_some_iff.1 h.L).1
  have BX := Blk.new W 34 x.cells
  obtain ⟨W1, hW1⟩ : ∃ W1, W.alloc (.cells #[.int .i64 x.node, .int .i64 x.life, .int .i64 x.num] 34) = W1 := ⟨_, rfl⟩
  have hW1' : W.alloc (.cells x.cells.toArray 34) = W1 := hW1
  rw [hW1'] at BX
  have hg1 : W.grownBy W1 none := by rw [← hW1]; exact below_grown ((Below.refl W.heap.size W).al _)
  have hk1 : KeepsWalks W W1 := by rw [← hW1]; exact KeepsWalks.alloc _ _
  have hA : ApAt w0 fn sv Bs l D ss W1 := ap_abides w0 fn sv Bs l D w0.heap.size (Nat.le_refl _) ss W W1 none h hg1 (fun r e => by cases e)
  obtain ⟨v, hv, hrow, _⟩ := hA.box
  have hl : l < W1.heap.size := (Array.getElem?_eq_some_iff.1 hA.L).1
  have hbr := run_beginRound (P := Tryz.prog) hA.L rfl
  obtain ⟨W2, hW2⟩ : ∃ W2, W1.putObj l (.loop { apRec fn sv Bs D .ready none with state := .busy }) = W2 := ⟨_, rfl⟩
  rw [hW2] at hbr
  have hg2 : W1.grownBy W2 (some l) := by rw [← hW2]; exact grownBy_putObj_a _ _ _
  have hk2 : KeepsWalks W W2 := hk1.trans (by rw [← hW2]; exact KeepsWalks.putObj _ hA.L rfl)
  have hv2 : W2.heap[Bs]? = some (.cells #[v] 81 (0, 0)) := by rw [← hW2]; exact (World.putObj_heap_other hBl).trans hv
  have hK2 : W2.heap[D]? = some (.deferred (some [])) := by rw [← hW2]; exact (World.putObj_heap_other hDl).trans hA.K
  have hL2 : W2.heap[l]? = some (.loop { apRec fn sv Bs D .ready none with state := .busy }) := by rw [← hW2]; exact World.putObj_heap_same hl
  have hrow2 : W2.ownsRow w0.heap.size 34 3 v ss.length (ss.flatMap Tx.cells) := hrow.kept hg2 (ownsRow_ne_a hrow hA.L (fun cur e => by cases e))
  have hb2 : Below w0.heap.size w0 W2 := hA.below.grown hg2 hA.below.size (fun k e => by cases e; exact h0l)
  obtain ⟨hc2, hf2⟩ := cell_of_box_a hv2
  have hBlt : Bs < W2.heap.size := (Array.getElem?_eq_some_iff.1 hv2).1
  have hl2 : l < W2.heap.size := (Array.getElem?_eq_some_iff.1 hL2).1
  have hDlt : D < W2.heap.size := (Array.getElem?_eq_some_iff.1 hK2).1
  have BX2 := BX.grown hg2 (fun e => by cases e; omega)
  have x0 := BX2.cell 0
  have x1 := BX2.cell 1
  have x2 := BX2.cell 2
  simp only [Tx.cells, List.getElem?_cons_zero, List.getElem?_cons_succ] at x0 x1 x2
  have ne_of : ∀ {j : Nat} {o : Obj}, W2.heap[j]? = some o → (∀ cur, o ≠ .cells cur 34 (0, 0)) → some j ≠ v.ownBlock := fun hj hno => by
    rcases ownsRow_ne_a hrow2 hj hno with e | e
    · rw [e]; simp
    · exact fun e' => e e'.symm
  clear hW2 BX BX2 hW1' hA hv hrow h hg1
  dsimp only [loopOf, Tryz.f259]
  unfold txE
  have hcs : ∀ (j : Nat) (u : Value), x.cells[j]? = some u → (W2.alloc (.cells #[.int .i64 x.node, .int .i64 x.life, .int .i64 x.num] 34)).cell? ((⟨W2.heap.size, 0, none⟩ : Addr).add j) = some u := fun j u hj => by
    have := (Blk.new W2 34 x.cells).cell j
    rw [hj] at this
    rw [show ((⟨W2.heap.size, 0, none⟩ : Addr).add j) = ⟨W2.heap.size, j, none⟩ from by cases j <;> simp [Addr.add]]
    exact this
  gi_wp2_with (first
    | (gi_at_builtin; refine wpListIn_append_own _ rfl _ _ 81 rfl w0.heap.size 34 i0 (.agg #[.int .i64 0, .int .i64 0, .int .i64 0]) 3 24 Tryz.underlying81 hi hz0 hz1 hz2 rfl (by decide) _ _ _ rfl (hrow2.alloc _) ⟨W2.heap.size, 0, none⟩ 1 1 x.cells rfl rfl hcs (by simp [Value.oneCell', Tx.cells]) (by simp only [maxLen]; omega) (by omega) (by have := hb2.size; simp; omega) ?_; intro v' w3 hown' hg3 hnil3
       have hv3 : w3.heap[Bs]? = some (.cells #[v] 81 (0, 0)) := (hg3.block Bs (by simp; omega) (ne_of hv2 (fun cur e => by cases e))).trans ((Below.heap_alloc _ _ Bs hBlt).trans hv2)
       obtain ⟨hc3, hf3⟩ := cell_of_box_a hv3
       obtain ⟨g', cap', cur', rfl, hbase', hgb', hr1, hr2, hr3, hr4⟩ : ∃ g' cap' cur', v' = .slice (some ⟨g', 0, none⟩) (ss.length + 1) cap' ∧ w0.heap.size ≤ g' ∧ w3.heap[g']? = some (.cells cur' 34 (0, 0)) ∧ ss.length + 1 ≤ cap' ∧ cap' ≤ maxLen ∧ cur'.size = cap' * 3 ∧ cur'.toList.take ((ss.length + 1) * 3) = ss.flatMap Tx.cells ++ x.cells := by
         rcases hown'.2 with ⟨_, h0⟩ | h'
         · exact absurd h0 (by omega)
         · exact h'
       go_frame)
    | gi_round_op_a)
  have hg3' : (W2.alloc (.cells #[.int .i64 x.node, .int .i64 x.life, .int .i64 x.num] 34)).grownBy w3 v.ownBlock := hg3
  have hL3 : w3.heap[l]? = some (.loop { apRec fn sv Bs D .ready none with state := .busy }) := (hg3'.block l (by simp; omega) (ne_of hL2 (fun cur e => by cases e))).trans ((Below.heap_alloc _ _ l hl2).trans hL2)
  have hK3 : w3.heap[D]? = some (.deferred (some [])) := (hg3'.block D (by simp; omega) (ne_of hK2 (fun cur e => by cases e))).trans ((Below.heap_alloc _ _ D hDlt).trans hK2)
  obtain ⟨w4, hw4⟩ : ∃ w4, w3.setCell ⟨Bs, 0, none⟩ (.slice (some ⟨g', 0, none⟩) (ss.length + 1) cap') = w4 := ⟨_, rfl⟩
  rw [hw4]
  have hg4 : w3.grownBy w4 (some Bs) := by rw [← hw4]; exact grownBy_setCell0_a _ _ _
  have hv4 : w4.heap[Bs]? = some (.cells #[.slice (some ⟨g', 0, none⟩) (ss.length + 1) cap'] 81 (0, 0)) := by rw [← hw4]; exact heap_setCell_box_a _ hv3
  have hL4 : w4.heap[l]? = some (.loop { apRec fn sv Bs D .ready none with state := .busy }) := (hg4.block l (Array.getElem?_eq_some_iff.1 hL3).1 (fun e => hBl (by cases e; rfl))).trans hL3
  have hK4 : w4.heap[D]? = some (.deferred (some [])) := (hg4.block D (Array.getElem?_eq_some_iff.1 hK3).1 (fun e => hDB (by cases e; rfl))).trans hK3
  have hrow4 := hown'.kept hg4 (ownsRow_ne_a hown' hv3 (fun cur e => by cases e))
  have hl4 : l < w4.heap.size := (Array.getElem?_eq_some_iff.1 hL4).1
  have hb3 : Below w0.heap.size w0 w3 := (hb2.alloc hb2.size _).grown hg3' (by have := hb2.size; simp; omega) (fun k e => (hrow2.lt k e).1)
  have hb4 : Below w0.heap.size w0 w4 := hb3.grown hg4 hb3.size (fun k e => by cases e; exact h0B)
  have hk4 : KeepsWalks W w4 := ((hk2.trans (KeepsWalks.alloc _ _)).trans (KeepsWalks.of_grownBy hg3' (ownsRow_not_walk_a (hrow2.alloc _)))).trans (by rw [← hw4]; exact KeepsWalks.setCell _ _ _)
  clear hw4
  refine ⟨_, _, run_endRound none hL4, rfl, ⟨⟨_, (World.putObj_heap_other hBl).trans hv4, ?_, by simp⟩, World.putObj_heap_same hl4, (World.putObj_heap_other hDl).trans hK4, hb4.grown (grownBy_putObj_a _ _ _) hb4.size (fun k e => by cases e; exact h0l)⟩, hk4.trans (KeepsWalks.putObj _ hL4 rfl)⟩
  have := hrow4.kept (grownBy_putObj_a w4 l (.loop { { apRec fn sv Bs D .ready none with state := .busy } with state := if (none : Option Code).isNone then .ready else .done, pending := none })) (ownsRow_ne_a hrow4 hL4 (fun cur e => by cases e))
  simpa using this

set_option maxRecDepth 100000 in
set_option maxHeartbeats 2000000 in
theorem appendSeqT_in (F : Fence) (n : Nat) (h11 : F.fn 259) (hro : F.round = none) (hn : 2 ≤ n) (g : Nat) (lb : Array Value) (hFg : F.fn g) (eg : ∀ args w, (callFunc g args).run Tryz.prog w = .ok (.enter g args) w)
    (S : List Tx → Prop) (N : Nat) (hN : N ≤ 1000000) (w : World) (hseq : SeqGives F (n - 1) Tryz.prog g lb txE S N w) :
    CallsIn F n Tryz.prog 259 #[.slice none 0 0, .func (.func g) #[] lb] w fun e w' => ∃ (v : Value) (ss : List Tx), e = .returned v ∧ S ss ∧ w'.ownsRow w.heap.size 34 3 v ss.length (ss.flatMap Tx.cells) ∧ (v = .slice none 0 0 ↔ ss = []) ∧ Below w.heap.size w w' := by
  have h1 : 1 ≤ n := by omega
  refine callsIn_of_wp_marks Tryz.func259 rfl h11 ?_ hro
  simp only [Tryz.ntmps259, List.size_toArray, List.length_cons, List.length_nil, Nat.reduceAdd, Nat.reduceSub, Array.replicate_succ, Array.replicate_zero, List.push_toArray, List.append_toArray, List.nil_append, List.cons_append]
  gi_wp2
  refine wpIn_rangeFunc ?_
  intro fn hfn
  rw [hro]
  obtain ⟨W0, hW0⟩ : ∃ W0, w.alloc (.cells #[.slice none 0 0] 81) = W0 := ⟨_, rfl⟩
  have hs0 : W0.heap.size = w.heap.size + 1 := by rw [← hW0]; simp
  have hv0 : W0.heap[w.heap.size]? = some (.cells #[.slice none 0 0] 81 (0, 0)) := by rw [← hW0]; exact World.alloc_heap_new w _
  have hb0 : Below w.heap.size w W0 := by rw [← hW0]; exact (Below.refl _ w).alloc (Nat.le_refl _) _
  rw [hW0]
  obtain ⟨W1, hW1⟩ : ∃ W1, (W0.alloc (.deferred (some []))).alloc (.loop (apRec fn (.func (.func g) #[] lb) w.heap.size W0.heap.size .ready none)) = W1 := ⟨_, rfl⟩
  have hold : ∀ k, k < W0.heap.size → W1.heap[k]? = W0.heap[k]? := fun k hk => by
    rw [← hW1]; exact (Below.heap_alloc _ _ k (by simp; omega)).trans (Below.heap_alloc _ _ k hk)
  have hb1 : Below w.heap.size w W1 := by rw [← hW1]; exact (hb0.alloc hb0.size _).alloc (by have := hb0.size; simp; omega) _
  have hs1 : W1.heap.size = W0.heap.size + 2 := by rw [← hW1]; simp
  have hM : ApAt w fn (.func (.func g) #[] lb) w.heap.size (W0.heap.size + 1) W0.heap.size [] W1 :=
    ⟨⟨_, (hold w.heap.size (by omega)).trans hv0, ⟨rfl, .inl ⟨rfl, rfl⟩⟩, by simp⟩,
     by rw [← hW1]; have := World.alloc_heap_new (W0.alloc (.deferred (some []))) (.loop (apRec fn (.func (.func g) #[] lb) w.heap.size W0.heap.size .ready none)); rwa [World.size_alloc] at this,
     by rw [← hW1]; exact (Below.heap_alloc _ _ _ (by simp)).trans (World.alloc_heap_new W0 _), hb1⟩
  refine ⟨W0.heap.size + 1, [{ target := .collected W0.heap.size, args := #[] }], W1, { target := .fn (.func g) lb, args := #[.func (.yield (W0.heap.size + 1)) #[] #[]] }, W1, g,
    #[.func (.yield (W0.heap.size + 1)) #[] #[]] ++ lb, W1, ?_, ?_, ?_, ?_, fun _ => h1, ?_⟩
  · rw [← hW1]; exact run_enterLoop_outer _ _ _ _ _
  · simp [resolve, go_sem]
  · intro f' hf'; simp [Target.leads] at hf'; subst hf'; exact hFg
  · simp [invoke, go_sem, eg]
  · refine (hseq (W0.heap.size + 1) (ApAt w fn (.func (.func g) #[] lb) w.heap.size (W0.heap.size + 1) W0.heap.size) W1 hb1 (ap_abides _ _ _ _ _ _ _ hb1.size)
      (fun pre x W hJ hl => apYield F (n - 1 - 1) w fn hfn _ w.heap.size (W0.heap.size + 1) W0.heap.size (by omega) (by omega) (by omega) (Nat.le_refl _) (by omega) N hN pre x W hJ hl) hM).mono ?_
    rintro e W2 ⟨⟨v0, rfl⟩, ss, hS, h2⟩
    obtain ⟨v, hv, hrow, hnil⟩ := h2.box
    have hend := run_endLoop (P := Tryz.prog) h2.L (by simp [apRec])
    obtain ⟨W3, hW3⟩ : ∃ W3, W2.putObj (W0.heap.size + 1) (.loop { apRec fn (.func (.func g) #[] lb) w.heap.size W0.heap.size .ready none with state := .exhausted }) = W3 := ⟨_, rfl⟩
    rw [hW3] at hend
    have hg3 : W2.grownBy W3 (some (W0.heap.size + 1)) := by rw [← hW3]; exact grownBy_putObj_a _ _ _
    have hv3 : W3.heap[w.heap.size]? = some (.cells #[v] 81 (0, 0)) := by rw [← hW3]; exact (World.putObj_heap_other (by omega)).trans hv
    have hK3 : W3.heap[W0.heap.size]? = some (.deferred (some [])) := by rw [← hW3]; exact (World.putObj_heap_other (by omega)).trans h2.K
    have hrow3 := hrow.kept hg3 (ownsRow_ne_a hrow h2.L (fun cur e => by cases e))
    have hb3 : Below w.heap.size w W3 := h2.below.grown hg3 h2.below.size (fun k e => by cases e; omega)
    obtain ⟨hc3, hf3⟩ := cell_of_box_a hv3
    clear hW3
    refine ⟨none, W3, hend, ?_⟩
    gi_wp2
    rw [← hs0]
    refine ⟨by simp, .inl ⟨_, _, rfl, run_takeDeferred hK3, ?_⟩⟩
    exact ⟨_, results_tmp rfl _ _ _, v, ss, rfl, hS, hrow3.kept (grownBy_putObj_a _ _ _) (ownsRow_ne_a hrow3 hK3 (fun cur e => by cases e)), hnil, hb3.grown (grownBy_putObj_a _ _ _) hb3.size (fun k e => by cases e; omega)⟩

set_option maxHeartbeats 1000000 in
theorem collectT_in (F : Fence) (n : Nat) (h8 : F.fn 198) (h11 : F.fn 259) (hro : F.round = none) (hn : 3 ≤ n) (g : Nat) (lb : Array Value) (hFg : F.fn g) (eg : ∀ args w, (callFunc g args).run Tryz.prog w = .ok (.enter g args) w)
    (S : List Tx → Prop) (N : Nat) (hN : N ≤ 1000000) (w : World) (hseq : SeqGives F (n - 1 - 1) Tryz.prog g lb txE S N w) :
    CallsIn F n Tryz.prog 198 #[.func (.func g) #[] lb] w fun e w' => ∃ (v : Value) (ss : List Tx), e = .returned v ∧ S ss ∧ w'.ownsRow w.heap.size 34 3 v ss.length (ss.flatMap Tx.cells) ∧ (v = .slice none 0 0 ↔ ss = []) ∧ Below w.heap.size w w' := by
  have h1 : 1 ≤ n := by omega
  have e11 : ∀ args w, (callFunc 259 args).run Tryz.prog w = .ok (.enter 259 args) w := enters_of Tryz.func259 (by kernel_rfl) rfl
  refine callsIn_of_wp Tryz.func198 rfl h8 ?_ hro
  simp only [Tryz.ntmps198, List.size_toArray, List.length_cons, List.length_nil, Nat.reduceAdd, Nat.reduceSub, Array.replicate_succ, Array.replicate_zero, List.push_toArray, List.append_toArray, List.nil_append, List.cons_append]
  gi_wp2_with (gi_at_fn 259; refine (appendSeqT_in F (n - 1) h11 hro (by omega) g lb hFg eg S N hN _ hseq).mono ?_; rintro e w' ⟨v, ss, rfl, hS, hrow, hnil, hb⟩)
  go_ret
  exact ⟨v, ss, rfl, hS, hrow, hnil, hb⟩
end Go.Proofs.YtpgocpodhamibaaGreatDoor
namespace Go.Proofs.YtpgocpodhamibaaGreatDoor
open Go.RowKit Go.Shelf

set_option maxHeartbeats 800000 in
theorem keysH_any (mb : Option Nat) (w : World) : Calls Tryz.prog 119 #[.map mb] w fun e w' => e = .returned (.func (.func 200) #[] #[.pointer (some ⟨w.heap.size, 0, none⟩)]) ∧ w' = w.alloc (.cells #[.map mb] 137) := by
  go_enter Tryz.func119, Tryz.ntmps119
  go_wp2
  go_ret
  exact ⟨rfl, rfl⟩
theorem collectH_any (bx m : Nat) (ps : List (Tx × Value)) (w : World) (hx : bx < w.heap.size) (hb : w.cell? ⟨bx, 0, none⟩ = some (.map (some m))) (h : MapAt txE w m ps) (hl : ps.length ≤ 1000000) :
    Calls Tryz.prog 198 #[.func (.func 200) #[] #[.pointer (some ⟨bx, 0, none⟩)]] w fun e w' =>
      ∃ (v : Value) (ss : List Tx), e = .returned v ∧ ss.Perm (ps.map (·.1)) ∧ w'.ownsRow w.heap.size 34 3 v ss.length (ss.flatMap Tx.cells) ∧ (v = .slice none 0 0 ↔ ss = []) ∧ Below w.heap.size w w' :=
  callsIn_wide.1 (collectT_in Fence.wide 5 trivial trivial rfl (by omega) 200 #[.pointer (some ⟨bx, 0, none⟩)] trivial (enters_of Tryz.func200 (by kernel_rfl) rfl) _ ps.length hl w
    (keysH_gives Fence.wide _ trivial rfl (by omega) bx m ps w hx hb h))
set_option maxHeartbeats 800000 in
theorem keysO_any (mb : Option Nat) (w : World) : Calls Tryz.prog 122 #[.map mb] w fun e w' => e = .returned (.func (.func 205) #[] #[.pointer (some ⟨w.heap.size, 0, none⟩)]) ∧ w' = w.alloc (.cells #[.map mb] 138) := by
  go_enter Tryz.func122, Tryz.ntmps122
  go_wp2
  go_ret
  exact ⟨rfl, rfl⟩
theorem collectO_any (bx m : Nat) (ps : List (Tx × Value)) (w : World) (hx : bx < w.heap.size) (hb : w.cell? ⟨bx, 0, none⟩ = some (.map (some m))) (h : MapAt txE w m ps) (hl : ps.length ≤ 1000000) :
    Calls Tryz.prog 198 #[.func (.func 205) #[] #[.pointer (some ⟨bx, 0, none⟩)]] w fun e w' =>
      ∃ (v : Value) (ss : List Tx), e = .returned v ∧ ss.Perm (ps.map (·.1)) ∧ w'.ownsRow w.heap.size 34 3 v ss.length (ss.flatMap Tx.cells) ∧ (v = .slice none 0 0 ↔ ss = []) ∧ Below w.heap.size w w' :=
  callsIn_wide.1 (collectT_in Fence.wide 5 trivial trivial rfl (by omega) 205 #[.pointer (some ⟨bx, 0, none⟩)] trivial (enters_of Tryz.func205 (by kernel_rfl) rfl) _ ps.length hl w
    (keysO_gives Fence.wide _ trivial rfl (by omega) bx m ps w hx hb h))
end Go.Proofs.YtpgocpodhamibaaGreatDoor
namespace Go.Proofs.YtpgocpodhamibaaGreatDoor
open Go.RowKit Go.Shelf Go.Sort

instance : Inhabited Tx := ⟨⟨0, 0, 0⟩⟩
def orderT (x y : Tx) : Int := orI [cmpI x.node y.node, cmpI x.life y.life, cmpI x.num y.num]
theorem three_alloc (w : World) (a b c : Obj) : (((w.alloc a).alloc b).drew).alloc c = grow (w.drewN 1) #[a, b, c] := by
  rw [alloc_eq_grow, alloc_eq_grow, alloc_eq_grow, grow_grow]
  show grow (grow w.drew _) _ = _
  rw [grow_grow]
  rfl
theorem int_cells {w : World} {b : Nat} {t : TypeId} {l : List Int} (h : Blk w b t (l.map fun n => .int .i64 n)) (k : Nat) (x : Int) (hk : l[k]? = some x) : w.cell? ⟨b, k, none⟩ = some (.int .i64 x) := by
  rw [h.cell, List.getElem?_map, hk]; rfl
set_option maxRecDepth 20000 in
set_option maxHeartbeats 1600000 in
theorem order_any (x y : Tx) (w : World) : Calls Tryz.prog 120 #[.agg (x.cells).toArray, .agg (y.cells).toArray] w fun e w' => e = .returned (.int .i64 (orderT x y)) ∧ ∃ q os', w' = grow (w.drewN q) os' := by
  have BX := (Blk.new w 34 (x.cells)).alloc (.cells (y.cells).toArray 34)
  have BY := Blk.new1 w (.cells (x.cells).toArray 34) 34 (y.cells)
  unfold Tx.cells at *
  go_enter Tryz.func120, Tryz.ntmps120
  go_upto_region 1 with fail
  generalize hw1 : (w.alloc (.cells #[.int .i64 x.node, .int .i64 x.life, .int .i64 x.num] 34)).alloc (.cells #[.int .i64 y.node, .int .i64 y.life, .int .i64 y.num] 34) = w1 at *
  have HW := Lib.hid hw1
  clear hw1
  have x0 := On.cell (BX.cell 0 : w1.cell? ⟨w.heap.size, 0, none⟩ = some (.int .i64 x.node))
  have x1 := On.cell (BX.cell 1 : w1.cell? ⟨w.heap.size, 1, none⟩ = some (.int .i64 x.life))
  have x2 := On.cell (BX.cell 2 : w1.cell? ⟨w.heap.size, 2, none⟩ = some (.int .i64 x.num))
  have y0 := On.cell (BY.cell 0 : w1.cell? ⟨w.heap.size + 1, 0, none⟩ = some (.int .i64 y.node))
  have y1 := On.cell (BY.cell 1 : w1.cell? ⟨w.heap.size + 1, 1, none⟩ = some (.int .i64 y.life))
  have y2 := On.cell (BY.cell 2 : w1.cell? ⟨w.heap.size + 1, 2, none⟩ = some (.int .i64 y.num))
  clear BX BY
  have C0 := cmp_any x.node y.node w1.drew
  have C1 := cmp_any x.life y.life w1.drew
  have C2 := cmp_any x.num y.num w1.drew
  refine wp_region_mix (.seg [0, 1, 2, 3, 5, 6, 7, 8, 10, 11, 12, 13] 4 (.seg [] 9 (.seg [] 14 (.seg [] 15 (.seg [] 16 (.leaf [17])))))) (fun w' => ∃ d : Wd (On w1), w' = d.w) (by kernel_rfl) (by kernel_rfl) (fun _ _ d _ _ h => by cases d <;> exact h) (ClsW.mk (Below.refl _ _).drew) ?_
  unfold wpMix; simp only [pick, List.filterMap_cons, List.filterMap_nil, List.getElem?_cons_zero, List.getElem?_cons_succ]
  (repeat (show wpQuiet _ _ _ _ (_ :: _) _; go_big_quiet_step (fail))); refine wpQuiet_nil ?_
  go_wp2_with fail
  refine C0.mono ?_
  clear C0
  rintro e w' ⟨rfl, rfl⟩
  go_wp2_with fail
  (dsimp only [wpList, SegQ]; refine ⟨fun w' => ∃ d : Wd (On w1), w' = d.w, ClsW.mk ((Below.refl _ _).drew), fun _ h => h, ?_⟩; unfold wpMix; simp only [pick, List.filterMap_cons, List.filterMap_nil, List.getElem?_cons_zero, List.getElem?_cons_succ]; (repeat (show wpQuiet _ _ _ _ (_ :: _) _; go_big_quiet_step (fail))); refine wpQuiet_nil ?_)
  go_wp2_with fail
  refine C1.mono ?_
  clear C1
  rintro e w' ⟨rfl, rfl⟩
  go_wp2_with fail
  (dsimp only [wpList, SegQ]; refine ⟨fun w' => ∃ d : Wd (On w1), w' = d.w, ClsW.mk ((Below.refl _ _).drew), fun _ h => h, ?_⟩; unfold wpMix; simp only [pick, List.filterMap_cons, List.filterMap_nil, List.getElem?_cons_zero, List.getElem?_cons_succ]; (repeat (show wpQuiet _ _ _ _ (_ :: _) _; go_big_quiet_step (fail))); refine wpQuiet_nil ?_)
  go_wp2_with fail
  refine C2.mono ?_
  clear C2
  rintro e w' ⟨rfl, rfl⟩
  go_wp2_with fail
  (dsimp only [wpList, SegQ]; refine ⟨fun w' => ∃ d : Wd (On w1), w' = d.w, ClsW.mk ((Below.refl _ _).drew), fun _ h => h, ?_⟩; unfold wpMix; simp only [pick, List.filterMap_cons, List.filterMap_nil, List.getElem?_cons_zero, List.getElem?_cons_succ]; (repeat (show wpQuiet _ _ _ _ (_ :: _) _; go_big_quiet_step (fail))); refine wpQuiet_nil ?_)
  have C3 := or_any [cmpI x.node y.node, cmpI x.life y.life, cmpI x.num y.num] w1.drew.heap.size 3 (w1.drew.alloc (.cells #[.int .i64 (cmpI x.node y.node), .int .i64 (cmpI x.life y.life), .int .i64 (cmpI x.num y.num)] 3)) (by simp) (int_cells (Blk.new w1.drew 3 _))
  go_wp2_with fail
  (dsimp only [wpList, SegQ]; refine ⟨fun w' => ∃ d : Wd (On w1), w' = d.w, ClsW.mk ((Below.refl _ _).drew.al _), fun _ h => h, ?_⟩; unfold wpMix; simp only [pick, List.filterMap_cons, List.filterMap_nil, List.getElem?_cons_zero, List.getElem?_cons_succ]; (repeat (show wpQuiet _ _ _ _ (_ :: _) _; go_big_quiet_step (fail))); refine wpQuiet_nil ?_)
  go_wp2_with fail
  refine C3.mono ?_
  clear C3
  rintro e w' ⟨rfl, rfl⟩
  go_wp2_with fail
  (dsimp only [wpList, SegQ]; refine ⟨fun w' => ∃ d : Wd (On w1), w' = d.w, ClsW.mk ((Below.refl _ _).drew.al _), fun _ h => h, ?_⟩; unfold wpMix; simp only [pick, List.filterMap_cons, List.filterMap_nil, List.getElem?_cons_zero, List.getElem?_cons_succ]; (repeat (show wpQuiet _ _ _ _ (_ :: _) _; go_big_quiet_step (fail))); refine wpQuiet_nil ?_)
  clear x0 x1 x2 y0 y1 y2
  go_wp2_with fail
  go_ret
  refine ⟨rfl, 1, #[.cells x.cells.toArray 34, .cells y.cells.toArray 34, .cells #[.int .i64 (cmpI x.node y.node), .int .i64 (cmpI x.life y.life), .int .i64 (cmpI x.num y.num)] 3], ?_⟩
  rw [← HW.out]
  exact three_alloc w _ _ _
theorem orI_neg (a b c : Int) : orI [a, b, c] < 0 ↔ a < 0 ∨ (a = 0 ∧ (b < 0 ∨ (b = 0 ∧ c < 0))) := by
  simp only [orI]
  split
  · split
    · split <;> omega
    · omega
  · omega
theorem cmpI_neg (x y : Int) : (cmpI x y < 0 ↔ x < y) ∧ (cmpI x y = 0 ↔ x = y) := by
  unfold cmpI
  constructor
  · repeat' split
    all_goals omega
  · repeat' split
    all_goals omega
theorem ltOf_order (x y : Tx) : ltOf orderT x y = decide (x.node < y.node ∨ (x.node = y.node ∧ (x.life < y.life ∨ (x.life = y.life ∧ x.num < y.num)))) := by
  unfold ltOf orderT
  refine decide_eq_decide.2 ?_
  rw [orI_neg, (cmpI_neg _ _).1, (cmpI_neg _ _).2, (cmpI_neg _ _).1, (cmpI_neg _ _).2, (cmpI_neg _ _).1]
theorem order_swo : SWO (ltOf orderT) where
  irrefl x := by rw [ltOf_order]; simp
  trans x y z h1 h2 := by rw [ltOf_order] at *; simp only [decide_eq_true_eq] at *; omega
  ntrans x y z h1 h2 := by rw [ltOf_order] at *; simp only [decide_eq_false_iff_not] at *; omega
theorem order_total (x y : Tx) (h1 : ltOf orderT x y = false) (h2 : ltOf orderT y x = false) : x = y := by
  rw [ltOf_order] at h1 h2
  simp only [decide_eq_false_iff_not] at h1 h2
  obtain ⟨a, b, c⟩ := x
  obtain ⟨d, e, f⟩ := y
  simp only [Tx.mk.injEq] at *
  omega
theorem order_lays (blk off size : Nat) (w : World) : CmpLays Tryz.prog 120 #[] Tx.cells 3 orderT blk off size w := fun _ _ _ _ x y => order_any x y _
end Go.Proofs.YtpgocpodhamibaaGreatDoor
